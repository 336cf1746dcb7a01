/-
  Walks in the abstract reading, part 9.
-/
import Derived.Test.YtofakjlamoigcaaDoorKeU8
import Derived.Test.YtofakjlamoigcaaDoorKeR11
import Derived.Test.YtofakjlamoigcaaDoorKeU4
import Derived.Test.YtofakjlamoigcaaDoorKeU2
import Derived.Test.YtofakjlamoigcaaDoorKeU6
section
namespace Go.Proofs.YtofakjlamoigcaaDoor
set_option linter.unusedSimpArgs false
set_option linter.unusedVariables false
open Go Go.RowKit
attribute [local irreducible] AL AD AW OpOk Le AC thenQ blockQ EndQ

theorem edT_len [Mode] (e : Ed) : (edT e).length ≤ 200 := by
  cases h : edB e with
  | false => rw [edT_no h]; simp
  | true =>
    have h1 := edB_iff.1 h
    have hd := dec_len e.idx.toNat (by omega)
    rw [edT_yes h]
    split
    · simp only [List.length_cons]; omega
    · rename_i hk
      rw [if_neg hk] at h1
      have hp := plT_len h1.2.2
      simp only [List.length_cons, List.length_append, List.length_nil]
      omega
set_option maxHeartbeats 4000000 in
theorem drawApplyEdit_ex [Mode] (code : List Int) (hc : CodeOk code) : ∃ (ev : Int) (xs : List Pl) (e : Ed), xs.length ≤ 100 ∧ AC Tryd.prog 8 [.d (BD code)] H0 (.tup [grD ev xs, e.av]) H0 := by
  have hF := l01From_ac code hc
  have hG := l11DrawZ_ac code hc _ (src0_ok hc)
  have hok := dr11_ok hc (src0_ok hc)
  generalize dr11 code (src0 code) = g at *
  obtain ⟨ev, xs, s1⟩ := g
  obtain ⟨_, _, hl, hs1⟩ := hok
  simp only at hl hs1 hG
  obtain ⟨e, s2, h2, hE⟩ := l29DrawEdit_ex code hc s1 hs1 ev xs (by omega)
  obtain ⟨ek, ei, ⟨ef, et, ed, eq⟩⟩ := e
  refine ⟨ev, xs, ⟨ek, ei, ⟨ef, et, ed, eq⟩⟩, by omega, ?_⟩
  have hCn : AC Tryd.prog 24 [.d (BD code)] H0 (.tup [grD ev xs, Ed.av ⟨ek, ei, ⟨ef, et, ed, eq⟩⟩]) H0 := by
    refine AC.of_body 0 Tryd.func24 rfl (fun l h => absurd rfl h) (fun C hC => ?_)
    have hD : ∀ l, ¬ C.D0 l := fun l h => (hC l).1 h rfl
    simp only [startFr, Tryd.ntmps24, List.length_cons, List.length_nil, Nat.reduceAdd, Nat.reduceSub, List.replicate_succ, List.replicate_zero, List.cons_append, List.nil_append]
    repeat' (first | ((first | apply Ba | (apply Bb; (· rfl); (· rfl)) | (apply Bc; (· exact nxE)) | (apply Bd; (· rfl); (· rfl); (· exact nxE))); (· first | exact Ok.slen rfl rfl | exact Fx hF rfl rfl rfl | exact Zl (args := []) hG rfl rfl rfl rfl .nil (fun _ => by simp [rn]) | exact Zl (args := [grD ev xs]) hE rfl rfl rfl rfl (ARs.cons (ARs.agg (.cons (.dd _) (.cons (.dd _) .nil))) .nil) (fun _ => by simp [rn]) | exact Ok.pe)) | ((first | apply Ca | (apply Cb; (· exact nxE))); (· first | exact Fx hF rfl rfl rfl | exact Zl (args := []) hG rfl rfl rfl rfl .nil (fun _ => by simp [rn]) | exact Zl (args := [grD ev xs]) hE rfl rfl rfl rfl (ARs.cons (ARs.agg (.cons (.dd _) (.cons (.dd _) .nil))) .nil) (fun _ => by simp [rn]) | exact Ok.e0)) | refine Sx ?_ | (refine Sy (fun h => ?_) (fun h => ?_) <;> try (exfalso; omega; done)) | refine Sz (fun h => ?_) (fun h => ?_))
    refine Yb ?_
    (apply Le.headZ (hs := []) [] rfl)
    all_goals (try dsimp only [srcs])
    (case' hfr => (repeat' (first | refine La ?_ ?_ | exact Lc | refine Lo ?_ | refine ⟨⟨_, rfl, ?_⟩, ?_⟩ | refine Lx ?_)))
    all_goals (first | exact Ld | exact trivial | (rfl))
  refine AC.of_body 0 Tryd.func8 rfl (fun l h => absurd rfl h) (fun C hC => ?_)
  have hD : ∀ l, ¬ C.D0 l := fun l h => (hC l).1 h rfl
  simp only [startFr, Tryd.ntmps8, List.length_cons, List.length_nil, Nat.reduceAdd, Nat.reduceSub, List.replicate_succ, List.replicate_zero, List.cons_append, List.nil_append]
  repeat' (first | ((first | apply Ba | (apply Bb; (· rfl); (· rfl)) | (apply Bc; (· exact nxE)) | (apply Bd; (· rfl); (· rfl); (· exact nxE))); (· first | exact Kz rfl rfl (hCn) (Ad An) | exact Ok.slen rfl rfl | exact Ok.pe)) | ((first | apply Ca | (apply Cb; (· exact nxE))); (· first | exact Ok.e0)) | refine Sx ?_ | (refine Sy (fun h => ?_) (fun h => ?_) <;> try (exfalso; omega; done)) | refine Sz (fun h => ?_) (fun h => ?_))
  refine Yb ?_
  (apply Le.headZ (hs := []) [] rfl)
  all_goals (try dsimp only [srcs])
  (case' hfr => (repeat' (first | refine La ?_ ?_ | exact Lc | refine Lo ?_ | refine ⟨⟨_, rfl, ?_⟩, ?_⟩ | refine Lx ?_)))
  all_goals (first | exact Ld | exact trivial | (rfl))
set_option maxHeartbeats 4000000 in
theorem drawEditText_ex [Mode] (code : List Int) (hc : CodeOk code) : ∃ (e : Ed), AC Tryd.prog 13 [.d (BD code)] H0 e.av H0 := by
  have hF := l01From_ac code hc
  have hG := l11DrawZ_ac code hc _ (src0_ok hc)
  have hok := dr11_ok hc (src0_ok hc)
  generalize dr11 code (src0 code) = g at *
  obtain ⟨ev, xs, s1⟩ := g
  obtain ⟨_, _, hl, hs1⟩ := hok
  simp only at hl hs1 hG
  obtain ⟨e, s2, h2, hE⟩ := l29DrawEdit_ex code hc s1 hs1 ev xs (by omega)
  obtain ⟨ek, ei, ⟨ef, et, ed, eq⟩⟩ := e
  refine ⟨⟨ek, ei, ⟨ef, et, ed, eq⟩⟩, ?_⟩
  refine AC.of_body 0 Tryd.func13 rfl (fun l h => absurd rfl h) (fun C hC => ?_)
  have hD : ∀ l, ¬ C.D0 l := fun l h => (hC l).1 h rfl
  simp only [startFr, Tryd.ntmps13, List.length_cons, List.length_nil, Nat.reduceAdd, Nat.reduceSub, List.replicate_succ, List.replicate_zero, List.cons_append, List.nil_append]
  repeat' (first | ((first | apply Ba | (apply Bb; (· rfl); (· rfl)) | (apply Bc; (· exact nxE)) | (apply Bd; (· rfl); (· rfl); (· exact nxE))); (· first | exact Ok.slen rfl rfl | exact Fx hF rfl rfl rfl | exact Zl (args := []) hG rfl rfl rfl rfl .nil (fun _ => by simp [rn]) | exact Zl (args := [grD ev xs]) hE rfl rfl rfl rfl (ARs.cons (ARs.agg (.cons (.dd _) (.cons (.dd _) .nil))) .nil) (fun _ => by simp [rn]) | exact Ok.pe)) | ((first | apply Ca | (apply Cb; (· exact nxE))); (· first | exact Fx hF rfl rfl rfl | exact Zl (args := []) hG rfl rfl rfl rfl .nil (fun _ => by simp [rn]) | exact Zl (args := [grD ev xs]) hE rfl rfl rfl rfl (ARs.cons (ARs.agg (.cons (.dd _) (.cons (.dd _) .nil))) .nil) (fun _ => by simp [rn]) | exact Ok.e0)) | refine Sx ?_ | (refine Sy (fun h => ?_) (fun h => ?_) <;> try (exfalso; omega; done)) | refine Sz (fun h => ?_) (fun h => ?_))
  refine Ya ?_
  (apply Le.headZ (hs := []) [] rfl)
  all_goals (try dsimp only [srcs])
  (case' hfr => (repeat' (first | refine La ?_ ?_ | exact Lc | refine Lo ?_ | refine ⟨⟨_, rfl, ?_⟩, ?_⟩ | refine Lx ?_)))
  all_goals (first | exact Ld | exact trivial | (rfl))
set_option maxHeartbeats 4000000 in
theorem drawReadEdit_ex [Mode] (code : List Int) (hc : CodeOk code) : ∃ (t : List UInt8), t.length ≤ 1000 ∧ AC Tryd.prog 16 [.d (BD code)] H0 (Str t) H0 := by
  have hF := l01From_ac code hc
  have hG := l11DrawZ_ac code hc _ (src0_ok hc)
  have hok := dr11_ok hc (src0_ok hc)
  generalize dr11 code (src0 code) = g at *
  obtain ⟨ev, xs, s1⟩ := g
  obtain ⟨_, _, hl, hs1⟩ := hok
  simp only at hl hs1 hG
  obtain ⟨e, s2, h2, hE⟩ := l29DrawEdit_ex code hc s1 hs1 ev xs (by omega)
  have hT := sEditText_ac e
  have hTl := edT_len e
  obtain ⟨ek, ei, ⟨ef, et, ed, eq⟩⟩ := e
  generalize edT ⟨ek, ei, ⟨ef, et, ed, eq⟩⟩ = t at *
  obtain ⟨z, s3, z1, z2, h3, q3, N3⟩ := next_ex hc h2 3
  obtain ⟨t', s4, h4, hl4, hDm⟩ := l01Damage_ex code hc s3 h3 t (by omega)
  refine ⟨if z = 0 then t' else t, by split <;> omega, ?_⟩
  by_cases hz : z = 0
  · rw [if_pos hz]
    refine AC.of_body 0 Tryd.func16 rfl (fun l h => absurd rfl h) (fun C hC => ?_)
    have hD : ∀ l, ¬ C.D0 l := fun l h => (hC l).1 h rfl
    simp only [startFr, Tryd.ntmps16, List.length_cons, List.length_nil, Nat.reduceAdd, Nat.reduceSub, List.replicate_succ, List.replicate_zero, List.cons_append, List.nil_append]
    repeat' (first | ((first | apply Ba | (apply Bb; (· rfl); (· rfl)) | (apply Bc; (· exact nxE)) | (apply Bd; (· rfl); (· rfl); (· exact nxE))); (· first | exact Kz rfl rfl (hT) (Aa (Ad (Ad (Ad (Ad (Ad (Ad An)))))) An) | exact Ok.slen rfl rfl | exact Fx hF rfl rfl rfl | exact Zl (args := []) hG rfl rfl rfl rfl .nil (fun _ => by simp [rn]) | exact Zl (args := [grD ev xs]) hE rfl rfl rfl rfl (ARs.cons (ARs.agg (.cons (.dd _) (.cons (.dd _) .nil))) .nil) (fun _ => by simp [rn]) | exact Nl N3 rfl rfl rfl rfl rfl | exact Zl (args := [Str t]) hDm rfl rfl rfl rfl (ARs.cons (.dd _) .nil) (fun _ => by simp [rn]) | exact Ok.pe)) | ((first | apply Ca | (apply Cb; (· exact nxE))); (· first | exact Fx hF rfl rfl rfl | exact Zl (args := []) hG rfl rfl rfl rfl .nil (fun _ => by simp [rn]) | exact Zl (args := [grD ev xs]) hE rfl rfl rfl rfl (ARs.cons (ARs.agg (.cons (.dd _) (.cons (.dd _) .nil))) .nil) (fun _ => by simp [rn]) | exact Nl N3 rfl rfl rfl rfl rfl | exact Zl (args := [Str t]) hDm rfl rfl rfl rfl (ARs.cons (.dd _) .nil) (fun _ => by simp [rn]) | exact Ok.e0)) | refine Sx ?_ | (refine Sy (fun h => ?_) (fun h => ?_) <;> try (exfalso; omega; done)) | refine Sz (fun h => ?_) (fun h => ?_))
    all_goals
      refine Ya ?_
      (apply Le.headZ (hs := []) [] rfl)
      all_goals (try dsimp only [srcs])
      (case' hfr => (repeat' (first | refine La ?_ ?_ | exact Lc | refine Lo ?_ | refine ⟨⟨_, rfl, ?_⟩, ?_⟩ | refine Lx ?_)))
      all_goals (first | exact Ld | exact trivial | (rfl))
  · rw [if_neg hz]
    refine AC.of_body 0 Tryd.func16 rfl (fun l h => absurd rfl h) (fun C hC => ?_)
    have hD : ∀ l, ¬ C.D0 l := fun l h => (hC l).1 h rfl
    simp only [startFr, Tryd.ntmps16, List.length_cons, List.length_nil, Nat.reduceAdd, Nat.reduceSub, List.replicate_succ, List.replicate_zero, List.cons_append, List.nil_append]
    repeat' (first | ((first | apply Ba | (apply Bb; (· rfl); (· rfl)) | (apply Bc; (· exact nxE)) | (apply Bd; (· rfl); (· rfl); (· exact nxE))); (· first | exact Kz rfl rfl (hT) (Aa (Ad (Ad (Ad (Ad (Ad (Ad An)))))) An) | exact Ok.slen rfl rfl | exact Fx hF rfl rfl rfl | exact Zl (args := []) hG rfl rfl rfl rfl .nil (fun _ => by simp [rn]) | exact Zl (args := [grD ev xs]) hE rfl rfl rfl rfl (ARs.cons (ARs.agg (.cons (.dd _) (.cons (.dd _) .nil))) .nil) (fun _ => by simp [rn]) | exact Nl N3 rfl rfl rfl rfl rfl | exact Ok.pe)) | ((first | apply Ca | (apply Cb; (· exact nxE))); (· first | exact Fx hF rfl rfl rfl | exact Zl (args := []) hG rfl rfl rfl rfl .nil (fun _ => by simp [rn]) | exact Zl (args := [grD ev xs]) hE rfl rfl rfl rfl (ARs.cons (ARs.agg (.cons (.dd _) (.cons (.dd _) .nil))) .nil) (fun _ => by simp [rn]) | exact Nl N3 rfl rfl rfl rfl rfl | exact Ok.e0)) | refine Sx ?_ | (refine Sy (fun h => ?_) (fun h => ?_) <;> try (exfalso; omega; done)) | refine Sz (fun h => ?_) (fun h => ?_))
    all_goals
      refine Ya ?_
      (apply Le.headZ (hs := []) [] rfl)
      all_goals (try dsimp only [srcs])
      (case' hfr => (repeat' (first | refine La ?_ ?_ | exact Lc | refine Lo ?_ | refine ⟨⟨_, rfl, ?_⟩, ?_⟩ | refine Lx ?_)))
      all_goals (first | exact Ld | exact trivial | (rfl))
end Go.Proofs.YtofakjlamoigcaaDoor
end

section
namespace Go.Proofs.YtofakjlamoigcaaDoor
set_option linter.unusedSimpArgs false
set_option linter.unusedVariables false
open Go Go.RowKit
attribute [local irreducible] AL AD AW OpOk Le AC thenQ blockQ EndQ

set_option maxRecDepth 100000 in
set_option maxHeartbeats 8000000 in
theorem edits_Ay [Mode] [HasTab] [HasErr] [HasLen] (code : List Int) (ev : Int) (xs : List Pl) (e d : Ed) (s : List UInt8) (t : List UInt8) (htn : t ≠ []) (y i : Ed) (x : List Pl) (ev' : Int)
    (hBig : AC Tryd.prog 7 [.d (BD code)] H0 (Bo false) H0)
    (hG1 : AC Tryd.prog 8 [.d (BD code)] H0 (.tup [grD ev xs, e.av]) H0)
    (hG2 : AC Tryd.prog 13 [.d (BD code)] H0 d.av H0)
    (hG3 : AC Tryd.prog 16 [.d (BD code)] H0 (Str s) H0)
    (hI1 : AC Tryd.prog 9 [grD ev xs, e.av] H0 (.tup [grD ev' x, I 0]) H0)
    (hS1 : AC Tryd.prog 10 [grD ev xs, e.av] H0 (.tup [grD ev' x, I 0]) H0)
    (hI2 : AC Tryd.prog 11 [grD ev xs, e.av] H0 (.tup [i.av, I 0]) H0)
    (hS2 : AC Tryd.prog 12 [grD ev xs, e.av] H0 (.tup [i.av, I 0]) H0)
    (hI3 : AC Tryd.prog 14 [d.av] H0 (Str t) H0)
    (hS3 : AC Tryd.prog 19 [d.av] H0 (Str t) H0)
    (hR : AC Tryd.prog 15 [Str t] H0 (.tup [d.av, Bo true]) H0)
    (hI4 : AC Tryd.prog 15 [Str s] H0 (.tup [y.av, Bo true]) H0)
    (hS4 : AC Tryd.prog 17 [Str s] H0 (.tup [y.av, Bo true]) H0)
    (hCn : AC Tryd.prog 20 [grD ev xs, e.av] H0 (Bo true) H0)
    (hL1 : AC Tryd.prog 18 [grD ev' x, grD ev' x] H0 (Bo true) H0)
    (hI5 : AC Tryd.prog 14 [y.av] H0 (Str s) H0)
    (hL2 : AC Tryd.prog 18 [grD ev xs, grD ev xs] H0 (Bo true) H0)
    (hB : AC Tryd.prog 9 [grD ev' x, i.av] H0 (.tup [grD ev xs, I 0]) H0)
    (hE : AC Tryd.prog 21 [grD ev' x] H0 (Bo true) H0) :
    AC Tryd.prog 4 [.d (BD code)] H0 (Bo true) H0 := by
  obtain ⟨ek, ei, ⟨ef, et, ed, eq⟩⟩ := e
  obtain ⟨dk, di, ⟨df, dt, dd, dq⟩⟩ := d
  obtain ⟨yk, yi, ⟨yf, yt, yd, yq⟩⟩ := y
  obtain ⟨ik, ii, ⟨i0, it, id, iq⟩⟩ := i
  refine AC.of_body 0 Tryd.func4 rfl (fun l h => absurd rfl h) (fun C hC => ?_)
  have hD : ∀ l, ¬ C.D0 l := fun l h => (hC l).1 h rfl
  simp only [startFr, Tryd.ntmps4, List.length_cons, List.length_nil, Nat.reduceAdd, Nat.reduceSub, List.replicate_succ, List.replicate_zero, List.cons_append, List.nil_append]
  repeat' (first | ((first | apply Ba | (apply Bb; (· rfl); (· rfl)) | (apply Bc; (· exact nxE)) | (apply Bd; (· rfl); (· rfl); (· exact nxE))); (· first | exact Kz rfl rfl (hBig) (Ad An) | exact Kz rfl rfl (hG1) (Ad An) | exact Kz rfl rfl (hG2) (Ad An) | exact Kz rfl rfl (hG3) (Ad An) | exact Kz rfl rfl (hB) (Aa (Ad (Ad An)) (Aa (Ad (Ad (Ad (Ad (Ad (Ad An)))))) An)) | exact Kz rfl rfl (hI1) (Aa (Ad (Ad An)) (Aa (Ad (Ad (Ad (Ad (Ad (Ad An)))))) An)) | exact Kz rfl rfl (hS1) (Aa (Ad (Ad An)) (Aa (Ad (Ad (Ad (Ad (Ad (Ad An)))))) An)) | exact Kz rfl rfl (hI2) (Aa (Ad (Ad An)) (Aa (Ad (Ad (Ad (Ad (Ad (Ad An)))))) An)) | exact Kz rfl rfl (hS2) (Aa (Ad (Ad An)) (Aa (Ad (Ad (Ad (Ad (Ad (Ad An)))))) An)) | exact Kz rfl rfl (hI3) (Aa (Ad (Ad (Ad (Ad (Ad (Ad An)))))) An) | exact Kz rfl rfl (hS3) (Aa (Ad (Ad (Ad (Ad (Ad (Ad An)))))) An) | exact Kz rfl rfl (hR) (Ad An) | exact Kz rfl rfl (hI4) (Ad An) | exact Kz rfl rfl (hS4) (Ad An) | exact Kz rfl rfl (hI5) (Aa (Ad (Ad (Ad (Ad (Ad (Ad An)))))) An) | exact Kz rfl rfl (hCn) (Aa (Ad (Ad An)) (Aa (Ad (Ad (Ad (Ad (Ad (Ad An)))))) An)) | exact Kz rfl rfl (hL1) (Aa (Ad (Ad An)) (Aa (Ad (Ad An)) An)) | exact Kz rfl rfl (hL2) (Aa (Ad (Ad An)) (Aa (Ad (Ad An)) An)) | exact Kz rfl rfl (hE) (Aa (Ad (Ad An)) An) | exact Ok.sneT rfl rfl rfl htn | exact Ok.slen rfl rfl | exact Ok.neqEdS rfl rfl rfl | exact Ok.sneSame rfl rfl rfl | exact Ok.bneS rfl rfl rfl (by kernel_rfl) | exact Ok.pe)) | ((first | apply Ca | (apply Cb; (· exact nxE))); (· first | exact Ok.e0)) | refine Sx ?_ | (refine Sy (fun h => ?_) (fun h => ?_) <;> try (exfalso; omega; done)) | refine Sz (fun h => ?_) (fun h => ?_))
  all_goals
    refine Ya ?_
    (apply Le.headZ (hs := []) [] rfl)
    all_goals (try dsimp only [srcs])
    (case' hfr => (repeat' (first | refine La ?_ ?_ | exact Lc | refine Lo ?_ | refine ⟨⟨_, rfl, ?_⟩, ?_⟩ | refine Lx ?_)))
    all_goals (first | exact Ld | exact trivial | (rfl))
set_option maxRecDepth 100000 in
set_option maxHeartbeats 8000000 in
theorem edits_An [Mode] [HasTab] [HasErr] [HasLen] (code : List Int) (ev : Int) (xs : List Pl) (e d : Ed) (s : List UInt8) (t : List UInt8) (htn : t ≠ []) (y i : Ed) (x : List Pl) (ev' : Int)
    (hBig : AC Tryd.prog 7 [.d (BD code)] H0 (Bo false) H0)
    (hG1 : AC Tryd.prog 8 [.d (BD code)] H0 (.tup [grD ev xs, e.av]) H0)
    (hG2 : AC Tryd.prog 13 [.d (BD code)] H0 d.av H0)
    (hG3 : AC Tryd.prog 16 [.d (BD code)] H0 (Str s) H0)
    (hI1 : AC Tryd.prog 9 [grD ev xs, e.av] H0 (.tup [grD ev' x, I 0]) H0)
    (hS1 : AC Tryd.prog 10 [grD ev xs, e.av] H0 (.tup [grD ev' x, I 0]) H0)
    (hI2 : AC Tryd.prog 11 [grD ev xs, e.av] H0 (.tup [i.av, I 0]) H0)
    (hS2 : AC Tryd.prog 12 [grD ev xs, e.av] H0 (.tup [i.av, I 0]) H0)
    (hI3 : AC Tryd.prog 14 [d.av] H0 (Str t) H0)
    (hS3 : AC Tryd.prog 19 [d.av] H0 (Str t) H0)
    (hR : AC Tryd.prog 15 [Str t] H0 (.tup [d.av, Bo true]) H0)
    (hI4 : AC Tryd.prog 15 [Str s] H0 (.tup [y.av, Bo false]) H0)
    (hS4 : AC Tryd.prog 17 [Str s] H0 (.tup [y.av, Bo false]) H0)
    (hCn : AC Tryd.prog 20 [grD ev xs, e.av] H0 (Bo true) H0)
    (hL1 : AC Tryd.prog 18 [grD ev' x, grD ev' x] H0 (Bo true) H0)
    (hL2 : AC Tryd.prog 18 [grD ev xs, grD ev xs] H0 (Bo true) H0)
    (hB : AC Tryd.prog 9 [grD ev' x, i.av] H0 (.tup [grD ev xs, I 0]) H0)
    (hE : AC Tryd.prog 21 [grD ev' x] H0 (Bo true) H0) :
    AC Tryd.prog 4 [.d (BD code)] H0 (Bo true) H0 := by
  obtain ⟨ek, ei, ⟨ef, et, ed, eq⟩⟩ := e
  obtain ⟨dk, di, ⟨df, dt, dd, dq⟩⟩ := d
  obtain ⟨yk, yi, ⟨yf, yt, yd, yq⟩⟩ := y
  obtain ⟨ik, ii, ⟨i0, it, id, iq⟩⟩ := i
  refine AC.of_body 0 Tryd.func4 rfl (fun l h => absurd rfl h) (fun C hC => ?_)
  have hD : ∀ l, ¬ C.D0 l := fun l h => (hC l).1 h rfl
  simp only [startFr, Tryd.ntmps4, List.length_cons, List.length_nil, Nat.reduceAdd, Nat.reduceSub, List.replicate_succ, List.replicate_zero, List.cons_append, List.nil_append]
  repeat' (first | ((first | apply Ba | (apply Bb; (· rfl); (· rfl)) | (apply Bc; (· exact nxE)) | (apply Bd; (· rfl); (· rfl); (· exact nxE))); (· first | exact Kz rfl rfl (hBig) (Ad An) | exact Kz rfl rfl (hG1) (Ad An) | exact Kz rfl rfl (hG2) (Ad An) | exact Kz rfl rfl (hG3) (Ad An) | exact Kz rfl rfl (hB) (Aa (Ad (Ad An)) (Aa (Ad (Ad (Ad (Ad (Ad (Ad An)))))) An)) | exact Kz rfl rfl (hI1) (Aa (Ad (Ad An)) (Aa (Ad (Ad (Ad (Ad (Ad (Ad An)))))) An)) | exact Kz rfl rfl (hS1) (Aa (Ad (Ad An)) (Aa (Ad (Ad (Ad (Ad (Ad (Ad An)))))) An)) | exact Kz rfl rfl (hI2) (Aa (Ad (Ad An)) (Aa (Ad (Ad (Ad (Ad (Ad (Ad An)))))) An)) | exact Kz rfl rfl (hS2) (Aa (Ad (Ad An)) (Aa (Ad (Ad (Ad (Ad (Ad (Ad An)))))) An)) | exact Kz rfl rfl (hI3) (Aa (Ad (Ad (Ad (Ad (Ad (Ad An)))))) An) | exact Kz rfl rfl (hS3) (Aa (Ad (Ad (Ad (Ad (Ad (Ad An)))))) An) | exact Kz rfl rfl (hR) (Ad An) | exact Kz rfl rfl (hI4) (Ad An) | exact Kz rfl rfl (hS4) (Ad An) | exact Kz rfl rfl (hCn) (Aa (Ad (Ad An)) (Aa (Ad (Ad (Ad (Ad (Ad (Ad An)))))) An)) | exact Kz rfl rfl (hL1) (Aa (Ad (Ad An)) (Aa (Ad (Ad An)) An)) | exact Kz rfl rfl (hL2) (Aa (Ad (Ad An)) (Aa (Ad (Ad An)) An)) | exact Kz rfl rfl (hE) (Aa (Ad (Ad An)) An) | exact Ok.sneT rfl rfl rfl htn | exact Ok.slen rfl rfl | exact Ok.neqEdS rfl rfl rfl | exact Ok.sneSame rfl rfl rfl | exact Ok.bneS rfl rfl rfl (by kernel_rfl) | exact Ok.pe)) | ((first | apply Ca | (apply Cb; (· exact nxE))); (· first | exact Ok.e0)) | refine Sx ?_ | (refine Sy (fun h => ?_) (fun h => ?_) <;> try (exfalso; omega; done)) | refine Sz (fun h => ?_) (fun h => ?_))
  all_goals
    refine Ya ?_
    (apply Le.headZ (hs := []) [] rfl)
    all_goals (try dsimp only [srcs])
    (case' hfr => (repeat' (first | refine La ?_ ?_ | exact Lc | refine Lo ?_ | refine ⟨⟨_, rfl, ?_⟩, ?_⟩ | refine Lx ?_)))
    all_goals (first | exact Ld | exact trivial | (rfl))
end Go.Proofs.YtofakjlamoigcaaDoor
end
