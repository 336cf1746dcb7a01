/-
  Walks in the abstract reading, part 11.
-/
import Derived.Test.YtofakjlamoigcaaDoorKeU6
import Derived.Test.YtofakjlamoigcaaDoorKeU9
import Derived.Test.YtofakjlamoigcaaDoorKeU10
section
namespace Go.Proofs.YtofakjlamoigcaaDoor
set_option linter.unusedSimpArgs false
set_option linter.unusedVariables false
open Go Go.RowKit
section
variable {P : Program} {o : Oper} {A : Operand → AV} {H : Heap} {new : Nat} {t t' : TypeId} {x y : Operand} {a b : Int}
theorem Ok.ieqD [Mode] (ho : o.op = .binOp .eql t x y t') (hx : A x = I a) (hy : A y = I b) (h : ¬ a = b) : OpOk P o A [] H new (Bo false) [] := by
  have := Ok.eql (P := P) (H := H) (new := new) ho hx hy
  rwa [decide_eq_false h] at this
end
attribute [local irreducible] AL AD AW OpOk Le AC thenQ blockQ EndQ

set_option maxRecDepth 100000 in
set_option maxHeartbeats 8000000 in
theorem edits_Dy [Mode] [HasTab] [HasErr] [HasLen] (code : List Int) (ev : Int) (xs : List Pl) (e d : Ed) (s : List UInt8) (r : Ed) (y i : Ed) (x : List Pl) (ev' : Int) (c : Int) (hc : c ≠ 0)
    (hBig : AC Tryd.prog 7 [.d (BD code)] H0 (Bo false) H0)
    (hG1 : AC Tryd.prog 8 [.d (BD code)] H0 (.tup [grD ev xs, e.av]) H0)
    (hG2 : AC Tryd.prog 13 [.d (BD code)] H0 d.av H0)
    (hG3 : AC Tryd.prog 16 [.d (BD code)] H0 (Str s) H0)
    (hI1 : AC Tryd.prog 9 [grD ev xs, e.av] H0 (.tup [grD ev' x, I c]) H0)
    (hS1 : AC Tryd.prog 10 [grD ev xs, e.av] H0 (.tup [grD ev' x, I c]) H0)
    (hI2 : AC Tryd.prog 11 [grD ev xs, e.av] H0 (.tup [i.av, I c]) H0)
    (hS2 : AC Tryd.prog 12 [grD ev xs, e.av] H0 (.tup [i.av, I c]) H0)
    (hI3 : AC Tryd.prog 14 [d.av] H0 (Str []) H0)
    (hS3 : AC Tryd.prog 19 [d.av] H0 (Str []) H0)
    (hR : AC Tryd.prog 15 [Str []] H0 (.tup [r.av, Bo false]) H0)
    (hI4 : AC Tryd.prog 15 [Str s] H0 (.tup [y.av, Bo true]) H0)
    (hS4 : AC Tryd.prog 17 [Str s] H0 (.tup [y.av, Bo true]) H0)
    (hCn : AC Tryd.prog 20 [grD ev xs, e.av] H0 (Bo false) H0)
    (hL1 : AC Tryd.prog 18 [grD ev' x, grD ev' x] H0 (Bo true) H0)
    (hI5 : AC Tryd.prog 14 [y.av] H0 (Str s) H0) :
    AC Tryd.prog 4 [.d (BD code)] H0 (Bo true) H0 := by
  obtain ⟨ek, ei, ⟨ef, et, ed, eq⟩⟩ := e
  obtain ⟨dk, di, ⟨df, dt, dd, dq⟩⟩ := d
  obtain ⟨rk, ri, ⟨rf, rt, rd, rq⟩⟩ := r
  obtain ⟨yk, yi, ⟨yf, yt, yd, yq⟩⟩ := y
  obtain ⟨ik, ii, ⟨i0, it, id, iq⟩⟩ := i
  refine AC.of_body 0 Tryd.func4 rfl (fun l h => absurd rfl h) (fun C hC => ?_)
  have hD : ∀ l, ¬ C.D0 l := fun l h => (hC l).1 h rfl
  simp only [startFr, Tryd.ntmps4, List.length_cons, List.length_nil, Nat.reduceAdd, Nat.reduceSub, List.replicate_succ, List.replicate_zero, List.cons_append, List.nil_append]
  repeat' (first | ((first | apply Ba | (apply Bb; (· rfl); (· rfl)) | (apply Bc; (· exact nxE)) | (apply Bd; (· rfl); (· rfl); (· exact nxE))); (· first | exact Kz rfl rfl (hBig) (Ad An) | exact Kz rfl rfl (hG1) (Ad An) | exact Kz rfl rfl (hG2) (Ad An) | exact Kz rfl rfl (hG3) (Ad An) | exact Kz rfl rfl (hI1) (Aa (Ad (Ad An)) (Aa (Ad (Ad (Ad (Ad (Ad (Ad An)))))) An)) | exact Kz rfl rfl (hS1) (Aa (Ad (Ad An)) (Aa (Ad (Ad (Ad (Ad (Ad (Ad An)))))) An)) | exact Kz rfl rfl (hI2) (Aa (Ad (Ad An)) (Aa (Ad (Ad (Ad (Ad (Ad (Ad An)))))) An)) | exact Kz rfl rfl (hS2) (Aa (Ad (Ad An)) (Aa (Ad (Ad (Ad (Ad (Ad (Ad An)))))) An)) | exact Kz rfl rfl (hI3) (Aa (Ad (Ad (Ad (Ad (Ad (Ad An)))))) An) | exact Kz rfl rfl (hS3) (Aa (Ad (Ad (Ad (Ad (Ad (Ad An)))))) An) | exact Kz rfl rfl (hR) (Ad An) | exact Kz rfl rfl (hI4) (Ad An) | exact Kz rfl rfl (hS4) (Ad An) | exact Kz rfl rfl (hI5) (Aa (Ad (Ad (Ad (Ad (Ad (Ad An)))))) An) | exact Kz rfl rfl (hCn) (Aa (Ad (Ad An)) (Aa (Ad (Ad (Ad (Ad (Ad (Ad An)))))) An)) | exact Kz rfl rfl (hL1) (Aa (Ad (Ad An)) (Aa (Ad (Ad An)) An)) | exact Ok.sneF rfl rfl rfl rfl | exact Ok.ieqD rfl rfl rfl hc | exact Ok.slen rfl rfl | exact Ok.neqEdS rfl rfl rfl | exact Ok.sneSame rfl rfl rfl | exact Ok.bneS rfl rfl rfl (by kernel_rfl) | exact Ok.pe)) | ((first | apply Ca | (apply Cb; (· exact nxE))); (· first | exact Ok.e0)) | refine Sx ?_ | (refine Sy (fun h => ?_) (fun h => ?_) <;> try (exfalso; omega; done)) | refine Sz (fun h => ?_) (fun h => ?_))
  all_goals
    refine Ya ?_
    (apply Le.headZ (hs := []) [] rfl)
    all_goals (try dsimp only [srcs])
    (case' hfr => (repeat' (first | refine La ?_ ?_ | exact Lc | refine Lo ?_ | refine ⟨⟨_, rfl, ?_⟩, ?_⟩ | refine Lx ?_)))
    all_goals (first | exact Ld | exact trivial | (rfl))
set_option maxRecDepth 100000 in
set_option maxHeartbeats 8000000 in
theorem edits_Dn [Mode] [HasTab] [HasErr] [HasLen] (code : List Int) (ev : Int) (xs : List Pl) (e d : Ed) (s : List UInt8) (r : Ed) (y i : Ed) (x : List Pl) (ev' : Int) (c : Int) (hc : c ≠ 0)
    (hBig : AC Tryd.prog 7 [.d (BD code)] H0 (Bo false) H0)
    (hG1 : AC Tryd.prog 8 [.d (BD code)] H0 (.tup [grD ev xs, e.av]) H0)
    (hG2 : AC Tryd.prog 13 [.d (BD code)] H0 d.av H0)
    (hG3 : AC Tryd.prog 16 [.d (BD code)] H0 (Str s) H0)
    (hI1 : AC Tryd.prog 9 [grD ev xs, e.av] H0 (.tup [grD ev' x, I c]) H0)
    (hS1 : AC Tryd.prog 10 [grD ev xs, e.av] H0 (.tup [grD ev' x, I c]) H0)
    (hI2 : AC Tryd.prog 11 [grD ev xs, e.av] H0 (.tup [i.av, I c]) H0)
    (hS2 : AC Tryd.prog 12 [grD ev xs, e.av] H0 (.tup [i.av, I c]) H0)
    (hI3 : AC Tryd.prog 14 [d.av] H0 (Str []) H0)
    (hS3 : AC Tryd.prog 19 [d.av] H0 (Str []) H0)
    (hR : AC Tryd.prog 15 [Str []] H0 (.tup [r.av, Bo false]) H0)
    (hI4 : AC Tryd.prog 15 [Str s] H0 (.tup [y.av, Bo false]) H0)
    (hS4 : AC Tryd.prog 17 [Str s] H0 (.tup [y.av, Bo false]) H0)
    (hCn : AC Tryd.prog 20 [grD ev xs, e.av] H0 (Bo false) H0)
    (hL1 : AC Tryd.prog 18 [grD ev' x, grD ev' x] H0 (Bo true) H0) :
    AC Tryd.prog 4 [.d (BD code)] H0 (Bo true) H0 := by
  obtain ⟨ek, ei, ⟨ef, et, ed, eq⟩⟩ := e
  obtain ⟨dk, di, ⟨df, dt, dd, dq⟩⟩ := d
  obtain ⟨rk, ri, ⟨rf, rt, rd, rq⟩⟩ := r
  obtain ⟨yk, yi, ⟨yf, yt, yd, yq⟩⟩ := y
  obtain ⟨ik, ii, ⟨i0, it, id, iq⟩⟩ := i
  refine AC.of_body 0 Tryd.func4 rfl (fun l h => absurd rfl h) (fun C hC => ?_)
  have hD : ∀ l, ¬ C.D0 l := fun l h => (hC l).1 h rfl
  simp only [startFr, Tryd.ntmps4, List.length_cons, List.length_nil, Nat.reduceAdd, Nat.reduceSub, List.replicate_succ, List.replicate_zero, List.cons_append, List.nil_append]
  repeat' (first | ((first | apply Ba | (apply Bb; (· rfl); (· rfl)) | (apply Bc; (· exact nxE)) | (apply Bd; (· rfl); (· rfl); (· exact nxE))); (· first | exact Kz rfl rfl (hBig) (Ad An) | exact Kz rfl rfl (hG1) (Ad An) | exact Kz rfl rfl (hG2) (Ad An) | exact Kz rfl rfl (hG3) (Ad An) | exact Kz rfl rfl (hI1) (Aa (Ad (Ad An)) (Aa (Ad (Ad (Ad (Ad (Ad (Ad An)))))) An)) | exact Kz rfl rfl (hS1) (Aa (Ad (Ad An)) (Aa (Ad (Ad (Ad (Ad (Ad (Ad An)))))) An)) | exact Kz rfl rfl (hI2) (Aa (Ad (Ad An)) (Aa (Ad (Ad (Ad (Ad (Ad (Ad An)))))) An)) | exact Kz rfl rfl (hS2) (Aa (Ad (Ad An)) (Aa (Ad (Ad (Ad (Ad (Ad (Ad An)))))) An)) | exact Kz rfl rfl (hI3) (Aa (Ad (Ad (Ad (Ad (Ad (Ad An)))))) An) | exact Kz rfl rfl (hS3) (Aa (Ad (Ad (Ad (Ad (Ad (Ad An)))))) An) | exact Kz rfl rfl (hR) (Ad An) | exact Kz rfl rfl (hI4) (Ad An) | exact Kz rfl rfl (hS4) (Ad An) | exact Kz rfl rfl (hCn) (Aa (Ad (Ad An)) (Aa (Ad (Ad (Ad (Ad (Ad (Ad An)))))) An)) | exact Kz rfl rfl (hL1) (Aa (Ad (Ad An)) (Aa (Ad (Ad An)) An)) | exact Ok.sneF rfl rfl rfl rfl | exact Ok.ieqD rfl rfl rfl hc | exact Ok.slen rfl rfl | exact Ok.neqEdS rfl rfl rfl | exact Ok.sneSame rfl rfl rfl | exact Ok.bneS rfl rfl rfl (by kernel_rfl) | exact Ok.pe)) | ((first | apply Ca | (apply Cb; (· exact nxE))); (· first | exact Ok.e0)) | refine Sx ?_ | (refine Sy (fun h => ?_) (fun h => ?_) <;> try (exfalso; omega; done)) | refine Sz (fun h => ?_) (fun h => ?_))
  all_goals
    refine Ya ?_
    (apply Le.headZ (hs := []) [] rfl)
    all_goals (try dsimp only [srcs])
    (case' hfr => (repeat' (first | refine La ?_ ?_ | exact Lc | refine Lo ?_ | refine ⟨⟨_, rfl, ?_⟩, ?_⟩ | refine Lx ?_)))
    all_goals (first | exact Ld | exact trivial | (rfl))
end Go.Proofs.YtofakjlamoigcaaDoor
end

section
namespace Go.Proofs.YtofakjlamoigcaaDoor
set_option linter.unusedSimpArgs false
set_option linter.unusedVariables false
open Go Go.RowKit
attribute [local irreducible] AL AD AW OpOk Le AC thenQ blockQ EndQ

set_option maxRecDepth 100000 in
set_option maxHeartbeats 1000000 in
theorem lawFnEdits_ac [Mode] [HasTab] [HasErr] [HasLen] (code : List Int) (hl : code.length ≤ 9223372036854775807) (hb : ∀ b ∈ code, 0 ≤ b ∧ b ≤ 255) : AC Tryd.prog 4 [.d (BD code)] H0 (Bo true) H0 := by
  have hBig := big_ac code hl
  by_cases hbig : 4096 < (code.length : Int)
  ·
    refine AC.of_body 0 Tryd.func4 rfl (fun l h => absurd rfl h) (fun C hC => ?_)
    have hD : ∀ l, ¬ C.D0 l := fun l h => (hC l).1 h rfl
    simp only [startFr, Tryd.ntmps4, List.length_cons, List.length_nil, Nat.reduceAdd, Nat.reduceSub, List.replicate_succ, List.replicate_zero, List.cons_append, List.nil_append]
    repeat' (first | ((first | apply Ba | (apply Bb; (· rfl); (· rfl)) | (apply Bc; (· exact nxE)) | (apply Bd; (· rfl); (· rfl); (· exact nxE))); (· first | exact Kz rfl rfl (hBig) (Ad An) | exact Ok.slen rfl rfl | exact Ok.neqEdS rfl rfl rfl | exact Ok.sneSame rfl rfl rfl | exact Ok.bneS rfl rfl rfl (by kernel_rfl) | exact Ok.pe)) | ((first | apply Ca | (apply Cb; (· exact nxE))); (· first | exact Ok.e0)) | refine Sx ?_ | (refine Sy (fun h => ?_) (fun h => ?_) <;> try (exfalso; omega; done)) | refine Sz (fun h => ?_) (fun h => ?_))
    refine Ya ?_
    (apply Le.headZ (hs := []) [] rfl)
    all_goals (try dsimp only [srcs])
    (case' hfr => (repeat' (first | refine La ?_ ?_ | exact Lc | refine Lo ?_ | refine ⟨⟨_, rfl, ?_⟩, ?_⟩ | refine Lx ?_)))
    all_goals (first | exact Ld | exact trivial | (rfl))
  have hc : CodeOk code := ⟨by omega, hb⟩
  rw [decide_eq_false hbig] at hBig
  obtain ⟨ev, xs, e, hx, hG1⟩ := drawApplyEdit_ex code hc
  obtain ⟨d, hG2⟩ := drawEditText_ex code hc
  obtain ⟨s, hsl, hG3⟩ := drawReadEdit_ex code hc
  have hI1 := frzAE (iApplyEdit_ac ev xs e (by omega)) rfl
  have hS1 := frzAE (sApplyEdit_ac ev xs e (by omega)) rfl
  have hI2 := iInverseEdit_ac ev xs e (by omega)
  have hS2 := sInverseEdit_ac ev xs e (by omega)
  have hI3 := iEditText_ac d
  have hS3 := sEditText_ac d
  have hTl := edT_len d
  have hR := iReadEdit_ac (edT d) (by omega)
  have hI4 := iReadEdit_ac s (by omega)
  have hS4 := sReadEdit_ac s (by omega)
  rw [se_re] at hS4
  have hCn := iCanEditG_ac ev xs e (by omega)
  have hxl : (aeL ev xs e).length ≤ 1000 := by
    unfold aeL
    split
    · have := edL_len (xs := xs) (e := e); omega
    · simp
  have hL1 := likeGraphsS_refl (aeEv ev xs e) (aeL ev xs e) (by omega)
  have hL2 := likeGraphsS_refl ev xs (by omega)
  have hI5 : (reR s).2 = true → AC Tryd.prog 14 [(reR s).1.av] H0 (Str s) H0 := fun h => by
    have := iEditText_ac (reR s).1
    rwa [reR_yes h] at this
  have hBE : cdA ev xs e = 0 → AC Tryd.prog 9 [grD (aeEv ev xs e) (aeL ev xs e), (ieE ev xs e).av] H0 (.tup [grD ev xs, I 0]) H0 ∧ AC Tryd.prog 21 [grD (aeEv ev xs e) (aeL ev xs e)] H0 (Bo true) H0 := fun h => by
    rcases cdA_parts (ev := ev) (xs := xs) (e := e) with ⟨_, h1, h2⟩ | ⟨h3, _⟩ | ⟨h3, _⟩
    · obtain ⟨g1, g2⟩ := inv_ed h1 h2
      have g3 := isEG_edL h1 h2
      have e1 : aeEv ev xs e = ev := if_pos h
      have e2 : aeL ev xs e = edL xs e := if_pos h
      have e3 : ieE ev xs e = invE xs e := if_pos h
      rw [e2] at hxl
      rw [e1, e2, e3]
      have h5 := frzAE (iApplyEdit_ac ev (edL xs e) (invE xs e) (by omega)) rfl
      have hz : cdA ev (edL xs e) (invE xs e) = 0 := by unfold cdA; rw [if_pos g3, if_pos g1]
      rw [aeEv, aeL, if_pos hz, if_pos hz, hz, g2] at h5
      have h6 := iIsEventGraph_ac ev (edL xs e) (by omega)
      rw [g3] at h6
      exact ⟨h5, h6⟩
    · omega
    · omega
  generalize aeEv ev xs e = ev' at *
  generalize aeL ev xs e = x at *
  generalize ieE ev xs e = i at *
  generalize reR s = q at *
  obtain ⟨y, b3⟩ := q
  simp only at hI4 hS4 hI5
  cases hd : edB d with
  | true =>
    rw [reR_ok hd] at hR
    have htn := edT_ne hd
    by_cases hz : cdA ev xs e = 0
    · obtain ⟨hB, hE⟩ := hBE hz
      rw [hz] at hI1 hS1 hI2 hS2 hCn
      cases b3 with
      | true => exact edits_Ay code ev xs e d s (edT d) htn y i x ev' hBig hG1 hG2 hG3 hI1 hS1 hI2 hS2 hI3 hS3 hR hI4 hS4 hCn hL1 (hI5 rfl) hL2 hB hE
      | false => exact edits_An code ev xs e d s (edT d) htn y i x ev' hBig hG1 hG2 hG3 hI1 hS1 hI2 hS2 hI3 hS3 hR hI4 hS4 hCn hL1 hL2 hB hE
    · rw [decide_eq_false hz] at hCn
      cases b3 with
      | true => exact edits_By code ev xs e d s (edT d) htn y i x ev' _ hz hBig hG1 hG2 hG3 hI1 hS1 hI2 hS2 hI3 hS3 hR hI4 hS4 hCn hL1 (hI5 rfl)
      | false => exact edits_Bn code ev xs e d s (edT d) htn y i x ev' _ hz hBig hG1 hG2 hG3 hI1 hS1 hI2 hS2 hI3 hS3 hR hI4 hS4 hCn hL1
  | false =>
    rw [edT_no hd] at hR hI3 hS3
    have hR : AC Tryd.prog 15 [Str []] H0 (.tup [edZ.av, Bo false]) H0 := hR
    by_cases hz : cdA ev xs e = 0
    · obtain ⟨hB, hE⟩ := hBE hz
      rw [hz] at hI1 hS1 hI2 hS2 hCn
      cases b3 with
      | true => exact edits_Cy code ev xs e d s edZ y i x ev' hBig hG1 hG2 hG3 hI1 hS1 hI2 hS2 hI3 hS3 hR hI4 hS4 hCn hL1 (hI5 rfl) hL2 hB hE
      | false => exact edits_Cn code ev xs e d s edZ y i x ev' hBig hG1 hG2 hG3 hI1 hS1 hI2 hS2 hI3 hS3 hR hI4 hS4 hCn hL1 hL2 hB hE
    · rw [decide_eq_false hz] at hCn
      cases b3 with
      | true => exact edits_Dy code ev xs e d s edZ y i x ev' _ hz hBig hG1 hG2 hG3 hI1 hS1 hI2 hS2 hI3 hS3 hR hI4 hS4 hCn hL1 (hI5 rfl)
      | false => exact edits_Dn code ev xs e d s edZ y i x ev' _ hz hBig hG1 hG2 hG3 hI1 hS1 hI2 hS2 hI3 hS3 hR hI4 hS4 hCn hL1
end Go.Proofs.YtofakjlamoigcaaDoor
end
