/-
  Walks in the abstract reading, part 10.
-/
import Derived.Test.YtofakjlamoigcaaDoorKeU6
import Derived.Test.YtofakjlamoigcaaDoorKeU9
section
namespace Go.Proofs.YtofakjlamoigcaaDoor
set_option linter.unusedSimpArgs false
set_option linter.unusedVariables false
open Go Go.RowKit
section
variable {P : Program} {o : Oper} {A : Operand → AV} {H : Heap} {new : Nat} {t t' : TypeId} {x y : Operand} {a b : Int}
theorem Ok.ieqB [Mode] (ho : o.op = .binOp .eql t x y t') (hx : A x = I a) (hy : A y = I b) (h : ¬ a = b) : OpOk P o A [] H new (Bo false) [] := by
  have := Ok.eql (P := P) (H := H) (new := new) ho hx hy
  rwa [decide_eq_false h] at this
end
attribute [local irreducible] AL AD AW OpOk Le AC thenQ blockQ EndQ

set_option maxRecDepth 100000 in
set_option maxHeartbeats 8000000 in
theorem edits_By [Mode] [HasTab] [HasErr] [HasLen] (code : List Int) (ev : Int) (xs : List Pl) (e d : Ed) (s : List UInt8) (t : List UInt8) (htn : t ≠ []) (y i : Ed) (x : List Pl) (ev' : Int) (c : Int) (hc : c ≠ 0)
    (hBig : AC Tryd.prog 7 [.d (BD code)] H0 (Bo false) H0)
    (hG1 : AC Tryd.prog 8 [.d (BD code)] H0 (.tup [grD ev xs, e.av]) H0)
    (hG2 : AC Tryd.prog 13 [.d (BD code)] H0 d.av H0)
    (hG3 : AC Tryd.prog 16 [.d (BD code)] H0 (Str s) H0)
    (hI1 : AC Tryd.prog 9 [grD ev xs, e.av] H0 (.tup [grD ev' x, I c]) H0)
    (hS1 : AC Tryd.prog 10 [grD ev xs, e.av] H0 (.tup [grD ev' x, I c]) H0)
    (hI2 : AC Tryd.prog 11 [grD ev xs, e.av] H0 (.tup [i.av, I c]) H0)
    (hS2 : AC Tryd.prog 12 [grD ev xs, e.av] H0 (.tup [i.av, I c]) H0)
    (hI3 : AC Tryd.prog 14 [d.av] H0 (Str t) H0)
    (hS3 : AC Tryd.prog 19 [d.av] H0 (Str t) H0)
    (hR : AC Tryd.prog 15 [Str t] H0 (.tup [d.av, Bo true]) H0)
    (hI4 : AC Tryd.prog 15 [Str s] H0 (.tup [y.av, Bo true]) H0)
    (hS4 : AC Tryd.prog 17 [Str s] H0 (.tup [y.av, Bo true]) H0)
    (hCn : AC Tryd.prog 20 [grD ev xs, e.av] H0 (Bo false) H0)
    (hL1 : AC Tryd.prog 18 [grD ev' x, grD ev' x] H0 (Bo true) H0)
    (hI5 : AC Tryd.prog 14 [y.av] H0 (Str s) H0) :
    AC Tryd.prog 4 [.d (BD code)] H0 (Bo true) H0 := by
  obtain ⟨ek, ei, ⟨ef, et, ed, eq⟩⟩ := e
  obtain ⟨dk, di, ⟨df, dt, dd, dq⟩⟩ := d
  obtain ⟨yk, yi, ⟨yf, yt, yd, yq⟩⟩ := y
  obtain ⟨ik, ii, ⟨i0, it, id, iq⟩⟩ := i
  refine AC.of_body 0 Tryd.func4 rfl (fun l h => absurd rfl h) (fun C hC => ?_)
  have hD : ∀ l, ¬ C.D0 l := fun l h => (hC l).1 h rfl
  simp only [startFr, Tryd.ntmps4, List.length_cons, List.length_nil, Nat.reduceAdd, Nat.reduceSub, List.replicate_succ, List.replicate_zero, List.cons_append, List.nil_append]
  repeat' (first | ((first | apply Ba | (apply Bb; (· rfl); (· rfl)) | (apply Bc; (· exact nxE)) | (apply Bd; (· rfl); (· rfl); (· exact nxE))); (· first | exact Kz rfl rfl (hBig) (Ad An) | exact Kz rfl rfl (hG1) (Ad An) | exact Kz rfl rfl (hG2) (Ad An) | exact Kz rfl rfl (hG3) (Ad An) | exact Kz rfl rfl (hI1) (Aa (Ad (Ad An)) (Aa (Ad (Ad (Ad (Ad (Ad (Ad An)))))) An)) | exact Kz rfl rfl (hS1) (Aa (Ad (Ad An)) (Aa (Ad (Ad (Ad (Ad (Ad (Ad An)))))) An)) | exact Kz rfl rfl (hI2) (Aa (Ad (Ad An)) (Aa (Ad (Ad (Ad (Ad (Ad (Ad An)))))) An)) | exact Kz rfl rfl (hS2) (Aa (Ad (Ad An)) (Aa (Ad (Ad (Ad (Ad (Ad (Ad An)))))) An)) | exact Kz rfl rfl (hI3) (Aa (Ad (Ad (Ad (Ad (Ad (Ad An)))))) An) | exact Kz rfl rfl (hS3) (Aa (Ad (Ad (Ad (Ad (Ad (Ad An)))))) An) | exact Kz rfl rfl (hR) (Ad An) | exact Kz rfl rfl (hI4) (Ad An) | exact Kz rfl rfl (hS4) (Ad An) | exact Kz rfl rfl (hI5) (Aa (Ad (Ad (Ad (Ad (Ad (Ad An)))))) An) | exact Kz rfl rfl (hCn) (Aa (Ad (Ad An)) (Aa (Ad (Ad (Ad (Ad (Ad (Ad An)))))) An)) | exact Kz rfl rfl (hL1) (Aa (Ad (Ad An)) (Aa (Ad (Ad An)) An)) | exact Ok.sneT rfl rfl rfl htn | exact Ok.ieqB rfl rfl rfl hc | exact Ok.slen rfl rfl | exact Ok.neqEdS rfl rfl rfl | exact Ok.sneSame rfl rfl rfl | exact Ok.bneS rfl rfl rfl (by kernel_rfl) | exact Ok.pe)) | ((first | apply Ca | (apply Cb; (· exact nxE))); (· first | exact Ok.e0)) | refine Sx ?_ | (refine Sy (fun h => ?_) (fun h => ?_) <;> try (exfalso; omega; done)) | refine Sz (fun h => ?_) (fun h => ?_))
  all_goals
    refine Ya ?_
    (apply Le.headZ (hs := []) [] rfl)
    all_goals (try dsimp only [srcs])
    (case' hfr => (repeat' (first | refine La ?_ ?_ | exact Lc | refine Lo ?_ | refine ⟨⟨_, rfl, ?_⟩, ?_⟩ | refine Lx ?_)))
    all_goals (first | exact Ld | exact trivial | (rfl))
set_option maxRecDepth 100000 in
set_option maxHeartbeats 8000000 in
theorem edits_Bn [Mode] [HasTab] [HasErr] [HasLen] (code : List Int) (ev : Int) (xs : List Pl) (e d : Ed) (s : List UInt8) (t : List UInt8) (htn : t ≠ []) (y i : Ed) (x : List Pl) (ev' : Int) (c : Int) (hc : c ≠ 0)
    (hBig : AC Tryd.prog 7 [.d (BD code)] H0 (Bo false) H0)
    (hG1 : AC Tryd.prog 8 [.d (BD code)] H0 (.tup [grD ev xs, e.av]) H0)
    (hG2 : AC Tryd.prog 13 [.d (BD code)] H0 d.av H0)
    (hG3 : AC Tryd.prog 16 [.d (BD code)] H0 (Str s) H0)
    (hI1 : AC Tryd.prog 9 [grD ev xs, e.av] H0 (.tup [grD ev' x, I c]) H0)
    (hS1 : AC Tryd.prog 10 [grD ev xs, e.av] H0 (.tup [grD ev' x, I c]) H0)
    (hI2 : AC Tryd.prog 11 [grD ev xs, e.av] H0 (.tup [i.av, I c]) H0)
    (hS2 : AC Tryd.prog 12 [grD ev xs, e.av] H0 (.tup [i.av, I c]) H0)
    (hI3 : AC Tryd.prog 14 [d.av] H0 (Str t) H0)
    (hS3 : AC Tryd.prog 19 [d.av] H0 (Str t) H0)
    (hR : AC Tryd.prog 15 [Str t] H0 (.tup [d.av, Bo true]) H0)
    (hI4 : AC Tryd.prog 15 [Str s] H0 (.tup [y.av, Bo false]) H0)
    (hS4 : AC Tryd.prog 17 [Str s] H0 (.tup [y.av, Bo false]) H0)
    (hCn : AC Tryd.prog 20 [grD ev xs, e.av] H0 (Bo false) H0)
    (hL1 : AC Tryd.prog 18 [grD ev' x, grD ev' x] H0 (Bo true) H0) :
    AC Tryd.prog 4 [.d (BD code)] H0 (Bo true) H0 := by
  obtain ⟨ek, ei, ⟨ef, et, ed, eq⟩⟩ := e
  obtain ⟨dk, di, ⟨df, dt, dd, dq⟩⟩ := d
  obtain ⟨yk, yi, ⟨yf, yt, yd, yq⟩⟩ := y
  obtain ⟨ik, ii, ⟨i0, it, id, iq⟩⟩ := i
  refine AC.of_body 0 Tryd.func4 rfl (fun l h => absurd rfl h) (fun C hC => ?_)
  have hD : ∀ l, ¬ C.D0 l := fun l h => (hC l).1 h rfl
  simp only [startFr, Tryd.ntmps4, List.length_cons, List.length_nil, Nat.reduceAdd, Nat.reduceSub, List.replicate_succ, List.replicate_zero, List.cons_append, List.nil_append]
  repeat' (first | ((first | apply Ba | (apply Bb; (· rfl); (· rfl)) | (apply Bc; (· exact nxE)) | (apply Bd; (· rfl); (· rfl); (· exact nxE))); (· first | exact Kz rfl rfl (hBig) (Ad An) | exact Kz rfl rfl (hG1) (Ad An) | exact Kz rfl rfl (hG2) (Ad An) | exact Kz rfl rfl (hG3) (Ad An) | exact Kz rfl rfl (hI1) (Aa (Ad (Ad An)) (Aa (Ad (Ad (Ad (Ad (Ad (Ad An)))))) An)) | exact Kz rfl rfl (hS1) (Aa (Ad (Ad An)) (Aa (Ad (Ad (Ad (Ad (Ad (Ad An)))))) An)) | exact Kz rfl rfl (hI2) (Aa (Ad (Ad An)) (Aa (Ad (Ad (Ad (Ad (Ad (Ad An)))))) An)) | exact Kz rfl rfl (hS2) (Aa (Ad (Ad An)) (Aa (Ad (Ad (Ad (Ad (Ad (Ad An)))))) An)) | exact Kz rfl rfl (hI3) (Aa (Ad (Ad (Ad (Ad (Ad (Ad An)))))) An) | exact Kz rfl rfl (hS3) (Aa (Ad (Ad (Ad (Ad (Ad (Ad An)))))) An) | exact Kz rfl rfl (hR) (Ad An) | exact Kz rfl rfl (hI4) (Ad An) | exact Kz rfl rfl (hS4) (Ad An) | exact Kz rfl rfl (hCn) (Aa (Ad (Ad An)) (Aa (Ad (Ad (Ad (Ad (Ad (Ad An)))))) An)) | exact Kz rfl rfl (hL1) (Aa (Ad (Ad An)) (Aa (Ad (Ad An)) An)) | exact Ok.sneT rfl rfl rfl htn | exact Ok.ieqB rfl rfl rfl hc | exact Ok.slen rfl rfl | exact Ok.neqEdS rfl rfl rfl | exact Ok.sneSame rfl rfl rfl | exact Ok.bneS rfl rfl rfl (by kernel_rfl) | exact Ok.pe)) | ((first | apply Ca | (apply Cb; (· exact nxE))); (· first | exact Ok.e0)) | refine Sx ?_ | (refine Sy (fun h => ?_) (fun h => ?_) <;> try (exfalso; omega; done)) | refine Sz (fun h => ?_) (fun h => ?_))
  all_goals
    refine Ya ?_
    (apply Le.headZ (hs := []) [] rfl)
    all_goals (try dsimp only [srcs])
    (case' hfr => (repeat' (first | refine La ?_ ?_ | exact Lc | refine Lo ?_ | refine ⟨⟨_, rfl, ?_⟩, ?_⟩ | refine Lx ?_)))
    all_goals (first | exact Ld | exact trivial | (rfl))
end Go.Proofs.YtofakjlamoigcaaDoor
end

section
namespace Go.Proofs.YtofakjlamoigcaaDoor
set_option linter.unusedSimpArgs false
set_option linter.unusedVariables false
open Go Go.RowKit
attribute [local irreducible] AL AD AW OpOk Le AC thenQ blockQ EndQ

set_option maxRecDepth 100000 in
set_option maxHeartbeats 8000000 in
theorem edits_Cy [Mode] [HasTab] [HasErr] [HasLen] (code : List Int) (ev : Int) (xs : List Pl) (e d : Ed) (s : List UInt8) (r : Ed) (y i : Ed) (x : List Pl) (ev' : Int)
    (hBig : AC Tryd.prog 7 [.d (BD code)] H0 (Bo false) H0)
    (hG1 : AC Tryd.prog 8 [.d (BD code)] H0 (.tup [grD ev xs, e.av]) H0)
    (hG2 : AC Tryd.prog 13 [.d (BD code)] H0 d.av H0)
    (hG3 : AC Tryd.prog 16 [.d (BD code)] H0 (Str s) H0)
    (hI1 : AC Tryd.prog 9 [grD ev xs, e.av] H0 (.tup [grD ev' x, I 0]) H0)
    (hS1 : AC Tryd.prog 10 [grD ev xs, e.av] H0 (.tup [grD ev' x, I 0]) H0)
    (hI2 : AC Tryd.prog 11 [grD ev xs, e.av] H0 (.tup [i.av, I 0]) H0)
    (hS2 : AC Tryd.prog 12 [grD ev xs, e.av] H0 (.tup [i.av, I 0]) H0)
    (hI3 : AC Tryd.prog 14 [d.av] H0 (Str []) H0)
    (hS3 : AC Tryd.prog 19 [d.av] H0 (Str []) H0)
    (hR : AC Tryd.prog 15 [Str []] H0 (.tup [r.av, Bo false]) H0)
    (hI4 : AC Tryd.prog 15 [Str s] H0 (.tup [y.av, Bo true]) H0)
    (hS4 : AC Tryd.prog 17 [Str s] H0 (.tup [y.av, Bo true]) H0)
    (hCn : AC Tryd.prog 20 [grD ev xs, e.av] H0 (Bo true) H0)
    (hL1 : AC Tryd.prog 18 [grD ev' x, grD ev' x] H0 (Bo true) H0)
    (hI5 : AC Tryd.prog 14 [y.av] H0 (Str s) H0)
    (hL2 : AC Tryd.prog 18 [grD ev xs, grD ev xs] H0 (Bo true) H0)
    (hB : AC Tryd.prog 9 [grD ev' x, i.av] H0 (.tup [grD ev xs, I 0]) H0)
    (hE : AC Tryd.prog 21 [grD ev' x] H0 (Bo true) H0) :
    AC Tryd.prog 4 [.d (BD code)] H0 (Bo true) H0 := by
  obtain ⟨ek, ei, ⟨ef, et, ed, eq⟩⟩ := e
  obtain ⟨dk, di, ⟨df, dt, dd, dq⟩⟩ := d
  obtain ⟨rk, ri, ⟨rf, rt, rd, rq⟩⟩ := r
  obtain ⟨yk, yi, ⟨yf, yt, yd, yq⟩⟩ := y
  obtain ⟨ik, ii, ⟨i0, it, id, iq⟩⟩ := i
  refine AC.of_body 0 Tryd.func4 rfl (fun l h => absurd rfl h) (fun C hC => ?_)
  have hD : ∀ l, ¬ C.D0 l := fun l h => (hC l).1 h rfl
  simp only [startFr, Tryd.ntmps4, List.length_cons, List.length_nil, Nat.reduceAdd, Nat.reduceSub, List.replicate_succ, List.replicate_zero, List.cons_append, List.nil_append]
  repeat' (first | ((first | apply Ba | (apply Bb; (· rfl); (· rfl)) | (apply Bc; (· exact nxE)) | (apply Bd; (· rfl); (· rfl); (· exact nxE))); (· first | exact Kz rfl rfl (hBig) (Ad An) | exact Kz rfl rfl (hG1) (Ad An) | exact Kz rfl rfl (hG2) (Ad An) | exact Kz rfl rfl (hG3) (Ad An) | exact Kz rfl rfl (hB) (Aa (Ad (Ad An)) (Aa (Ad (Ad (Ad (Ad (Ad (Ad An)))))) An)) | exact Kz rfl rfl (hI1) (Aa (Ad (Ad An)) (Aa (Ad (Ad (Ad (Ad (Ad (Ad An)))))) An)) | exact Kz rfl rfl (hS1) (Aa (Ad (Ad An)) (Aa (Ad (Ad (Ad (Ad (Ad (Ad An)))))) An)) | exact Kz rfl rfl (hI2) (Aa (Ad (Ad An)) (Aa (Ad (Ad (Ad (Ad (Ad (Ad An)))))) An)) | exact Kz rfl rfl (hS2) (Aa (Ad (Ad An)) (Aa (Ad (Ad (Ad (Ad (Ad (Ad An)))))) An)) | exact Kz rfl rfl (hI3) (Aa (Ad (Ad (Ad (Ad (Ad (Ad An)))))) An) | exact Kz rfl rfl (hS3) (Aa (Ad (Ad (Ad (Ad (Ad (Ad An)))))) An) | exact Kz rfl rfl (hR) (Ad An) | exact Kz rfl rfl (hI4) (Ad An) | exact Kz rfl rfl (hS4) (Ad An) | exact Kz rfl rfl (hI5) (Aa (Ad (Ad (Ad (Ad (Ad (Ad An)))))) An) | exact Kz rfl rfl (hCn) (Aa (Ad (Ad An)) (Aa (Ad (Ad (Ad (Ad (Ad (Ad An)))))) An)) | exact Kz rfl rfl (hL1) (Aa (Ad (Ad An)) (Aa (Ad (Ad An)) An)) | exact Kz rfl rfl (hL2) (Aa (Ad (Ad An)) (Aa (Ad (Ad An)) An)) | exact Kz rfl rfl (hE) (Aa (Ad (Ad An)) An) | exact Ok.sneF rfl rfl rfl rfl | exact Ok.slen rfl rfl | exact Ok.neqEdS rfl rfl rfl | exact Ok.sneSame rfl rfl rfl | exact Ok.bneS rfl rfl rfl (by kernel_rfl) | exact Ok.pe)) | ((first | apply Ca | (apply Cb; (· exact nxE))); (· first | exact Ok.e0)) | refine Sx ?_ | (refine Sy (fun h => ?_) (fun h => ?_) <;> try (exfalso; omega; done)) | refine Sz (fun h => ?_) (fun h => ?_))
  all_goals
    refine Ya ?_
    (apply Le.headZ (hs := []) [] rfl)
    all_goals (try dsimp only [srcs])
    (case' hfr => (repeat' (first | refine La ?_ ?_ | exact Lc | refine Lo ?_ | refine ⟨⟨_, rfl, ?_⟩, ?_⟩ | refine Lx ?_)))
    all_goals (first | exact Ld | exact trivial | (rfl))
set_option maxRecDepth 100000 in
set_option maxHeartbeats 8000000 in
theorem edits_Cn [Mode] [HasTab] [HasErr] [HasLen] (code : List Int) (ev : Int) (xs : List Pl) (e d : Ed) (s : List UInt8) (r : Ed) (y i : Ed) (x : List Pl) (ev' : Int)
    (hBig : AC Tryd.prog 7 [.d (BD code)] H0 (Bo false) H0)
    (hG1 : AC Tryd.prog 8 [.d (BD code)] H0 (.tup [grD ev xs, e.av]) H0)
    (hG2 : AC Tryd.prog 13 [.d (BD code)] H0 d.av H0)
    (hG3 : AC Tryd.prog 16 [.d (BD code)] H0 (Str s) H0)
    (hI1 : AC Tryd.prog 9 [grD ev xs, e.av] H0 (.tup [grD ev' x, I 0]) H0)
    (hS1 : AC Tryd.prog 10 [grD ev xs, e.av] H0 (.tup [grD ev' x, I 0]) H0)
    (hI2 : AC Tryd.prog 11 [grD ev xs, e.av] H0 (.tup [i.av, I 0]) H0)
    (hS2 : AC Tryd.prog 12 [grD ev xs, e.av] H0 (.tup [i.av, I 0]) H0)
    (hI3 : AC Tryd.prog 14 [d.av] H0 (Str []) H0)
    (hS3 : AC Tryd.prog 19 [d.av] H0 (Str []) H0)
    (hR : AC Tryd.prog 15 [Str []] H0 (.tup [r.av, Bo false]) H0)
    (hI4 : AC Tryd.prog 15 [Str s] H0 (.tup [y.av, Bo false]) H0)
    (hS4 : AC Tryd.prog 17 [Str s] H0 (.tup [y.av, Bo false]) H0)
    (hCn : AC Tryd.prog 20 [grD ev xs, e.av] H0 (Bo true) H0)
    (hL1 : AC Tryd.prog 18 [grD ev' x, grD ev' x] H0 (Bo true) H0)
    (hL2 : AC Tryd.prog 18 [grD ev xs, grD ev xs] H0 (Bo true) H0)
    (hB : AC Tryd.prog 9 [grD ev' x, i.av] H0 (.tup [grD ev xs, I 0]) H0)
    (hE : AC Tryd.prog 21 [grD ev' x] H0 (Bo true) H0) :
    AC Tryd.prog 4 [.d (BD code)] H0 (Bo true) H0 := by
  obtain ⟨ek, ei, ⟨ef, et, ed, eq⟩⟩ := e
  obtain ⟨dk, di, ⟨df, dt, dd, dq⟩⟩ := d
  obtain ⟨rk, ri, ⟨rf, rt, rd, rq⟩⟩ := r
  obtain ⟨yk, yi, ⟨yf, yt, yd, yq⟩⟩ := y
  obtain ⟨ik, ii, ⟨i0, it, id, iq⟩⟩ := i
  refine AC.of_body 0 Tryd.func4 rfl (fun l h => absurd rfl h) (fun C hC => ?_)
  have hD : ∀ l, ¬ C.D0 l := fun l h => (hC l).1 h rfl
  simp only [startFr, Tryd.ntmps4, List.length_cons, List.length_nil, Nat.reduceAdd, Nat.reduceSub, List.replicate_succ, List.replicate_zero, List.cons_append, List.nil_append]
  repeat' (first | ((first | apply Ba | (apply Bb; (· rfl); (· rfl)) | (apply Bc; (· exact nxE)) | (apply Bd; (· rfl); (· rfl); (· exact nxE))); (· first | exact Kz rfl rfl (hBig) (Ad An) | exact Kz rfl rfl (hG1) (Ad An) | exact Kz rfl rfl (hG2) (Ad An) | exact Kz rfl rfl (hG3) (Ad An) | exact Kz rfl rfl (hB) (Aa (Ad (Ad An)) (Aa (Ad (Ad (Ad (Ad (Ad (Ad An)))))) An)) | exact Kz rfl rfl (hI1) (Aa (Ad (Ad An)) (Aa (Ad (Ad (Ad (Ad (Ad (Ad An)))))) An)) | exact Kz rfl rfl (hS1) (Aa (Ad (Ad An)) (Aa (Ad (Ad (Ad (Ad (Ad (Ad An)))))) An)) | exact Kz rfl rfl (hI2) (Aa (Ad (Ad An)) (Aa (Ad (Ad (Ad (Ad (Ad (Ad An)))))) An)) | exact Kz rfl rfl (hS2) (Aa (Ad (Ad An)) (Aa (Ad (Ad (Ad (Ad (Ad (Ad An)))))) An)) | exact Kz rfl rfl (hI3) (Aa (Ad (Ad (Ad (Ad (Ad (Ad An)))))) An) | exact Kz rfl rfl (hS3) (Aa (Ad (Ad (Ad (Ad (Ad (Ad An)))))) An) | exact Kz rfl rfl (hR) (Ad An) | exact Kz rfl rfl (hI4) (Ad An) | exact Kz rfl rfl (hS4) (Ad An) | exact Kz rfl rfl (hCn) (Aa (Ad (Ad An)) (Aa (Ad (Ad (Ad (Ad (Ad (Ad An)))))) An)) | exact Kz rfl rfl (hL1) (Aa (Ad (Ad An)) (Aa (Ad (Ad An)) An)) | exact Kz rfl rfl (hL2) (Aa (Ad (Ad An)) (Aa (Ad (Ad An)) An)) | exact Kz rfl rfl (hE) (Aa (Ad (Ad An)) An) | exact Ok.sneF rfl rfl rfl rfl | exact Ok.slen rfl rfl | exact Ok.neqEdS rfl rfl rfl | exact Ok.sneSame rfl rfl rfl | exact Ok.bneS rfl rfl rfl (by kernel_rfl) | exact Ok.pe)) | ((first | apply Ca | (apply Cb; (· exact nxE))); (· first | exact Ok.e0)) | refine Sx ?_ | (refine Sy (fun h => ?_) (fun h => ?_) <;> try (exfalso; omega; done)) | refine Sz (fun h => ?_) (fun h => ?_))
  all_goals
    refine Ya ?_
    (apply Le.headZ (hs := []) [] rfl)
    all_goals (try dsimp only [srcs])
    (case' hfr => (repeat' (first | refine La ?_ ?_ | exact Lc | refine Lo ?_ | refine ⟨⟨_, rfl, ?_⟩, ?_⟩ | refine Lx ?_)))
    all_goals (first | exact Ld | exact trivial | (rfl))
end Go.Proofs.YtofakjlamoigcaaDoor
end
