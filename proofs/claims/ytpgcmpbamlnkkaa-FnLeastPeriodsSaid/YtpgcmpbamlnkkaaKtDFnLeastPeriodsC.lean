/-
  The law FnLeastPeriods, in the abstract reading, case C.
-/
import Derived.Test.YtpgcmpbamlnkkaaKtE78
import Derived.Test.YtpgcmpbamlnkkaaKtU12
namespace Go.Proofs.Ytpgcmpbamlnkkaa
set_option linter.unusedSimpArgs false
set_option linter.unusedVariables false
open Go Go.RowKit
attribute [local irreducible] AL AD AW OpOk Le AC thenQ blockQ EndQ

set_option maxRecDepth 100000 in
set_option maxHeartbeats 16000000 in
theorem lpWalkC (code : List Int) (hbig : ¬ 4096 < (code.length : Int)) (ev : Int) (xs : List Pl) (ez : Int) (zs : List Pl) (P : Int) (st : List Int) (b : Int) (p : Int) (hpb : 0 ≤ p ∧ p ≤ 100000) (c1 : Int) (R : Int) (y : List Int) (c2 : Int) (h1 : c1 = 0) (h2 : c2 ≠ 0) (u1 : Int) (u2 : List Int) (r1 : List Int) (r2 : Int) (hp : p = 0)
    (hBig : AC Try.prog 10 [.d (BD code)] H0 (Bo (decide (4096 < (code.length : Int)))) H0)
    (hG : AC Try.prog 41 [.d (BD code)] H0 (grD ev xs) H0)
    (hG2 : AC Try.prog 44 [.d (BD code)] H0 (.tup [grD ez zs, ttA P st, I b]) H0)
    (hI : AC Try.prog 42 [grD ev xs] H0 (.tup [I p, I c1]) H0)
    (hS : AC Try.prog 43 [grD ev xs] H0 (.tup [I p, I c1]) H0)
    (hI2 : AC Try.prog 45 [grD ez zs, ttA P st, I b] H0 (.tup [ttA R y, I c2]) H0)
    (hS2 : AC Try.prog 46 [grD ez zs, ttA P st, I b] H0 (.tup [ttA R y, I c2]) H0)
    (hL0 : AC Try.prog 37 [ttA R y, ttA R y] H0 (Bo true) H0)
    (hE : AC Try.prog 26 [grD ev xs, I p] H0 (.tup [ttA u1 u2, I 0]) H0)
    (hQ : AC Try.prog 29 [grD ev xs, I (p - 1)] H0 (.tup [IL r1, I r2]) H0) : AC Try.prog 5 [.d (BD code)] H0 (Bo true) H0 := by
  subst h1
  refine AC.of_body 0 Try.func5 rfl (fun l h => absurd rfl h) (fun C hC => ?_)
  have hD : ∀ l, ¬ C.D0 l := fun l h => (hC l).1 h rfl
  simp only [startFr, Try.ntmps5, List.length_cons, List.length_nil, Nat.reduceAdd, Nat.reduceSub, List.replicate_succ, List.replicate_zero, List.cons_append, List.nil_append]
  repeat' (first | ((first | apply Ba | (apply Bb; (· rfl); (· rfl)) | (apply Bc; (· exact nxE)) | (apply Bd; (· rfl); (· rfl); (· exact nxE))); (· first | exact Kz rfl rfl (hBig) (Ad An) | exact Kz rfl rfl (hG) (Ad An) | exact Kz rfl rfl (hG2) (Ad An) | exact Kz rfl rfl (hI) (Aa (Ad (Ad An)) An) | exact Kz rfl rfl (hS) (Aa (Ad (Ad An)) An) | exact Kz rfl rfl (hI2) (Aa (Ad (Ad An)) (Aa (Ad (Ad An)) (Ad An))) | exact Kz rfl rfl (hS2) (Aa (Ad (Ad An)) (Aa (Ad (Ad An)) (Ad An))) | exact Kz rfl rfl (hL0) (Aa (Ad (Ad An)) (Aa (Ad (Ad An)) An)) | exact Kz rfl rfl (hE) (Aa (Ad (Ad An)) (Ad An)) | exact Kz rfl rfl (hQ) (Aa (Ad (Ad An)) (Ad An)) | exact Ok.pe)) | ((first | apply Ca | (apply Cb; (· exact nxE))); (· first | exact Ok.e0)) | refine Sx ?_ | (refine Sy (fun h => ?_) (fun h => ?_) <;> try (exfalso; omega; done)) | refine Sz (fun h => ?_) (fun h => ?_))
  all_goals
    refine Ya ?_
    (apply Le.headZ (hs := []) [] rfl)
    all_goals (try dsimp only [srcs])
    (case' hfr => (repeat' (first | refine La ?_ ?_ | exact Lc | refine Lo ?_ | refine ⟨⟨_, rfl, ?_⟩, ?_⟩ | refine Lx ?_)))
    all_goals (first | exact Ld | exact trivial | (first | rfl | exact (decide_eq_true (by omega)).symm))
end Go.Proofs.Ytpgcmpbamlnkkaa
