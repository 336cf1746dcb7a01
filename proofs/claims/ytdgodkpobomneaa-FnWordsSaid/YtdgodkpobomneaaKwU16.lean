/-
  Walks in the abstract reading, part 16.
-/
import Derived.Test.YtdgodkpobomneaaKwU12
section
namespace Go.Proofs.Ytdgodkpobomneaa
set_option linter.unusedSimpArgs false
set_option linter.unusedVariables false
open Go Go.RowKit
attribute [local irreducible] AL AD AW OpOk Le AC thenQ blockQ EndQ

set_option maxRecDepth 100000 in
set_option maxHeartbeats 16000000 in
theorem fwWalkH [Mode] (code : List Int) (hbig : ¬ 4096 < (code.length : Int)) (ms ms2 A : List (List (List Int))) (x y w hw lw g z p up : List Int) (k hh lh c d f sv e : Int) (b : Bool) (B : List (List Int))
    (hBig : AC Try.prog 6 [.d (BD code)] H0 (Bo (decide (4096 < (code.length : Int)))) H0)
    (hD1 : AC Try.prog 7 [.d (BD code)] H0 (.tup [QL ms, IL x, I k]) H0)
    (hD2 : AC Try.prog 14 [.d (BD code)] H0 (.tup [QL ms2, IL y, IL w]) H0)
    (hH1 : AC Try.prog 8 [QL ms, IL x, I k] H0 (.tup [IL hw, I hh, I c]) H0)
    (hH2 : AC Try.prog 9 [QL ms, IL x, I k] H0 (.tup [IL hw, I hh, I c]) H0)
    (hL1 : AC Try.prog 10 [QL ms, IL x, I k] H0 (.tup [IL lw, I lh, I c]) H0)
    (hL2 : AC Try.prog 11 [QL ms, IL x, I k] H0 (.tup [IL lw, I lh, I c]) H0)
    (hG1 : AC Try.prog 12 [QL ms, IL x, I k] H0 (.tup [IL g, I d]) H0)
    (hG2 : AC Try.prog 13 [QL ms, IL x, I k] H0 (.tup [IL g, I d]) H0)
    (hA1 : AC Try.prog 15 [QL ms2, IL y, IL w] H0 (.tup [IL z, I f]) H0)
    (hA2 : AC Try.prog 16 [QL ms2, IL y, IL w] H0 (.tup [IL z, I f]) H0)
    (hM1 : AC Try.prog 18 [QL ms] H0 (Bo b) H0)
    (hM2 : AC Try.prog 19 [QL ms] H0 (Bo b) H0)
    (hK1 : AC Try.prog 17 [IL hw, IL hw] H0 (Bo true) H0)
    (hK2 : AC Try.prog 17 [IL lw, IL lw] H0 (Bo true) H0)
    (hK3 : AC Try.prog 17 [IL g, IL g] H0 (Bo true) H0)
    (hK4 : AC Try.prog 17 [IL z, IL z] H0 (Bo true) H0)
    (hf : f = 0) (hs : sv = 0)
    (hW : AC Try.prog 20 [QL ms2, IL w] H0 (.tup [TL B, I sv]) H0)
    (hT : AC Try.prog 21 [TL B, IL y] H0 (.tup [IL z, I 0]) H0)
    (hc : c = 0) (hd : d ≠ 0) :
    AC Try.prog 3 [.d (BD code)] H0 (Bo true) H0 := by
  subst hf
  subst hs
  subst hc
  refine AC.of_body 0 Try.func3 rfl (fun l h => absurd rfl h) (fun C hC => ?_)
  have hD : ∀ l, ¬ C.D0 l := fun l h => (hC l).1 h rfl
  simp only [startFr, Try.ntmps3, List.length_cons, List.length_nil, Nat.reduceAdd, Nat.reduceSub, List.replicate_succ, List.replicate_zero, List.cons_append, List.nil_append]
  repeat' (first | ((first | apply Ba | (apply Bb; (· rfl); (· rfl)) | (apply Bc; (· exact nxE)) | (apply Bd; (· rfl); (· rfl); (· exact nxE))); (· first | exact Kz rfl rfl (hBig) (Ad An) | exact Kz rfl rfl (hD1) (Ad An) | exact Kz rfl rfl (hH1) (Ad (Ad (Ad An))) | exact Kz rfl rfl (hH2) (Ad (Ad (Ad An))) | exact Kz rfl rfl (hL1) (Ad (Ad (Ad An))) | exact Kz rfl rfl (hL2) (Ad (Ad (Ad An))) | exact Kz rfl rfl (hG1) (Ad (Ad (Ad An))) | exact Kz rfl rfl (hG2) (Ad (Ad (Ad An))) | exact Kz rfl rfl (hD2) (Ad An) | exact Kz rfl rfl (hA1) (Ad (Ad (Ad An))) | exact Kz rfl rfl (hA2) (Ad (Ad (Ad An))) | exact Kz rfl rfl (hK1) (Ad (Ad An)) | exact Kz rfl rfl (hK2) (Ad (Ad An)) | exact Kz rfl rfl (hK3) (Ad (Ad An)) | exact Kz rfl rfl (hK4) (Ad (Ad An)) | exact Kz rfl rfl (hM1) (Ad An) | exact Kz rfl rfl (hM2) (Ad An) | exact Kz rfl rfl (hW) (Ad (Ad An)) | exact Kz rfl rfl (hT) (Ad (Ad An)) | exact Ok.pe)) | ((first | apply Ca | (apply Cb; (· exact nxE))); (· first | exact Ok.e0)) | refine Sx ?_ | (refine Sy (fun h => ?_) (fun h => ?_) <;> try (exfalso; omega; done)) | refine Sz (fun h => ?_) (fun h => ?_))
  refine Ya ?_
  (apply Le.headZ (hs := []) [] rfl)
  all_goals (try dsimp only [srcs])
  (case' hfr => (repeat' (first | refine La ?_ ?_ | exact Lc | refine Lo ?_ | refine ⟨⟨_, rfl, ?_⟩, ?_⟩ | refine Lx ?_)))
  all_goals (first | exact Ld | exact trivial | (rfl))
end Go.Proofs.Ytdgodkpobomneaa
end

section
namespace Go.Proofs.Ytdgodkpobomneaa
set_option linter.unusedSimpArgs false
set_option linter.unusedVariables false
open Go Go.RowKit
attribute [local irreducible] AL AD AW OpOk Le AC thenQ blockQ EndQ

set_option maxRecDepth 100000 in
set_option maxHeartbeats 16000000 in
theorem fwWalkI [Mode] (code : List Int) (hbig : ¬ 4096 < (code.length : Int)) (ms ms2 A : List (List (List Int))) (x y w hw lw g z p up : List Int) (k hh lh c d f sv e : Int) (b : Bool) (B : List (List Int))
    (hBig : AC Try.prog 6 [.d (BD code)] H0 (Bo (decide (4096 < (code.length : Int)))) H0)
    (hD1 : AC Try.prog 7 [.d (BD code)] H0 (.tup [QL ms, IL x, I k]) H0)
    (hD2 : AC Try.prog 14 [.d (BD code)] H0 (.tup [QL ms2, IL y, IL w]) H0)
    (hH1 : AC Try.prog 8 [QL ms, IL x, I k] H0 (.tup [IL hw, I hh, I c]) H0)
    (hH2 : AC Try.prog 9 [QL ms, IL x, I k] H0 (.tup [IL hw, I hh, I c]) H0)
    (hL1 : AC Try.prog 10 [QL ms, IL x, I k] H0 (.tup [IL lw, I lh, I c]) H0)
    (hL2 : AC Try.prog 11 [QL ms, IL x, I k] H0 (.tup [IL lw, I lh, I c]) H0)
    (hG1 : AC Try.prog 12 [QL ms, IL x, I k] H0 (.tup [IL g, I d]) H0)
    (hG2 : AC Try.prog 13 [QL ms, IL x, I k] H0 (.tup [IL g, I d]) H0)
    (hA1 : AC Try.prog 15 [QL ms2, IL y, IL w] H0 (.tup [IL z, I f]) H0)
    (hA2 : AC Try.prog 16 [QL ms2, IL y, IL w] H0 (.tup [IL z, I f]) H0)
    (hM1 : AC Try.prog 18 [QL ms] H0 (Bo b) H0)
    (hM2 : AC Try.prog 19 [QL ms] H0 (Bo b) H0)
    (hK1 : AC Try.prog 17 [IL hw, IL hw] H0 (Bo true) H0)
    (hK2 : AC Try.prog 17 [IL lw, IL lw] H0 (Bo true) H0)
    (hK3 : AC Try.prog 17 [IL g, IL g] H0 (Bo true) H0)
    (hK4 : AC Try.prog 17 [IL z, IL z] H0 (Bo true) H0)
    (hf : f = 0) (hs : sv = 0)
    (hW : AC Try.prog 20 [QL ms2, IL w] H0 (.tup [TL B, I sv]) H0)
    (hT : AC Try.prog 21 [TL B, IL y] H0 (.tup [IL z, I 0]) H0)
    (hc : c = 0) (hd : d = 0) (hle : lh ≤ hh)
    (hS : AC Try.prog 22 [IL g] H0 (.tup [I hh, I 0]) H0)
    (hU : AC Try.prog 15 [QL ms, IL x, IL hw] H0 (.tup [IL up, I 0]) H0)
    (hO : AC Try.prog 22 [IL up] H0 (.tup [I hh, I 0]) H0) :
    AC Try.prog 3 [.d (BD code)] H0 (Bo true) H0 := by
  subst hf
  subst hs
  subst hc
  subst hd
  refine AC.of_body 0 Try.func3 rfl (fun l h => absurd rfl h) (fun C hC => ?_)
  have hD : ∀ l, ¬ C.D0 l := fun l h => (hC l).1 h rfl
  simp only [startFr, Try.ntmps3, List.length_cons, List.length_nil, Nat.reduceAdd, Nat.reduceSub, List.replicate_succ, List.replicate_zero, List.cons_append, List.nil_append]
  repeat' (first | ((first | apply Ba | (apply Bb; (· rfl); (· rfl)) | (apply Bc; (· exact nxE)) | (apply Bd; (· rfl); (· rfl); (· exact nxE))); (· first | exact Kz rfl rfl (hBig) (Ad An) | exact Kz rfl rfl (hD1) (Ad An) | exact Kz rfl rfl (hH1) (Ad (Ad (Ad An))) | exact Kz rfl rfl (hH2) (Ad (Ad (Ad An))) | exact Kz rfl rfl (hL1) (Ad (Ad (Ad An))) | exact Kz rfl rfl (hL2) (Ad (Ad (Ad An))) | exact Kz rfl rfl (hG1) (Ad (Ad (Ad An))) | exact Kz rfl rfl (hG2) (Ad (Ad (Ad An))) | exact Kz rfl rfl (hD2) (Ad An) | exact Kz rfl rfl (hA1) (Ad (Ad (Ad An))) | exact Kz rfl rfl (hA2) (Ad (Ad (Ad An))) | exact Kz rfl rfl (hK1) (Ad (Ad An)) | exact Kz rfl rfl (hK2) (Ad (Ad An)) | exact Kz rfl rfl (hK3) (Ad (Ad An)) | exact Kz rfl rfl (hK4) (Ad (Ad An)) | exact Kz rfl rfl (hM1) (Ad An) | exact Kz rfl rfl (hM2) (Ad An) | exact Kz rfl rfl (hW) (Ad (Ad An)) | exact Kz rfl rfl (hT) (Ad (Ad An)) | exact Kz rfl rfl (hS) (Ad An) | exact Kz rfl rfl (hU) (Ad (Ad (Ad An))) | exact Kz rfl rfl (hO) (Ad An) | exact Ok.pe)) | ((first | apply Ca | (apply Cb; (· exact nxE))); (· first | exact Ok.e0)) | refine Sx ?_ | (refine Sy (fun h => ?_) (fun h => ?_) <;> try (exfalso; omega; done)) | refine Sz (fun h => ?_) (fun h => ?_))
  refine Ya ?_
  (apply Le.headZ (hs := []) [] rfl)
  all_goals (try dsimp only [srcs])
  (case' hfr => (repeat' (first | refine La ?_ ?_ | exact Lc | refine Lo ?_ | refine ⟨⟨_, rfl, ?_⟩, ?_⟩ | refine Lx ?_)))
  all_goals (first | exact Ld | exact trivial | (rfl))
end Go.Proofs.Ytdgodkpobomneaa
end
