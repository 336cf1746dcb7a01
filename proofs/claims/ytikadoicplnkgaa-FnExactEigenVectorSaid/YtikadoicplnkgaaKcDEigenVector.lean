/-
  The law of EigenVector, in the abstract reading.
-/
import Derived.Test.YtikadoicplnkgaaKcU11
import Derived.Test.YtikadoicplnkgaaKcU6
import Derived.Test.YtikadoicplnkgaaKcA2
namespace Go.Proofs.Ytikadoicplnkgaa
set_option linter.unusedSimpArgs false
set_option linter.unusedVariables false
open Go Go.RowKit
attribute [local irreducible] AL AD AW OpOk Le AC thenQ blockQ EndQ

set_option maxHeartbeats 8000000 in
theorem lawEigenVector_ac (t : List (List Int)) (ht : t.length ≤ 9223372036854775807) (hr : ∀ r ∈ t, r.length ≤ 9223372036854775807) : AC Try.prog 4 [TL t] H0 (Bo true) H0 := by
  have hS := szInt64SS_ac t 1048576 ht hr (by omega)
  by_cases h2 : 0 ≤ szT t 1048576
  case neg =>
    refine AC.of_body 0 Try.func4 rfl (fun l h => absurd rfl h) (fun C hC => ?_)
    have hD : ∀ l, ¬ C.D0 l := fun l h => (hC l).1 h rfl
    simp only [startFr, Try.ntmps4, List.length_cons, List.length_nil, Nat.reduceAdd, Nat.reduceSub, List.replicate_succ, List.replicate_zero, List.cons_append, List.nil_append]
    repeat' (first | ((first | apply Ba | (apply Bb; (· rfl); (· rfl)) | (apply Bc; (· exact nxE)) | (apply Bd; (· rfl); (· rfl); (· exact nxE))); (· first | exact Ez rfl rfl (hS) (Sd (Sd Sn)) | exact Ok.pe)) | ((first | apply Ca | (apply Cb; (· exact nxE))); (· first | exact Ok.e0)) | refine Sx ?_ | (refine Sy (fun h => ?_) (fun h => ?_) <;> try (exfalso; omega; done)) | refine Sz (fun h => ?_) (fun h => ?_))
    refine Ya ?_
    (apply Le.headZ (hs := []) [] rfl)
    all_goals (try dsimp only [srcs])
    (case' hfr => (repeat' (first | refine La ?_ ?_ | exact Lc | refine Lo ?_ | refine ⟨⟨_, rfl, ?_⟩, ?_⟩ | refine Lx ?_)))
    all_goals (first | exact Ld | exact trivial | (rfl))
  obtain ⟨h3, h4⟩ := szT_ok h2 (by omega)
  have h5 : ∀ r ∈ t, r.length ≤ 100000000 := fun r h => by have := h4 r h; omega
  have hSp := sEigenVector_ac t (by omega) h5
  have hI := iEigenVector_ac t (by omega) h5
  have hol := evX_len (t := t)
  generalize evX t = out at *
  generalize evR t = m at *
  refine AC.of_body 0 Try.func4 rfl (fun l h => absurd rfl h) (fun C hC => ?_)
  have hD : ∀ l, ¬ C.D0 l := fun l h => (hC l).1 h rfl
  simp only [startFr, Try.ntmps4, List.length_cons, List.length_nil, Nat.reduceAdd, Nat.reduceSub, List.replicate_succ, List.replicate_zero, List.cons_append, List.nil_append]
  repeat' (first | ((first | apply Ba | (apply Bb; (· rfl); (· rfl)) | (apply Bc; (· exact nxE)) | (apply Bd; (· rfl); (· rfl); (· exact nxE))); (· first | exact Ez rfl rfl (hS) (Sd (Sd Sn)) | exact Zf rfl rfl (hSp) (Sm Sn) | exact Ez rfl rfl (eqRatio_ac _ _) (Sa (Sd (Sd Sn)) (Sa (Sd (Sd Sn)) Sn)) | exact Ez rfl rfl (eqInt64S_ac out (by omega)) (Sw (Sd Sn)) | exact Ez rfl rfl (eqInt64SS_ac t (by omega) h5) (Sm (Sm Sn)) | exact Ez rfl rfl (heldInt64S_ac out.length _ (by omega) (by omega)) (Sw (Sd Sn)) | exact Tb rfl rfl (toInt64SS_ac t h3 h4) (Sd Sn) | exact Eo rfl rfl (hI) (Sm Sn) | exact Ok.cT rfl rfl rfl rfl (markInt64SS_ac t _ h3 h4 (by omega)) ⟨rfl, fun i x hx => congrArg (Option.map (dobj 1)) hx⟩ (by first | rfl | assumption | (simp [mkAt_len]; done)) rfl | exact OpOk.callM rfl rfl (markInts_ac out _ (by omega) (by omega)) rfl rfl (.cons (.own _ _ _ _ rfl) (.cons (.dd _) .nil)) | exact Ok.pe)) | ((first | apply Ca | (apply Cb; (· exact nxE))); (· first | exact Tb rfl rfl (toInt64SS_ac t h3 h4) (Sd Sn) | exact Eo rfl rfl (hI) (Sm Sn) | exact Ok.cT rfl rfl rfl rfl (markInt64SS_ac t _ h3 h4 (by omega)) ⟨rfl, fun i x hx => congrArg (Option.map (dobj 1)) hx⟩ (by first | rfl | assumption | (simp [mkAt_len]; done)) rfl | exact OpOk.callM rfl rfl (markInts_ac out _ (by omega) (by omega)) rfl rfl (.cons (.own _ _ _ _ rfl) (.cons (.dd _) .nil)) | exact Ok.e0)) | refine Sx ?_ | (refine Sy (fun h => ?_) (fun h => ?_) <;> try (exfalso; omega; done)) | refine Sz (fun h => ?_) (fun h => ?_))
  all_goals
    refine Ya ?_
    (apply Le.headZ (hs := []) [] rfl)
    all_goals (try dsimp only [srcs])
    (case' hfr => (repeat' (first | refine La ?_ ?_ | exact Lc | refine Lo ?_ | refine ⟨⟨_, rfl, ?_⟩, ?_⟩ | refine Lx ?_)))
    all_goals (first | exact Ld | exact trivial | (rfl))
end Go.Proofs.Ytikadoicplnkgaa
