/-
  The law of WorstRate, in the abstract reading.
-/
import Derived.Test.YtikadoicplnkgaaKcE54
import Derived.Test.YtikadoicplnkgaaKcU11
import Derived.Test.YtikadoicplnkgaaKcU6
import Derived.Test.YtikadoicplnkgaaKcA2
namespace Go.Proofs.Ytikadoicplnkgaa
set_option linter.unusedSimpArgs false
set_option linter.unusedVariables false
open Go Go.RowKit
attribute [local irreducible] AL AD AW OpOk Le AC thenQ blockQ EndQ

set_option maxHeartbeats 8000000 in
theorem lawWorstRate_ac (ms : List (List (List Int))) (hm : ms.length ≤ 9223372036854775807) (ht : ∀ t ∈ ms, t.length ≤ 9223372036854775807) (hr : ∀ t ∈ ms, ∀ r ∈ t, r.length ≤ 9223372036854775807) : AC Try.prog 6 [QL ms] H0 (Bo true) H0 := by
  have hS := szInt64SSS_ac ms 1048576 hm ht hr (by omega)
  by_cases h2 : 0 ≤ szQ ms 1048576
  case neg =>
    refine AC.of_body 0 Try.func6 rfl (fun l h => absurd rfl h) (fun C hC => ?_)
    have hD : ∀ l, ¬ C.D0 l := fun l h => (hC l).1 h rfl
    simp only [startFr, Try.ntmps6, List.length_cons, List.length_nil, Nat.reduceAdd, Nat.reduceSub, List.replicate_succ, List.replicate_zero, List.cons_append, List.nil_append]
    repeat' (first | ((first | apply Ba | (apply Bb; (· rfl); (· rfl)) | (apply Bc; (· exact nxE)) | (apply Bd; (· rfl); (· rfl); (· exact nxE))); (· first | exact Ez rfl rfl (hS) (Sd (Sd Sn)) | exact Ok.pe)) | ((first | apply Ca | (apply Cb; (· exact nxE))); (· first | exact Ok.e0)) | refine Sx ?_ | (refine Sy (fun h => ?_) (fun h => ?_) <;> try (exfalso; omega; done)) | refine Sz (fun h => ?_) (fun h => ?_))
    refine Ya ?_
    (apply Le.headZ (hs := []) [] rfl)
    all_goals (try dsimp only [srcs])
    (case' hfr => (repeat' (first | refine La ?_ ?_ | exact Lc | refine Lo ?_ | refine ⟨⟨_, rfl, ?_⟩, ?_⟩ | refine Lx ?_)))
    all_goals (first | exact Ld | exact trivial | (rfl))
  obtain ⟨h3, h4, h5⟩ := szQ_ok h2 (by omega)
  have hMs : MsOk ms := ⟨by omega, fun t h => by have := h4 t h; omega, fun t h r h' => by have := h5 t h r h'; omega⟩
  have hT := toInt64SSS_ac ms h3 h4 h5
  have hE := eqInt64SSS_ac ms hMs
  have hSp := sWorstRate_ac ms hMs
  have hI := iWorstRate_ac ms hMs
  generalize wrR ms = m at *
  generalize wrC ms = c at *
  refine AC.of_body 0 Try.func6 rfl (fun l h => absurd rfl h) (fun C hC => ?_)
  have hD : ∀ l, ¬ C.D0 l := fun l h => (hC l).1 h rfl
  simp only [startFr, Try.ntmps6, List.length_cons, List.length_nil, Nat.reduceAdd, Nat.reduceSub, List.replicate_succ, List.replicate_zero, List.cons_append, List.nil_append]
  repeat' (first | ((first | apply Ba | (apply Bb; (· rfl); (· rfl)) | (apply Bc; (· exact nxE)) | (apply Bd; (· rfl); (· rfl); (· exact nxE))); (· first | exact Kz rfl rfl (hS) (Ad (Ad An)) | exact Kz rfl rfl (hT) (Ad An) | exact Kz rfl rfl (hSp) (Ad An) | exact Kz rfl rfl (hI) (Ad An) | exact Kz rfl rfl (eqRatio_ac _ _) (Aa (Ad (Ad An)) (Aa (Ad (Ad An)) An)) | exact Kz rfl rfl (hE) (Ad (Ad An)) | exact Ok.pe)) | ((first | apply Ca | (apply Cb; (· exact nxE))); (· first | exact Ok.e0)) | refine Sx ?_ | (refine Sy (fun h => ?_) (fun h => ?_) <;> try (exfalso; omega; done)) | refine Sz (fun h => ?_) (fun h => ?_))
  all_goals
    refine Ya ?_
    (apply Le.headZ (hs := []) [] rfl)
    all_goals (try dsimp only [srcs])
    (case' hfr => (repeat' (first | refine La ?_ ?_ | exact Lc | refine Lo ?_ | refine ⟨⟨_, rfl, ?_⟩, ?_⟩ | refine Lx ?_)))
    all_goals (first | exact Ld | exact trivial | (rfl))
end Go.Proofs.Ytikadoicplnkgaa
