/-
  Walks in the abstract reading: FasterPlace and MoreTokens of the reference.
-/
import Derived.Test.YtcjidnpkeliieaaKE4
namespace Go.Proofs.Ytcjidnpkeliieaa
set_option linter.unusedSimpArgs false
set_option linter.unusedVariables false
open Go Go.RowKit
attribute [local irreducible] AL AD AW OpOk Le AC thenQ blockQ EndQ

theorem codeI_ok {ev : Int} {xs : List Pl} {b : Bool} (h : codeI ev xs b = 0) : liveI ev xs = 0 ∧ b = true := by
  unfold codeI at h
  cases b with
  | true => simpa using h
  | false =>
    by_cases h1 : liveI ev xs = 1
    · simp [h1] at h
    · simp [h1] at h
theorem cqC_ok {ev : Int} {xs : List Pl} {b : Bool} (h : cqC ev xs b = 0) : liveI ev xs = 0 ∧ b = true ∧ bcC ev xs = 0 := by
  unfold cqC at h
  by_cases h1 : codeI ev xs b = 0
  · rw [if_pos h1] at h
    exact ⟨(codeI_ok h1).1, (codeI_ok h1).2, h⟩
  · rw [if_neg h1] at h; exact absurd h h1
end Go.Proofs.Ytcjidnpkeliieaa
