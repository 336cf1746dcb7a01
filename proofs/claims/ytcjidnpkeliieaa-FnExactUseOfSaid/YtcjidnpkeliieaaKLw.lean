/-
  Walks in the abstract reading: the laws' sizes and tests of graphs.
-/
import Derived.Test.YtcjidnpkeliieaaKB7
namespace Go.Proofs.Ytcjidnpkeliieaa
set_option linter.unusedSimpArgs false
set_option linter.unusedVariables false
open Go Go.RowKit
attribute [local irreducible] AL AD AW OpOk Le AC thenQ blockQ EndQ

theorem szEG_ok (ev : Int) (xs : List Pl) (left : Int) (hl : 0 ≤ left ∧ left ≤ 1048576) (h : xs.length ≤ left) : AC Try.prog 15 [grD ev xs, I left] H0 (I (left - xs.length)) H0 := by
  have := szEventGraph_ac ev xs left (by omega) hl
  rwa [if_neg (by omega)] at this
theorem szEG_no (ev : Int) (xs : List Pl) (left : Int) (hn : xs.length ≤ 9223372036854775807) (hl : 0 ≤ left ∧ left ≤ 1048576) (h : ¬ xs.length ≤ left) : AC Try.prog 15 [grD ev xs, I left] H0 (I (-1)) H0 := by
  have := szEventGraph_ac ev xs left hn hl
  rwa [if_pos (by omega)] at this
theorem eqEG_refl (ev : Int) (xs : List Pl) (h : xs.length ≤ 100000000) : AC Try.prog 20 [grD ev xs, grD ev xs] H0 (Bo true) H0 := by
  have := eqEventGraph_ac ev ev xs xs h h
  rwa [decide_eq_true ⟨rfl, rfl⟩] at this
end Go.Proofs.Ytcjidnpkeliieaa
