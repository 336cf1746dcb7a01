/-
  Walks in the abstract reading: the text of an edit by both sides.
-/
import Derived.Test.YtofakjlamoigcaaDoorKdS1
namespace Go.Proofs.YtofakjlamoigcaaDoor
set_option linter.unusedSimpArgs false
set_option linter.unusedVariables false
open Go Go.RowKit
attribute [local irreducible] AL AD AW OpOk Le AC thenQ blockQ EndQ

theorem itoa_pos [Mode] {n : Int} (h : 0 ≤ n) : Lib.itoa n = dec n.toNat := by rw [Lib.itoa, if_neg (by omega)]
end Go.Proofs.YtofakjlamoigcaaDoor
