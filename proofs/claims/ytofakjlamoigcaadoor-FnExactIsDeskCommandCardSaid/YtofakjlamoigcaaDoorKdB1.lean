/-
  Walks in the abstract reading: numbers in ranges, places of a graph.
-/
import Derived.Test.YtofakjlamoigcaaDoorKdA2
namespace Go.Proofs.YtofakjlamoigcaaDoor
open Go Go.RowKit
set_option linter.unusedSimpArgs false
set_option linter.unusedVariables false
attribute [local irreducible] AL AD AW OpOk Le AC thenQ blockQ EndQ

end Go.Proofs.YtofakjlamoigcaaDoor
