/-
  Walks in the abstract reading: slices.Clone of places, cloneGraph.
-/
import Derived.Test.YtcjidnpkeliieaaKA2
import Derived.Test.YtcjidnpkeliieaaKB3
namespace Go.Proofs.Ytcjidnpkeliieaa
open Go Go.RowKit
set_option linter.unusedSimpArgs false
set_option linter.unusedVariables false
attribute [local irreducible] AL AD AW OpOk Le AC thenQ blockQ EndQ

end Go.Proofs.Ytcjidnpkeliieaa
