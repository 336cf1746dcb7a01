/-
  Walks in the abstract reading: the law's marks of places, graphs and edits.
-/
import Derived.Test.YtcjidnpkeliieaaKB6
namespace Go.Proofs.Ytcjidnpkeliieaa
open Go Go.RowKit
set_option linter.unusedSimpArgs false
set_option linter.unusedVariables false
attribute [local irreducible] AL AD AW OpOk Le AC thenQ blockQ EndQ

end Go.Proofs.Ytcjidnpkeliieaa
