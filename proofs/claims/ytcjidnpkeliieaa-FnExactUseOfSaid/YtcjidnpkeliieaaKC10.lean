/-
  Walks in the abstract reading: the table of allowed times of the program; AllowedTimes.
-/
import Derived.Test.YtcjidnpkeliieaaKC9
namespace Go.Proofs.Ytcjidnpkeliieaa
set_option linter.unusedSimpArgs false
set_option linter.unusedVariables false
open Go Go.RowKit
attribute [local irreducible] AL AD AW OpOk Le AC thenQ blockQ EndQ

end Go.Proofs.Ytcjidnpkeliieaa
