/-
  Walks in the abstract reading: the table of allowed times of the program; AllowedTimes.
-/
import Derived.Test.YtlgejkkbnpjeoaaKC9
namespace Go.Proofs.Ytlgejkkbnpjeoaa
set_option linter.unusedSimpArgs false
set_option linter.unusedVariables false
open Go Go.RowKit
attribute [local irreducible] AL AD AW OpOk Le AC thenQ blockQ EndQ

end Go.Proofs.Ytlgejkkbnpjeoaa
