/-
  Walks in the abstract reading: the law's sizes and copies of graphs.
-/
import Derived.Test.YtofakjlamoigcaaDoorKdB1
namespace Go.Proofs.YtofakjlamoigcaaDoor
open Go Go.RowKit
set_option linter.unusedSimpArgs false
set_option linter.unusedVariables false
attribute [local irreducible] AL AD AW OpOk Le AC thenQ blockQ EndQ

abbrev own1 (k n : Nat) : AV := .own k ⟨0, []⟩ 0 n
abbrev hp1 (o : AObj) : Heap := upd H0 ⟨0, []⟩ (some o)
end Go.Proofs.YtofakjlamoigcaaDoor
