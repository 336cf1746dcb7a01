/-
  Walks in the abstract reading: ChainAfter by the reference; a firing handed over.
-/
import Derived.Test.YtofakjlamoigcaaDoorKdS6
namespace Go.Proofs.YtofakjlamoigcaaDoor
set_option linter.unusedSimpArgs false
set_option linter.unusedVariables false
open Go Go.RowKit
attribute [local irreducible] AL AD AW OpOk Le AC thenQ blockQ EndQ

section
variable {P : Program} {o : Oper} {A : Operand → AV} {H : Heap} {new : Nat} {t t' : TypeId} {x y : Operand} {a : List UInt8}
end
end Go.Proofs.YtofakjlamoigcaaDoor
