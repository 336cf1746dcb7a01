/-
  The laws' arguments, opened: what a place, an edit, a graph reads as.
-/
import Derived.Test.YtofakjlamoigcaaDoorProg
import Derived.Test.YtofakjlamoigcaaDoorKdA1
import Derived.ProofKit
import Derived.Deep.Slices
namespace Go.Proofs.YtofakjlamoigcaaDoor
set_option linter.unusedSimpArgs false
set_option linter.unusedVariables false
open Go.RowKit Go.ChangeShapes Go.WideShapes Go.Deep

section
variable {H : Type} {enc : TypeId × Value → H} {w : World} {base : Nat} {spare : Nat → Bool} {held : Bool} {fuel : Nat} {cs : List Value} {x : DataW H × List MemPlace}
end
end Go.Proofs.YtofakjlamoigcaaDoor
