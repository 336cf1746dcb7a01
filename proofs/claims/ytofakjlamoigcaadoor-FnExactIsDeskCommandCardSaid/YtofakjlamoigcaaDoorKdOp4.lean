/-
  The laws' arguments, opened: firings and texts.
-/
import Derived.Test.YtofakjlamoigcaaDoorKdBr
import Derived.Test.YtofakjlamoigcaaDoorKdS6
import Derived.ChangeMaps5
namespace Go.Proofs.YtofakjlamoigcaaDoor
set_option linter.unusedSimpArgs false
set_option linter.unusedVariables false
open Go Go.RowKit Go.ChangeShapes Go.WideShapes Go.Deep Go.ChangeMaps

instance : Inhabited Fi := ⟨⟨0, 0, 0⟩⟩
section
variable {H : Type} {enc : TypeId × Value → H} {w : World} {base : Nat} {spare : Nat → Bool} {held : Bool}
set_option maxRecDepth 100000 in
theorem rdt_text {r : Reach} {b0 : Nat} {v : Value} {d : DataW H} {p : List MemPlace} (hv : Value.okWide Tryd.prog w r b0 9 v) (h : DataW.Trod enc Tryd.prog w base spare held 9 v d p) : ∃ l : List UInt8, v = .string ⟨l.toArray⟩ ∧ l.length ≤ maxLen := by
  obtain ⟨s, rfl, _, _, h1⟩ := open_string Tryd.underlying9 hv h
  exact ⟨s.data.toList, congrArg Value.string (mk_eta s), by simpa using h1⟩
end
end Go.Proofs.YtofakjlamoigcaaDoor
