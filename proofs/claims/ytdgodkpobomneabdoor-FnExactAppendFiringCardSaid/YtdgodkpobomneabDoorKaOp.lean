/-
  The laws' arguments, opened: what a place, an edit, a graph reads as.
-/
import Derived.Test.YtdgodkpobomneabDoorProg
import Derived.Test.YtdgodkpobomneabDoorKaA1
import Derived.ProofKit
import Derived.Deep.Slices
namespace Go.Proofs.YtdgodkpobomneabDoor
set_option linter.unusedSimpArgs false
set_option linter.unusedVariables false
open Go.RowKit Go.ChangeShapes Go.WideShapes Go.Deep

section
variable {H : Type} {enc : TypeId × Value → H} {w : World} {base : Nat} {spare : Nat → Bool} {held : Bool} {fuel : Nat} {cs : List Value} {x : DataW H × List MemPlace}
theorem c_int64 : Tryd.prog.cellsOf 2 = 1 := by kernel_rfl
/-- A field that is an integer: its cell. -/
theorem fld {cs : List Value} {off : Nat} {r : Option (DataW H × List MemPlace)} (hr : ∃ y, r = some y) (h : DataW.trod enc Tryd.prog w base spare held fuel 2 ((cs.drop off).take (Tryd.prog.cellsOf 2)) = r) : ∃ n : Int, cs[off]? = some (.int .i64 n) := by
  obtain ⟨y, rfl⟩ := hr
  obtain ⟨n, e, _⟩ := DataW.trod_int Tryd.underlying2 h
  rw [c_int64] at e
  refine ⟨n, ?_⟩
  have : (cs.drop off)[0]? = some (.int .i64 n) := by
    have h1 : ((cs.drop off).take 1)[0]? = some (.int .i64 n) := by rw [e]; rfl
    rw [List.getElem?_take] at h1
    simpa using h1
  simpa using this
theorem get_some {α : Type} {xs : List α} {n i : Nat} (h : xs.length = n) (hi : i < n) : ∃ y, xs[i]? = some y := ⟨_, List.getElem?_eq_getElem (h ▸ hi)⟩
set_option maxRecDepth 100000 in
/-- A struct by value. -/
theorem rd_agg {r : Reach} {b0 : Nat} {t : TypeId} {fs : Array Field} {v : Value} {d : DataW H} {p : List MemPlace} (ht : Tryd.prog.underlying t = some (.struct fs)) (hv : Value.okWide Tryd.prog w r b0 t v) (h : DataW.Trod enc Tryd.prog w base spare held t v d p) :
    ∃ (cs : List Value) (fuel : Nat), v = .agg cs.toArray ∧ DataW.trod enc Tryd.prog w base spare held fuel t cs = some (d, p) := by
  obtain ⟨cs, rfl, _⟩ := okWide_struct ht hv
  obtain ⟨fuel, hf⟩ := h
  exact ⟨cs.toList, fuel, by simp, by simpa [Value.cells] using hf⟩
end
end Go.Proofs.YtdgodkpobomneabDoor
