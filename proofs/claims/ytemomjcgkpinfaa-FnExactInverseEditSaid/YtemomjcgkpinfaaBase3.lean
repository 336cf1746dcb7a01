/-
  Plain facts, more: whole blocks.
-/
import Derived.Test.YtemomjcgkpinfaaBase2
namespace Go.Proofs.Ytemomjcgkpinfaa
open Go.RowKit

/-- Block g of w holds the cells cs, and is not frozen. -/
def Box (w : World) (g : Nat) (T : TypeId) (cs : List Value) : Prop := w.heap[g]? = some (.cells cs.toArray T (0, 0))
theorem Box.lt {w : World} {g : Nat} {T : TypeId} {cs : List Value} (h : Box w g T cs) : g < w.heap.size := (Array.getElem?_eq_some_iff.1 h).1
theorem Box.cell {w : World} {g : Nat} {T : TypeId} {cs : List Value} (h : Box w g T cs) (j : Nat) {v : Value} (hv : cs[j]? = some v) : w.cell? ⟨g, j, none⟩ = some v := by
  have : w.heap[g]? = some (.cells cs.toArray T (0, 0)) := h
  simp [World.cell?, this, hv]
theorem Box.free {w : World} {g : Nat} {T : TypeId} {cs : List Value} (h : Box w g T cs) (j : Nat) : w.frozen? ⟨g, j, none⟩ = false := by
  have : w.heap[g]? = some (.cells cs.toArray T (0, 0)) := h
  simp [World.frozen?, this]
theorem Box.stay {w w' : World} {g : Nat} {T : TypeId} {cs : List Value} (h : Box w g T cs) (hb : Below w.heap.size w w') : Box w' g T cs := (hb.block g h.lt).trans h
theorem Box.alloc {w : World} {g : Nat} {T : TypeId} {cs : List Value} (h : Box w g T cs) (o : Obj) : Box (w.alloc o) g T cs := h.stay ((Below.refl _ _).alloc (Nat.le_refl _) o)
theorem Box.drew {w : World} {g : Nat} {T : TypeId} {cs : List Value} (h : Box w g T cs) : Box w.drew g T cs := h
theorem Box.new (w : World) (T : TypeId) (cs : List Value) : Box (w.alloc (.cells cs.toArray T)) w.heap.size T cs := Go.heap_alloc_new w _
theorem Box.set {w : World} {g : Nat} {T : TypeId} {cs : List Value} (h : Box w g T cs) (j : Nat) (v : Value) : Box (w.setCell ⟨g, j, none⟩ v) g T (cs.set j v) := by
  have h' : w.heap[g]? = some (.cells cs.toArray T (0, 0)) := h
  show (w.setCell ⟨g, j, none⟩ v).heap[g]? = _
  simp [World.setCell, Array.getElem?_modify, h']
theorem Box.far {w : World} {g : Nat} {T : TypeId} {cs : List Value} {a : Addr} {v : Value} (h : Box w g T cs) (hne : g ≠ a.block) : Box (w.setCell a v) g T cs := by
  show (w.setCell a v).heap[g]? = _
  rw [Below.heap_setCell _ _ _ _ hne]; exact h
theorem Box.grown {w w' : World} {g : Nat} {T : TypeId} {cs : List Value} {r : Option Nat} (h : Box w g T cs) (hg : w.grownBy w' r) (hne : r ≠ some g) : Box w' g T cs :=
  (hg.block g h.lt (fun e => hne e.symm)).trans h
/-- Behind a call in whose world a box had just been laid. -/
theorem box_of {w w' : World} {T : TypeId} {cs : List Value} (hb : Below (w.alloc (.cells cs.toArray T)).heap.size (w.alloc (.cells cs.toArray T)) w') : Box w' w.heap.size T cs := (Box.new w T cs).stay hb
end Go.Proofs.Ytemomjcgkpinfaa
