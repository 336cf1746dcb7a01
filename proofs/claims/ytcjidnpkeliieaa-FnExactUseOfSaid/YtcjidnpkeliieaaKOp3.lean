/-
  The laws' arguments, opened: structs.
-/
import Derived.Test.YtcjidnpkeliieaaKOp2
namespace Go.Proofs.Ytcjidnpkeliieaa
set_option linter.unusedSimpArgs false
set_option linter.unusedVariables false
open Go.RowKit Go.ChangeShapes Go.WideShapes Go.Deep

section
variable {H : Type} {enc : TypeId × Value → H} {w : World} {base : Nat} {spare : Nat → Bool} {held : Bool}
theorem get_some2 {α : Type} {xs : List α} {n i : Nat} (h : xs.length = n) (hi : i < n) : ∃ y, xs[i]? = some y := ⟨_, List.getElem?_eq_getElem (h ▸ hi)⟩
theorem fldD {t : TypeId} {S : List D → Prop} {fuel off n : Nat} {cs : List Value} {r : Option (DataW H × List MemPlace)} (hrd : Rd enc w base spare held t S) (hc : Try.prog.cellsOf t = n) (hr : ∃ y, r = some y) (h : DataW.trod enc Try.prog w base spare held fuel t ((cs.drop off).take (Try.prog.cellsOf t)) = r) : ∃ r, S r ∧ RdRow w r ((cs.drop off).take n) := by
  obtain ⟨y, rfl⟩ := hr
  rw [hc] at h
  exact hrd h
theorem rdc_place : Rd enc w base spare held 132 (fun r => ∃ p : Pl, True ∧ r = p.row) := fun {fuel cs x} h => by
  obtain ⟨xs, n, _, _, hl, hx, hf⟩ := DataW.trod_struct Try.underlying132 h
  rw [show Try.prog.cellsOf 132 = 4 by kernel_rfl] at hl
  obtain ⟨_, ⟨a, ha, rfl⟩, r0⟩ := fldD (off := 0) rdc_int (by kernel_rfl) (get_some2 hx (by decide)) (hf 0 _ rfl)
  obtain ⟨_, ⟨b, hb, rfl⟩, r1⟩ := fldD (off := 1) rdc_int (by kernel_rfl) (get_some2 hx (by decide)) (hf 1 _ rfl)
  obtain ⟨_, ⟨c, hc, rfl⟩, r2⟩ := fldD (off := 2) rdc_int (by kernel_rfl) (get_some2 hx (by decide)) (hf 2 _ rfl)
  obtain ⟨_, ⟨d, hd, rfl⟩, r3⟩ := fldD (off := 3) rdc_int (by kernel_rfl) (get_some2 hx (by decide)) (hf 3 _ rfl)
  have hfin := RdRow.cut r0 (.cutD (m := 1) (n := 1) (k := 2) rfl r1 (.cutD (m := 2) (n := 1) (k := 3) rfl r2 (.cutD (m := 3) (n := 1) (k := 4) rfl r3 (.endD hl))))
  exact ⟨_, ⟨⟨a, b, c, d⟩, trivial, rfl⟩, hfin⟩
theorem rdc_places : Rd enc w base spare held 22 (fun r => ∃ xs : List Pl, xs.length ≤ maxLen ∧ (∀ x ∈ xs, True) ∧ r = [.sl 4 (xs.map Pl.row)]) :=
  rdc_recs (row := Pl.row) (k := 4) (by kernel_rfl) (by kernel_rfl) (by decide) (fun _ => rfl) (rdc_place)
theorem rdc_graph : Rd enc w base spare held 24 (fun r => ∃ (ev : Int) (ps : List Pl), i64 ev ∧ ps.length ≤ maxLen ∧ r = [DI ev, .sl 4 (ps.map Pl.row)]) := fun {fuel cs x} h => by
  obtain ⟨xs, n, _, _, hl, hx, hf⟩ := DataW.trod_struct Try.underlying24 h
  rw [show Try.prog.cellsOf 24 = 2 by kernel_rfl] at hl
  obtain ⟨_, ⟨a, ha, rfl⟩, r0⟩ := fldD (off := 0) rdc_int (by kernel_rfl) (get_some2 hx (by decide)) (hf 0 _ rfl)
  obtain ⟨_, ⟨ps, hp, _, rfl⟩, r1⟩ := fldD (off := 1) rdc_places (by kernel_rfl) (get_some2 hx (by decide)) (hf 1 _ rfl)
  have hfin := RdRow.cut r0 (.cutD (m := 1) (n := 1) (k := 2) rfl r1 (.endD hl))
  exact ⟨_, ⟨a, ps, ha, hp, rfl⟩, hfin⟩
end
end Go.Proofs.Ytcjidnpkeliieaa
