/-
  The laws' arguments, opened: firings and texts.
-/
import Derived.Test.YtdgodkpobomneabDoorKaBr
import Derived.Test.YtdgodkpobomneabDoorKaS6
import Derived.ChangeMaps5
namespace Go.Proofs.YtdgodkpobomneabDoor
set_option linter.unusedSimpArgs false
set_option linter.unusedVariables false
open Go Go.RowKit Go.ChangeShapes Go.WideShapes Go.Deep Go.ChangeMaps

instance : Inhabited Fi := ⟨⟨0, 0, 0⟩⟩
section
variable {H : Type} {enc : TypeId × Value → H} {w : World} {base : Nat} {spare : Nat → Bool} {held : Bool}
set_option maxRecDepth 100000 in
theorem rd_firing {fuel : Nat} {cs : List Value} {x : DataW H × List MemPlace} (h : DataW.trod enc Tryd.prog w base spare held fuel 23 cs = some x) : ∃ f : Fi, cs = f.enc := by
  obtain ⟨xs, n, _, _, hl, hx, hf⟩ := DataW.trod_struct Tryd.underlying23 h
  rw [show Tryd.prog.cellsOf 23 = 3 by kernel_rfl] at hl
  obtain ⟨a, ha⟩ := fld (get_some hx (by decide)) (hf 0 _ rfl)
  obtain ⟨b, hb⟩ := fld (get_some hx (by decide)) (hf 1 _ rfl)
  obtain ⟨c, hc⟩ := fld (get_some hx (by decide)) (hf 2 _ rfl)
  match cs, hl with
  | [c0, c1, c2], _ =>
    simp at ha hb hc
    subst ha hb hc
    exact ⟨⟨a, b, c⟩, rfl⟩
set_option maxRecDepth 100000 in
theorem rdt_text {r : Reach} {b0 : Nat} {v : Value} {d : DataW H} {p : List MemPlace} (hv : Value.okWide Tryd.prog w r b0 9 v) (h : DataW.Trod enc Tryd.prog w base spare held 9 v d p) : ∃ l : List UInt8, v = .string ⟨l.toArray⟩ ∧ l.length ≤ maxLen := by
  obtain ⟨s, rfl, _, _, h1⟩ := open_string Tryd.underlying9 hv h
  exact ⟨s.data.toList, congrArg Value.string (mk_eta s), by simpa using h1⟩
end
theorem vr_firing {ι : Iota} {F : Nat → Prop} {w : World} {f : Fi} : VR ι F w f.av (.agg #[.int .i64 f.e, .int .i64 f.n, .int .i64 f.t]) := VRs.agg (.cons (.d (.v _)) (.cons (.d (.v _)) (.cons (.d (.v _)) .nil)))
end Go.Proofs.YtdgodkpobomneabDoor
