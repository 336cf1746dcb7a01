/-
  From the abstract reading back to the machine: a law that answers true in it answers true, and leaves what was there.
-/
import Derived.Test.YtofakjlamoigcaaDoorKdOp
import Derived.Test.YtofakjlamoigcaaDoorKdA2
namespace Go.Proofs.YtofakjlamoigcaaDoor
open Go Go.RowKit
set_option linter.unusedSimpArgs false
set_option linter.unusedVariables false

theorem AC.below [Mode] {P : Program} {f : FuncId} {args : List AV} {vs : List Value} {w : World} (h : AC P f args H0 (Bo true) H0) (hv : VRs (fun _ => none) (fun b => b < w.heap.size) w args vs) (hg : Mode.good w := by exact True.intro) : Calls P f vs.toArray w fun r w' => r = .returned (.bool true) ∧ Below w.heap.size w w' := by
  refine (h (fun _ => none) (fun b => b < w.heap.size) w vs ⟨fun l o h => (by cases h), fun l l' b s s' h => absurd rfl h, fun l b s h => absurd rfl h, fun b h => h, Glb.begin hg⟩ (fun _ _ => rfl) hv).mono ?_
  rintro e w' ⟨v, ι', F', rfl, hr, _, hst, _⟩
  have := hr.v_inv
  subst this
  exact ⟨rfl, hst.os, hst.tape, hst.output, hst.size, fun b hb => hst.block b hb fun ⟨l, hl, _⟩ => absurd rfl hl⟩
theorem cell_lt [Mode] {w : World} {a : Addr} {v : Value} (h : w.cell? a = some v) : a.block < w.heap.size := by
  refine Nat.lt_of_not_le fun hn => ?_
  have hb : w.heap[a.block]? = none := by simp [hn]
  simp [World.cell?, hb] at h
theorem SlR.vr [Mode] {ι : Iota} {α : Type} {k : Nat} {enc : α → List Value} {row : α → List D} (hrow : ∀ x, row x = (enc x).map .v) {w : World} {a : Option Addr} {xs : List α} {cap : Nat} (h : SlR w k enc a xs) (hc : xs.length ≤ cap) : VR ι (fun b => b < w.heap.size) w (.d (.sl k (xs.map row))) (.slice a xs.length cap) := by
  have hl : (xs.map row).length = xs.length := by simp
  rw [← hl]
  have key : ∀ (i : Nat) r (j : Nat) c, (xs.map row)[i]? = some r → r[j]? = some c → ∃ x v, xs[i]? = some x ∧ (enc x)[j]? = some v ∧ c = D.v v := fun (i : Nat) r (j : Nat) c hr hc => by
    simp only [List.getElem?_map, Option.map_eq_some_iff] at hr
    obtain ⟨x, hx, rfl⟩ := hr
    rw [hrow] at hc
    simp only [List.getElem?_map, Option.map_eq_some_iff] at hc
    obtain ⟨v, hv, rfl⟩ := hc
    exact ⟨x, v, hx, hv, rfl⟩
  refine .d (.sl k _ a cap (fun i j => ((xs[i]?).bind fun x => (enc x)[j]?).getD undef) (by rw [hl]; exact hc) (fun i r j c hr hc => ?_) (fun i r j c hr hc => ?_))
  · obtain ⟨x, v, hx, hv, rfl⟩ := key i r j c hr hc
    obtain ⟨b, off, e, hcell⟩ := h i x hx
    have h1 := hcell j v hv
    exact ⟨b, off, e, cell_lt h1, by simp only [hx, Option.bind_some, hv, Option.getD_some]; exact h1⟩
  · obtain ⟨x, v, hx, hv, rfl⟩ := key i r j c hr hc
    simp only [hx, Option.bind_some, hv, Option.getD_some]
    exact .v v
end Go.Proofs.YtofakjlamoigcaaDoor
