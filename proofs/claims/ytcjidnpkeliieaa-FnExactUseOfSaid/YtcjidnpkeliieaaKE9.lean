/-
  Walks in the abstract reading: FasterPlace and MoreTokens of the program.
-/
import Derived.Test.YtcjidnpkeliieaaKE5
import Derived.Test.YtcjidnpkeliieaaKE8
namespace Go.Proofs.Ytcjidnpkeliieaa
set_option linter.unusedSimpArgs false
set_option linter.unusedVariables false
open Go Go.RowKit
attribute [local irreducible] AL AD AW OpOk Le AC thenQ blockQ EndQ

theorem Wk.same {xs ys : List Pl} (hl : ys.length = xs.length) (h : ∀ i, (plA ys i).f = (plA xs i).f ∧ (plA ys i).t = (plA xs i).t) : ∀ {c : List Nat} {u v : Int}, Wk xs u c v → Wk ys u c v
  | [], _, _, hw => hw
  | i :: c, u, v, ⟨h1, h2, h3⟩ => ⟨by omega, by rw [(h i).1]; exact h2, by rw [(h i).2]; exact Wk.same hl h h3⟩
theorem Circ.same {xs ys : List Pl} (hl : ys.length = xs.length) (h : ∀ i, (plA ys i).f = (plA xs i).f ∧ (plA ys i).t = (plA xs i).t) {c : List Nat} (hc : Circ xs c) : Circ ys c := by
  have e : (c.map fun i => (plA ys i).f) = c.map fun i => (plA xs i).f := List.map_congr_left fun i _ => (h i).1
  refine ⟨hc.ne, ?_, by rw [e]; exact hc.nd, fun i hi => ?_⟩
  · have := hc.wk.same hl h
    simp only [firstF] at this ⊢
    rw [(h (hdN c)).1]
    exact this
  · have := hc.mn i hi
    simp only [firstF] at this ⊢
    rw [(h (hdN c)).1, (h i).1]
    exact this
theorem eg_no {ev : Int} {xs : List Pl} {b : Bool} (h : isEG ev xs = false) : cqC ev xs b = 1 := by
  have h1 : liveI ev xs = 1 := by unfold liveI; rw [h]; rfl
  unfold cqC codeI
  rw [h1]; simp
theorem in_no {ev : Int} {xs : List Pl} (h : isEG ev xs = true) : cqC ev xs false = 2 := by
  have h1 : liveI ev xs ≠ 1 := by unfold liveI; rw [if_pos h]; split <;> decide
  unfold cqC codeI
  rw [if_neg (by simp [h1])]; simp [h1]
theorem in_yes {ev : Int} {xs : List Pl} : cqC ev xs true = bcC ev xs := by
  unfold cqC codeI
  simp only [Bool.true_eq_false, and_false, if_false]
  by_cases h : liveI ev xs = 0
  · rw [if_pos h]
  · rw [if_neg h]; unfold bcC; rw [if_neg h]
end Go.Proofs.Ytcjidnpkeliieaa
