/-
  Plain law: a firing order exists exactly if there is no cycle.
-/
import Derived.Test.YtofakjlamoigcaaDoorKdG1
namespace Go.Proofs.YtofakjlamoigcaaDoor
set_option linter.unusedSimpArgs false
set_option linter.unusedVariables false

/-! ### Firing orders -/
structure OrdOk (w : Nat → Nat → Bool) (n : Nat) (ord : List Nat) : Prop where
  nd : ord.Nodup
  lt : ∀ x ∈ ord, x < n
  wait : ∀ i, i < ord.length → ∀ u, u < n → w (ord.getD i 0) u = true → u ∈ ord.take i
theorem OrdOk.nil {w : Nat → Nat → Bool} {n : Nat} : OrdOk w n [] := ⟨List.nodup_nil, fun x h => (by cases h), fun i h => (by simp at h)⟩
end Go.Proofs.YtofakjlamoigcaaDoor
