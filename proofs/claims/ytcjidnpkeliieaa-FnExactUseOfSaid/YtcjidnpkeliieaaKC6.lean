/-
  Walks in the abstract reading: allowed times of the reference.
-/
import Derived.Test.YtcjidnpkeliieaaKC5
namespace Go.Proofs.Ytcjidnpkeliieaa
set_option linter.unusedSimpArgs false
set_option linter.unusedVariables false
open Go Go.RowKit
attribute [local irreducible] AL AD AW OpOk Le AC thenQ blockQ EndQ

/-- A table of m rows of n numbers each. -/
structure Rc (t : List (List Int)) (m n : Nat) : Prop where
  l : t.length = m
  r : ∀ r ∈ t, r.length = n
theorem Rc.get {t : List (List Int)} {m n i j : Nat} (h : Rc t m n) (hi : i < m) (hj : j < n) : ∃ r, t[i]? = some r ∧ r[j]? = some (entN t i j) ∧ r.length = n := by
  have h1 : i < t.length := by rw [h.l]; exact hi
  have h2 := h.r t[i] (List.getElem_mem h1)
  refine ⟨t[i], List.getElem?_eq_getElem h1, ?_, h2⟩
  unfold entN
  rw [List.getElem?_eq_getElem h1, Option.getD_some, List.getElem?_eq_getElem (by rw [h2]; exact hj), Option.getD_some]
def alS (t : List (List Int)) (r e : Nat) (a : Int × Int) (p : Pl) (i : Nat) : Int × Int :=
  if p.t = e ∧ p.k + 1 ≤ r then (if a.1 < entN t (r - 1 - p.k.toNat) p.f.toNat + p.d ∨ (entN t (r - 1 - p.k.toNat) p.f.toNat + p.d = a.1 ∧ a.2 < 0) then (entN t (r - 1 - p.k.toNat) p.f.toNat + p.d, (i : Int)) else a) else a
/-- The allowed time and the place that gives it, off the first k places. -/
def alA (t : List (List Int)) (r e : Nat) (xs : List Pl) : Nat → Int × Int
  | 0 => (0, -1)
  | k + 1 => match xs[k]? with
    | some p => alS t r e (alA t r e xs k) p k
    | none => alA t r e xs k
end Go.Proofs.Ytcjidnpkeliieaa
