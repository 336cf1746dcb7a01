/-
  Walks in the abstract reading: tables cloned; allowed times of the program.
-/
import Derived.Test.YtcjidnpkeliieaaKC8
import Derived.Test.YtcjidnpkeliieaaKA2
namespace Go.Proofs.Ytcjidnpkeliieaa
set_option linter.unusedSimpArgs false
set_option linter.unusedVariables false
open Go Go.RowKit
attribute [local irreducible] AL AD AW OpOk Le AC thenQ blockQ EndQ

/-! ### Tables told by a function -/
def rowF (n : Nat) (g : Nat → Int) : List Int := (List.range n).map g
def tabF (m n : Nat) (f : Nat → Nat → Int) : List (List Int) := (List.range m).map fun i => rowF n (f i)
theorem rowF_len {n : Nat} {g : Nat → Int} : (rowF n g).length = n := by simp [rowF]
theorem tabF_len {m n : Nat} {f : Nat → Nat → Int} : (tabF m n f).length = m := by simp [tabF]
theorem rowF_get {n j : Nat} {g : Nat → Int} (h : j < n) : (rowF n g)[j]? = some (g j) := by simp [rowF, h]
theorem IRF_get {n j : Nat} {g : Nat → Int} (h : j < n) : (IR (rowF n g))[j]? = some [DI (g j)] := by simp [rowF_get h]
theorem rowF_congr {n : Nat} {f g : Nat → Int} (h : ∀ j, j < n → f j = g j) : rowF n f = rowF n g := List.map_congr_left fun j hj => h j (List.mem_range.1 hj)
theorem rowF_set {n j : Nat} {g : Nat → Int} {v : Int} : (rowF n g).set j v = rowF n (fun b => if b = j then v else g b) := by
  apply List.ext_getElem?
  intro b
  rw [List.getElem?_set]
  by_cases hb : b < n
  · rw [rowF_get hb, rowF_get hb, rowF_len]
    by_cases e : j = b
    · subst e; rw [if_pos rfl, if_pos hb, if_pos rfl]
    · rw [if_neg e, if_neg (fun h => e h.symm)]
  · rw [List.getElem?_eq_none (l := rowF n g) (by rw [rowF_len]; omega), List.getElem?_eq_none (l := rowF n _) (by rw [rowF_len]; omega), rowF_len]
    split
    · rename_i e; subst e; rw [if_neg hb]
    · rfl
end Go.Proofs.Ytcjidnpkeliieaa
