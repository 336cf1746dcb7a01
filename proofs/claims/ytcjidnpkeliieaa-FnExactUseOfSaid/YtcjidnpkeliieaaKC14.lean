/-
  Plain law: the first place that gives an allowed time; causes of firings end.
-/
import Derived.Test.YtcjidnpkeliieaaKC10
namespace Go.Proofs.Ytcjidnpkeliieaa
set_option linter.unusedSimpArgs false
set_option linter.unusedVariables false
open Go Go.RowKit
attribute [local irreducible] AL AD AW OpOk Le AC thenQ blockQ EndQ

def okP (r e : Nat) (p : Pl) : Prop := p.t = e ∧ p.k + 1 ≤ r
instance {r e : Nat} {p : Pl} : Decidable (okP r e p) := by unfold okP; exact inferInstance
/-! ### Causes -/
/-- Does a cause end at this firing? -/
def stopC (t : List (List Int)) (xs : List Pl) (r e : Nat) : Prop := (alA t r e xs xs.length).2 < 0 ∨ (alA t r e xs xs.length).1 < entN t (r - 1) e
instance {t : List (List Int)} {xs : List Pl} {r e : Nat} : Decidable (stopC t xs r e) := by unfold stopC; exact inferInstance
theorem ord_idx {n : Nat} {xs : List Pl} {ord : List Nat} (h : ordR n xs = some ord) : ord.length = n ∧ (∀ e u, e < n → u < n → wPl xs e u = true → ord.idxOf u < ord.idxOf e) ∧ ∀ e, e < n → ord.idxOf e < n := by
  obtain ⟨h1, h2⟩ := ordF_some OrdOk.nil h
  have hl : ord.length = n := by simpa using h2
  have hm : ∀ e, e < n → e ∈ ord := fun e he => nodup_full h1.nd h1.lt hl he
  refine ⟨hl, fun e u he hu hw => ?_, fun e he => by have := List.idxOf_lt_length_iff.2 (hm e he); omega⟩
  have hi := List.idxOf_lt_length_iff.2 (hm e he)
  have hg : ord.getD (ord.idxOf e) 0 = e := by rw [List.getD_eq_getElem?_getD, List.getElem?_eq_getElem hi, Option.getD_some]; exact List.getElem_idxOf hi
  have hu2 := h1.wait _ hi u hu (by rw [hg]; exact hw)
  obtain ⟨j, hj, hj2⟩ := List.getElem_of_mem hu2
  simp only [List.length_take] at hj
  rw [List.getElem_take] at hj2
  have h3 : ord.idxOf u ≤ j := by
    refine Nat.le_of_not_lt fun h => ?_
    have h4 := List.not_of_lt_findIdx (p := fun x => x == u) (xs := ord) (i := j) h
    rw [hj2] at h4; simp at h4
  omega
end Go.Proofs.Ytcjidnpkeliieaa
