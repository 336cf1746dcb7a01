/-
  Plain law: the first place that gives an allowed time; causes of firings end.
-/
import Derived.Test.YtlgejkkbnpjeoaaKC10
namespace Go.Proofs.Ytlgejkkbnpjeoaa
set_option linter.unusedSimpArgs false
set_option linter.unusedVariables false
open Go Go.RowKit
attribute [local irreducible] AL AD AW OpOk Le AC thenQ blockQ EndQ

def valP (t : List (List Int)) (r : Nat) (p : Pl) : Int := entN t (r - 1 - p.k.toNat) p.f.toNat + p.d
def okP (r e : Nat) (p : Pl) : Prop := p.t = e ∧ p.k + 1 ≤ r
instance {r e : Nat} {p : Pl} : Decidable (okP r e p) := by unfold okP; exact inferInstance
theorem alS_eq {t : List (List Int)} {r e : Nat} {a : Int × Int} {p : Pl} {i : Nat} : alS t r e a p i = if okP r e p then (if a.1 < valP t r p ∨ (valP t r p = a.1 ∧ a.2 < 0) then (valP t r p, (i : Int)) else a) else a := rfl
/-- What the reference's search has found among the first k places. -/
theorem alA_spec {t : List (List Int)} {r e : Nat} {xs : List Pl} (h0 : ∀ p ∈ xs, okP r e p → 0 ≤ valP t r p) : ∀ k, k ≤ xs.length →
    (alA t r e xs k = (0, -1) ∧ ∀ j p, j < k → xs[j]? = some p → ¬ okP r e p) ∨
    ∃ (i : Nat) (p : Pl), i < k ∧ xs[i]? = some p ∧ okP r e p ∧ alA t r e xs k = (valP t r p, (i : Int)) ∧ (∀ j q, j < i → xs[j]? = some q → okP r e q → valP t r q ≠ valP t r p) ∧ ∀ j q, j < k → xs[j]? = some q → okP r e q → valP t r q ≤ valP t r p
  | 0, _ => .inl ⟨rfl, fun j p h => absurd h (Nat.not_lt_zero _)⟩
  | k + 1, hk => by
    obtain ⟨x, hx⟩ : ∃ x, xs[k]? = some x := ⟨xs[k], by simp⟩
    rw [alA_step hx, alS_eq]
    rcases alA_spec h0 k (by omega) with ⟨h1, h2⟩ | ⟨i, p, h1, h2, h3, h4, h5, h6⟩
    · rw [h1]
      by_cases hv : okP r e x
      · have := h0 x (List.mem_of_getElem? hx) hv
        rw [if_pos hv, if_pos (by simp only; omega)]
        refine .inr ⟨k, x, by omega, hx, hv, rfl, fun j q hj hq ho => absurd ho (h2 j q hj hq), fun j q hj hq ho => ?_⟩
        by_cases e : j < k
        · exact absurd ho (h2 j q e hq)
        · have : j = k := by omega
          subst this; rw [hx] at hq; cases hq; exact Int.le_refl _
      · rw [if_neg hv]
        refine .inl ⟨rfl, fun j q hj hq ho => ?_⟩
        by_cases e : j < k
        · exact h2 j q e hq ho
        · have : j = k := by omega
          subst this; rw [hx] at hq; cases hq; exact hv ho
    · rw [h4]
      by_cases hv : okP r e x
      · rw [if_pos hv]
        by_cases hlt : valP t r p < valP t r x
        · rw [if_pos (.inl hlt)]
          refine .inr ⟨k, x, by omega, hx, hv, rfl, fun j q hj hq ho e => ?_, fun j q hj hq ho => ?_⟩
          · have := h6 j q hj hq ho; omega
          · by_cases e : j < k
            · have := h6 j q e hq ho; omega
            · have : j = k := by omega
              subst this; rw [hx] at hq; cases hq; exact Int.le_refl _
        · rw [if_neg (by simp only; omega)]
          refine .inr ⟨i, p, by omega, h2, h3, rfl, h5, fun j q hj hq ho => ?_⟩
          by_cases e : j < k
          · exact h6 j q e hq ho
          · have : j = k := by omega
            subst this; rw [hx] at hq; cases hq; omega
      · rw [if_neg hv]
        refine .inr ⟨i, p, by omega, h2, h3, rfl, h5, fun j q hj hq ho => ?_⟩
        by_cases e : j < k
        · exact h6 j q e hq ho
        · have : j = k := by omega
          subst this; rw [hx] at hq; cases hq; exact absurd ho hv
/-- What the program's search has found among the first k places: the first one that gives the time v. -/
def atA (t : List (List Int)) (r e : Nat) (v : Int) (xs : List Pl) : Nat → Int
  | 0 => -1
  | k + 1 => match xs[k]? with
    | some p => if atA t r e v xs k < 0 ∧ okP r e p ∧ valP t r p = v then (k : Int) else atA t r e v xs k
    | none => atA t r e v xs k
theorem atA_step {t : List (List Int)} {r e k : Nat} {v : Int} {xs : List Pl} {p : Pl} (h : xs[k]? = some p) : atA t r e v xs (k + 1) = if atA t r e v xs k < 0 ∧ okP r e p ∧ valP t r p = v then (k : Int) else atA t r e v xs k := by rw [atA, h]
theorem atA_spec {t : List (List Int)} {r e : Nat} {v : Int} {xs : List Pl} : ∀ k, k ≤ xs.length →
    (atA t r e v xs k = -1 ∧ ∀ j p, j < k → xs[j]? = some p → okP r e p → valP t r p ≠ v) ∨
    ∃ (i : Nat) (p : Pl), i < k ∧ xs[i]? = some p ∧ okP r e p ∧ valP t r p = v ∧ atA t r e v xs k = (i : Int) ∧ ∀ j q, j < i → xs[j]? = some q → okP r e q → valP t r q ≠ v
  | 0, _ => .inl ⟨rfl, fun j p h => absurd h (Nat.not_lt_zero _)⟩
  | k + 1, hk => by
    obtain ⟨x, hx⟩ : ∃ x, xs[k]? = some x := ⟨xs[k], by simp⟩
    rw [atA_step hx]
    rcases atA_spec (t := t) (r := r) (e := e) (v := v) (xs := xs) k (by omega) with ⟨h1, h2⟩ | ⟨i, p, h1, h2, h3, h4, h5, h6⟩
    · rw [h1]
      by_cases hv : okP r e x ∧ valP t r x = v
      · rw [if_pos ⟨by decide, hv⟩]
        exact .inr ⟨k, x, by omega, hx, hv.1, hv.2, rfl, h2⟩
      · rw [if_neg (fun h => hv h.2)]
        refine .inl ⟨rfl, fun j q hj hq ho e => ?_⟩
        by_cases e2 : j < k
        · exact h2 j q e2 hq ho e
        · have : j = k := by omega
          subst this; rw [hx] at hq; cases hq; exact hv ⟨ho, e⟩
    · rw [h5, if_neg (by omega)]
      exact .inr ⟨i, p, by omega, h2, h3, h4, rfl, h6⟩
theorem atA_eq {t : List (List Int)} {r e : Nat} {xs : List Pl} (h0 : ∀ p ∈ xs, okP r e p → 0 ≤ valP t r p) : atA t r e (alA t r e xs xs.length).1 xs xs.length = (alA t r e xs xs.length).2 := by
  rcases alA_spec (t := t) h0 xs.length (Nat.le_refl _) with ⟨h1, h2⟩ | ⟨i, p, h1, h2, h3, h4, h5, h6⟩
  · rcases atA_spec (t := t) (r := r) (e := e) (v := (alA t r e xs xs.length).1) (xs := xs) xs.length (Nat.le_refl _) with ⟨g1, g2⟩ | ⟨j, q, g1, g2, g3, g4, g5, g6⟩
    · rw [g1]; rw [h1]
    · exact absurd g3 (h2 j q g1 g2)
  · rcases atA_spec (t := t) (r := r) (e := e) (v := (alA t r e xs xs.length).1) (xs := xs) xs.length (Nat.le_refl _) with ⟨g1, g2⟩ | ⟨j, q, g1, g2, g3, g4, g5, g6⟩
    · exact absurd (by rw [h4]) (g2 i p h1 h2 h3)
    · rw [g5, h4]
      rw [h4] at g4 g6
      simp only at g4 g6 ⊢
      congr 1
      rcases Nat.lt_trichotomy j i with h | h | h
      · exact absurd g4 (h5 j q h g2 g3)
      · exact h
      · exact absurd rfl (g6 i p h h2 h3)
/-- The place at a firing's end of the search. -/
theorem alA_at {t : List (List Int)} {r e : Nat} {xs : List Pl} (h0 : ∀ p ∈ xs, okP r e p → 0 ≤ valP t r p) (h : 0 ≤ (alA t r e xs xs.length).2) : ∃ (i : Nat) (p : Pl), i < xs.length ∧ xs[i]? = some p ∧ okP r e p ∧ alA t r e xs xs.length = (valP t r p, (i : Int)) := by
  rcases alA_spec (t := t) h0 xs.length (Nat.le_refl _) with ⟨h1, h2⟩ | ⟨i, p, h1, h2, h3, h4, h5, h6⟩
  · rw [h1] at h; simp at h
  · exact ⟨i, p, h1, h2, h3, h4⟩
/-! ### Causes -/
/-- Does a cause end at this firing? -/
def stopC (t : List (List Int)) (xs : List Pl) (r e : Nat) : Prop := (alA t r e xs xs.length).2 < 0 ∨ (alA t r e xs xs.length).1 < entN t (r - 1) e
instance {t : List (List Int)} {xs : List Pl} {r e : Nat} : Decidable (stopC t xs r e) := by unfold stopC; exact inferInstance
def viaC (t : List (List Int)) (xs : List Pl) (r e : Nat) : Pl := xs.getD (alA t r e xs xs.length).2.toNat ⟨0, 0, 0, 0⟩
/-- A measure that falls from firing to firing. -/
def mesC (n : Nat) (ord : List Nat) (r e : Nat) : Nat := r * (n + 1) + ord.idxOf e
theorem ord_idx {n : Nat} {xs : List Pl} {ord : List Nat} (h : ordR n xs = some ord) : ord.length = n ∧ (∀ e u, e < n → u < n → wPl xs e u = true → ord.idxOf u < ord.idxOf e) ∧ ∀ e, e < n → ord.idxOf e < n := by
  obtain ⟨h1, h2⟩ := ordF_some OrdOk.nil h
  have hl : ord.length = n := by simpa using h2
  have hm : ∀ e, e < n → e ∈ ord := fun e he => nodup_full h1.nd h1.lt hl he
  refine ⟨hl, fun e u he hu hw => ?_, fun e he => by have := List.idxOf_lt_length_iff.2 (hm e he); omega⟩
  have hi := List.idxOf_lt_length_iff.2 (hm e he)
  have hg : ord.getD (ord.idxOf e) 0 = e := by rw [List.getD_eq_getElem?_getD, List.getElem?_eq_getElem hi, Option.getD_some]; exact List.getElem_idxOf hi
  have hu2 := h1.wait _ hi u hu (by rw [hg]; exact hw)
  obtain ⟨j, hj, hj2⟩ := List.getElem_of_mem hu2
  simp only [List.length_take] at hj
  rw [List.getElem_take] at hj2
  have h3 : ord.idxOf u ≤ j := by
    refine Nat.le_of_not_lt fun h => ?_
    have h4 := List.not_of_lt_findIdx (p := fun x => x == u) (xs := ord) (i := j) h
    rw [hj2] at h4; simp at h4
  omega
theorem mesC_lt {n m : Nat} {xs : List Pl} {t : List (List Int)} {ord : List Nat} {r e : Nat} (ho : ordR n xs = some ord) (hv : ∀ p ∈ xs, okPl n p) (h0 : ∀ i j, 0 ≤ entN t i j) (he : e < n) (hs : ¬ stopC t xs r e) :
    ∃ (i : Nat) (p : Pl), xs[i]? = some p ∧ (alA t r e xs xs.length).2 = (i : Int) ∧ viaC t xs r e = p ∧ p.t = e ∧ p.k + 1 ≤ r ∧ mesC n ord (r - p.k.toNat) p.f.toNat < mesC n ord r e := by
  have h1 : ∀ p ∈ xs, okP r e p → 0 ≤ valP t r p := fun p hp _ => by have := (hv p hp).2.2.1; have := h0 (r - 1 - p.k.toNat) p.f.toNat; unfold valP; omega
  obtain ⟨i, p, hi, hp, hk, ha⟩ := alA_at (t := t) (r := r) (e := e) (xs := xs) h1 (by unfold stopC at hs; omega)
  have hvia : viaC t xs r e = p := by
    unfold viaC
    rw [ha]; simp only [Int.toNat_natCast]
    rw [List.getD_eq_getElem?_getD, hp, Option.getD_some]
  obtain ⟨g1, g2, g3⟩ := ord_idx ho
  refine ⟨i, p, hp, by rw [ha], hvia, hk.1, hk.2, ?_⟩
  obtain ⟨⟨a1, a2⟩, ⟨a3, a4⟩, _, ⟨a5, a6⟩⟩ := hv p (List.mem_of_getElem? hp)
  have hf := g3 p.f.toNat (by omega)
  unfold mesC
  by_cases hz : p.k = 0
  · have hw : wPl xs e p.f.toNat = true := by
      unfold wPl
      rw [List.any_eq_true]
      exact ⟨p, List.mem_of_getElem? hp, by have := hk.1; simp [hz, this]; omega⟩
    have := g2 e p.f.toNat he (by omega) hw
    rw [hz]; simp only [Int.toNat_zero, Nat.sub_zero]; omega
  · have h2 : (r - p.k.toNat) + 1 ≤ r := by have := hk.2; omega
    have h3 : (r - p.k.toNat) * (n + 1) + (n + 1) ≤ r * (n + 1) := by
      calc (r - p.k.toNat) * (n + 1) + (n + 1) = ((r - p.k.toNat) + 1) * (n + 1) := by rw [Nat.add_mul, Nat.one_mul]
        _ ≤ r * (n + 1) := Nat.mul_le_mul_right _ h2
    omega
end Go.Proofs.Ytlgejkkbnpjeoaa
