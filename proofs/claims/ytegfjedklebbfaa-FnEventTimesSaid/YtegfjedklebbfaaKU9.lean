/-
  Walks in the abstract reading, part 9.
-/
import Derived.Test.YtegfjedklebbfaaKU8
import Derived.Test.YtegfjedklebbfaaKA3
import Derived.Test.YtegfjedklebbfaaKU7
import Derived.Test.YtegfjedklebbfaaKU5
section
namespace Go.Proofs.Ytegfjedklebbfaa
set_option linter.unusedSimpArgs false
set_option linter.unusedVariables false
open Go Go.RowKit
attribute [local irreducible] AL AD AW OpOk Le AC thenQ blockQ EndQ

def isCr (s : Nat → Nat → Int) (u1 u2 : Int) (p : Pl) : Bool := !decide (s p.f.toNat p.t.toNat = BOT) && decide (pw u1 u2 p + s p.f.toNat p.t.toNat = 0)
end Go.Proofs.Ytegfjedklebbfaa
end

section
namespace Go.Proofs.Ytegfjedklebbfaa
set_option linter.unusedSimpArgs false
set_option linter.unusedVariables false
open Go Go.RowKit

theorem growC_pre {xs : List Pl} {rn rd over : Int} : ∀ {k : Nat} {l : List Nat}, growC xs rn rd over k l ≠ [] → ∃ e, growC xs rn rd over k l = l ++ e
  | 0, _, h => by simp [growC] at h
  | k + 1, l, h => by
    unfold growC at h ⊢
    split
    · rename_i h1
      rw [if_pos h1] at h
      split
      · exact ⟨[], by simp⟩
      · rename_i h2; rw [if_neg h2] at h; exact absurd rfl h
    · rename_i h1
      rw [if_neg h1] at h
      obtain ⟨i, hi, h2, h3⟩ := tryAll_mem h
      rw [h3]
      split at h2
      · exact absurd rfl h2
      · rename_i hs
        rw [if_neg hs]
        obtain ⟨e, he⟩ := growC_pre h2
        exact ⟨i :: e, by rw [he]; simp⟩
theorem tryAll_congr {α : Type} {f g : Nat → List α} : ∀ {l : List Nat}, (∀ v ∈ l, f v = g v) → tryAll f l = tryAll g l
  | [], _ => rfl
  | v :: r, h => by
    unfold tryAll
    rw [h v (by simp), tryAll_congr fun x hx => h x (by simp [hx])]
theorem star_super {W : Nat → Nat → Int} {n : Nat} {s : Nat → Nat → Int} (hs : StarOk W n s) {u m v : Nat} (hu : u < n) (hm : m < n) (hv : v < n) (h1 : s m u ≠ BOT) (h2 : s v m ≠ BOT) : s v u ≠ BOT ∧ s m u + s v m ≤ s v u := by
  rcases hs.some u m hu hm with e | ⟨e, e2⟩ | ⟨c, c1, c2, c3⟩
  · exact absurd e h1
  · subst e; exact ⟨h2, by omega⟩
  · rcases hs.some m v hm hv with e | ⟨e, e2⟩ | ⟨c', d1, d2, d3⟩
    · exact absurd e h2
    · subst e; exact ⟨h1, by omega⟩
    · have := hs.all u v (c ++ m :: c') hu hv (fun x hx => by
        rcases List.mem_append.1 hx with h | h
        · exact c2 x h
        · rcases List.mem_cons.1 h with rfl | h
          · exact hm
          · exact d2 x h) (WM.app.2 ⟨c1, d1⟩)
      rw [wM_app] at this
      exact ⟨this.1, by omega⟩
theorem wk_wm {n : Nat} {xs : List Pl} {r : Int × Int} {t : List (List Int)} (hw : WmOk n xs r t) (hv : ∀ p ∈ xs, okPl n p) : ∀ {c : List Nat} {u v : Int}, Wk xs u c v → c ≠ [] → ∃ c', WM (entN t) u.toNat c' v.toNat ∧ (∀ x ∈ c', x < n) ∧ wgt xs r.1 r.2 c ≤ wM (entN t) u.toNat c' v.toNat
  | [], _, _, _, h => absurd rfl h
  | [i], u, v, ⟨h1, h2, h3⟩, _ => by
    have hp : plA xs i ∈ xs := by
      have e : plA xs i = xs[i] := by simp [plA, h1]
      rw [e]; exact List.getElem_mem h1
    have ha := hw.all _ hp
    have h3' : (plA xs i).t = v := h3
    subst h2 h3'
    exact ⟨[], ha.1, by simp, by simp only [wgt, wM]; omega⟩
  | i :: j :: c, u, v, ⟨h1, h2, h3⟩, _ => by
    have hp : plA xs i ∈ xs := by
      have e : plA xs i = xs[i] := by simp [plA, h1]
      rw [e]; exact List.getElem_mem h1
    have ha := hw.all _ hp
    obtain ⟨c', g1, g2, g3⟩ := wk_wm hw hv h3 (by simp)
    obtain ⟨_, ⟨k1, k2⟩, _⟩ := hv _ hp
    subst h2
    refine ⟨(plA xs i).t.toNat :: c', ⟨ha.1, g1⟩, fun x hx => ?_, ?_⟩
    · rcases List.mem_cons.1 hx with rfl | h
      · omega
      · exact g2 x h
    · have e : wgt xs r.1 r.2 (i :: j :: c) = pw r.1 r.2 (plA xs i) + wgt xs r.1 r.2 (j :: c) := rfl
      rw [e]
      simp only [wM]
      omega
/-- What is held of the weights, their star and the greatest ratio. -/
structure CrOk (xs : List Pl) (n : Nat) (r : Int × Int) (s : Nat → Nat → Int) : Prop where
  v : ∀ p ∈ xs, okPl n p
  mx : MaxR xs r
  w : WmOk n xs r (wmT n xs r)
  np : NoPos (entN (wmT n xs r)) n
  st : StarOk (entN (wmT n xs r)) n s
abbrev crB (xs : List Pl) (r : Int × Int) (s : Nat → Nat → Int) (i : Nat) : Bool := isCr s r.1 r.2 (plA xs i)
theorem crB_iff {xs : List Pl} {r : Int × Int} {s : Nat → Nat → Int} {i : Nat} : crB xs r s i = true ↔ s (plA xs i).f.toNat (plA xs i).t.toNat ≠ BOT ∧ pw r.1 r.2 (plA xs i) + s (plA xs i).f.toNat (plA xs i).t.toNat = 0 := by
  unfold crB isCr
  simp
theorem CrOk.at {xs : List Pl} {n : Nat} {r : Int × Int} {s : Nat → Nat → Int} (h : CrOk xs n r s) {i : Nat} (hi : i < xs.length) : (0 ≤ (plA xs i).f ∧ (plA xs i).f.toNat < n) ∧ (0 ≤ (plA xs i).t ∧ (plA xs i).t.toNat < n) ∧ plA xs i ∈ xs := by
  have hp : plA xs i ∈ xs := by
    have e : plA xs i = xs[i] := by simp [plA, hi]
    rw [e]; exact List.getElem_mem hi
  obtain ⟨⟨k1, k2⟩, ⟨k3, k4⟩, _⟩ := h.v _ hp
  exact ⟨⟨k1, by omega⟩, ⟨k3, by omega⟩, hp⟩
theorem CrOk.crit {xs : List Pl} {n : Nat} {r : Int × Int} {s : Nat → Nat → Int} (h : CrOk xs n r s) {c : List Nat} (hc : Circ xs c) (hz : wgt xs r.1 r.2 c = 0) {i : Nat} (hi : i ∈ c) : crB xs r s i = true := by
  have hil := hc.wk.lt i hi
  obtain ⟨⟨k1, k2⟩, ⟨k3, k4⟩, hp⟩ := h.at hil
  obtain ⟨a, b, rfl⟩ := List.append_of_mem hi
  obtain ⟨m, w1, w2, w3, w4⟩ := Wk.app.1 hc.wk
  have hwk : Wk xs (plA xs i).t (b ++ a) (plA xs i).f := Wk.app.2 ⟨_, w4, w3 ▸ w1⟩
  have hwt : wgt xs r.1 r.2 (b ++ a) = - pw r.1 r.2 (plA xs i) := by
    rw [wgt_app] at hz ⊢
    have e : wgt xs r.1 r.2 (i :: b) = pw r.1 r.2 (plA xs i) + wgt xs r.1 r.2 b := rfl
    omega
  rw [crB_iff]
  by_cases hne : b ++ a = []
  · rw [hne] at hwk hwt
    have e : (plA xs i).t = (plA xs i).f := hwk
    have hd := star_dia0 h.np h.st.some h.st.dia k2
    have hd2 := (h.st.dia _ k2).1
    rw [e, hd]
    have e0 : wgt xs r.1 r.2 ([] : List Nat) = 0 := rfl
    exact ⟨by decide, by omega⟩
  · obtain ⟨c', g1, g2, g3⟩ := wk_wm h.w h.v hwk hne
    have ha := h.st.all _ _ c' k4 k2 g2 g1
    have hg := gap_nn h.w h.np h.st (f := (plA xs i).f.toNat) (u := (plA xs i).t.toNat) k2 k4 hp (by omega) (by omega) ha.1
    exact ⟨ha.1, by omega⟩
theorem CrOk.back {xs : List Pl} {n : Nat} {r : Int × Int} {s : Nat → Nat → Int} (h : CrOk xs n r s) : ∀ {c : List Nat} {u v : Int}, Wk xs u c v → c ≠ [] → (∀ i ∈ c, crB xs r s i = true) → (v.toNat < n) ∧ s u.toNat v.toNat ≠ BOT ∧ - wgt xs r.1 r.2 c ≤ s u.toNat v.toNat
  | [], _, _, _, hn, _ => absurd rfl hn
  | [i], u, v, ⟨h1, h2, h3⟩, _, ha => by
    have h3' : (plA xs i).t = v := h3
    subst h2 h3'
    have hcr := crB_iff.1 (ha i (by simp))
    refine ⟨(h.at h1).2.1.2, hcr.1, ?_⟩
    have e : wgt xs r.1 r.2 [i] = pw r.1 r.2 (plA xs i) + 0 := rfl
    omega
  | i :: j :: c, u, v, ⟨h1, h2, h3⟩, _, ha => by
    obtain ⟨g0, g1, g2⟩ := h.back h3 (by simp) (fun x hx => ha x (by simp [hx]))
    obtain ⟨⟨k1, k2⟩, ⟨k3, k4⟩, hp⟩ := h.at h1
    have hcr := crB_iff.1 (ha i (by simp))
    subst h2
    have := star_super h.st (u := v.toNat) (m := (plA xs i).t.toNat) (v := (plA xs i).f.toNat) g0 k4 k2 g1 hcr.1
    have e : wgt xs r.1 r.2 (i :: j :: c) = pw r.1 r.2 (plA xs i) + wgt xs r.1 r.2 (j :: c) := rfl
    exact ⟨g0, this.1, by omega⟩
theorem CrOk.zero {xs : List Pl} {n : Nat} {r : Int × Int} {s : Nat → Nat → Int} (h : CrOk xs n r s) {c : List Nat} (hc : Circ xs c) (ha : ∀ i ∈ c, crB xs r s i = true) : wgt xs r.1 r.2 c = 0 := by
  obtain ⟨g0, g1, g2⟩ := h.back hc.wk hc.ne ha
  have hd := star_dia0 h.np h.st.some h.st.dia g0
  have := h.mx.le c hc
  omega
def goC (xs : List Pl) (cr : Nat → Bool) : Nat → List Nat → List Nat
  | 0, _ => []
  | k + 1, l => tryAll (fun i => if cr i = false ∨ skipC xs l i then [] else if (plA xs i).t = firstF xs l then l ++ [i] else goC xs cr k (l ++ [i])) (List.range' 0 xs.length)
def bestC (xs : List Pl) (cr : Nat → Bool) (n : Nat) : List Nat :=
  tryAll (fun i => if cr i = false then [] else if (plA xs i).t = (plA xs i).f then [i] else if (plA xs i).t < (plA xs i).f then [] else goC xs cr n [i]) (List.range' 0 xs.length)
theorem lastT_snoc {xs : List Pl} {l : List Nat} {i : Nat} : lastT xs (l ++ [i]) = (plA xs i).t := by unfold lastT; rw [lsN_snoc]
theorem firstF_snoc {xs : List Pl} {l : List Nat} {i : Nat} (h : l ≠ []) : firstF xs (l ++ [i]) = firstF xs l := by
  cases l with
  | nil => exact absurd rfl h
  | cons a l => rfl
theorem CrOk.none {xs : List Pl} {n : Nat} {r : Int × Int} {s : Nat → Nat → Int} (h : CrOk xs n r s) {k : Nat} {l : List Nat} (hp : PathC xs l) {i : Nat} (hi : i ∈ l) (hcr : crB xs r s i = false) : growC xs r.1 r.2 (-1) k l = [] := by
  refine Classical.byContradiction fun hne => ?_
  obtain ⟨g1, g2⟩ := growC_sound hp hne
  obtain ⟨e, he⟩ := growC_pre hne
  have hz : wgt xs r.1 r.2 (growC xs r.1 r.2 (-1) k l) = 0 := by
    have := h.mx.le _ g1; omega
  have := h.crit g1 hz (i := i) (by rw [he]; simp [hi])
  rw [hcr] at this; cases this
theorem PathC.circ {xs : List Pl} {l : List Nat} (hp : PathC xs l) (h : lastT xs l = firstF xs l) : Circ xs l := ⟨hp.ne, by have := hp.wk; rwa [h] at this, hp.nd, hp.mn⟩
theorem CrOk.grow {xs : List Pl} {n : Nat} {r : Int × Int} {s : Nat → Nat → Int} (h : CrOk xs n r s) : ∀ (k : Nat) (l : List Nat), PathC xs l → lastT xs l ≠ firstF xs l → (∀ j ∈ l, crB xs r s j = true) → k + l.length = n + 1 → growC xs r.1 r.2 (-1) k l = goC xs (crB xs r s) k l
  | 0, _, _, _, _, _ => rfl
  | k + 1, l, hp, hne, ha, hk => by
    unfold growC goC
    rw [if_neg hne]
    refine tryAll_congr fun i hi => ?_
    simp only [List.mem_range'_1] at hi
    by_cases hs : skipC xs l i
    · rw [if_pos hs, if_pos (.inr hs)]
    · have hp2 := hp.snoc (by omega) hne hs
      rw [if_neg hs]
      cases hcr : crB xs r s i with
      | false =>
        rw [if_pos (.inl rfl)]
        exact h.none hp2 (by simp) hcr
      | true =>
        rw [if_neg (by rintro (h | h); cases h; exact hs h)]
        have ha2 : ∀ j ∈ l ++ [i], crB xs r s j = true := fun j hj => by
          rcases List.mem_append.1 hj with hj | hj
          · exact ha j hj
          · simp at hj; subst hj; exact hcr
        by_cases hcl : (plA xs i).t = firstF xs l
        · rw [if_pos hcl]
          have hcl2 : lastT xs (l ++ [i]) = firstF xs (l ++ [i]) := by rw [lastT_snoc, firstF_snoc hp.ne, hcl]
          have hci := hp2.circ hcl2
          have hln := hci.len (n := n) (fun j hj => by have := h.at hj; omega)
          simp at hln
          obtain ⟨k', rfl⟩ : ∃ k', k = k' + 1 := ⟨k - 1, by omega⟩
          unfold growC
          rw [if_pos hcl2, if_pos (by rw [h.zero hci ha2]; decide)]
        · rw [if_neg hcl]
          exact h.grow k (l ++ [i]) hp2 (by rw [lastT_snoc, firstF_snoc hp.ne]; exact hcl) ha2 (by simp; omega)
theorem CrOk.best {xs : List Pl} {n : Nat} {r : Int × Int} {s : Nat → Nat → Int} (h : CrOk xs n r s) (h0 : 0 < n) : overC xs r.1 r.2 (-1) n = bestC xs (crB xs r s) n := by
  unfold overC bestC
  refine tryAll_congr fun i hi => ?_
  simp only [List.mem_range'_1] at hi
  by_cases hlt : (plA xs i).t < (plA xs i).f
  · rw [if_pos hlt]
    by_cases hc0 : crB xs r s i = false
    · rw [if_pos hc0]
    · rw [if_neg hc0, if_neg (by omega), if_pos hlt]
  · rw [if_neg hlt]
    have hp : PathC xs [i] := PathC.one (by omega) hlt
    cases hcr : crB xs r s i with
    | false =>
      rw [if_pos rfl]
      exact h.none hp (by simp) hcr
    | true =>
      rw [if_neg (by decide)]
      have ha : ∀ j ∈ [i], crB xs r s j = true := fun j hj => by simp at hj; subst hj; exact hcr
      by_cases heq : (plA xs i).t = (plA xs i).f
      · rw [if_pos heq]
        obtain ⟨k, rfl⟩ : ∃ k, n = k + 1 := ⟨n - 1, by omega⟩
        have hcl : lastT xs [i] = firstF xs [i] := heq
        unfold growC
        rw [if_pos hcl, if_pos (by rw [h.zero (hp.circ hcl) ha]; decide)]
      · rw [if_neg heq, if_neg hlt]
        exact h.grow n [i] hp heq ha (by simp)
end Go.Proofs.Ytegfjedklebbfaa
end

section
namespace Go.Proofs.Ytegfjedklebbfaa
set_option linter.unusedSimpArgs false
set_option linter.unusedVariables false
open Go Go.RowKit
attribute [local irreducible] AL AD AW OpOk Le AC thenQ blockQ EndQ

/-! ### Rows of truth values -/
abbrev DB (b : Bool) : D := .v (.bool b)
def brF (n : Nat) (g : Nat → Bool) : List (List D) := (List.range n).map fun j => [DB (g j)]
def btF (m n : Nat) (F : Nat → Nat → Bool) : List (List (List D)) := (List.range m).map fun i => brF n (F i)
theorem brF_len {n : Nat} {g : Nat → Bool} : (brF n g).length = n := by simp [brF]
theorem btF_len {m n : Nat} {F : Nat → Nat → Bool} : (btF m n F).length = m := by simp [btF]
theorem brF_get {n j : Nat} {g : Nat → Bool} (h : j < n) : (brF n g)[j]? = some [DB (g j)] := by simp [brF, h]
theorem btF_get {m n i : Nat} {F : Nat → Nat → Bool} (h : i < m) : (btF m n F)[i]? = some (brF n (F i)) := by simp [btF, h]
theorem btF_succ {m n : Nat} {F : Nat → Nat → Bool} : btF (m + 1) n F = btF m n F ++ [brF n (F m)] := by simp [btF, List.range_succ]
theorem brF_set {n i : Nat} {g g' : Nat → Bool} {b : Bool} (h : ∀ j, g' j = if j = i then b else g j) : (brF n g).set i [DB b] = brF n g' := by
  apply List.ext_getElem?
  intro j
  by_cases hj : j < n
  · rw [brF_get hj, List.getElem?_set, h j]
    by_cases e : i = j
    · subst e; simp [brF, hj]
    · rw [if_neg e, if_neg (fun h => e h.symm), brF_get hj]
  · rw [List.getElem?_eq_none (by simp [brF]; omega), List.getElem?_eq_none (by rw [brF_len]; omega)]
theorem brF_0 {n : Nat} : List.replicate n [DB false] = brF n (fun _ => false) := by
  apply List.ext_getElem?
  intro j
  by_cases hj : j < n
  · rw [brF_get hj, List.getElem?_replicate, if_pos hj]
  · rw [List.getElem?_eq_none (by simp; omega), List.getElem?_eq_none (by rw [brF_len]; omega)]
/-! ### The search -/
section
variable (a : Nat → Nat → Int)
def rcS (i k : Nat) (g : Nat → Bool) : Nat → Bool := if g k = true ∧ a i k ≠ BOT then (fun j => if j = i then true else g j) else g
def rcJ (i : Nat) : Nat → (Nat → Bool) → Nat → Bool
  | 0, g => g
  | k + 1, g => rcS a i k (rcJ i k g)
def rcI (n : Nat) : Nat → (Nat → Bool) → Nat → Bool
  | 0, g => g
  | i + 1, g => rcJ a i n (rcI n i g)
def rcV (n : Nat) : Nat → (Nat → Bool) → Nat → Bool
  | 0, g => g
  | m + 1, g => rcI a n n (rcV n m g)
def rchF (n v : Nat) : Nat → Bool := rcV a n n (fun j => decide (j = v))
variable {a}
theorem rcS_mono {i k j : Nat} {g : Nat → Bool} (h : g j = true) : rcS a i k g j = true := by
  unfold rcS; split
  · simp only; split
    · rfl
    · exact h
  · exact h
theorem rcJ_mono {i j : Nat} {g : Nat → Bool} (h : g j = true) : ∀ k, rcJ a i k g j = true
  | 0 => h
  | k + 1 => rcS_mono (rcJ_mono h k)
theorem rcI_mono {n j : Nat} {g : Nat → Bool} (h : g j = true) : ∀ k, rcI a n k g j = true
  | 0 => h
  | k + 1 => rcJ_mono (rcI_mono h k) n
theorem rcV_mono {n j : Nat} {g : Nat → Bool} (h : g j = true) : ∀ k, rcV a n k g j = true
  | 0 => h
  | k + 1 => rcI_mono (rcV_mono h k) n
theorem rcJ_hit {i k : Nat} {g : Nat → Bool} (h : g k = true) (hw : a i k ≠ BOT) : ∀ m, k < m → rcJ a i m g i = true
  | m + 1, hk => by
    by_cases e : k = m
    · subst e
      simp only [rcJ, rcS]
      rw [if_pos ⟨rcJ_mono h k, hw⟩]
      simp
    · exact rcS_mono (rcJ_hit h hw m (by omega))
theorem rcI_hit {n i k : Nat} {g : Nat → Bool} (h : g k = true) (hk : k < n) (hw : a i k ≠ BOT) : ∀ m, i < m → rcI a n m g i = true
  | m + 1, hi => by
    by_cases e : i = m
    · subst e; exact rcJ_hit (rcI_mono h i) hw n hk
    · exact rcJ_mono (rcI_hit h hk hw m (by omega)) n
theorem rcV_hit {n v : Nat} {g : Nat → Bool} (hv : v < n) (h : g v = true) : ∀ (m : Nat) (c : List Nat) (i : Nat), i < n → (∀ x ∈ c, x < n) → WM a v c i → c.length + 1 ≤ m → rcV a n m g i = true
  | 0, c, i, _, _, _, hl => by omega
  | m + 1, c, i, hi, hc, hw, hl => by
    rcases hw.lastArc with ⟨rfl, h1⟩ | ⟨c', k, rfl, h1, h2, _⟩
    · exact rcI_hit (rcV_mono h m) hv h1 n hi
    · have hk := hc k (by simp)
      exact rcI_hit (rcV_hit hv h m c' k hk (fun x hx => hc x (by simp [hx])) h1 (by simp at hl; omega)) hk h2 n hi
section
variable {n : Nat} {R : Nat → Prop} (hR : ∀ i k, i < n → k < n → R k → a i k ≠ BOT → R i)
include hR
theorem rcS_snd {i k : Nat} (hi : i < n) (hk : k < n) {g : Nat → Bool} (h : ∀ j, j < n → g j = true → R j) : ∀ j, j < n → rcS a i k g j = true → R j := fun j hj hg => by
  unfold rcS at hg
  split at hg
  · rename_i hc
    simp only at hg
    split at hg
    · rename_i e; subst e; exact hR _ _ hi hk (h k hk hc.1) hc.2
    · exact h j hj hg
  · exact h j hj hg
theorem rcJ_snd {i : Nat} (hi : i < n) {g : Nat → Bool} (h : ∀ j, j < n → g j = true → R j) : ∀ k, k ≤ n → ∀ j, j < n → rcJ a i k g j = true → R j
  | 0, _ => h
  | k + 1, hk => rcS_snd hR hi (by omega) (rcJ_snd hi h k (by omega))
theorem rcI_snd {g : Nat → Bool} (h : ∀ j, j < n → g j = true → R j) : ∀ i, i ≤ n → ∀ j, j < n → rcI a n i g j = true → R j
  | 0, _ => h
  | i + 1, hi => rcJ_snd hR (by omega) (rcI_snd h i (by omega)) n (Nat.le_refl _)
theorem rcV_snd {g : Nat → Bool} (h : ∀ j, j < n → g j = true → R j) : ∀ m, ∀ j, j < n → rcV a n m g j = true → R j
  | 0 => h
  | m + 1 => rcI_snd hR (rcV_snd h m) n (Nat.le_refl _)
end
end
theorem tk_ok {n : Nat} {xs : List Pl} (hv : ∀ p ∈ xs, okPl n p) : WmOk n xs (1, 0) (wmT n xs (1, 0)) := wm_ok (M := 500000) (by omega) xs (fun p hp => ⟨hv p hp, by
  have := (hv p hp).2.2.2
  unfold pw
  simp only
  omega⟩)
theorem tk_np {n : Nat} {xs : List Pl} (hv : ∀ p ∈ xs, okPl n p) : NoPos (entN (wmT n xs (1, 0))) n := fun u c hu hc hw => by
  obtain ⟨d, h1, _, h3⟩ := wm_walk (tk_ok hv) hu hu hc hw
  have := sum_bnd (fun i hi => (okPl_at hv i hi).2.2) h1.lt
  rw [← h3, wgt_sums]
  omega
theorem rch_td {n : Nat} {xs : List Pl} (hv : ∀ p ∈ xs, okPl n p) (hn : n ≤ 10) {u e : Nat} (hu : u < n) (he : e < n) : rchF (entN (wmT n xs (1, 0))) n u e = decide (0 ≤ tdF xs u e) := by
  have hw := tk_ok hv
  have ht := tdOk hv hn hu
  rw [Bool.eq_iff_iff, decide_eq_true_eq]
  constructor
  · intro h
    obtain ⟨c, hc⟩ := rcV_snd (R := fun j => ∃ c, Wk xs u c (j : Int)) (fun i k hi hk ⟨c, hc⟩ hb => by
      rcases hw.some k i hk hi with e1 | ⟨p, hp, h1, h2, _⟩
      · exact absurd e1 hb
      · obtain ⟨x, hx, rfl⟩ := List.getElem_of_mem hp
        have e2 : plA xs x = xs[x] := by simp [plA, hx]
        exact ⟨c ++ [x], Wk.app.2 ⟨_, hc, hx, by rw [e2]; exact h1, by rw [e2]; exact h2⟩⟩) (fun j _ hj => ⟨[], by rw [of_decide_eq_true hj]; rfl⟩) n e he h
    exact (ht.all e c hc).1
  · intro h
    rcases ht.some e with e1 | ⟨c, hc, _⟩
    · omega
    · by_cases h0 : c = []
      · subst h0
        have hue : (u : Int) = e := hc
        obtain rfl : u = e := by omega
        exact rcV_mono (by simp) n
      · obtain ⟨c', g1, g2, _⟩ := wk_wm hw hv hc h0
        obtain ⟨c2, k1, k2, k3, _⟩ := walk_short (tk_np hv) c'.length c' u e (Nat.le_refl _) hu g2 (by simpa using g1)
        exact rcV_hit hu (by simp) n c2 e he k3 k1 k2
set_option maxHeartbeats 2000000 in
theorem l12Tokens_ac (n : Nat) (xs : List Pl) (hn : n ≤ 10) (hx : xs.length ≤ 1000) (hv : ∀ p ∈ xs, okPl n p) : AC Try.prog 178 [grD n xs] H0 (own1 1 n) (hpM 1 (TR (wmT n xs (1, 0)))) := by
  have hB := l02Bottom_ac n n (by omega) (by omega)
  refine AC.of_body 0 Try.func178 rfl (fun l h => absurd rfl h) (fun C hC => ?_)
  have hD : ∀ l, ¬ C.D0 l := fun l h => (hC l).1 h rfl
  simp only [startFr, Try.ntmps178, List.length_cons, List.length_nil, Nat.reduceAdd, Nat.reduceSub, List.replicate_succ, List.replicate_zero, List.cons_append, List.nil_append]
  repeat' (first | ((first | apply Ba | (apply Bb; (· rfl); (· rfl)) | (apply Bc; (· exact nxE)) | (apply Bd; (· rfl); (· rfl); (· exact nxE))); (· first | exact Tb rfl rfl (hB) (Sd (Sd Sn)) | exact Ok.pe)) | ((first | apply Ca | (apply Cb; (· exact nxE))); (· first | exact Tb rfl rfl (hB) (Sd (Sd Sn)) | exact Ok.e0)) | refine Sx ?_ | (refine Sy (fun h => ?_) (fun h => ?_) <;> try (exfalso; omega; done)) | refine Sz (fun h => ?_) (fun h => ?_))
  refine AW.loop (X := {k : Nat // k ≤ xs.length}) (fun k => ⟨[Oo, Bx 2 0, Oo, .own 1 ⟨1, []⟩ 0 n, I (k.1 : Nat), Oo, Oo, Oo, Oo, Oo, Oo, Oo, Oo, Oo, Oo, Oo, Oo, Oo, Oo, Oo, Oo, Oo, Oo, Oo, Oo, Oo, Oo, Oo, Oo, Oo, Oo, Oo, Oo, Oo, Oo, Oo, Oo, Oo, Oo, Oo, Oo, Oo, Oo, Oo, Oo], heapX [(⟨0, []⟩, ⟨0, []⟩, ⟨2, [[I n, PL xs]]⟩)] [mi1 ⟨1, []⟩ (TR ((xs.take k.1).foldl (wmS (1, 0)) (botT n n)))], 900⟩) (fun k => xs.length - k.1) ⟨0, Nat.zero_le _⟩ ?_ (fun k => ?_)
  ·
    (apply Le.headG [_] [{ l := ⟨1, []⟩, k := 1, R := TR (botT n n), src := ⟨6, [0]⟩, base := ⟨6, [0]⟩ }] (fun _ => False))
    (case' hlen => rfl)
    (case' hms => rfl)
    all_goals (try dsimp only [srcs])
    (case' hfr | hob => (repeat' (first | refine La ?_ ?_ | exact Lc | refine Lo ?_ | refine ⟨⟨_, rfl, ?_⟩, ?_⟩ | refine Lx ?_)))
    (case' hok => first | exact ⟨MI.ok_same rfl (Cg), trivial⟩ | exact trivial)
    (case' hN => rfl)
    (case' hS => rfl)
    all_goals (first | exact Ld | (rfl))
  obtain ⟨k, hk⟩ := k
  simp only
  by_cases hlt : k < xs.length
  · have hrow := pl_row (n := 0) hlt
    have hst := wm_take (r := (1, 0)) (n := n) hlt
    obtain ⟨⟨g1, g2⟩, ⟨g3, g4⟩, g5, g6⟩ := okPl_at hv k hlt
    have hsq : Sq ((xs.take k).foldl (wmS (1, 0)) (botT n n)) n := wm_sq (Sq.bot n)
    generalize hT : (xs.take k).foldl (wmS (1, 0)) (botT n n) = T at hst hsq
    generalize plA xs k = p at *
    obtain ⟨pf, pt, pd, pk⟩ := p
    obtain ⟨f, rfl⟩ : ∃ f : Nat, pf = f := ⟨pf.toNat, by simp at g1; omega⟩
    obtain ⟨t, rfl⟩ : ∃ t : Nat, pt = t := ⟨pt.toNat, by simp at g3; omega⟩
    simp only [Int.toNat_natCast] at hrow g2 g4 g5 g6
    obtain ⟨r, hr1, hr2, hr3⟩ := hsq.get (show t < n by omega) (show f < n by omega)
    have hr1' : (TR T)[t]? = some (IR r) := by simp [hr1]
    have hrl : (IR r).length = n := by rw [IR_len, hr3]
    have hrf : (IR r)[f]? = some [DI (entN T t f)] := by simp [hr2]
    repeat' (first | ((first | apply Ba | (apply Bb; (· rfl); (· rfl)) | (apply Bc; (· exact nxE)) | (apply Bd; (· rfl); (· rfl); (· exact nxE))); (· first | exact Ok.ldTn rfl rfl rfl hr1' hrl | exact Ok.ld1 rfl rfl (congrArg (Option.map (dobj 1)) hr1') hrf | exact Ok.st1 rfl rfl (congrArg (Option.map (dobj 1)) hr1') (by omega) (by rw [hrf]; rfl) rfl rfl IR_set | exact Ok.pe)) | ((first | apply Ca | (apply Cb; (· exact nxE))); (· first | exact Ok.st1 rfl rfl (congrArg (Option.map (dobj 1)) hr1') (by omega) (by rw [hrf]; rfl) rfl rfl IR_set | exact Ok.e0)) | refine Sx ?_ | (refine Sy (fun h => ?_) (fun h => ?_) <;> try (exfalso; omega; done)) | refine Sz (fun h => ?_) (fun h => ?_))
    refine ⟨⟨k + 1, by omega⟩, ?_, by simp only; omega⟩
    (apply Le.headG [_] [{ l := ⟨1, []⟩, k := 1, R := TR ((xs.take (k + 1)).foldl (wmS (1, 0)) (botT n n)), src := ⟨1, []⟩, base := ⟨1, []⟩ }] (fun _ => False))
    (case' hlen => rfl)
    (case' hms => rfl)
    all_goals (try dsimp only [srcs])
    (case' hfr | hob => (repeat' (first | refine La ?_ ?_ | exact Lc | refine Lo ?_ | refine ⟨⟨_, rfl, ?_⟩, ?_⟩ | refine Lx ?_)))
    (case' hok => first | exact ⟨MI.ok_row (r0 := IR r) (r := IR (r.set f (max (entN T t f) (-pk)))) (by rw [hst, wmS]; simp only [pw, Int.zero_mul, Int.one_mul, Int.zero_sub]; exact setT_TR hr1) hr1' (by simp) rfl (Cg), trivial⟩ | exact trivial)
    (case' hN => rfl)
    (case' hS => rfl)
    all_goals (first | exact Ld | (rfl))
  ·
    obtain rfl : k = xs.length := by omega
    rw [List.take_length]
    repeat' (first | ((first | apply Ba | (apply Bb; (· rfl); (· rfl)) | (apply Bc; (· exact nxE)) | (apply Bd; (· rfl); (· rfl); (· exact nxE))); (· first | exact Ok.pe)) | ((first | apply Ca | (apply Cb; (· exact nxE))); (· first | exact Ok.e0)) | refine Sx ?_ | (refine Sy (fun h => ?_) (fun h => ?_) <;> try (exfalso; omega; done)) | refine Sz (fun h => ?_) (fun h => ?_))
    refine Ya ?_
    (apply Le.headG [] [{ l := ⟨0, []⟩, k := 1, R := TR (wmT n xs (1, 0)), src := ⟨1, []⟩, base := ⟨1, []⟩ }] (fun _ => False))
    (case' hlen => rfl)
    (case' hms => rfl)
    all_goals (try dsimp only [srcs])
    (case' hfr | hob => (repeat' (first | refine La ?_ ?_ | exact Lc | refine Lo ?_ | refine ⟨⟨_, rfl, ?_⟩, ?_⟩ | refine Lx ?_)))
    (case' hok => first | exact ⟨MI.ok_same rfl (Cg), trivial⟩ | exact trivial)
    (case' hN => rfl)
    (case' hS => rfl)
    all_goals (first | exact Ld | (rfl))
theorem btM_get {m n i : Nat} {F : Nat → Nat → Bool} (h : i < m) : (mRows 1 (btF m n F))[((i : Nat) : Int).toNat]? = some [.sl 1 (brF n (F i))] := by simp [mRows, btF_get h]
set_option maxHeartbeats 8000000 in
theorem l05Reach_ac (T : List (List Int)) (n : Nat) (hT : Sq T n) (hn : n ≤ 1000) : AC Try.prog 180 [TL T] H0 (own1 1 n) (hpM 1 (btF n n (rchF (entN T) n))) := by
  have htl : (mRows 1 (TR T)).length = n := by simp [hT.l]
  have hsg : ∀ i j, i < n → j < n → ∃ r, (mRows 1 (TR T))[((i : Nat) : Int).toNat]? = some [.sl 1 (IR r)] ∧ (IR r)[((j : Nat) : Int).toNat]? = some [DI (entN T i j)] ∧ (IR r).length = n := fun i j hi hj => by
    obtain ⟨r, h1, h2, h3⟩ := hT.get hi hj
    exact ⟨r, TR_get h1, IR_get h2, by rw [IR_len, h3]⟩
  generalize entN T = a at *
  refine AC.of_body 0 Try.func180 rfl (fun l h => absurd rfl h) (fun C hC => ?_)
  have hD : ∀ l, ¬ C.D0 l := fun l h => (hC l).1 h rfl
  simp only [startFr, Try.ntmps180, List.length_cons, List.length_nil, Nat.reduceAdd, Nat.reduceSub, List.replicate_succ, List.replicate_zero, List.cons_append, List.nil_append]
  repeat' (first | ((first | apply Ba | (apply Bb; (· rfl); (· rfl)) | (apply Bc; (· exact nxE)) | (apply Bd; (· rfl); (· rfl); (· exact nxE))); (· first | exact Ok.lenD rfl rfl htl | exact Ok.pe)) | ((first | apply Ca | (apply Cb; (· exact nxE))); (· first | exact Ok.e0)) | refine Sx ?_ | (refine Sy (fun h => ?_) (fun h => ?_) <;> try (exfalso; omega; done)) | refine Sz (fun h => ?_) (fun h => ?_))
  refine AW.loop (X := {k : Nat // k ≤ n}) (fun k => ⟨[TL T, Oo, Oo, I n, .own 1 ⟨1, []⟩ 0 (k.1 : Nat), I (k.1 : Nat), Oo, Oo, Oo, Oo, Oo, Oo, Oo, Oo, Oo, Oo, Oo, Oo, Oo, Oo, Oo, Oo, Oo, Oo, Oo, Oo, Oo, Oo, Oo, Oo, Oo, Oo, Oo, Oo, Oo, Oo, Oo, Oo, Oo, Oo, Oo, Oo, Oo, Oo, Oo, Oo, Oo, Oo, Oo, Oo, Oo, Oo, Oo, Oo, Oo, Oo, Oo, Oo, Oo, Oo], heapX [] [mi1 ⟨1, []⟩ (btF k.1 n (rchF a n))], 900⟩) (fun k => n - k.1) ⟨0, Nat.zero_le _⟩ ?_ (fun k => ?_)
  ·
    (apply Le.headG [] [{ l := ⟨1, []⟩, k := 1, R := btF 0 n (rchF a n), src := ⟨4, []⟩, base := ⟨4, []⟩ }] (fun _ => False))
    (case' hlen => rfl)
    (case' hms => rfl)
    all_goals (try dsimp only [srcs])
    (case' hfr | hob => (repeat' (first | refine La ?_ ?_ | exact Lc | refine Lo ?_ | refine ⟨⟨_, rfl, ?_⟩, ?_⟩ | refine Lx ?_)))
    (case' hok => first | exact ⟨MI.ok_same rfl (fun i x hx => by simp [btF] at hx), trivial⟩ | exact trivial)
    (case' hN => rfl)
    (case' hS => rfl)
    all_goals (first | exact Ld | (rfl))
  obtain ⟨v, hv⟩ := k
  simp only
  by_cases hlt : v < n
  · have hrow0 : (List.replicate n [DB false]).set v [DB true] = brF n (fun j => decide (j = v)) := by rw [brF_0]; exact brF_set (fun j => by by_cases e : j = v <;> simp [e])
    have hF : rchF a n v = rcV a n n (fun j => decide (j = v)) := rfl
    generalize hg0 : (fun j => decide (j = v)) = g0 at hrow0 hF
    repeat' (first | ((first | apply Ba | (apply Bb; (· rfl); (· rfl)) | (apply Bc; (· exact nxE)) | (apply Bd; (· rfl); (· rfl); (· exact nxE))); (· first | exact Ok.st1 rfl rfl rfl (by rw [List.length_replicate]; exact hlt) (by simp [hlt]; rfl) rfl rfl hrow0 | exact Ok.pe)) | ((first | apply Ca | (apply Cb; (· exact nxE))); (· first | exact Ok.st1 rfl rfl rfl (by rw [List.length_replicate]; exact hlt) (by simp [hlt]; rfl) rfl rfl hrow0 | exact Ok.e0)) | refine Sx ?_ | (refine Sy (fun h => ?_) (fun h => ?_) <;> try (exfalso; omega; done)) | refine Sz (fun h => ?_) (fun h => ?_))
    refine AW.loop (X := {k : Nat // k ≤ n}) (fun k => ⟨[TL T, Oo, Oo, I n, .own 1 ⟨1, []⟩ 0 v, I v, .own 1 ⟨2, []⟩ 0 n, I (k.1 : Nat), Oo, Oo, Oo, Oo, Oo, Oo, Oo, Oo, Oo, Oo, Oo, Oo, Oo, Oo, Oo, Oo, Oo, Oo, Oo, Oo, Oo, Oo, Oo, Oo, Oo, Oo, Oo, Oo, Oo, Oo, Oo, Oo, Oo, Oo, Oo, Oo, Oo, Oo, Oo, Oo, Oo, Oo, Oo, Oo, Oo, Oo, Oo, Oo, Oo, Oo, Oo, Oo], heapX [(⟨2, []⟩, ⟨2, []⟩, dobj 1 (brF n (rcV a n k.1 g0)))] [mi1 ⟨1, []⟩ (btF v n (rchF a n))], 900⟩) (fun k => n - k.1) ⟨0, Nat.zero_le _⟩ ?_ (fun k => ?_)
    ·
      (apply Le.headG [_] [mi1 ⟨1, []⟩ (btF v n (rchF a n))] (fun _ => False))
      (case' hlen => rfl)
      (case' hms => rfl)
      all_goals (try dsimp only [srcs])
      (case' hfr | hob => (repeat' (first | refine La ?_ ?_ | exact Lc | refine Lo ?_ | refine ⟨⟨_, rfl, ?_⟩, ?_⟩ | refine Lx ?_)))
      (case' hok => first | exact ⟨MI.ok_same rfl (Cg), trivial⟩ | exact trivial)
      (case' hN => rfl)
      (case' hS => rfl)
      all_goals (first | exact Ld | (rfl))
    obtain ⟨m, hm⟩ := k
    simp only
    by_cases hlt1 : m < n
    · have hst1 : rcV a n (m + 1) g0 = rcI a n n (rcV a n m g0) := rfl
      generalize rcV a n m g0 = g1 at hst1 ⊢
      repeat' (first | ((first | apply Ba | (apply Bb; (· rfl); (· rfl)) | (apply Bc; (· exact nxE)) | (apply Bd; (· rfl); (· rfl); (· exact nxE))); (· first | exact Ok.pe)) | ((first | apply Ca | (apply Cb; (· exact nxE))); (· first | exact Ok.e0)) | refine Sx ?_ | (refine Sy (fun h => ?_) (fun h => ?_) <;> try (exfalso; omega; done)) | refine Sz (fun h => ?_) (fun h => ?_))
      refine AW.loop (X := {k : Nat // k ≤ n}) (fun k => ⟨[TL T, Oo, Oo, I n, .own 1 ⟨1, []⟩ 0 v, I v, .own 1 ⟨2, []⟩ 0 n, I m, I (k.1 : Nat), Oo, Oo, Oo, Oo, Oo, Oo, Oo, Oo, Oo, Oo, Oo, Oo, Oo, Oo, Oo, Oo, Oo, Oo, Oo, Oo, Oo, Oo, Oo, Oo, Oo, Oo, Oo, Oo, Oo, Oo, Oo, Oo, Oo, Oo, Oo, Oo, Oo, Oo, Oo, Oo, Oo, Oo, Oo, Oo, Oo, Oo, Oo, Oo, Oo, Oo, Oo], heapX [(⟨2, []⟩, ⟨2, []⟩, dobj 1 (brF n (rcI a n k.1 g1)))] [mi1 ⟨1, []⟩ (btF v n (rchF a n))], 900⟩) (fun k => n - k.1) ⟨0, Nat.zero_le _⟩ ?_ (fun k => ?_)
      ·
        (apply Le.headG [_] [mi1 ⟨1, []⟩ (btF v n (rchF a n))] (fun _ => False))
        (case' hlen => rfl)
        (case' hms => rfl)
        all_goals (try dsimp only [srcs])
        (case' hfr | hob => (repeat' (first | refine La ?_ ?_ | exact Lc | refine Lo ?_ | refine ⟨⟨_, rfl, ?_⟩, ?_⟩ | refine Lx ?_)))
        (case' hok => first | exact ⟨MI.ok_same rfl (Cg), trivial⟩ | exact trivial)
        (case' hN => rfl)
        (case' hS => rfl)
        all_goals (first | exact Ld | (rfl))
      obtain ⟨i, hi⟩ := k
      simp only
      by_cases hlt2 : i < n
      · have hst2 : rcI a n (i + 1) g1 = rcJ a i n (rcI a n i g1) := rfl
        generalize rcI a n i g1 = g2 at hst2 ⊢
        repeat' (first | ((first | apply Ba | (apply Bb; (· rfl); (· rfl)) | (apply Bc; (· exact nxE)) | (apply Bd; (· rfl); (· rfl); (· exact nxE))); (· first | exact Ok.pe)) | ((first | apply Ca | (apply Cb; (· exact nxE))); (· first | exact Ok.e0)) | refine Sx ?_ | (refine Sy (fun h => ?_) (fun h => ?_) <;> try (exfalso; omega; done)) | refine Sz (fun h => ?_) (fun h => ?_))
        refine AW.loop (X := {k : Nat // k ≤ n}) (fun k => ⟨[TL T, Oo, Oo, I n, .own 1 ⟨1, []⟩ 0 v, I v, .own 1 ⟨2, []⟩ 0 n, I m, I i, I (k.1 : Nat), Oo, Oo, Oo, Oo, Oo, Oo, Oo, Oo, Oo, Oo, Oo, Oo, Oo, Oo, Oo, Oo, Oo, Oo, Oo, Oo, Oo, Oo, Oo, Oo, Oo, Oo, Oo, Oo, Oo, Oo, Oo, Oo, Oo, Oo, Oo, Oo, Oo, Oo, Oo, Oo, Oo, Oo, Oo, Oo, Oo, Oo, Oo, Oo, Oo, Oo], heapX [(⟨2, []⟩, ⟨2, []⟩, dobj 1 (brF n (rcJ a i k.1 g2)))] [mi1 ⟨1, []⟩ (btF v n (rchF a n))], 900⟩) (fun k => n - k.1) ⟨0, Nat.zero_le _⟩ ?_ (fun k => ?_)
        ·
          (apply Le.headG [_] [mi1 ⟨1, []⟩ (btF v n (rchF a n))] (fun _ => False))
          (case' hlen => rfl)
          (case' hms => rfl)
          all_goals (try dsimp only [srcs])
          (case' hfr | hob => (repeat' (first | refine La ?_ ?_ | exact Lc | refine Lo ?_ | refine ⟨⟨_, rfl, ?_⟩, ?_⟩ | refine Lx ?_)))
          (case' hok => first | exact ⟨MI.ok_same rfl (Cg), trivial⟩ | exact trivial)
          (case' hN => rfl)
          (case' hS => rfl)
          all_goals (first | exact Ld | (rfl))
        obtain ⟨j, hj⟩ := k
        simp only
        by_cases hlt3 : j < n
        · obtain ⟨r, h1, h2, h3⟩ := hsg i j hlt2 hlt3
          have hst3 : rcJ a i (j + 1) g2 = if rcJ a i j g2 j = true ∧ a i j ≠ BOT then (fun b => if b = i then true else rcJ a i j g2 b) else rcJ a i j g2 := rfl
          generalize rcJ a i j g2 = g3 at hst3 ⊢
          generalize a i j = x at h2 hst3
          have hbl : (brF n g3).length = n := brF_len
          have hbj := brF_get (g := g3) hlt3
          have hbi := brF_get (g := g3) hlt2
          have hset : (brF n g3).set i [DB true] = brF n (fun b => if b = i then true else g3 b) := brF_set (fun _ => rfl)
          generalize g3 j = y at hbj hst3
          repeat' (first | ((first | apply Ba | (apply Bb; (· rfl); (· rfl)) | (apply Bc; (· exact nxE)) | (apply Bd; (· rfl); (· rfl); (· exact nxE))); (· first | exact Ok.ld1 rfl rfl rfl hbj | exact Ok.st1 rfl rfl rfl (by rw [hbl]; exact hlt2) (by rw [hbi]; rfl) rfl rfl hset | exact Ok.pe)) | ((first | apply Ca | (apply Cb; (· exact nxE))); (· first | exact Ok.st1 rfl rfl rfl (by rw [hbl]; exact hlt2) (by rw [hbi]; rfl) rfl rfl hset | exact Ok.e0)) | refine Sx ?_ | (refine Sy (fun h => ?_) (fun h => ?_) <;> try (exfalso; omega; done)) | refine Sz (fun h => ?_) (fun h => ?_))
          all_goals
            first | rw [if_pos ⟨by assumption, by assumption⟩] at hst3 | rw [if_neg (by simp_all [BOT])] at hst3
            refine ⟨⟨j + 1, by omega⟩, ?_, by simp only; omega⟩
            simp only [hst3]
            (apply Le.headG [_] [mi1 ⟨1, []⟩ (btF v n (rchF a n))] (fun _ => False))
            (case' hlen => rfl)
            (case' hms => rfl)
            all_goals (try dsimp only [srcs])
            (case' hfr | hob => (repeat' (first | refine La ?_ ?_ | exact Lc | refine Lo ?_ | refine ⟨⟨_, rfl, ?_⟩, ?_⟩ | refine Lx ?_)))
            (case' hok => first | exact ⟨MI.ok_same rfl (Cg), trivial⟩ | exact trivial)
            (case' hN => rfl)
            (case' hS => rfl)
            all_goals (first | exact Ld | (rfl))
        · obtain rfl : j = n := by omega
          rw [← hst2]
          repeat' (first | ((first | apply Ba | (apply Bb; (· rfl); (· rfl)) | (apply Bc; (· exact nxE)) | (apply Bd; (· rfl); (· rfl); (· exact nxE))); (· first | exact Ok.pe)) | ((first | apply Ca | (apply Cb; (· exact nxE))); (· first | exact Ok.e0)) | refine Sx ?_ | (refine Sy (fun h => ?_) (fun h => ?_) <;> try (exfalso; omega; done)) | refine Sz (fun h => ?_) (fun h => ?_))
          refine ⟨⟨i + 1, by omega⟩, ?_, by simp only; omega⟩
          (apply Le.headG [_] [mi1 ⟨1, []⟩ (btF v j (rchF a j))] (fun _ => False))
          (case' hlen => rfl)
          (case' hms => rfl)
          all_goals (try dsimp only [srcs])
          (case' hfr | hob => (repeat' (first | refine La ?_ ?_ | exact Lc | refine Lo ?_ | refine ⟨⟨_, rfl, ?_⟩, ?_⟩ | refine Lx ?_)))
          (case' hok => first | exact ⟨MI.ok_same rfl (Cg), trivial⟩ | exact trivial)
          (case' hN => rfl)
          (case' hS => rfl)
          all_goals (first | exact Ld | (rfl))
      · obtain rfl : i = n := by omega
        rw [← hst1]
        repeat' (first | ((first | apply Ba | (apply Bb; (· rfl); (· rfl)) | (apply Bc; (· exact nxE)) | (apply Bd; (· rfl); (· rfl); (· exact nxE))); (· first | exact Ok.pe)) | ((first | apply Ca | (apply Cb; (· exact nxE))); (· first | exact Ok.e0)) | refine Sx ?_ | (refine Sy (fun h => ?_) (fun h => ?_) <;> try (exfalso; omega; done)) | refine Sz (fun h => ?_) (fun h => ?_))
        refine ⟨⟨m + 1, by omega⟩, ?_, by simp only; omega⟩
        (apply Le.headG [_] [mi1 ⟨1, []⟩ (btF v i (rchF a i))] (fun _ => False))
        (case' hlen => rfl)
        (case' hms => rfl)
        all_goals (try dsimp only [srcs])
        (case' hfr | hob => (repeat' (first | refine La ?_ ?_ | exact Lc | refine Lo ?_ | refine ⟨⟨_, rfl, ?_⟩, ?_⟩ | refine Lx ?_)))
        (case' hok => first | exact ⟨MI.ok_same rfl (Cg), trivial⟩ | exact trivial)
        (case' hN => rfl)
        (case' hS => rfl)
        all_goals (first | exact Ld | (rfl))
    · obtain rfl : m = n := by omega
      rw [← hF]
      have hbl : (brF m (rchF a m v)).length = m := brF_len
      have hol : (btF v m (rchF a m)).length = v := btF_len
      repeat' (first | ((first | apply Ba | (apply Bb; (· rfl); (· rfl)) | (apply Bc; (· exact nxE)) | (apply Bd; (· rfl); (· rfl); (· exact nxE))); (· first | exact Ok.appendT rfl rfl (by decide) rfl rfl rfl (by simp [outer_len, btF_len]; done) rfl rfl (by rfl) (by omega) (by omega) rfl | exact Ok.pe)) | ((first | apply Ca | (apply Cb; (· exact nxE))); (· first | exact Ok.appendT rfl rfl (by decide) rfl rfl rfl (by simp [outer_len, btF_len]; done) rfl rfl (by rfl) (by omega) (by omega) rfl | exact Ok.e0)) | refine Sx ?_ | (refine Sy (fun h => ?_) (fun h => ?_) <;> try (exfalso; omega; done)) | refine Sz (fun h => ?_) (fun h => ?_))
      refine ⟨⟨v + 1, by omega⟩, ?_, by simp only; omega⟩
      (apply Le.headG [] [{ l := ⟨1, []⟩, k := 1, R := btF (v + 1) m (rchF a m), src := ⟨906, []⟩, base := ⟨1, []⟩, cut := v, ext := some ⟨2, []⟩ }] (fun _ => False))
      (case' hlen => rfl)
      (case' hms => rfl)
      all_goals (try dsimp only [srcs])
      (case' hfr | hob => (repeat' (first | refine La ?_ ?_ | exact Lc | refine Lo ?_ | refine ⟨⟨_, rfl, ?_⟩, ?_⟩ | refine Lx ?_)))
      (case' hok => first | exact ⟨MI.ok_app btF_succ btF_len hbl rfl (Cg) rfl, trivial⟩ | exact trivial)
      (case' hN => rfl)
      (case' hS => rfl)
      all_goals (first | exact Ld | ((simp [AllP, btF]; done)))
  · obtain rfl : v = n := by omega
    repeat' (first | ((first | apply Ba | (apply Bb; (· rfl); (· rfl)) | (apply Bc; (· exact nxE)) | (apply Bd; (· rfl); (· rfl); (· exact nxE))); (· first | exact Ok.pe)) | ((first | apply Ca | (apply Cb; (· exact nxE))); (· first | exact Ok.e0)) | refine Sx ?_ | (refine Sy (fun h => ?_) (fun h => ?_) <;> try (exfalso; omega; done)) | refine Sz (fun h => ?_) (fun h => ?_))
    refine Ya ?_
    (apply Le.headG [] [{ l := ⟨0, []⟩, k := 1, R := btF v v (rchF a v), src := ⟨1, []⟩, base := ⟨1, []⟩ }] (fun _ => False))
    (case' hlen => rfl)
    (case' hms => rfl)
    all_goals (try dsimp only [srcs])
    (case' hfr | hob => (repeat' (first | refine La ?_ ?_ | exact Lc | refine Lo ?_ | refine ⟨⟨_, rfl, ?_⟩, ?_⟩ | refine Lx ?_)))
    (case' hok => first | exact ⟨MI.ok_same rfl (Cg), trivial⟩ | exact trivial)
    (case' hN => rfl)
    (case' hS => rfl)
    all_goals (first | exact Ld | (rfl))
end Go.Proofs.Ytegfjedklebbfaa
end

section
namespace Go.Proofs.Ytegfjedklebbfaa
set_option linter.unusedSimpArgs false
set_option linter.unusedVariables false
open Go Go.RowKit
attribute [local irreducible] AL AD AW OpOk Le AC thenQ blockQ EndQ

def cmpI (x y : Int) : Int := if x < y then -1 else if y < x then 1 else 0
def crI (a b : Int × Int) : Int := cmpI (a.1 * b.2) (b.1 * a.2)
/-- Ratios whose products fit. -/
def smallR (a : Int × Int) : Prop := (0 ≤ a.1 ∧ a.1 ≤ 1000000) ∧ (0 ≤ a.2 ∧ a.2 ≤ 1000000)
theorem smallR.mul {a b : Int × Int} (h : smallR a) (k : smallR b) : (0 ≤ a.1 * b.2 ∧ a.1 * b.2 ≤ 1000000000000) ∧ (0 ≤ b.1 * a.2 ∧ b.1 * a.2 ≤ 1000000000000) :=
  ⟨mul_in h.1 k.2, mul_in k.1 h.2⟩
theorem isNaN_ac (x : Int) : AC Try.prog 259 [I x] H0 (Bo false) H0 := by
  refine AC.of_body 0 Try.func259 rfl (fun l h => absurd rfl h) (fun C hC => ?_)
  have hD : ∀ l, ¬ C.D0 l := fun l h => (hC l).1 h rfl
  simp only [startFr, Try.ntmps259, List.length_cons, List.length_nil, Nat.reduceAdd, Nat.reduceSub, List.replicate_succ, List.replicate_zero, List.cons_append, List.nil_append]
  repeat' (first | ((first | apply Ba | (apply Bb; (· rfl); (· rfl)) | (apply Bc; (· exact nxE)) | (apply Bd; (· rfl); (· rfl); (· exact nxE))); (· first | exact Ok.pe)) | ((first | apply Ca | (apply Cb; (· exact nxE))); (· first | exact Ok.e0)) | refine Sx ?_ | (refine Sy (fun h => ?_) (fun h => ?_) <;> try (exfalso; omega; done)) | refine Sz (fun h => ?_) (fun h => ?_))
  refine Ya ?_
  (apply Le.headZ (hs := []) [] rfl)
  all_goals (try dsimp only [srcs])
  (case' hfr => (repeat' (first | refine La ?_ ?_ | exact Lc | refine Lo ?_ | refine ⟨⟨_, rfl, ?_⟩, ?_⟩ | refine Lx ?_)))
  all_goals (first | exact Ld | exact trivial | ((simp; done)))
theorem compareI_ac (x y : Int) : AC Try.prog 212 [I x, I y] H0 (I (cmpI x y)) H0 := by
  unfold cmpI
  refine AC.of_body 0 Try.func212 rfl (fun l h => absurd rfl h) (fun C hC => ?_)
  have hD : ∀ l, ¬ C.D0 l := fun l h => (hC l).1 h rfl
  simp only [startFr, Try.ntmps212, List.length_cons, List.length_nil, Nat.reduceAdd, Nat.reduceSub, List.replicate_succ, List.replicate_zero, List.cons_append, List.nil_append]
  repeat' (first | ((first | apply Ba | (apply Bb; (· rfl); (· rfl)) | (apply Bc; (· exact nxE)) | (apply Bd; (· rfl); (· rfl); (· exact nxE))); (· first | exact Kz rfl rfl (isNaN_ac _) (Ad An) | exact Ok.pe)) | ((first | apply Ca | (apply Cb; (· exact nxE))); (· first | exact Ok.e0)) | refine Sx ?_ | (refine Sy (fun h => ?_) (fun h => ?_) <;> try (exfalso; omega; done)) | refine Sz (fun h => ?_) (fun h => ?_))
  all_goals first
    | (rw [if_pos (by omega)]
       refine Ya ?_
       (apply Le.headZ (hs := []) [] rfl)
       all_goals (try dsimp only [srcs])
       (case' hfr => (repeat' (first | refine La ?_ ?_ | exact Lc | refine Lo ?_ | refine ⟨⟨_, rfl, ?_⟩, ?_⟩ | refine Lx ?_)))
       all_goals (first | exact Ld | exact trivial | (rfl))
       done)
    | (rw [if_neg (by omega), if_pos (by omega)]
       refine Ya ?_
       (apply Le.headZ (hs := []) [] rfl)
       all_goals (try dsimp only [srcs])
       (case' hfr => (repeat' (first | refine La ?_ ?_ | exact Lc | refine Lo ?_ | refine ⟨⟨_, rfl, ?_⟩, ?_⟩ | refine Lx ?_)))
       all_goals (first | exact Ld | exact trivial | (rfl))
       done)
    | (rw [if_neg (by omega), if_neg (by omega)]
       refine Ya ?_
       (apply Le.headZ (hs := []) [] rfl)
       all_goals (try dsimp only [srcs])
       (case' hfr => (repeat' (first | refine La ?_ ?_ | exact Lc | refine Lo ?_ | refine ⟨⟨_, rfl, ?_⟩, ?_⟩ | refine Lx ?_)))
       all_goals (first | exact Ld | exact trivial | (rfl))
       done)
theorem compareRatios_ac (a b : Int × Int) (ha : smallR a) (hb : smallR b) : AC Try.prog 121 [.agg [I a.1, I a.2], .agg [I b.1, I b.2]] H0 (I (crI a b)) H0 := by
  obtain ⟨h1, h2⟩ := ha.mul hb
  unfold crI
  obtain ⟨a1, a2⟩ := a
  obtain ⟨b1, b2⟩ := b
  simp only at h1 h2 ⊢
  refine AC.of_body 0 Try.func121 rfl (fun l h => absurd rfl h) (fun C hC => ?_)
  have hD : ∀ l, ¬ C.D0 l := fun l h => (hC l).1 h rfl
  simp only [startFr, Try.ntmps121, List.length_cons, List.length_nil, Nat.reduceAdd, Nat.reduceSub, List.replicate_succ, List.replicate_zero, List.cons_append, List.nil_append]
  repeat' (first | ((first | apply Ba | (apply Bb; (· rfl); (· rfl)) | (apply Bc; (· exact nxE)) | (apply Bd; (· rfl); (· rfl); (· exact nxE))); (· first | exact Kz rfl rfl (compareI_ac _ _) (Ad (Ad An)) | exact Ok.pe)) | ((first | apply Ca | (apply Cb; (· exact nxE))); (· first | exact Ok.e0)) | refine Sx ?_ | (refine Sy (fun h => ?_) (fun h => ?_) <;> try (exfalso; omega; done)) | refine Sz (fun h => ?_) (fun h => ?_))
  refine Ya ?_
  (apply Le.headZ (hs := []) [] rfl)
  all_goals (try dsimp only [srcs])
  (case' hfr => (repeat' (first | refine La ?_ ?_ | exact Lc | refine Lo ?_ | refine ⟨⟨_, rfl, ?_⟩, ?_⟩ | refine Lx ?_)))
  all_goals (first | exact Ld | exact trivial | (rfl))
/-! ### Graphs with a faster place -/
end Go.Proofs.Ytegfjedklebbfaa
end

section
namespace Go.Proofs.Ytegfjedklebbfaa
set_option linter.unusedSimpArgs false
set_option linter.unusedVariables false
open Go Go.RowKit
attribute [local irreducible] AL AD AW OpOk Le AC thenQ blockQ EndQ

/-- A ratio as a cycle time is one. -/
structure RatOk (r : Int × Int) : Prop where
  n : 0 ≤ r.1 ∧ r.1 ≤ 1000000
  d : 1 ≤ r.2 ∧ r.2 ≤ 1000000
  g : Nat.gcd r.1.toNat r.2.toNat = 1
theorem RatOk.small {r : Int × Int} (h : RatOk r) : smallR r := ⟨h.n, by have := h.d; omega⟩
theorem ctR_rat {ev : Int} {xs : List Pl} (h : bcC ev xs = 0) : RatOk (ctR ev xs) := by
  obtain ⟨n, rfl, h1, h2, h3, h4, h5, h6, h8, h9, h10, h11⟩ := bc_star h
  rw [h8]
  have hg := (h5.isMax h2 h6).red
  refine ⟨by omega, by omega, ?_⟩
  obtain ⟨u, hu⟩ : ∃ u : Nat, (maxR xs).1 = u := ⟨(maxR xs).1.toNat, by omega⟩
  obtain ⟨v, hv⟩ : ∃ v : Nat, (maxR xs).2 = v := ⟨(maxR xs).2.toNat, by omega⟩
  rw [hu, hv] at hg ⊢
  simpa [Int.gcd] using hg
set_option maxHeartbeats 1000000 in
theorem iIsRatio_ac (r : Int × Int) (h : RatOk r) : AC Try.prog 130 [.agg [I r.1, I r.2]] H0 (Bo true) H0 := by
  obtain ⟨⟨h1, h2⟩, ⟨h3, h4⟩, h5⟩ := h
  obtain ⟨a, b⟩ := r
  simp only at h1 h2 h3 h4 h5 ⊢
  obtain ⟨u, rfl⟩ : ∃ u : Nat, a = u := ⟨a.toNat, by omega⟩
  obtain ⟨v, rfl⟩ : ∃ v : Nat, b = v := ⟨b.toNat, by omega⟩
  rw [Int.toNat_natCast, Int.toNat_natCast] at h5
  have hF := isFinite_ac (u : Int)
  have hW := within_ac (v : Int) 1 1000000
  have hA := absOf_ac (u : Int) h1
  have hD := divisorOf_ac u v (by omega) (by omega)
  have hD2 : AC Try.prog 214 [I u, I v] H0 (I 1) H0 := by rw [h5] at hD; exact hD
  have w1 : wi (u : Int) (-1000000) 1000000 = true := wi_iff.2 ⟨by omega, by omega⟩
  have w2 : wi (v : Int) 1 1000000 = true := wi_iff.2 ⟨by omega, by omega⟩
  rw [w1] at hF
  rw [w2] at hW
  refine AC.of_body 0 Try.func130 rfl (fun l h => absurd rfl h) (fun C hC => ?_)
  have hD : ∀ l, ¬ C.D0 l := fun l h => (hC l).1 h rfl
  simp only [startFr, Try.ntmps130, List.length_cons, List.length_nil, Nat.reduceAdd, Nat.reduceSub, List.replicate_succ, List.replicate_zero, List.cons_append, List.nil_append]
  repeat' (first | ((first | apply Ba | (apply Bb; (· rfl); (· rfl)) | (apply Bc; (· exact nxE)) | (apply Bd; (· rfl); (· rfl); (· exact nxE))); (· first | exact Kz rfl rfl (hF) (Ad An) | exact Kz rfl rfl (hW) (Ad (Ad (Ad An))) | exact Kz rfl rfl (hA) (Ad An) | exact Kz rfl rfl (hD2) (Ad (Ad An)) | exact Ok.pe)) | ((first | apply Ca | (apply Cb; (· exact nxE))); (· first | exact Ok.e0)) | refine Sx ?_ | (refine Sy (fun h => ?_) (fun h => ?_) <;> try (exfalso; omega; done)) | refine Sz (fun h => ?_) (fun h => ?_))
  refine Ya ?_
  (apply Le.headZ (hs := []) [] rfl)
  all_goals (try dsimp only [srcs])
  (case' hfr => (repeat' (first | refine La ?_ ?_ | exact Lc | refine Lo ?_ | refine ⟨⟨_, rfl, ?_⟩, ?_⟩ | refine Lx ?_)))
  all_goals (first | exact Ld | exact trivial | (rfl))
set_option maxHeartbeats 1000000 in
theorem iCompareRatios_ac (a b : Int × Int) (ha : RatOk a) (hb : RatOk b) : AC Try.prog 27 [.agg [I a.1, I a.2], .agg [I b.1, I b.2]] H0 (.tup [I (crI a b), I 0]) H0 := by
  have h1 := iIsRatio_ac a ha
  have h2 := iIsRatio_ac b hb
  have h3 := compareRatios_ac a b ha.small hb.small
  refine AC.of_body 0 Try.func27 rfl (fun l h => absurd rfl h) (fun C hC => ?_)
  have hD : ∀ l, ¬ C.D0 l := fun l h => (hC l).1 h rfl
  simp only [startFr, Try.ntmps27, List.length_cons, List.length_nil, Nat.reduceAdd, Nat.reduceSub, List.replicate_succ, List.replicate_zero, List.cons_append, List.nil_append]
  repeat' (first | ((first | apply Ba | (apply Bb; (· rfl); (· rfl)) | (apply Bc; (· exact nxE)) | (apply Bd; (· rfl); (· rfl); (· exact nxE))); (· first | exact Kz rfl rfl (h1) (Aa (Ad (Ad An)) An) | exact Kz rfl rfl (h2) (Aa (Ad (Ad An)) An) | exact Kz rfl rfl (h3) (Aa (Ad (Ad An)) (Aa (Ad (Ad An)) An)) | exact Ok.pe)) | ((first | apply Ca | (apply Cb; (· exact nxE))); (· first | exact Ok.e0)) | refine Sx ?_ | (refine Sy (fun h => ?_) (fun h => ?_) <;> try (exfalso; omega; done)) | refine Sz (fun h => ?_) (fun h => ?_))
  refine Yb ?_
  (apply Le.headZ (hs := []) [] rfl)
  all_goals (try dsimp only [srcs])
  (case' hfr => (repeat' (first | refine La ?_ ?_ | exact Lc | refine Lo ?_ | refine ⟨⟨_, rfl, ?_⟩, ?_⟩ | refine Lx ?_)))
  all_goals (first | exact Ld | exact trivial | (rfl))
set_option maxHeartbeats 1000000 in
theorem iCycleTime_ac (ev : Int) (xs : List Pl) (hx : xs.length ≤ 100000000) : AC Try.prog 26 [grD ev xs] H0 (.tup [.agg [I (ctR ev xs).1, I (ctR ev xs).2], I (bcC ev xs)]) H0 := by
  have hE := iIsEventGraph_ac ev xs hx
  cases hg : isEG ev xs
  · rw [(bc_no hg).1, (bc_no hg).2]
    rw [hg] at hE
    refine AC.of_body 0 Try.func26 rfl (fun l h => absurd rfl h) (fun C hC => ?_)
    have hD : ∀ l, ¬ C.D0 l := fun l h => (hC l).1 h rfl
    simp only [startFr, Try.ntmps26, List.length_cons, List.length_nil, Nat.reduceAdd, Nat.reduceSub, List.replicate_succ, List.replicate_zero, List.cons_append, List.nil_append]
    repeat' (first | ((first | apply Ba | (apply Bb; (· rfl); (· rfl)) | (apply Bc; (· exact nxE)) | (apply Bd; (· rfl); (· rfl); (· exact nxE))); (· first | exact Kz rfl rfl (hE) (Aa (Ad (Ad An)) An) | exact Ok.pe)) | ((first | apply Ca | (apply Cb; (· exact nxE))); (· first | exact Ok.e0)) | refine Sx ?_ | (refine Sy (fun h => ?_) (fun h => ?_) <;> try (exfalso; omega; done)) | refine Sz (fun h => ?_) (fun h => ?_))
    refine Yb ?_
    (apply Le.headZ (hs := []) [] rfl)
    all_goals (try dsimp only [srcs])
    (case' hfr => (repeat' (first | refine La ?_ ?_ | exact Lc | refine Lo ?_ | refine ⟨⟨_, rfl, ?_⟩, ?_⟩ | refine Lx ?_)))
    all_goals (first | exact Ld | exact trivial | (rfl))
  · rw [hg] at hE
    obtain ⟨n, rfl, _⟩ := isEG_ok hg
    have hT := cycleTime_ac n xs hg
    refine AC.of_body 0 Try.func26 rfl (fun l h => absurd rfl h) (fun C hC => ?_)
    have hD : ∀ l, ¬ C.D0 l := fun l h => (hC l).1 h rfl
    simp only [startFr, Try.ntmps26, List.length_cons, List.length_nil, Nat.reduceAdd, Nat.reduceSub, List.replicate_succ, List.replicate_zero, List.cons_append, List.nil_append]
    repeat' (first | ((first | apply Ba | (apply Bb; (· rfl); (· rfl)) | (apply Bc; (· exact nxE)) | (apply Bd; (· rfl); (· rfl); (· exact nxE))); (· first | exact Kz rfl rfl (hE) (Aa (Ad (Ad An)) An) | exact Kz rfl rfl (hT) (Aa (Ad (Ad An)) An) | exact Ok.pe)) | ((first | apply Ca | (apply Cb; (· exact nxE))); (· first | exact Ok.e0)) | refine Sx ?_ | (refine Sy (fun h => ?_) (fun h => ?_) <;> try (exfalso; omega; done)) | refine Sz (fun h => ?_) (fun h => ?_))
    refine Yb ?_
    (apply Le.headZ (hs := []) [] rfl)
    all_goals (try dsimp only [srcs])
    (case' hfr => (repeat' (first | refine La ?_ ?_ | exact Lc | refine Lo ?_ | refine ⟨⟨_, rfl, ?_⟩, ?_⟩ | refine Lx ?_)))
    all_goals (first | exact Ld | exact trivial | (rfl))
end Go.Proofs.Ytegfjedklebbfaa
end

section
namespace Go.Proofs.Ytegfjedklebbfaa
set_option linter.unusedSimpArgs false
set_option linter.unusedVariables false
open Go Go.RowKit
attribute [local irreducible] AL AD AW OpOk Le AC thenQ blockQ EndQ

theorem wrapE {n : Nat} (h1 : 1 ≤ n) (h2 : n ≤ 10) : IntKind.i64.wrap ((n : Int) - 1) = n - 1 := wrap_in (by omega) (by omega)
def eventC (ev : Int) (xs : List Pl) (e : Int) : Int := if isEG ev xs = true then (if wi e 0 (IntKind.i64.wrap (ev - 1)) = true then 0 else 2) else 1
theorem checkEvent_ac (ev : Int) (xs : List Pl) (e : Int) (hx : xs.length ≤ 100000000) : AC Try.prog 125 [grD ev xs, I e] H0 (I (eventC ev xs e)) H0 := by
  have hE := iIsEventGraph_ac ev xs hx
  have hI := isEvent_ac ev xs e
  unfold eventC
  cases hg : isEG ev xs
  · rw [hg] at hE
    refine AC.of_body 0 Try.func125 rfl (fun l h => absurd rfl h) (fun C hC => ?_)
    have hD : ∀ l, ¬ C.D0 l := fun l h => (hC l).1 h rfl
    simp only [startFr, Try.ntmps125, List.length_cons, List.length_nil, Nat.reduceAdd, Nat.reduceSub, List.replicate_succ, List.replicate_zero, List.cons_append, List.nil_append]
    repeat' (first | ((first | apply Ba | (apply Bb; (· rfl); (· rfl)) | (apply Bc; (· exact nxE)) | (apply Bd; (· rfl); (· rfl); (· exact nxE))); (· first | exact Kz rfl rfl (hE) (Aa (Ad (Ad An)) An) | exact Ok.pe)) | ((first | apply Ca | (apply Cb; (· exact nxE))); (· first | exact Ok.e0)) | refine Sx ?_ | (refine Sy (fun h => ?_) (fun h => ?_) <;> try (exfalso; omega; done)) | refine Sz (fun h => ?_) (fun h => ?_))
    refine Ya ?_
    (apply Le.headZ (hs := []) [] rfl)
    all_goals (try dsimp only [srcs])
    (case' hfr => (repeat' (first | refine La ?_ ?_ | exact Lc | refine Lo ?_ | refine ⟨⟨_, rfl, ?_⟩, ?_⟩ | refine Lx ?_)))
    all_goals (first | exact Ld | exact trivial | (rfl))
  · rw [hg] at hE
    cases hw : wi e 0 (IntKind.i64.wrap (ev - 1))
    all_goals
      rw [hw] at hI
      refine AC.of_body 0 Try.func125 rfl (fun l h => absurd rfl h) (fun C hC => ?_)
      have hD : ∀ l, ¬ C.D0 l := fun l h => (hC l).1 h rfl
      simp only [startFr, Try.ntmps125, List.length_cons, List.length_nil, Nat.reduceAdd, Nat.reduceSub, List.replicate_succ, List.replicate_zero, List.cons_append, List.nil_append]
      repeat' (first | ((first | apply Ba | (apply Bb; (· rfl); (· rfl)) | (apply Bc; (· exact nxE)) | (apply Bd; (· rfl); (· rfl); (· exact nxE))); (· first | exact Kz rfl rfl (hE) (Aa (Ad (Ad An)) An) | exact Kz rfl rfl (hI) (Aa (Ad (Ad An)) (Ad An)) | exact Ok.pe)) | ((first | apply Ca | (apply Cb; (· exact nxE))); (· first | exact Ok.e0)) | refine Sx ?_ | (refine Sy (fun h => ?_) (fun h => ?_) <;> try (exfalso; omega; done)) | refine Sz (fun h => ?_) (fun h => ?_))
      refine Ya ?_
      (apply Le.headZ (hs := []) [] rfl)
      all_goals (try dsimp only [srcs])
      (case' hfr => (repeat' (first | refine La ?_ ?_ | exact Lc | refine Lo ?_ | refine ⟨⟨_, rfl, ?_⟩, ?_⟩ | refine Lx ?_)))
      all_goals (first | exact Ld | exact trivial | (rfl))
/-! ### UseOf -/
end Go.Proofs.Ytegfjedklebbfaa
end

section
namespace Go.Proofs.Ytegfjedklebbfaa
set_option linter.unusedSimpArgs false
set_option linter.unusedVariables false
open Go Go.RowKit

theorem MaxR.cross_le {xs : List Pl} {r s : Int × Int} (ht : ∀ c, Circ xs c → 0 < sumT xs c) (h1 : MaxR xs r) (h2 : ∀ c, Circ xs c → wgt xs s.1 s.2 c ≤ 0) : r.1 * s.2 ≤ s.1 * r.2 := by
  obtain ⟨c, hc, e⟩ := h1.eq
  have hk := ht c hc
  have hle := h2 c hc
  rw [wgt_sums] at e hle
  have e1 : r.2 * sumD xs c = r.1 * sumT xs c := by omega
  have h3 : s.2 * sumD xs c ≤ s.1 * sumT xs c := by omega
  have h4 := Int.mul_le_mul_of_nonneg_left h3 (Int.le_of_lt h1.pos)
  have h5 : r.2 * (s.2 * sumD xs c) = s.2 * (r.1 * sumT xs c) := by rw [← e1]; rw [← Int.mul_assoc, ← Int.mul_assoc, Int.mul_comm r.2 s.2]
  rw [h5] at h4
  have h6 : (r.1 * s.2) * sumT xs c ≤ (s.1 * r.2) * sumT xs c := by
    rw [show r.1 * s.2 * sumT xs c = s.2 * (r.1 * sumT xs c) by rw [Int.mul_comm r.1 s.2, Int.mul_assoc], show s.1 * r.2 * sumT xs c = r.2 * (s.1 * sumT xs c) by rw [Int.mul_comm s.1 r.2, Int.mul_assoc]]
    exact h4
  exact Int.le_of_mul_le_mul_right h6 hk
end Go.Proofs.Ytegfjedklebbfaa
end

section
namespace Go.Proofs.Ytegfjedklebbfaa
set_option linter.unusedSimpArgs false
set_option linter.unusedVariables false
open Go Go.RowKit

end Go.Proofs.Ytegfjedklebbfaa
end

section
namespace Go.Proofs.Ytegfjedklebbfaa
set_option linter.unusedSimpArgs false
set_option linter.unusedVariables false
open Go Go.RowKit

end Go.Proofs.Ytegfjedklebbfaa
end

section
namespace Go.Proofs.Ytegfjedklebbfaa
set_option linter.unusedSimpArgs false
set_option linter.unusedVariables false
open Go Go.RowKit

noncomputable def upB (xs : List Pl) (e : Nat) (p : Pl) : Bool := decide (0 ≤ tdF xs p.t e)
/-- The places from whose ends an event can be reached. -/
noncomputable def upL (xs : List Pl) (e : Nat) : List Pl := xs.filter (upB xs e)
theorem wgt_map {xs ys : List Pl} {rn rd : Int} : ∀ {c c' : List Nat}, c'.map (plA xs) = c.map (plA ys) → wgt xs rn rd c' = wgt ys rn rd c
  | [], [], _ => rfl
  | [], _ :: _, h => by simp at h
  | _ :: _, [], h => by simp at h
  | i :: c, j :: c', h => by
    simp only [List.map_cons, List.cons.injEq] at h
    simp only [wgt, h.1, wgt_map h.2]
theorem Wk.sub {xs ys : List Pl} {q : Pl → Prop} (hm : ∀ j, j < ys.length → q (plA ys j) → ∃ i, i < xs.length ∧ plA xs i = plA ys j) : ∀ {c : List Nat} {u v : Int}, Wk ys u c v → (∀ j ∈ c, q (plA ys j)) → ∃ c', Wk xs u c' v ∧ c'.map (plA xs) = c.map (plA ys)
  | [], u, v, h, _ => ⟨[], h, rfl⟩
  | j :: c, u, v, h, hq => by
    obtain ⟨h1, h2, h3⟩ := h
    obtain ⟨i, hi, e⟩ := hm j h1 (hq j (by simp))
    obtain ⟨c', k1, k2⟩ := Wk.sub hm h3 (fun j hj => hq j (by simp [hj]))
    exact ⟨i :: c', ⟨hi, by rw [e]; exact h2, by rw [e]; exact k1⟩, by simp [e, k2]⟩
theorem up_dn {xs : List Pl} {P : Pl → Bool} (j : Nat) (hj : j < (xs.filter P).length) : ∃ i, i < xs.length ∧ plA xs i = plA (xs.filter P) j := by
  obtain ⟨h1, _⟩ := List.mem_filter.1 (List.getElem_mem hj)
  obtain ⟨i, hi, e⟩ := List.getElem_of_mem h1
  exact ⟨i, hi, by simp [plA, hi, hj, e]⟩
theorem up_up {xs : List Pl} {P : Pl → Bool} (i : Nat) (hi : i < xs.length) (hp : P (plA xs i) = true) : ∃ j, j < (xs.filter P).length ∧ plA (xs.filter P) j = plA xs i := by
  have e1 : plA xs i = xs[i] := by simp [plA, hi]
  obtain ⟨j, hj, e⟩ := List.getElem_of_mem (List.mem_filter.2 ⟨List.getElem_mem hi, by rw [← e1]; exact hp⟩)
  exact ⟨j, hj, by rw [e1, ← e]; simp [plA, hj]⟩
theorem up_live {n : Nat} {xs : List Pl} {P : Pl → Bool} (hv : ∀ p ∈ xs, okPl n p) (hl : liveB n xs = true) : liveB n (xs.filter P) = true := by
  have hv' : ∀ p ∈ xs.filter P, okPl n p := fun p hp => hv p (List.mem_filter.1 hp).1
  have h1 := liveB_ord hv
  rw [hl] at h1
  obtain ⟨ord, ho⟩ := Option.isSome_iff_exists.1 h1.symm
  obtain ⟨_, h2, _⟩ := ord_idx ho
  unfold liveB
  rw [Int.toNat_natCast]
  apply decide_eq_true
  apply Classical.byContradiction
  intro hd
  unfold deadC at hd
  obtain ⟨c1, c2, c3, c4⟩ := overF_cyc hd
  generalize overF (entN (freeT n (xs.filter P))) n (-1) = c at *
  have ha : ∀ {u v : Nat}, u < n → v < n → entN (freeT n (xs.filter P)) u v ≠ BOT → ord.idxOf v < ord.idxOf u := fun {u v} hu hv2 h => by
    unfold freeT at h
    rw [free_entN (Sq.bot n) hv' hu hv2, entN_bot hu hv2] at h
    by_cases hw : wPl (xs.filter P) u v = true
    · refine h2 u v hu hv2 ?_
      unfold wPl at hw ⊢
      rw [List.any_eq_true] at hw ⊢
      obtain ⟨p, hp, h3⟩ := hw
      exact ⟨p, (List.mem_filter.1 hp).1, h3⟩
    · rw [if_neg hw] at h; exact absurd rfl h
  have hlt : ∀ k, k < c.length → c.getD k 0 < n := fun k hk => c2 _ (by rw [List.getD_eq_getElem?_getD, List.getElem?_eq_getElem hk]; exact List.getElem_mem hk)
  have h0 : 0 < c.length := List.length_pos_iff.2 c1
  have mono : ∀ k, k < c.length → ord.idxOf (c.getD 0 0) ≤ ord.idxOf (c.getD k 0) := fun k => by
    induction k with
    | zero => intro _; exact Nat.le_refl _
    | succ k ih =>
      intro hk
      have := ih (by omega)
      have := ha (hlt (k + 1) hk) (hlt k (by omega)) (c3 k hk)
      omega
  have hm := mono (c.length - 1) (by omega)
  rw [hdN_getD, lsN_getD] at c4
  have := ha (hlt 0 h0) (hlt (c.length - 1) (by omega)) c4
  omega
theorem up_eg {ev : Int} {xs : List Pl} {P : Pl → Bool} (h : isEG ev xs = true) : isEG ev (xs.filter P) = true := by
  simp only [isEG, Bool.and_eq_true, decide_eq_true_eq, List.all_eq_true, wi_iff] at h ⊢
  obtain ⟨⟨⟨h1, h2⟩, h3⟩, h4⟩ := h
  exact ⟨⟨⟨h1, h2⟩, Nat.le_trans (List.length_filter_le _ _) h3⟩, fun p hp => h4 p (List.mem_filter.1 hp).1⟩
theorem liveI_eg {ev : Int} {xs : List Pl} (h : liveI ev xs = 0) : isEG ev xs = true := by
  unfold liveI at h
  by_cases hg : isEG ev xs = true
  · exact hg
  · rw [if_neg hg] at h; exact absurd h (by decide)
theorem up_liveI {ev : Int} {xs : List Pl} {P : Pl → Bool} (h : liveI ev xs = 0) : liveI ev (xs.filter P) = 0 := by
  have hg := liveI_eg h
  obtain ⟨n, rfl, _, _, _, h4⟩ := isEG_ok hg
  unfold liveI at h ⊢
  rw [if_pos hg] at h
  rw [if_pos (up_eg hg)]
  cases hl : liveB n xs
  · rw [hl] at h; simp at h
  · rw [up_live h4 hl]; rfl
theorem map_ne {α β : Type} {f g : α → β} {c c' : List α} (h : c'.map f = c.map g) (hc : c ≠ []) : c' ≠ [] := by
  rintro rfl
  cases c with
  | nil => exact hc rfl
  | cons a c => simp at h
theorem ev_law {ev : Int} {xs : List Pl} {e : Nat} (hl : liveI ev xs = 0) (hb : bcC ev (upL xs e) = 0) : bcC ev xs = 0 ∧ crI (ctR ev (upL xs e)) (ctR ev xs) ≤ 0 := by
  obtain ⟨n, rfl, k1, k2, k3, k4, k5, k6, k8, k9, k10, k11⟩ := bc_star hb
  obtain ⟨n', hev, h1, h2, h3, h4, h5⟩ := live_ok hl
  obtain rfl : n = n' := by omega
  have hdn : ∀ {c : List Nat} {u v : Int}, Wk (upL xs e) u c v → ∃ c', Wk xs u c' v ∧ c'.map (plA xs) = c.map (plA (upL xs e)) := fun h => Wk.sub (q := fun _ => True) (fun j hj _ => up_dn j hj) h (fun _ _ => trivial)
  have hmy := k5.isMax k2 k6
  obtain ⟨c, hc⟩ := k6
  obtain ⟨c', w1, w2⟩ := hdn hc.wk
  have hx : hasC xs := hasC_of_walk (fun i hi => (h5.pl i hi).2.2.1.1) (map_ne w2 hc.ne) w1
  have hbx : bcC n xs = 0 := by unfold bcC; rw [if_pos hl, if_pos hx]
  refine ⟨hbx, ?_⟩
  have hmx := h5.isMax h2 hx
  rw [k8, show ctR n xs = maxR xs by unfold ctR; rw [if_pos hbx]]
  have := hmy.cross_le (s := maxR xs) (fun c hc => (k5.circ hc).2.2.1) (fun c hc => by
    obtain ⟨c', w1, w2⟩ := hdn hc.wk
    rw [← wgt_map w2]
    exact hmx.walks w1)
  unfold crI cmpI
  generalize (maxR (upL xs e)).1 * (maxR xs).2 = a at *
  generalize (maxR xs).1 * (maxR (upL xs e)).2 = b at *
  split
  · decide
  · rw [if_neg (by omega)]; exact Int.le_refl 0
theorem ev_top {ev : Int} {xs : List Pl} (hb : bcC ev xs = 0) : bcL ev xs ≠ [] ∧ hdN (bcL ev xs) < xs.length ∧ ∃ e : Nat, firstF xs (bcL ev xs) = e ∧ (e : Int) < ev ∧ bcC ev (upL xs e) = 0 ∧ ctR ev (upL xs e) = ctR ev xs := by
  obtain ⟨n, rfl, k1, k2, k3, k4, k5, k6, k8, k9, k10, k11⟩ := bc_star hb
  have hl : liveI n xs = 0 := by
    unfold bcC at hb
    by_cases h : liveI n xs = 0
    · exact h
    · rw [if_neg h] at hb; exact absurd hb h
  obtain ⟨c, b1, b2, b3⟩ := k5.best k2 k6
  have hbl : bcL n xs = c := by unfold bcL; rw [if_pos hb, Int.toNat_natCast]; exact b1
  rw [hbl]
  have hhd : hdN c ∈ c := by
    cases c with
    | nil => exact absurd rfl b2.ne
    | cons i c => simp [hdN]
  have hlt := b2.wk.lt
  have hf : 0 ≤ firstF xs c ∧ firstF xs c < n := (k5.pl _ (hlt _ hhd)).1
  refine ⟨b2.ne, hlt _ hhd, (firstF xs c).toNat, by omega, by omega, ?_⟩
  generalize he : (firstF xs c).toNat = e
  have hfe : firstF xs c = e := by omega
  have hup : ∀ i ∈ c, upB xs e (plA xs i) = true := fun i hi => by
    obtain ⟨a, b, rfl⟩ := List.append_of_mem hi
    obtain ⟨m, w1, w2⟩ := Wk.app.1 b2.wk
    have hi2 := (k5.pl _ (hlt i hi)).2.1
    obtain ⟨t, ht⟩ : ∃ t : Nat, (plA xs i).t = t := ⟨(plA xs i).t.toNat, by omega⟩
    have hw := w2.2.2
    rw [hfe, ht] at hw
    have := ((tdOk k4 k2 (show t < n by omega)).all e b hw).1
    unfold upB
    rw [ht]
    exact decide_eq_true this
  have hly : liveI n (upL xs e) = 0 := up_liveI hl
  obtain ⟨n', hev, h1, h2, h3, h4, h5⟩ := live_ok hly
  obtain rfl : n = n' := by omega
  have hmx := k5.isMax k2 k6
  obtain ⟨c', w1, w2⟩ := Wk.sub (xs := upL xs e) (ys := xs) (q := fun p => upB xs e p = true) (fun i hi hp => up_up i hi hp) b2.wk hup
  have hy : hasC (upL xs e) := hasC_of_walk (fun i hi => (h5.pl i hi).2.2.1.1) (map_ne w2 b2.ne) w1
  have hby : bcC n (upL xs e) = 0 := by unfold bcC; rw [if_pos hly, if_pos hy]
  refine ⟨hby, ?_⟩
  have hm : MaxR (upL xs e) (maxR xs) := MaxR.of_walk hmx.pos hmx.red (fun d hd => by
    obtain ⟨d', v1, v2⟩ := Wk.sub (xs := xs) (ys := upL xs e) (q := fun _ => True) (fun j hj _ => up_dn j hj) hd.wk (fun _ _ => trivial)
    rw [← wgt_map v2]
    exact hmx.walks v1) (map_ne w2 b2.ne) w1 (by
    have hz := wgt_redR (k5.circ b2).2.2.1
    rw [b3] at hz
    rw [wgt_map w2, hz]
    exact Int.le_refl 0)
  rw [k8]
  unfold ctR
  rw [if_pos hby]
  exact maxR_eq h5 hm
end Go.Proofs.Ytegfjedklebbfaa
end
