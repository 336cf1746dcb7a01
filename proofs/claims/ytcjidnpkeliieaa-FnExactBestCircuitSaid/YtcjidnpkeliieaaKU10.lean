/-
  Walks in the abstract reading, part 10.
-/
import Derived.Test.YtcjidnpkeliieaaKU9
import Derived.Test.YtcjidnpkeliieaaKA3
section
namespace Go.Proofs.Ytcjidnpkeliieaa
set_option linter.unusedSimpArgs false
set_option linter.unusedVariables false
open Go Go.RowKit

theorem growC_pre {xs : List Pl} {rn rd over : Int} : ∀ {k : Nat} {l : List Nat}, growC xs rn rd over k l ≠ [] → ∃ e, growC xs rn rd over k l = l ++ e
  | 0, _, h => by simp [growC] at h
  | k + 1, l, h => by
    unfold growC at h ⊢
    split
    · rename_i h1
      rw [if_pos h1] at h
      split
      · exact ⟨[], by simp⟩
      · rename_i h2; rw [if_neg h2] at h; exact absurd rfl h
    · rename_i h1
      rw [if_neg h1] at h
      obtain ⟨i, hi, h2, h3⟩ := tryAll_mem h
      rw [h3]
      split at h2
      · exact absurd rfl h2
      · rename_i hs
        rw [if_neg hs]
        obtain ⟨e, he⟩ := growC_pre h2
        exact ⟨i :: e, by rw [he]; simp⟩
theorem tryAll_congr {α : Type} {f g : Nat → List α} : ∀ {l : List Nat}, (∀ v ∈ l, f v = g v) → tryAll f l = tryAll g l
  | [], _ => rfl
  | v :: r, h => by
    unfold tryAll
    rw [h v (by simp), tryAll_congr fun x hx => h x (by simp [hx])]
theorem star_super {W : Nat → Nat → Int} {n : Nat} {s : Nat → Nat → Int} (hs : StarOk W n s) {u m v : Nat} (hu : u < n) (hm : m < n) (hv : v < n) (h1 : s m u ≠ BOT) (h2 : s v m ≠ BOT) : s v u ≠ BOT ∧ s m u + s v m ≤ s v u := by
  rcases hs.some u m hu hm with e | ⟨e, e2⟩ | ⟨c, c1, c2, c3⟩
  · exact absurd e h1
  · subst e; exact ⟨h2, by omega⟩
  · rcases hs.some m v hm hv with e | ⟨e, e2⟩ | ⟨c', d1, d2, d3⟩
    · exact absurd e h2
    · subst e; exact ⟨h1, by omega⟩
    · have := hs.all u v (c ++ m :: c') hu hv (fun x hx => by
        rcases List.mem_append.1 hx with h | h
        · exact c2 x h
        · rcases List.mem_cons.1 h with rfl | h
          · exact hm
          · exact d2 x h) (WM.app.2 ⟨c1, d1⟩)
      rw [wM_app] at this
      exact ⟨this.1, by omega⟩
theorem wk_wm {n : Nat} {xs : List Pl} {r : Int × Int} {t : List (List Int)} (hw : WmOk n xs r t) (hv : ∀ p ∈ xs, okPl n p) : ∀ {c : List Nat} {u v : Int}, Wk xs u c v → c ≠ [] → ∃ c', WM (entN t) u.toNat c' v.toNat ∧ (∀ x ∈ c', x < n) ∧ wgt xs r.1 r.2 c ≤ wM (entN t) u.toNat c' v.toNat
  | [], _, _, _, h => absurd rfl h
  | [i], u, v, ⟨h1, h2, h3⟩, _ => by
    have hp : plA xs i ∈ xs := by
      have e : plA xs i = xs[i] := by simp [plA, h1]
      rw [e]; exact List.getElem_mem h1
    have ha := hw.all _ hp
    have h3' : (plA xs i).t = v := h3
    subst h2 h3'
    exact ⟨[], ha.1, by simp, by simp only [wgt, wM]; omega⟩
  | i :: j :: c, u, v, ⟨h1, h2, h3⟩, _ => by
    have hp : plA xs i ∈ xs := by
      have e : plA xs i = xs[i] := by simp [plA, h1]
      rw [e]; exact List.getElem_mem h1
    have ha := hw.all _ hp
    obtain ⟨c', g1, g2, g3⟩ := wk_wm hw hv h3 (by simp)
    obtain ⟨_, ⟨k1, k2⟩, _⟩ := hv _ hp
    subst h2
    refine ⟨(plA xs i).t.toNat :: c', ⟨ha.1, g1⟩, fun x hx => ?_, ?_⟩
    · rcases List.mem_cons.1 hx with rfl | h
      · omega
      · exact g2 x h
    · have e : wgt xs r.1 r.2 (i :: j :: c) = pw r.1 r.2 (plA xs i) + wgt xs r.1 r.2 (j :: c) := rfl
      rw [e]
      simp only [wM]
      omega
/-- What is held of the weights, their star and the greatest ratio. -/
structure CrOk (xs : List Pl) (n : Nat) (r : Int × Int) (s : Nat → Nat → Int) : Prop where
  v : ∀ p ∈ xs, okPl n p
  mx : MaxR xs r
  w : WmOk n xs r (wmT n xs r)
  np : NoPos (entN (wmT n xs r)) n
  st : StarOk (entN (wmT n xs r)) n s
abbrev crB (xs : List Pl) (r : Int × Int) (s : Nat → Nat → Int) (i : Nat) : Bool := isCr s r.1 r.2 (plA xs i)
theorem crB_iff {xs : List Pl} {r : Int × Int} {s : Nat → Nat → Int} {i : Nat} : crB xs r s i = true ↔ s (plA xs i).f.toNat (plA xs i).t.toNat ≠ BOT ∧ pw r.1 r.2 (plA xs i) + s (plA xs i).f.toNat (plA xs i).t.toNat = 0 := by
  unfold crB isCr
  simp
theorem CrOk.at {xs : List Pl} {n : Nat} {r : Int × Int} {s : Nat → Nat → Int} (h : CrOk xs n r s) {i : Nat} (hi : i < xs.length) : (0 ≤ (plA xs i).f ∧ (plA xs i).f.toNat < n) ∧ (0 ≤ (plA xs i).t ∧ (plA xs i).t.toNat < n) ∧ plA xs i ∈ xs := by
  have hp : plA xs i ∈ xs := by
    have e : plA xs i = xs[i] := by simp [plA, hi]
    rw [e]; exact List.getElem_mem hi
  obtain ⟨⟨k1, k2⟩, ⟨k3, k4⟩, _⟩ := h.v _ hp
  exact ⟨⟨k1, by omega⟩, ⟨k3, by omega⟩, hp⟩
theorem CrOk.crit {xs : List Pl} {n : Nat} {r : Int × Int} {s : Nat → Nat → Int} (h : CrOk xs n r s) {c : List Nat} (hc : Circ xs c) (hz : wgt xs r.1 r.2 c = 0) {i : Nat} (hi : i ∈ c) : crB xs r s i = true := by
  have hil := hc.wk.lt i hi
  obtain ⟨⟨k1, k2⟩, ⟨k3, k4⟩, hp⟩ := h.at hil
  obtain ⟨a, b, rfl⟩ := List.append_of_mem hi
  obtain ⟨m, w1, w2, w3, w4⟩ := Wk.app.1 hc.wk
  have hwk : Wk xs (plA xs i).t (b ++ a) (plA xs i).f := Wk.app.2 ⟨_, w4, w3 ▸ w1⟩
  have hwt : wgt xs r.1 r.2 (b ++ a) = - pw r.1 r.2 (plA xs i) := by
    rw [wgt_app] at hz ⊢
    have e : wgt xs r.1 r.2 (i :: b) = pw r.1 r.2 (plA xs i) + wgt xs r.1 r.2 b := rfl
    omega
  rw [crB_iff]
  by_cases hne : b ++ a = []
  · rw [hne] at hwk hwt
    have e : (plA xs i).t = (plA xs i).f := hwk
    have hd := star_dia0 h.np h.st.some h.st.dia k2
    have hd2 := (h.st.dia _ k2).1
    rw [e, hd]
    have e0 : wgt xs r.1 r.2 ([] : List Nat) = 0 := rfl
    exact ⟨by decide, by omega⟩
  · obtain ⟨c', g1, g2, g3⟩ := wk_wm h.w h.v hwk hne
    have ha := h.st.all _ _ c' k4 k2 g2 g1
    have hg := gap_nn h.w h.np h.st (f := (plA xs i).f.toNat) (u := (plA xs i).t.toNat) k2 k4 hp (by omega) (by omega) ha.1
    exact ⟨ha.1, by omega⟩
theorem CrOk.back {xs : List Pl} {n : Nat} {r : Int × Int} {s : Nat → Nat → Int} (h : CrOk xs n r s) : ∀ {c : List Nat} {u v : Int}, Wk xs u c v → c ≠ [] → (∀ i ∈ c, crB xs r s i = true) → (v.toNat < n) ∧ s u.toNat v.toNat ≠ BOT ∧ - wgt xs r.1 r.2 c ≤ s u.toNat v.toNat
  | [], _, _, _, hn, _ => absurd rfl hn
  | [i], u, v, ⟨h1, h2, h3⟩, _, ha => by
    have h3' : (plA xs i).t = v := h3
    subst h2 h3'
    have hcr := crB_iff.1 (ha i (by simp))
    refine ⟨(h.at h1).2.1.2, hcr.1, ?_⟩
    have e : wgt xs r.1 r.2 [i] = pw r.1 r.2 (plA xs i) + 0 := rfl
    omega
  | i :: j :: c, u, v, ⟨h1, h2, h3⟩, _, ha => by
    obtain ⟨g0, g1, g2⟩ := h.back h3 (by simp) (fun x hx => ha x (by simp [hx]))
    obtain ⟨⟨k1, k2⟩, ⟨k3, k4⟩, hp⟩ := h.at h1
    have hcr := crB_iff.1 (ha i (by simp))
    subst h2
    have := star_super h.st (u := v.toNat) (m := (plA xs i).t.toNat) (v := (plA xs i).f.toNat) g0 k4 k2 g1 hcr.1
    have e : wgt xs r.1 r.2 (i :: j :: c) = pw r.1 r.2 (plA xs i) + wgt xs r.1 r.2 (j :: c) := rfl
    exact ⟨g0, this.1, by omega⟩
theorem CrOk.zero {xs : List Pl} {n : Nat} {r : Int × Int} {s : Nat → Nat → Int} (h : CrOk xs n r s) {c : List Nat} (hc : Circ xs c) (ha : ∀ i ∈ c, crB xs r s i = true) : wgt xs r.1 r.2 c = 0 := by
  obtain ⟨g0, g1, g2⟩ := h.back hc.wk hc.ne ha
  have hd := star_dia0 h.np h.st.some h.st.dia g0
  have := h.mx.le c hc
  omega
def goC (xs : List Pl) (cr : Nat → Bool) : Nat → List Nat → List Nat
  | 0, _ => []
  | k + 1, l => tryAll (fun i => if cr i = false ∨ skipC xs l i then [] else if (plA xs i).t = firstF xs l then l ++ [i] else goC xs cr k (l ++ [i])) (List.range' 0 xs.length)
def bestC (xs : List Pl) (cr : Nat → Bool) (n : Nat) : List Nat :=
  tryAll (fun i => if cr i = false then [] else if (plA xs i).t = (plA xs i).f then [i] else if (plA xs i).t < (plA xs i).f then [] else goC xs cr n [i]) (List.range' 0 xs.length)
theorem lastT_snoc {xs : List Pl} {l : List Nat} {i : Nat} : lastT xs (l ++ [i]) = (plA xs i).t := by unfold lastT; rw [lsN_snoc]
theorem firstF_snoc {xs : List Pl} {l : List Nat} {i : Nat} (h : l ≠ []) : firstF xs (l ++ [i]) = firstF xs l := by
  cases l with
  | nil => exact absurd rfl h
  | cons a l => rfl
theorem CrOk.none {xs : List Pl} {n : Nat} {r : Int × Int} {s : Nat → Nat → Int} (h : CrOk xs n r s) {k : Nat} {l : List Nat} (hp : PathC xs l) {i : Nat} (hi : i ∈ l) (hcr : crB xs r s i = false) : growC xs r.1 r.2 (-1) k l = [] := by
  refine Classical.byContradiction fun hne => ?_
  obtain ⟨g1, g2⟩ := growC_sound hp hne
  obtain ⟨e, he⟩ := growC_pre hne
  have hz : wgt xs r.1 r.2 (growC xs r.1 r.2 (-1) k l) = 0 := by
    have := h.mx.le _ g1; omega
  have := h.crit g1 hz (i := i) (by rw [he]; simp [hi])
  rw [hcr] at this; cases this
theorem PathC.circ {xs : List Pl} {l : List Nat} (hp : PathC xs l) (h : lastT xs l = firstF xs l) : Circ xs l := ⟨hp.ne, by have := hp.wk; rwa [h] at this, hp.nd, hp.mn⟩
theorem CrOk.grow {xs : List Pl} {n : Nat} {r : Int × Int} {s : Nat → Nat → Int} (h : CrOk xs n r s) : ∀ (k : Nat) (l : List Nat), PathC xs l → lastT xs l ≠ firstF xs l → (∀ j ∈ l, crB xs r s j = true) → k + l.length = n + 1 → growC xs r.1 r.2 (-1) k l = goC xs (crB xs r s) k l
  | 0, _, _, _, _, _ => rfl
  | k + 1, l, hp, hne, ha, hk => by
    unfold growC goC
    rw [if_neg hne]
    refine tryAll_congr fun i hi => ?_
    simp only [List.mem_range'_1] at hi
    by_cases hs : skipC xs l i
    · rw [if_pos hs, if_pos (.inr hs)]
    · have hp2 := hp.snoc (by omega) hne hs
      rw [if_neg hs]
      cases hcr : crB xs r s i with
      | false =>
        rw [if_pos (.inl rfl)]
        exact h.none hp2 (by simp) hcr
      | true =>
        rw [if_neg (by rintro (h | h); cases h; exact hs h)]
        have ha2 : ∀ j ∈ l ++ [i], crB xs r s j = true := fun j hj => by
          rcases List.mem_append.1 hj with hj | hj
          · exact ha j hj
          · simp at hj; subst hj; exact hcr
        by_cases hcl : (plA xs i).t = firstF xs l
        · rw [if_pos hcl]
          have hcl2 : lastT xs (l ++ [i]) = firstF xs (l ++ [i]) := by rw [lastT_snoc, firstF_snoc hp.ne, hcl]
          have hci := hp2.circ hcl2
          have hln := hci.len (n := n) (fun j hj => by have := h.at hj; omega)
          simp at hln
          obtain ⟨k', rfl⟩ : ∃ k', k = k' + 1 := ⟨k - 1, by omega⟩
          unfold growC
          rw [if_pos hcl2, if_pos (by rw [h.zero hci ha2]; decide)]
        · rw [if_neg hcl]
          exact h.grow k (l ++ [i]) hp2 (by rw [lastT_snoc, firstF_snoc hp.ne]; exact hcl) ha2 (by simp; omega)
theorem CrOk.best {xs : List Pl} {n : Nat} {r : Int × Int} {s : Nat → Nat → Int} (h : CrOk xs n r s) (h0 : 0 < n) : overC xs r.1 r.2 (-1) n = bestC xs (crB xs r s) n := by
  unfold overC bestC
  refine tryAll_congr fun i hi => ?_
  simp only [List.mem_range'_1] at hi
  by_cases hlt : (plA xs i).t < (plA xs i).f
  · rw [if_pos hlt]
    by_cases hc0 : crB xs r s i = false
    · rw [if_pos hc0]
    · rw [if_neg hc0, if_neg (by omega), if_pos hlt]
  · rw [if_neg hlt]
    have hp : PathC xs [i] := PathC.one (by omega) hlt
    cases hcr : crB xs r s i with
    | false =>
      rw [if_pos rfl]
      exact h.none hp (by simp) hcr
    | true =>
      rw [if_neg (by decide)]
      have ha : ∀ j ∈ [i], crB xs r s j = true := fun j hj => by simp at hj; subst hj; exact hcr
      by_cases heq : (plA xs i).t = (plA xs i).f
      · rw [if_pos heq]
        obtain ⟨k, rfl⟩ : ∃ k, n = k + 1 := ⟨n - 1, by omega⟩
        have hcl : lastT xs [i] = firstF xs [i] := heq
        unfold growC
        rw [if_pos hcl, if_pos (by rw [h.zero (hp.circ hcl) ha]; decide)]
      · rw [if_neg heq, if_neg hlt]
        exact h.grow n [i] hp heq ha (by simp)
end Go.Proofs.Ytcjidnpkeliieaa
end

section
namespace Go.Proofs.Ytcjidnpkeliieaa
set_option linter.unusedSimpArgs false
set_option linter.unusedVariables false
open Go Go.RowKit
attribute [local irreducible] AL AD AW OpOk Le AC thenQ blockQ EndQ

/-- A row of truth values. -/
def boR (n : Nat) (g : Nat → Bool) : List (List D) := (List.range n).map fun e => [D.v (.bool (g e))]
theorem boR_len {n : Nat} {g : Nat → Bool} : (boR n g).length = n := by simp [boR]
theorem boR_get {n e : Nat} {g : Nat → Bool} (h : e < n) : (boR n g)[e]? = some [D.v (.bool (g e))] := by simp [boR, h]
theorem boR_congr {n : Nat} {f g : Nat → Bool} (h : ∀ j, j < n → f j = g j) : boR n f = boR n g := List.map_congr_left fun j hj => by rw [h j (List.mem_range.1 hj)]
theorem boR_set {n j : Nat} {g : Nat → Bool} {v : Bool} : (boR n g).set j [D.v (.bool v)] = boR n (fun b => if b = j then v else g b) := by
  unfold boR
  apply List.ext_getElem?
  intro i
  rw [List.getElem?_set]
  by_cases hi : i < n
  · by_cases e : j = i
    · subst e; simp [hi]
    · simp [hi, e, Ne.symm e]
  · by_cases e : j = i
    · subst e; simp [hi]
    · simp [hi, e]
theorem boR_0 {n : Nat} : dobj 1 (List.replicate n [D.v (.bool false)]) = dobj 1 (boR n fun _ => false) := by
  unfold boR; simp [List.map_const']
theorem tryAll_no {α : Type} {F : Nat → List α} {j m : Nat} (h : j < m) (h0 : F j = []) : tryAll F (List.range' j (m - j)) = tryAll F (List.range' (j + 1) (m - (j + 1))) := by
  rw [range'_cons h, tryAll, if_neg (by rw [h0]; simp)]
theorem tryAll_yes {α : Type} {F : Nat → List α} {j m : Nat} (h : j < m) (h0 : F j ≠ []) : tryAll F (List.range' j (m - j)) = F j := by
  rw [range'_cons h, tryAll, if_pos h0]
abbrev sdD (ev : Int) (xs : List Pl) (cr : Nat → Bool) : List D := [DI ev, .sl 4 (xs.map Pl.row), .sl 1 (boR xs.length cr)]
abbrev seenV (xs : List Pl) (l : List Nat) : Nat → Bool := fun e => visB xs l (e : Int)
abbrev goH (ev : Int) (n : Nat) (xs : List Pl) (cr : Nat → Bool) (l : List Nat) : Heap :=
  upd (upd (upd H0 ⟨2, []⟩ (some (dobj 1 (boR n (seenV xs l))))) ⟨1, []⟩ (some (IO (cN l)))) ⟨0, []⟩ (some ⟨5, [(sdD ev xs cr).map .d ++ [.own 1 ⟨1, []⟩ 0 l.length, .own 1 ⟨2, []⟩ 0 n]]⟩)
abbrev goHF (ev : Int) (n : Nat) (xs : List Pl) (cr : Nat → Bool) (l : List Nat) : Heap :=
  upd (upd (upd H0 ⟨2, []⟩ (some (dobj 1 (boR n (seenV xs l))))) ⟨3, []⟩ (some (IO (cN l)))) ⟨0, []⟩ (some ⟨5, [(sdD ev xs cr).map .d ++ [.own 1 ⟨3, []⟩ 0 l.length, .own 1 ⟨2, []⟩ 0 n]]⟩)
abbrev goHT (ev : Int) (xs : List Pl) (cr : Nat → Bool) (l : List Nat) : Heap :=
  upd (upd (upd H0 ⟨2, []⟩ none) ⟨3, []⟩ (some (IO (cN l)))) ⟨0, []⟩ (some ⟨5, [(sdD ev xs cr).map .d ++ [.own 1 ⟨3, []⟩ 0 l.length, .dead]]⟩)
theorem goHT_eq {ev : Int} {xs : List Pl} {cr : Nat → Bool} {l : List Nat} : goHT ev xs cr l = heapL [(⟨0, []⟩, ⟨0, []⟩, ⟨5, [[I ev, PL xs, .d (.sl 1 (boR xs.length cr)), .own 1 ⟨3, []⟩ 0 l.length, .dead]]⟩), (⟨3, []⟩, ⟨3, []⟩, IO (cN l))] := by
  have e : upd H0 ⟨2, []⟩ none = H0 := by funext l; simp [upd]
  unfold goHT; rw [e]; rfl
theorem visB_snoc {xs : List Pl} {l : List Nat} {i : Nat} {e : Int} : visB xs (l ++ [i]) e = (visB xs l e || (decide ((plA xs i).f = e) || decide ((plA xs i).t = e))) := by
  simp [visB]
theorem visB_last {xs : List Pl} {l : List Nat} (h : l ≠ []) : visB xs l (lastT xs l) = true := by
  unfold visB
  rw [List.any_eq_true]
  refine ⟨lsN l, ?_, by simp [lastT]⟩
  unfold lsN
  rw [List.getLastD_eq_getLast?, List.getLast?_eq_some_getLast h]
  exact List.getLast_mem _
set_option maxHeartbeats 8000000 in
theorem goOn_ac (n : Nat) (xs : List Pl) (cr : Nat → Bool) (hn : n ≤ 10) (hx : xs.length ≤ 1000) (hv : ∀ p ∈ xs, okPl n p) : ∀ (k : Nat) (l : List Nat), PathC xs l → lastT xs l ≠ firstF xs l → k + l.length = n + 1 →
    AC Try.prog 151 [Bx 5 0, I (firstF xs l), I (lastT xs l)] (goH n n xs cr l) (Bo (decide (goC xs cr k l ≠ []))) (if goC xs cr k l = [] then goHF n n xs cr l else goHT n xs cr (goC xs cr k l)) := by
  intro m
  induction m with
  | zero =>
    intro l hp _ hk
    have := hp.len (n := n) hv
    omega
  | succ m ih =>
    intro l hp hne hk
    have hln := hp.len (n := n) hv
    have hvl := visB_last (xs := xs) hp.ne
    obtain ⟨G, hG⟩ : ∃ G, goC xs cr (m + 1) l = G := ⟨_, rfl⟩
    rw [hG]
    unfold goC at hG
    generalize hF : (fun i => if cr i = false ∨ skipC xs l i then [] else if (plA xs i).t = firstF xs l then l ++ [i] else goC xs cr m (l ++ [i])) = F at hG
    have hrg : List.range' 0 xs.length = List.range' 0 (xs.length - 0) := by simp
    rw [hrg] at hG
    generalize hfi : firstF xs l = fi at *
    generalize hla : lastT xs l = la at *
    refine AC.of_body 3 Try.func151 rfl (fun l h => by simp [upd] at h; (repeat' split at h) <;> simp_all) (fun C hC => ?_)
    simp only [startFr, Try.ntmps151, List.length_cons, List.length_nil, Nat.reduceAdd, Nat.reduceSub, List.replicate_succ, List.replicate_zero, List.cons_append, List.nil_append]
    have hD : ∀ l, C.D0 l → l = ⟨0, []⟩ ∨ l = ⟨1, []⟩ ∨ l = ⟨2, []⟩ := fun l h => by have := (hC l).1 h; simp [upd] at this; (repeat' split at this) <;> simp_all
    repeat' (first | refine Qa ?_ | ((first | apply Ba | (apply Bb; (· rfl); (· rfl)) | (apply Bc; (· exact nxE)) | (apply Bd; (· rfl); (· rfl); (· exact nxE))); (· first | exact OpOk.nilCheck rfl rfl | exact Ok.pe); (first | refine Na ?_ | refine Nb ?_)) | ((first | apply Ca | (apply Cb; (· exact nxE))); (· first | exact Ok.e0); (first | refine Nc ?_ | refine Nd ?_)) | refine Oa ?_ | refine Ob ?_ | ((first | refine Ga (fun h => ?_) (fun h => ?_) | refine AD.gsplit rfl rfl (fun h => ?_) (fun h => ?_)) <;> try (exfalso; omega; done)) | (first | refine AL.gsplitB rfl rfl (fun h => ?_) (fun h => ?_) | refine AD.gsplitB rfl rfl (fun h => ?_) (fun h => ?_)) | refine Fa ?_ | refine Qb ?_ | refine Qc ?_ | refine Qd ?_ | refine Fb ?_ | refine Qe ?_ | refine Wa ?_ | refine Wb ?_ | (refine AW.ite rfl (fun h => ?_) (fun h => ?_) <;> try (exfalso; omega; done)) | refine AW.cond _ rfl (fun h => ?_) (fun h => ?_) | refine Qf ?_ | refine Qg ?_ | refine Qh ?_ | refine Qi ?_ | refine Xa ?_ | refine Xb ?_ | refine Xc ?_ | refine Xd ?_ | refine Fc ?_)
    refine AW.loop (X := {k : Nat // k ≤ xs.length ∧ G = tryAll F (List.range' k (xs.length - k))}) (fun k => ⟨[Bx 5 0, I fi, I la, Oo, Oo, Oo, Oo, Oo, Oo, Oo, Oo, Oo, Oo, PL xs, I xs.length, I (k.1 : Nat), Oo, Oo, Oo, Oo, Oo, Oo, Oo, Oo, Oo, Oo, Oo, Oo, Oo, Oo, Oo, Oo, Oo, Oo, Oo, Oo, Oo, Oo, Oo, Oo, Oo, Oo, Oo, Oo, Oo, Oo, Oo, Oo, Oo, Oo, Oo, Oo, Oo, Oo, Oo, Oo, Oo, Oo, Oo, Oo, Oo, Oo, Oo, Oo, Oo, Oo, Oo, Oo, Oo, Oo, Oo, Oo, Oo, Oo, Oo, Oo, Oo, Oo, Oo, Oo, Oo, Oo, Oo, Oo, Oo, Oo, Oo, Oo, Oo, Oo, Oo, Oo, Oo, Oo, Oo, Oo, Oo, Oo, Oo, Oo, Oo, Oo, Oo, Oo], heapL [(⟨0, []⟩, ⟨0, []⟩, ⟨5, [[I n, PL xs, .d (.sl 1 (boR xs.length cr)), .own 1 ⟨3, []⟩ 0 l.length, .own 1 ⟨2, []⟩ 0 n]]⟩), (⟨3, []⟩, ⟨3, []⟩, IO (cN l)), (⟨2, []⟩, ⟨2, []⟩, dobj 1 (boR n (seenV xs l)))], 900⟩) (fun k => xs.length - k.1) ⟨0, Nat.zero_le _, hG.symm⟩ ?_ (fun k => ?_)
    ·
      (apply Le.headZ [_, _, _] rfl)
      all_goals (try dsimp only [srcs])
      (case' hfr | hob => (repeat' (first | refine La ?_ ?_ | exact Lc | refine Lo ?_ | refine ⟨⟨_, rfl, ?_⟩, ?_⟩ | refine ObA.box ?_ | refine ObA.frE ?_ | refine ObA.dataE ?_ | refine ARs.agg ?_ | refine ARs.tup ?_ | refine AR.b ?_ | refine AR.iE ?_ | refine AR.e ?_ | refine AR.clo' ARs.nil ?_)))
      all_goals (first | (rfl) | exact Ld)
    obtain ⟨j, hj, hinv⟩ := k
    simp only
    have hpl : (dobj 1 (IR (cN l))).rows.length = l.length := by simp [dobj]
    by_cases hlt : j < xs.length
    case neg =>
      obtain rfl : j = xs.length := by omega
      rw [Nat.sub_self] at hinv
      have hG0 : G = [] := by rw [hinv]; rfl
      rw [hG0]
      rw [if_pos rfl, decide_eq_false (by simp)]
      repeat' (first | refine Qa ?_ | ((first | apply Ba | (apply Bb; (· rfl); (· rfl)) | (apply Bc; (· exact nxE)) | (apply Bd; (· rfl); (· rfl); (· exact nxE))); (· first | exact OpOk.nilCheck rfl rfl | exact Ok.pe); (first | refine Na ?_ | refine Nb ?_)) | ((first | apply Ca | (apply Cb; (· exact nxE))); (· first | exact Ok.e0); (first | refine Nc ?_ | refine Nd ?_)) | refine Oa ?_ | refine Ob ?_ | ((first | refine Ga (fun h => ?_) (fun h => ?_) | refine AD.gsplit rfl rfl (fun h => ?_) (fun h => ?_)) <;> try (exfalso; omega; done)) | (first | refine AL.gsplitB rfl rfl (fun h => ?_) (fun h => ?_) | refine AD.gsplitB rfl rfl (fun h => ?_) (fun h => ?_)) | refine Fa ?_ | refine Qb ?_ | refine Qc ?_ | refine Qd ?_ | refine Fb ?_ | refine Qe ?_ | refine Wa ?_ | refine Wb ?_ | (refine AW.ite rfl (fun h => ?_) (fun h => ?_) <;> try (exfalso; omega; done)) | refine AW.cond _ rfl (fun h => ?_) (fun h => ?_) | refine Qf ?_ | refine Qg ?_ | refine Qh ?_ | refine Qi ?_ | refine Xa ?_ | refine Xb ?_ | refine Xc ?_ | refine Xd ?_ | refine Fc ?_)
      (refine end1p (by first | exact .inl rfl | exact .inr rfl) rfl (by first | exact rT rfl | exact rCA rfl rfl rfl rfl (by simp) | exact rCC rfl rfl rfl rfl rfl) ?_ (Le.head ([(⟨0, []⟩, ⟨0, []⟩, ⟨5, [[I n, PL xs, .d (.sl 1 (boR xs.length cr)), .own 1 ⟨3, []⟩ 0 l.length, .own 1 ⟨2, []⟩ 0 n]]⟩), (⟨3, []⟩, ⟨3, []⟩, IO (cN l)), (⟨2, []⟩, ⟨2, []⟩, dobj 1 (boR n (seenV xs l)))]) (by first | exact fun l h => absurd h (hD l) | (intro l h; rcases hD l h with rfl; simp [tauL]) | (intro l h; rcases hD l h with rfl | rfl <;> simp [tauL]; done) | (intro l h; rcases hD l h with rfl | rfl | rfl <;> simp [tauL])) ?_ ?_ (by simp) (by simp) (by simp [AllP]) (n' := 1000)); (· rfl)) <;> (repeat' (first | exact trivial | exact ARs.nil | refine ARs.cons ?_ ?_ | exact AR.dead _ | exact AR.dd _ | exact AR.i (by (try dsimp only); omega) | exact AR.ptr _ _ _ _ (by simp [heapL, upd]) | exact AR.own _ _ _ _ (by simp [heapL, upd]) | refine AR.ownE _ _ _ ?_ (by simp [heapL, upd]) | refine ⟨⟨_, rfl, ?_⟩, ?_⟩ | exact ObA.data | refine ObA.box ?_ | refine ObA.frE ?_ | refine ObA.dataE ?_ | refine ARs.agg ?_ | refine ARs.tup ?_ | exact AR.clo' ARs.nil ARs.nil | exact AR.clo' ARs.nil (hca _ _)))
    have hrow := pl_row (n := 0) hlt
    have hcr := boR_get (g := cr) hlt
    obtain ⟨⟨g1, g2⟩, ⟨g3, g4⟩, _⟩ := okPl_at hv j hlt
    have hFj : F j = if cr j = false ∨ skipC xs l j then [] else if (plA xs j).t = fi then l ++ [j] else goC xs cr m (l ++ [j]) := by rw [← hF]
    have hsk : skipC xs l j ↔ ((plA xs j).f ≠ la ∨ (plA xs j).t < fi ∨ ((plA xs j).t ≠ fi ∧ visB xs l (plA xs j).t = true)) := by unfold skipC; rw [hfi, hla]
    have hsn : PathC xs (l ++ [j]) ∨ skipC xs l j := by
      by_cases h : skipC xs l j
      · exact .inr h
      · exact .inl (hp.snoc hlt (by rw [hla, hfi]; exact hne) h)
    have hvs : ∀ e, visB xs (l ++ [j]) e = (visB xs l e || (decide ((plA xs j).f = e) || decide ((plA xs j).t = e))) := fun e => visB_snoc
    have hih := fun h1 h2 h3 => ih (l ++ [j]) h1 h2 h3
    rw [firstF_snoc hp.ne, lastT_snoc, hfi] at hih
    generalize plA xs j = p at *
    obtain ⟨pf, pt, pd, pk⟩ := p
    obtain ⟨a, rfl⟩ : ∃ f : Nat, pf = f := ⟨pf.toNat, by simp at g1; omega⟩
    obtain ⟨t, rfl⟩ : ∃ t : Nat, pt = t := ⟨pt.toNat, by simp at g3; omega⟩
    simp only at hrow g2 g4 hFj hsk hvs hih
    have hseen := boR_get (g := seenV xs l) (show t < n by omega)
    have hskipEnd : F j = [] → G = tryAll F (List.range' (j + 1) (xs.length - (j + 1))) := fun h => by rw [hinv, tryAll_no hlt h]
    by_cases hskip : cr j = false ∨ skipC xs l j
    · have hnx := hskipEnd (by rw [hFj, if_pos hskip])
      rcases Bool.eq_false_or_eq_true (cr j) with hc1 | hc1
      · have h2 := hsk.1 (hskip.resolve_left (by rw [hc1]; decide))
        rw [hc1] at hcr
        rcases Bool.eq_false_or_eq_true (visB xs l (t : Int)) with hv1 | hv1
        · rw [show seenV xs l t = true from hv1] at hseen
          have h3 : (a : Int) ≠ la ∨ (t : Int) < fi ∨ (t : Int) ≠ fi := by rcases h2 with h | h | h; exact .inl h; exact .inr (.inl h); exact .inr (.inr h.1)
          clear h2
          repeat' (first | refine Qa ?_ | ((first | apply Ba | (apply Bb; (· rfl); (· rfl)) | (apply Bc; (· exact nxE)) | (apply Bd; (· rfl); (· rfl); (· exact nxE))); (· first | exact Ok.ld1 rfl rfl rfl hseen | exact OpOk.nilCheck rfl rfl | exact Ok.pe); (first | refine Na ?_ | refine Nb ?_)) | ((first | apply Ca | (apply Cb; (· exact nxE))); (· first | exact Ok.e0); (first | refine Nc ?_ | refine Nd ?_)) | refine Oa ?_ | refine Ob ?_ | ((first | refine Ga (fun h => ?_) (fun h => ?_) | refine AD.gsplit rfl rfl (fun h => ?_) (fun h => ?_)) <;> try (exfalso; omega; done)) | (first | refine AL.gsplitB rfl rfl (fun h => ?_) (fun h => ?_) | refine AD.gsplitB rfl rfl (fun h => ?_) (fun h => ?_)) | refine Fa ?_ | refine Qb ?_ | refine Qc ?_ | refine Qd ?_ | refine Fb ?_ | refine Qe ?_ | refine Wa ?_ | refine Wb ?_ | (refine AW.ite rfl (fun h => ?_) (fun h => ?_) <;> try (exfalso; omega; done)) | refine AW.cond _ rfl (fun h => ?_) (fun h => ?_) | refine Qf ?_ | refine Qg ?_ | refine Qh ?_ | refine Qi ?_ | refine Xa ?_ | refine Xb ?_ | refine Xc ?_ | refine Xd ?_ | refine Fc ?_)
          all_goals
            refine ⟨⟨j + 1, by omega, hnx⟩, ?_, by simp only; omega⟩
            (apply Le.headZ [_, _, _] rfl)
            all_goals (try dsimp only [srcs])
            (case' hfr | hob => (repeat' (first | refine La ?_ ?_ | exact Lc | refine Lo ?_ | refine ⟨⟨_, rfl, ?_⟩, ?_⟩ | refine ObA.box ?_ | refine ObA.frE ?_ | refine ObA.dataE ?_ | refine ARs.agg ?_ | refine ARs.tup ?_ | refine AR.b ?_ | refine AR.iE ?_ | refine AR.e ?_ | refine AR.clo' ARs.nil ?_)))
            all_goals (first | (rfl) | exact Ld)
        · rw [show seenV xs l t = false from hv1] at hseen
          have h3 : (a : Int) ≠ la ∨ (t : Int) < fi := by rcases h2 with h | h | h; exact .inl h; exact .inr h; rw [hv1] at h; cases h.2
          clear h2
          repeat' (first | refine Qa ?_ | ((first | apply Ba | (apply Bb; (· rfl); (· rfl)) | (apply Bc; (· exact nxE)) | (apply Bd; (· rfl); (· rfl); (· exact nxE))); (· first | exact Ok.ld1 rfl rfl rfl hseen | exact OpOk.nilCheck rfl rfl | exact Ok.pe); (first | refine Na ?_ | refine Nb ?_)) | ((first | apply Ca | (apply Cb; (· exact nxE))); (· first | exact Ok.e0); (first | refine Nc ?_ | refine Nd ?_)) | refine Oa ?_ | refine Ob ?_ | ((first | refine Ga (fun h => ?_) (fun h => ?_) | refine AD.gsplit rfl rfl (fun h => ?_) (fun h => ?_)) <;> try (exfalso; omega; done)) | (first | refine AL.gsplitB rfl rfl (fun h => ?_) (fun h => ?_) | refine AD.gsplitB rfl rfl (fun h => ?_) (fun h => ?_)) | refine Fa ?_ | refine Qb ?_ | refine Qc ?_ | refine Qd ?_ | refine Fb ?_ | refine Qe ?_ | refine Wa ?_ | refine Wb ?_ | (refine AW.ite rfl (fun h => ?_) (fun h => ?_) <;> try (exfalso; omega; done)) | refine AW.cond _ rfl (fun h => ?_) (fun h => ?_) | refine Qf ?_ | refine Qg ?_ | refine Qh ?_ | refine Qi ?_ | refine Xa ?_ | refine Xb ?_ | refine Xc ?_ | refine Xd ?_ | refine Fc ?_)
          all_goals
            refine ⟨⟨j + 1, by omega, hnx⟩, ?_, by simp only; omega⟩
            (apply Le.headZ [_, _, _] rfl)
            all_goals (try dsimp only [srcs])
            (case' hfr | hob => (repeat' (first | refine La ?_ ?_ | exact Lc | refine Lo ?_ | refine ⟨⟨_, rfl, ?_⟩, ?_⟩ | refine ObA.box ?_ | refine ObA.frE ?_ | refine ObA.dataE ?_ | refine ARs.agg ?_ | refine ARs.tup ?_ | refine AR.b ?_ | refine AR.iE ?_ | refine AR.e ?_ | refine AR.clo' ARs.nil ?_)))
            all_goals (first | (rfl) | exact Ld)
      · rw [hc1] at hcr
        repeat' (first | refine Qa ?_ | ((first | apply Ba | (apply Bb; (· rfl); (· rfl)) | (apply Bc; (· exact nxE)) | (apply Bd; (· rfl); (· rfl); (· exact nxE))); (· first | exact OpOk.nilCheck rfl rfl | exact Ok.pe); (first | refine Na ?_ | refine Nb ?_)) | ((first | apply Ca | (apply Cb; (· exact nxE))); (· first | exact Ok.e0); (first | refine Nc ?_ | refine Nd ?_)) | refine Oa ?_ | refine Ob ?_ | ((first | refine Ga (fun h => ?_) (fun h => ?_) | refine AD.gsplit rfl rfl (fun h => ?_) (fun h => ?_)) <;> try (exfalso; omega; done)) | (first | refine AL.gsplitB rfl rfl (fun h => ?_) (fun h => ?_) | refine AD.gsplitB rfl rfl (fun h => ?_) (fun h => ?_)) | refine Fa ?_ | refine Qb ?_ | refine Qc ?_ | refine Qd ?_ | refine Fb ?_ | refine Qe ?_ | refine Wa ?_ | refine Wb ?_ | (refine AW.ite rfl (fun h => ?_) (fun h => ?_) <;> try (exfalso; omega; done)) | refine AW.cond _ rfl (fun h => ?_) (fun h => ?_) | refine Qf ?_ | refine Qg ?_ | refine Qh ?_ | refine Qi ?_ | refine Xa ?_ | refine Xb ?_ | refine Xc ?_ | refine Xd ?_ | refine Fc ?_)
        refine ⟨⟨j + 1, by omega, hnx⟩, ?_, by simp only; omega⟩
        (apply Le.headZ [_, _, _] rfl)
        all_goals (try dsimp only [srcs])
        (case' hfr | hob => (repeat' (first | refine La ?_ ?_ | exact Lc | refine Lo ?_ | refine ⟨⟨_, rfl, ?_⟩, ?_⟩ | refine ObA.box ?_ | refine ObA.frE ?_ | refine ObA.dataE ?_ | refine ARs.agg ?_ | refine ARs.tup ?_ | refine AR.b ?_ | refine AR.iE ?_ | refine AR.e ?_ | refine AR.clo' ARs.nil ?_)))
        all_goals (first | (rfl) | exact Ld)
    · have hc1 : cr j = true := by
        rcases Bool.eq_false_or_eq_true (cr j) with h | h
        · exact h
        · exact absurd (.inl h) hskip
      have hns : ¬ skipC xs l j := fun h => hskip (.inr h)
      rw [hc1] at hcr
      rw [if_neg hskip] at hFj
      have hp2 := hsn.resolve_right hns
      have hal : (a : Int) = la := Classical.byContradiction fun h => hns (hsk.2 (.inl h))
      have htf : ¬ (t : Int) < fi := fun h => hns (hsk.2 (.inr (.inl h)))
      have hapl : (IR (cN l)).length = l.length := by simp
      by_cases hcl : (t : Int) = fi
      · rw [if_pos hcl] at hFj
        have hG1 : G = l ++ [j] := by rw [hinv, tryAll_yes hlt (by rw [hFj]; simp), hFj]
        rw [hG1, if_neg (by simp), decide_eq_true (by simp), goHT_eq, show (l ++ [j]).length = l.length + 1 by simp, show IO (cN (l ++ [j])) = dobj 1 (IR (cN l) ++ [[DI (j : Nat)]]) by rw [← cN_snoc]]
        repeat' (first | refine Qa ?_ | ((first | apply Ba | (apply Bb; (· rfl); (· rfl)) | (apply Bc; (· exact nxE)) | (apply Bd; (· rfl); (· rfl); (· exact nxE))); (· first | exact OpOk.nilCheck rfl rfl | exact Ok.append1 (row := [DI (j : Nat)]) rfl rfl (by decide) rfl rfl hapl rfl rfl rfl (by rfl) (by omega) (by omega) | exact Ok.pe); (first | refine Na ?_ | refine Nb ?_)) | ((first | apply Ca | (apply Cb; (· exact nxE))); (· first | exact Ok.append1 (row := [DI (j : Nat)]) rfl rfl (by decide) rfl rfl hapl rfl rfl rfl (by rfl) (by omega) (by omega) | exact Ok.e0); (first | refine Nc ?_ | refine Nd ?_)) | refine Oa ?_ | refine Ob ?_ | ((first | refine Ga (fun h => ?_) (fun h => ?_) | refine AD.gsplit rfl rfl (fun h => ?_) (fun h => ?_)) <;> try (exfalso; omega; done)) | (first | refine AL.gsplitB rfl rfl (fun h => ?_) (fun h => ?_) | refine AD.gsplitB rfl rfl (fun h => ?_) (fun h => ?_)) | refine Fa ?_ | refine Qb ?_ | refine Qc ?_ | refine Qd ?_ | refine Fb ?_ | refine Qe ?_ | refine Wa ?_ | refine Wb ?_ | (refine AW.ite rfl (fun h => ?_) (fun h => ?_) <;> try (exfalso; omega; done)) | refine AW.cond _ rfl (fun h => ?_) (fun h => ?_) | refine Qf ?_ | refine Qg ?_ | refine Qh ?_ | refine Qi ?_ | refine Xa ?_ | refine Xb ?_ | refine Xc ?_ | refine Xd ?_ | refine Fc ?_)
        (refine end1p (by first | exact .inl rfl | exact .inr rfl) rfl (by first | exact rT rfl | exact rCA rfl rfl rfl rfl (by simp) | exact rCC rfl rfl rfl rfl rfl) ?_ (Le.head ([(⟨0, []⟩, ⟨0, []⟩, ⟨5, [[I n, PL xs, .d (.sl 1 (boR xs.length cr)), .own 1 ⟨3, []⟩ 0 (l.length + 1), .dead]]⟩), (⟨3, []⟩, ⟨950, []⟩, dobj 1 (IR (cN l) ++ [[DI (j : Nat)]]))]) (by first | exact fun l h => absurd h (hD l) | (intro l h; rcases hD l h with rfl; simp [tauL]) | (intro l h; rcases hD l h with rfl | rfl <;> simp [tauL]; done) | (intro l h; rcases hD l h with rfl | rfl | rfl <;> simp [tauL])) ?_ ?_ (by simp) (by simp) (by simp [AllP]) (n' := 1000)); (· rfl)) <;> (repeat' (first | exact trivial | exact ARs.nil | refine ARs.cons ?_ ?_ | exact AR.dead _ | exact AR.dd _ | exact AR.i (by (try dsimp only); omega) | exact AR.ptr _ _ _ _ (by simp [heapL, upd]) | exact AR.own _ _ _ _ (by simp [heapL, upd]) | refine AR.ownE _ _ _ ?_ (by simp [heapL, upd]) | refine ⟨⟨_, rfl, ?_⟩, ?_⟩ | exact ObA.data | refine ObA.box ?_ | refine ObA.frE ?_ | refine ObA.dataE ?_ | refine ARs.agg ?_ | refine ARs.tup ?_ | exact AR.clo' ARs.nil ARs.nil | exact AR.clo' ARs.nil (hca _ _)))
      · rw [if_neg hcl] at hFj
        have hvis : visB xs l (t : Int) = false := by
          rcases Bool.eq_false_or_eq_true (visB xs l (t : Int)) with h | h
          · exact absurd (hsk.2 (.inr (.inr ⟨hcl, h⟩))) hns
          · exact h
        rw [show seenV xs l t = false from hvis] at hseen
        have hIH := hih hp2 hcl (by simp; omega)
        have hva : visB xs l (a : Int) = true := by rw [hal]; exact hvl
        have hset1 : (boR n (seenV xs l)).set t [D.v (.bool true)] = boR n (seenV xs (l ++ [j])) := by
          rw [boR_set]
          refine boR_congr fun e _ => ?_
          simp only [seenV, hvs]
          by_cases e1 : e = t
          · subst e1; simp
          · rw [if_neg e1]
            by_cases e2 : a = e
            · subst e2; rw [hva]; rfl
            · rw [decide_eq_false (by omega), decide_eq_false (by omega)]; simp
        have hget2 := boR_get (g := seenV xs (l ++ [j])) (show t < n by omega)
        have hset2 : (boR n (seenV xs (l ++ [j]))).set t [D.v (.bool false)] = boR n (seenV xs l) := by
          rw [boR_set]
          refine boR_congr fun e _ => ?_
          simp only [seenV, hvs]
          by_cases e1 : e = t
          · subst e1; rw [if_pos rfl, hvis]
          · rw [if_neg e1]
            by_cases e2 : a = e
            · subst e2; rw [hva]; rfl
            · rw [decide_eq_false (by omega), decide_eq_false (by omega)]; simp
        have hll : (l ++ [j]).length = l.length + 1 := by simp
        by_cases hg : goC xs cr m (l ++ [j]) = []
        · have hnx := hskipEnd (by rw [hFj, hg])
          rw [if_pos hg, hg, decide_eq_false (by simp)] at hIH
          unfold goH goHF IO at hIH
          rw [cN_snoc, hll] at hIH
          generalize seenV xs (l ++ [j]) = sv at *
          repeat' (first | refine Qa ?_ | ((first | apply Ba | (apply Bb; (· rfl); (· rfl)) | (apply Bc; (· exact nxE)) | (apply Bd; (· rfl); (· rfl); (· exact nxE))); (· first | exact Ok.ld1 rfl rfl rfl hseen | exact Ok.sliceToO rfl rfl rfl (by omega) rfl (by omega) | exact OpOk.nilCheck rfl rfl | exact Ok.append1 (row := [DI (j : Nat)]) rfl rfl (by decide) rfl rfl hapl rfl rfl rfl (by rfl) (by omega) (by omega) | exact Ok.st1 rfl rfl rfl (by rw [boR_len]; omega) (by rw [hseen]; rfl) rfl rfl hset1 | exact Ok.st1 rfl rfl rfl (by rw [boR_len]; omega) (by rw [hget2]; rfl) rfl rfl hset2 | exact OpOk.callB3 (b := ⟨0, []⟩) (p := ⟨950, []⟩) (q := ⟨2, []⟩) (x' := .own 1 ⟨2, []⟩ 0 n) rfl rfl hIH rfl rfl rfl (by decide) (by decide) (by decide) rfl (fun g => congrArg some (rnO_dobj _ _ _)) (by simp [Go.Proofs.Ytcjidnpkeliieaa.rn, emb, thr]) (.cons (AR.ptr _ _ _ _ (by simp)) (.cons (.dd _) (.cons (.dd _) .nil))) | exact Ok.storeC rfl rfl rfl rfl rfl (by simp; done) (by conv => lhs; whnf) (by rfl) (by rfl) rfl | exact Ok.pe); (first | refine Na ?_ | refine Nb ?_)) | ((first | apply Ca | (apply Cb; (· exact nxE))); (· first | exact Ok.append1 (row := [DI (j : Nat)]) rfl rfl (by decide) rfl rfl hapl rfl rfl rfl (by rfl) (by omega) (by omega) | exact Ok.st1 rfl rfl rfl (by rw [boR_len]; omega) (by rw [hseen]; rfl) rfl rfl hset1 | exact Ok.st1 rfl rfl rfl (by rw [boR_len]; omega) (by rw [hget2]; rfl) rfl rfl hset2 | exact OpOk.callB3 (b := ⟨0, []⟩) (p := ⟨950, []⟩) (q := ⟨2, []⟩) (x' := .own 1 ⟨2, []⟩ 0 n) rfl rfl hIH rfl rfl rfl (by decide) (by decide) (by decide) rfl (fun g => congrArg some (rnO_dobj _ _ _)) (by simp [Go.Proofs.Ytcjidnpkeliieaa.rn, emb, thr]) (.cons (AR.ptr _ _ _ _ (by simp)) (.cons (.dd _) (.cons (.dd _) .nil))) | exact Ok.storeC rfl rfl rfl rfl rfl (by simp; done) (by conv => lhs; whnf) (by rfl) (by rfl) rfl | exact Ok.e0); (first | refine Nc ?_ | refine Nd ?_)) | refine Oa ?_ | refine Ob ?_ | ((first | refine Ga (fun h => ?_) (fun h => ?_) | refine AD.gsplit rfl rfl (fun h => ?_) (fun h => ?_)) <;> try (exfalso; omega; done)) | (first | refine AL.gsplitB rfl rfl (fun h => ?_) (fun h => ?_) | refine AD.gsplitB rfl rfl (fun h => ?_) (fun h => ?_)) | refine Fa ?_ | refine Qb ?_ | refine Qc ?_ | refine Qd ?_ | refine Fb ?_ | refine Qe ?_ | refine Wa ?_ | refine Wb ?_ | (refine AW.ite rfl (fun h => ?_) (fun h => ?_) <;> try (exfalso; omega; done)) | refine AW.cond _ rfl (fun h => ?_) (fun h => ?_) | refine Qf ?_ | refine Qg ?_ | refine Qh ?_ | refine Qi ?_ | refine Xa ?_ | refine Xb ?_ | refine Xc ?_ | refine Xd ?_ | refine Fc ?_)
          refine ⟨⟨j + 1, by omega, hnx⟩, ?_, by simp only; omega⟩
          refine (Le.takeL ⟨970, [3]⟩ l.length rfl).trans ?_
          (apply Le.headZ [_, _, _] rfl)
          all_goals (try dsimp only [srcs])
          (case' hfr | hob => (repeat' (first | refine La ?_ ?_ | exact Lc | refine Lo ?_ | refine ⟨⟨_, rfl, ?_⟩, ?_⟩ | refine ObA.box ?_ | refine ObA.frE ?_ | refine ObA.dataE ?_ | refine ARs.agg ?_ | refine ARs.tup ?_ | refine AR.b ?_ | refine AR.iE ?_ | refine AR.e ?_ | refine AR.clo' ARs.nil ?_)))
          all_goals (first | ((first | rfl | (simp [dobj]; done))) | exact Ld)
        · have hG1 : G = goC xs cr m (l ++ [j]) := by rw [hinv, tryAll_yes hlt (by rw [hFj]; exact hg), hFj]
          rw [if_neg hg, decide_eq_true hg] at hIH
          rw [hG1, if_neg hg, decide_eq_true hg, goHT_eq]
          generalize goC xs cr m (l ++ [j]) = c at *
          unfold goH goHT IO at hIH
          rw [cN_snoc, hll] at hIH
          generalize seenV xs (l ++ [j]) = sv at *
          repeat' (first | refine Qa ?_ | ((first | apply Ba | (apply Bb; (· rfl); (· rfl)) | (apply Bc; (· exact nxE)) | (apply Bd; (· rfl); (· rfl); (· exact nxE))); (· first | exact Ok.ld1 rfl rfl rfl hseen | exact OpOk.nilCheck rfl rfl | exact Ok.append1 (row := [DI (j : Nat)]) rfl rfl (by decide) rfl rfl hapl rfl rfl rfl (by rfl) (by omega) (by omega) | exact Ok.st1 rfl rfl rfl (by rw [boR_len]; omega) (by rw [hseen]; rfl) rfl rfl hset1 | exact OpOk.callB3 (b := ⟨0, []⟩) (p := ⟨950, []⟩) (q := ⟨2, []⟩) (x' := .dead) rfl rfl hIH rfl rfl rfl (by decide) (by decide) (by decide) rfl (fun _ => rfl) (by simp [Go.Proofs.Ytcjidnpkeliieaa.rn]) (.cons (AR.ptr _ _ _ _ (by simp)) (.cons (.dd _) (.cons (.dd _) .nil))) | exact Ok.pe); (first | refine Na ?_ | refine Nb ?_)) | ((first | apply Ca | (apply Cb; (· exact nxE))); (· first | exact Ok.append1 (row := [DI (j : Nat)]) rfl rfl (by decide) rfl rfl hapl rfl rfl rfl (by rfl) (by omega) (by omega) | exact Ok.st1 rfl rfl rfl (by rw [boR_len]; omega) (by rw [hseen]; rfl) rfl rfl hset1 | exact OpOk.callB3 (b := ⟨0, []⟩) (p := ⟨950, []⟩) (q := ⟨2, []⟩) (x' := .dead) rfl rfl hIH rfl rfl rfl (by decide) (by decide) (by decide) rfl (fun _ => rfl) (by simp [Go.Proofs.Ytcjidnpkeliieaa.rn]) (.cons (AR.ptr _ _ _ _ (by simp)) (.cons (.dd _) (.cons (.dd _) .nil))) | exact Ok.e0); (first | refine Nc ?_ | refine Nd ?_)) | refine Oa ?_ | refine Ob ?_ | ((first | refine Ga (fun h => ?_) (fun h => ?_) | refine AD.gsplit rfl rfl (fun h => ?_) (fun h => ?_)) <;> try (exfalso; omega; done)) | (first | refine AL.gsplitB rfl rfl (fun h => ?_) (fun h => ?_) | refine AD.gsplitB rfl rfl (fun h => ?_) (fun h => ?_)) | refine Fa ?_ | refine Qb ?_ | refine Qc ?_ | refine Qd ?_ | refine Fb ?_ | refine Qe ?_ | refine Wa ?_ | refine Wb ?_ | (refine AW.ite rfl (fun h => ?_) (fun h => ?_) <;> try (exfalso; omega; done)) | refine AW.cond _ rfl (fun h => ?_) (fun h => ?_) | refine Qf ?_ | refine Qg ?_ | refine Qh ?_ | refine Qi ?_ | refine Xa ?_ | refine Xb ?_ | refine Xc ?_ | refine Xd ?_ | refine Fc ?_)
          (refine end1p (by first | exact .inl rfl | exact .inr rfl) rfl (by first | exact rT rfl | exact rCA rfl rfl rfl rfl (by simp) | exact rCC rfl rfl rfl rfl rfl) ?_ (Le.head ([(⟨0, []⟩, ⟨0, []⟩, ⟨5, [[I n, PL xs, .d (.sl 1 (boR xs.length cr)), .own 1 ⟨3, []⟩ 0 c.length, .dead]]⟩), (⟨3, []⟩, ⟨970, [3]⟩, IO (cN c))]) (by first | exact fun l h => absurd h (hD l) | (intro l h; rcases hD l h with rfl; simp [tauL]) | (intro l h; rcases hD l h with rfl | rfl <;> simp [tauL]; done) | (intro l h; rcases hD l h with rfl | rfl | rfl <;> simp [tauL])) ?_ ?_ (by simp) (by simp) (by simp [AllP]) (n' := 1000)); (· rfl)) <;> (repeat' (first | exact trivial | exact ARs.nil | refine ARs.cons ?_ ?_ | exact AR.dead _ | exact AR.dd _ | exact AR.i (by (try dsimp only); omega) | exact AR.ptr _ _ _ _ (by simp [heapL, upd]) | exact AR.own _ _ _ _ (by simp [heapL, upd]) | refine AR.ownE _ _ _ ?_ (by simp [heapL, upd]) | refine ⟨⟨_, rfl, ?_⟩, ?_⟩ | exact ObA.data | refine ObA.box ?_ | refine ObA.frE ?_ | refine ObA.dataE ?_ | refine ARs.agg ?_ | refine ARs.tup ?_ | exact AR.clo' ARs.nil ARs.nil | exact AR.clo' ARs.nil (hca _ _)))
end Go.Proofs.Ytcjidnpkeliieaa
end
