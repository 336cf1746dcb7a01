/-
  Plain law: a firing order exists exactly if there is no cycle.
-/
import Derived.Test.YtcjidnpkeliieaaKG1
namespace Go.Proofs.Ytcjidnpkeliieaa
set_option linter.unusedSimpArgs false
set_option linter.unusedVariables false

theorem nodup_le : ∀ (n : Nat) (l : List Nat), l.Nodup → (∀ x ∈ l, x < n) → l.length ≤ n
  | 0, l, _, h => by
    cases l with
    | nil => simp
    | cons x r => have := h x (by simp); omega
  | n + 1, l, hn, h => by
    by_cases hm : n ∈ l
    · have h1 := nodup_le n (l.erase n) (hn.erase n) (fun x hx => by
        have h2 := (hn.mem_erase_iff).1 hx
        have := h x h2.2
        omega)
      have := List.length_erase_of_mem hm
      omega
    · have := nodup_le n l hn (fun x hx => by
        have h1 := h x hx
        have : x ≠ n := fun e => hm (e ▸ hx)
        omega)
      omega
theorem nodup_sub : ∀ (l o : List Nat), l.Nodup → (∀ x ∈ l, x ∈ o) → l.length ≤ o.length
  | [], o, _, _ => by simp
  | x :: r, o, hn, h => by
    have hx := h x (by simp)
    obtain ⟨h1, h2⟩ := List.nodup_cons.1 hn
    have := nodup_sub r (o.erase x) h2 (fun y hy => (List.mem_erase_of_ne (fun e => h1 (by rw [← e]; exact hy))).2 (h y (by simp [hy])))
    have h3 := List.length_erase_of_mem hx
    have h4 := List.length_pos_of_mem hx
    simp; omega
/-- A list without a number twice, of all numbers below n, has each of them. -/
theorem nodup_full {n : Nat} {l : List Nat} (hn : l.Nodup) (h : ∀ x ∈ l, x < n) (hl : l.length = n) {x : Nat} (hx : x < n) : x ∈ l := by
  apply Classical.byContradiction
  intro hm
  have := nodup_le n (x :: l) (List.nodup_cons.2 ⟨hm, hn⟩) (fun y hy => by
    rcases List.mem_cons.1 hy with rfl | hy
    · exact hx
    · exact h y hy)
  simp at this; omega
def iter (f : Nat → Nat) : Nat → Nat → Nat
  | 0, x => x
  | k + 1, x => f (iter f k x)
theorem iter_add (f : Nat → Nat) : ∀ (i j x : Nat), iter f (i + j) x = iter f i (iter f j x)
  | 0, j, x => by simp [iter]
  | i + 1, j, x => by rw [show i + 1 + j = (i + j) + 1 by omega]; simp only [iter]; rw [iter_add f i j x]
theorem iter_lt {f : Nat → Nat} {n : Nat} (hf : ∀ x, x < n → f x < n) : ∀ (k x : Nat), x < n → iter f k x < n
  | 0, _, h => h
  | k + 1, x, h => hf _ (iter_lt hf k x h)
theorem exists_min (p : Nat → Prop) : ∀ (m : Nat), p m → ∃ k, p k ∧ ∀ j, p j → k ≤ j := by
  intro m
  induction m using Nat.strongRecOn with
  | _ m ih =>
    intro hm
    by_cases h : ∃ j, j < m ∧ p j
    · obtain ⟨j, hj, hp⟩ := h; exact ih j hj hp
    · exact ⟨m, hm, fun j hp => by
        apply Classical.byContradiction
        intro hlt
        exact h ⟨j, by omega, hp⟩⟩
/-- A function of finitely many numbers comes back: at its least number there. -/
theorem orbit {f : Nat → Nat} {n x0 : Nat} (hf : ∀ x, x < n → f x < n) (h0 : x0 < n) : ∃ v L m, v = iter f m x0 ∧ 0 < L ∧ iter f L v = v ∧ (∀ k, v ≤ iter f k v) ∧ ∀ s t, 0 < s → s < t → t ≤ L → iter f s v ≠ iter f t v := by
  have hrep : ∃ i j, i < j ∧ iter f i x0 = iter f j x0 := by
    apply Classical.byContradiction
    intro hno
    have hnd : ((List.range (n + 1)).map fun i => iter f i x0).Nodup := by
      rw [List.nodup_iff_pairwise_ne] <;> skip
      rw [List.pairwise_iff_getElem]
      intro i j hi hj hij e
      simp at e
      exact hno ⟨i, j, hij, e⟩
    have := nodup_le n _ hnd (fun x hx => by
      obtain ⟨i, _, rfl⟩ := List.mem_map.1 hx
      exact iter_lt hf i x0 h0)
    simp at this
    omega
  obtain ⟨i, j, hij, e⟩ := hrep
  have hp : iter f (j - i) (iter f i x0) = iter f i x0 := by
    rw [← iter_add, show j - i + i = j by omega, e]
  obtain ⟨v, ⟨t0, hv⟩, hmin⟩ := exists_min (fun y => ∃ t, iter f t (iter f i x0) = y) (iter f i x0) ⟨0, rfl⟩
  have hvp : iter f (j - i) v = v := by
    rw [← hv, ← iter_add, Nat.add_comm, iter_add, hp]
  obtain ⟨L, ⟨hL0, hL⟩, hLm⟩ := exists_min (fun L => 0 < L ∧ iter f L v = v) (j - i) ⟨by omega, hvp⟩
  refine ⟨v, L, t0 + i, by rw [iter_add, hv], hL0, hL, fun k => hmin _ ⟨k + t0, by rw [iter_add, hv]⟩, fun s t hs hst ht e2 => ?_⟩
  have h3 : iter f (L - t + s) v = v := by
    rw [iter_add, e2, ← iter_add, show L - t + t = L by omega, hL]
  have := hLm (L - t + s) ⟨by omega, h3⟩
  omega
/-- If each of some nodes waits for one of them, there is a cycle that the search finds. -/
theorem cyc_of_wait {a : Nat → Nat → Int} {n : Nat} {S : Nat → Prop} {x0 : Nat} (h0 : S x0) (hlt : ∀ x, S x → x < n) (hw : ∀ x, S x → ∃ u, S u ∧ a x u ≠ BOT) :
    ∃ c, Cyc a n c ∧ (∀ i, 0 < i → i < c.length → c.getD 0 0 < c.getD i 0) ∧ c.Nodup := by
  classical
  let f : Nat → Nat := fun x => if h : S x then Classical.choose (hw x h) else x0
  have hfS : ∀ x, S x → S (f x) ∧ a x (f x) ≠ BOT := fun x hx => by
    have : f x = Classical.choose (hw x hx) := by simp only [f]; rw [dif_pos hx]
    rw [this]
    exact Classical.choose_spec (hw x hx)
  have hfn : ∀ x, x < n → f x < n := fun x _ => by
    by_cases hx : S x
    · exact hlt _ (hfS x hx).1
    · simp only [f]; rw [dif_neg hx]; exact hlt _ h0
  obtain ⟨v, L, m, hv, hL0, hL, hmin, hdist⟩ := orbit hfn (hlt _ h0)
  have hSi : ∀ k, S (iter f k x0) := fun k => by
    induction k with
    | zero => exact h0
    | succ k ih => exact (hfS _ ih).1
  have hSv : ∀ k, S (iter f k v) := fun k => by rw [hv, ← iter_add]; exact hSi _
  have hget : ∀ i, i < L → ((List.range L).map fun t => iter f (L - t) v).getD i 0 = iter f (L - i) v := fun i hi => by
    simp [List.getD_eq_getElem?_getD, hi]
  have hlen : ((List.range L).map fun t => iter f (L - t) v).length = L := by simp
  have hstep : ∀ k, 0 < k → iter f k v = f (iter f (k - 1) v) := fun k hk => by
    obtain ⟨k', rfl⟩ : ∃ k', k = k' + 1 := ⟨k - 1, by omega⟩
    rfl
  refine ⟨(List.range L).map fun t => iter f (L - t) v, ⟨?_, ?_, ?_, ?_⟩, ?_, ?_⟩
  · intro e; have := congrArg List.length e; rw [hlen] at this; simp at this; omega
  · intro x hx
    obtain ⟨t, _, rfl⟩ := List.mem_map.1 hx
    exact hlt _ (hSv _)
  · intro i hi
    rw [hlen] at hi
    rw [hget (i + 1) hi, hget i (by omega), hstep (L - i) (by omega), show L - i - 1 = L - (i + 1) by omega]
    exact (hfS _ (hSv _)).2
  · rw [hdN_getD, lsN_getD, hlen, hget 0 hL0, hget (L - 1) (by omega), show L - 0 = L by omega, hL, show L - (L - 1) = 1 by omega]
    exact (hfS _ (hSv 0)).2
  · intro i hi hil
    rw [hlen] at hil
    rw [hget 0 hL0, hget i hil, show L - 0 = L by omega, hL]
    have h1 := hmin (L - i)
    have h2 := hdist (L - i) L (by omega) (by omega) (Nat.le_refl _)
    rw [hL] at h2
    omega
  · rw [List.nodup_iff_pairwise_ne] <;> skip
    rw [List.pairwise_iff_getElem]
    intro i j hi hj hij e
    simp at hi hj e
    exact hdist (L - j) (L - i) (by omega) (by omega) (by omega) e.symm

/-! ### Firing orders -/
/-- The least node that is not yet there and waits for none that is not there. -/
def nextE (w : Nat → Nat → Bool) (n : Nat) (ord : List Nat) : Option Nat := (List.range n).find? fun e => !ord.contains e && (List.range n).all fun u => !w e u || ord.contains u
def ordF (w : Nat → Nat → Bool) (n : Nat) : Nat → List Nat → Option (List Nat)
  | 0, ord => some ord
  | k + 1, ord => match nextE w n ord with
    | none => none
    | some e => ordF w n k (ord ++ [e])
structure OrdOk (w : Nat → Nat → Bool) (n : Nat) (ord : List Nat) : Prop where
  nd : ord.Nodup
  lt : ∀ x ∈ ord, x < n
  wait : ∀ i, i < ord.length → ∀ u, u < n → w (ord.getD i 0) u = true → u ∈ ord.take i
theorem OrdOk.nil {w : Nat → Nat → Bool} {n : Nat} : OrdOk w n [] := ⟨List.nodup_nil, fun x h => (by cases h), fun i h => (by simp at h)⟩
theorem nextE_some {w : Nat → Nat → Bool} {n : Nat} {ord : List Nat} {e : Nat} (h : nextE w n ord = some e) : e < n ∧ e ∉ ord ∧ ∀ u, u < n → w e u = true → u ∈ ord := by
  have h1 := List.mem_of_find?_eq_some h
  have h2 := List.find?_some h
  simp at h1 h2
  refine ⟨h1, h2.1, fun u hu hw => ?_⟩
  rcases h2.2 u hu with h3 | h3
  · rw [h3] at hw; cases hw
  · exact h3
theorem nextE_none {w : Nat → Nat → Bool} {n : Nat} {ord : List Nat} (h : nextE w n ord = none) {e : Nat} (he : e < n) (hn : e ∉ ord) : ∃ u, u < n ∧ w e u = true ∧ u ∉ ord := by
  have h1 := List.find?_eq_none.1 h e (by simpa using he)
  simp [hn] at h1
  obtain ⟨u, hu, h2, h3⟩ := h1
  exact ⟨u, hu, h2, h3⟩
theorem OrdOk.snoc {w : Nat → Nat → Bool} {n : Nat} {ord : List Nat} {e : Nat} (h : OrdOk w n ord) (hx : nextE w n ord = some e) : OrdOk w n (ord ++ [e]) := by
  obtain ⟨h1, h2, h3⟩ := nextE_some hx
  refine ⟨?_, fun x hx => ?_, fun i hi u hu hw => ?_⟩
  · rw [List.nodup_append]
    exact ⟨h.nd, by simp, fun a ha b hb => by simp at hb; subst hb; intro e2; subst e2; exact h2 ha⟩
  · rcases List.mem_append.1 hx with hx | hx
    · exact h.lt x hx
    · simp at hx; omega
  · by_cases hil : i < ord.length
    · have := h.wait i hil u hu (by simpa [List.getD_eq_getElem?_getD, List.getElem?_append_left hil] using hw)
      rwa [List.take_append_of_le_length (by omega)]
    · simp at hi
      have hie : i = ord.length := by omega
      subst hie
      have hw' : w e u = true := by simpa [List.getD_eq_getElem?_getD] using hw
      rw [List.take_append_of_le_length (Nat.le_refl _), List.take_length]
      exact h3 u hu hw'
theorem ordF_some {w : Nat → Nat → Bool} {n : Nat} : ∀ {k : Nat} {ord r : List Nat}, OrdOk w n ord → ordF w n k ord = some r → OrdOk w n r ∧ r.length = ord.length + k
  | 0, ord, r, h, e => by simp [ordF] at e; subst e; exact ⟨h, rfl⟩
  | k + 1, ord, r, h, e => by
    unfold ordF at e
    split at e
    · cases e
    · rename_i x hx
      obtain ⟨h1, h2⟩ := ordF_some (h.snoc hx) e
      exact ⟨h1, by simp at h2; omega⟩
theorem ordF_none {w : Nat → Nat → Bool} {n : Nat} : ∀ {k : Nat} {ord : List Nat}, OrdOk w n ord → ord.length + k = n → ordF w n k ord = none → ∃ o, OrdOk w n o ∧ o.length < n ∧ nextE w n o = none
  | 0, ord, h, _, e => by simp [ordF] at e
  | k + 1, ord, h, hl, e => by
    unfold ordF at e
    split at e
    · rename_i hx; exact ⟨ord, h, by omega, hx⟩
    · rename_i x hx
      exact ordF_none (h.snoc hx) (by simp; omega) e
/-- No order: a cycle. -/
theorem cyc_of_none {w : Nat → Nat → Bool} {a : Nat → Nat → Int} {n : Nat} (ha : ∀ e u, e < n → u < n → w e u = true → a e u ≠ BOT) (h : ordF w n n [] = none) :
    ∃ c, Cyc a n c ∧ (∀ i, 0 < i → i < c.length → c.getD 0 0 < c.getD i 0) ∧ c.Nodup := by
  obtain ⟨o, ho, hl, hx⟩ := ordF_none OrdOk.nil (by simp) h
  have : ∃ x0, x0 < n ∧ x0 ∉ o := by
    apply Classical.byContradiction
    intro hno
    have := nodup_sub (List.range n) o List.nodup_range (fun x hx => Classical.byContradiction fun hm => hno ⟨x, by simpa using hx, hm⟩)
    simp at this; omega
  obtain ⟨x0, h0, hm⟩ := this
  exact cyc_of_wait (S := fun x => x < n ∧ x ∉ o) (x0 := x0) ⟨h0, hm⟩ (fun x h => h.1) (fun x h => by
    obtain ⟨u, hu, h1, h2⟩ := nextE_none hx h.1 h.2
    exact ⟨u, ⟨hu, h2⟩, ha x u h.1 hu h1⟩)
/-- A cycle: no order. -/
theorem none_of_cyc {w : Nat → Nat → Bool} {a : Nat → Nat → Int} {n : Nat} {c : List Nat} (ha : ∀ e u, e < n → u < n → a e u ≠ BOT → w e u = true) (hc : Cyc a n c) : ordF w n n [] = none := by
  cases h : ordF w n n [] with
  | none => rfl
  | some ord =>
    exfalso
    obtain ⟨ho, hl⟩ := ordF_some OrdOk.nil h
    simp at hl
    have hmem : ∀ x, x < n → x ∈ ord := fun x hx => nodup_full ho.nd ho.lt hl hx
    have hpos : 0 < c.length := List.length_pos_iff.2 hc.ne
    have hclt : ∀ j, j < c.length → c.getD j 0 < n := fun j hj => hc.lt _ (by rw [List.getD_eq_getElem?_getD, List.getElem?_eq_getElem hj]; exact List.getElem_mem hj)
    have key : ∀ m, ∀ j, j < c.length → ord.getD m 0 = c.getD j 0 → m < ord.length → False := by
      intro m
      induction m using Nat.strongRecOn with
      | _ m ih =>
        intro j hj he hm
        have hpred : ∃ j', j' < c.length ∧ a (c.getD j 0) (c.getD j' 0) ≠ BOT := by
          by_cases h0 : j = 0
          · subst h0
            have := hc.close
            rw [hdN_getD, lsN_getD] at this
            exact ⟨c.length - 1, by omega, this⟩
          · have := hc.path (j - 1) (by omega)
            rw [show j - 1 + 1 = j by omega] at this
            exact ⟨j - 1, by omega, this⟩
        obtain ⟨j', hj', harc⟩ := hpred
        have hw := ha _ _ (hclt j hj) (hclt j' hj') harc
        have hin := ho.wait m hm _ (hclt j' hj') (by rw [he]; exact hw)
        obtain ⟨m', hm', hme⟩ := List.getElem_of_mem hin
        simp at hm'
        rw [List.getElem_take] at hme
        exact ih m' (by omega) j' hj' (by rw [List.getD_eq_getElem?_getD, List.getElem?_eq_getElem (by omega)]; exact hme) (by omega)
    obtain ⟨m, hm, hme⟩ := List.getElem_of_mem (hmem _ (hclt 0 hpos))
    exact key m 0 hpos (by rw [List.getD_eq_getElem?_getD, List.getElem?_eq_getElem hm]; exact hme) hm
/-- The search over all zero weights finds nothing exactly if there is an order. -/
theorem live_iff {w : Nat → Nat → Bool} {a : Nat → Nat → Int} {n : Nat} (h0 : ∀ u v, a u v = BOT ∨ 0 ≤ a u v) (ha : ∀ e u, e < n → u < n → (a e u ≠ BOT ↔ w e u = true)) : overF a n (-1) = [] ↔ ordF w n n [] ≠ none := by
  constructor
  · intro h hn
    obtain ⟨c, hc, hmin, hnd⟩ := cyc_of_none (fun e u he hu hw => (ha e u he hu).2 hw) hn
    have hpos : 0 < c.length := List.length_pos_iff.2 hc.ne
    have hlen := nodup_le n c hnd hc.lt
    have hf := growF_finds h0 hc hmin hnd n 1 0 (by omega) (by omega) (by omega) (by omega)
    have h1 : c.take 1 = [c.getD 0 0] := by cases c with | nil => simp at hpos | cons x r => simp
    rw [h1] at hf
    have : overF a n (-1) ≠ [] := tryAll_ne.2 ⟨c.getD 0 0, by
      rw [List.mem_range'_1]
      have := hc.lt (c.getD 0 0) (by rw [List.getD_eq_getElem?_getD, List.getElem?_eq_getElem hpos]; exact List.getElem_mem hpos)
      omega, hf⟩
    exact this h
  · intro h
    apply Classical.byContradiction
    intro hn
    exact h (none_of_cyc (fun e u he hu h => (ha e u he hu).1 h) (overF_cyc hn))
end Go.Proofs.Ytcjidnpkeliieaa
