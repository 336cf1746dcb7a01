/-
  Walks in the abstract reading, part 2.
-/
import Derived.Test.YtcjidnpkeliieaaKA2
import Derived.Test.YtcjidnpkeliieaaKU1
import Derived.Test.YtcjidnpkeliieaaKA3
section
namespace Go.Proofs.Ytcjidnpkeliieaa
set_option linter.unusedSimpArgs false
set_option linter.unusedVariables false

abbrev BOT : Int := -1000000000000000
def tryAll {α : Type} (f : Nat → List α) : List Nat → List α
  | [] => []
  | v :: r => if f v ≠ [] then f v else tryAll f r
theorem tryAll_ne {α : Type} {f : Nat → List α} : ∀ {l : List Nat}, tryAll f l ≠ [] ↔ ∃ v ∈ l, f v ≠ []
  | [] => by simp [tryAll]
  | v :: r => by
    unfold tryAll
    split
    · rename_i h; exact ⟨fun _ => ⟨v, by simp, h⟩, fun _ => h⟩
    · rename_i h
      rw [tryAll_ne]
      constructor
      · rintro ⟨u, hu, h2⟩; exact ⟨u, by simp [hu], h2⟩
      · rintro ⟨u, hu, h2⟩
        rcases List.mem_cons.1 hu with rfl | hu
        · exact absurd h2 h
        · exact ⟨u, hu, h2⟩
theorem tryAll_mem {α : Type} {f : Nat → List α} : ∀ {l : List Nat}, tryAll f l ≠ [] → ∃ v ∈ l, f v ≠ [] ∧ tryAll f l = f v
  | [], h => by simp [tryAll] at h
  | v :: r, h => by
    unfold tryAll at h ⊢
    split
    · rename_i h2; exact ⟨v, by simp, h2, rfl⟩
    · rename_i h2
      rw [if_neg h2] at h
      obtain ⟨u, hu, h3, h4⟩ := tryAll_mem h
      exact ⟨u, by simp [hu], h3, h4⟩
def hdN (p : List Nat) : Nat := p.headD 0
def lsN (p : List Nat) : Nat := p.getLastD 0
/-- The search of cycles: a v u is the weight of the arc from u to v. -/
def growF (a : Nat → Nat → Int) (n : Nat) (over : Int) : Nat → List Nat → Int → List Nat
  | 0, _, _ => []
  | k + 1, path, w => if a (hdN path) (lsN path) ≠ BOT ∧ over < w + a (hdN path) (lsN path) then path else
      tryAll (fun v => if a v (lsN path) = BOT ∨ v ∈ path then [] else growF a n over k (path ++ [v]) (w + a v (lsN path))) (List.range' (hdN path + 1) (n - (hdN path + 1)))
def overF (a : Nat → Nat → Int) (n : Nat) (over : Int) : List Nat := tryAll (fun v => growF a n over n [v] 0) (List.range' 0 n)

/-- Each node has an arc to the next one. -/
def pathP (a : Nat → Nat → Int) (c : List Nat) : Prop := ∀ i, i + 1 < c.length → a (c.getD (i + 1) 0) (c.getD i 0) ≠ BOT
structure Cyc (a : Nat → Nat → Int) (n : Nat) (c : List Nat) : Prop where
  ne : c ≠ []
  lt : ∀ v ∈ c, v < n
  path : pathP a c
  close : a (hdN c) (lsN c) ≠ BOT
theorem lsN_getD {c : List Nat} : lsN c = c.getD (c.length - 1) 0 := by
  cases c with
  | nil => rfl
  | cons x r =>
    unfold lsN
    rw [List.getLastD_eq_getLast?, List.getLast?_eq_getElem?, List.getD_eq_getElem?_getD]
theorem hdN_getD {c : List Nat} : hdN c = c.getD 0 0 := by cases c <;> rfl
theorem hdN_app {p q : List Nat} (h : p ≠ []) : hdN (p ++ q) = hdN p := by cases p with | nil => exact absurd rfl h | cons => rfl
theorem pathP_snoc {a : Nat → Nat → Int} {c : List Nat} {v : Nat} (h : pathP a c) (hv : a v (lsN c) ≠ BOT) : pathP a (c ++ [v]) := by
  intro i hi
  simp only [List.length_append, List.length_cons, List.length_nil] at hi
  by_cases h1 : i + 1 < c.length
  · have := h i h1
    simpa [List.getD_eq_getElem?_getD, List.getElem?_append_left h1, List.getElem?_append_left (show i < c.length by omega)] using this
  · have h2 : i + 1 = c.length := by omega
    have h3 : (c ++ [v]).getD (i + 1) 0 = v := by simp [List.getD_eq_getElem?_getD, h2]
    have h4 : (c ++ [v]).getD i 0 = lsN c := by
      rw [lsN_getD, ← h2]
      simp [List.getD_eq_getElem?_getD, List.getElem?_append_left (show i < c.length by omega)]
    rw [h3, h4]; exact hv
theorem growF_cyc {a : Nat → Nat → Int} {n : Nat} {over : Int} : ∀ {k : Nat} {path : List Nat} {w : Int}, path ≠ [] → (∀ v ∈ path, v < n) → pathP a path → growF a n over k path w ≠ [] → Cyc a n (growF a n over k path w)
  | 0, _, _, _, _, _, h => by simp [growF] at h
  | k + 1, path, w, h0, h1, h2, h => by
    unfold growF at h ⊢
    split
    · rename_i hc; exact ⟨h0, h1, h2, hc.1⟩
    · rename_i hc
      rw [if_neg hc] at h
      obtain ⟨v, hv, h3, h4⟩ := tryAll_mem h
      rw [h4]
      split at h3
      · exact absurd rfl h3
      · rename_i hn
        rw [if_neg hn]
        simp only [List.mem_range'_1] at hv
        exact growF_cyc (by simp) (fun u hu => by
          rcases List.mem_append.1 hu with hu | hu
          · exact h1 u hu
          · simp at hu; omega) (pathP_snoc h2 (fun e => hn (.inl e))) h3
theorem overF_cyc {a : Nat → Nat → Int} {n : Nat} {over : Int} (h : overF a n over ≠ []) : Cyc a n (overF a n over) := by
  obtain ⟨v, hv, h3, h4⟩ := tryAll_mem h
  simp only [List.mem_range'_1] at hv
  unfold overF
  rw [h4]
  exact growF_cyc (by simp) (by simp; omega) (fun i hi => by simp at hi) h3
/-- A cycle without a node twice, whose first node is its least one, is not overlooked. -/
theorem growF_finds {a : Nat → Nat → Int} {n : Nat} {c : List Nat} (ha : ∀ u v, a u v = BOT ∨ 0 ≤ a u v) (hc : Cyc a n c) (hmin : ∀ i, 0 < i → i < c.length → c.getD 0 0 < c.getD i 0) (hd : c.Nodup) :
    ∀ (k i : Nat) (w : Int), 0 ≤ w → 1 ≤ i → i ≤ c.length → c.length < k + i → growF a n (-1) k (c.take i) w ≠ []
  | 0, i, w, _, _, h2, h3 => by omega
  | k + 1, i, w, hw, h1, h2, h3 => by
    unfold growF
    have hhd : hdN (c.take i) = c.getD 0 0 := by rw [hdN_getD]; simp [List.getD_eq_getElem?_getD, List.getElem?_take, show 0 < i by omega]
    have hls : lsN (c.take i) = c.getD (i - 1) 0 := by
      rw [lsN_getD, List.length_take, Nat.min_eq_left h2, List.getD_eq_getElem?_getD, List.getElem?_take, if_pos (by omega), List.getD_eq_getElem?_getD]
    split
    · intro e
      have := congrArg List.length e
      rw [List.length_take, Nat.min_eq_left h2] at this; simp at this; omega
    · rename_i hno
      by_cases hi : i = c.length
      · exfalso
        apply hno
        have hcl := hc.close
        rw [hdN_getD, lsN_getD] at hcl
        rw [hhd, hls, hi]
        refine ⟨hcl, ?_⟩
        rcases ha (c.getD 0 0) (c.getD (c.length - 1) 0) with h | h
        · exact absurd h hcl
        · omega
      · have hi' : i < c.length := by omega
        rw [tryAll_ne]
        refine ⟨c.getD i 0, ?_, ?_⟩
        · rw [List.mem_range'_1, hhd]
          have h4 := hmin i (by omega) hi'
          have h5 : c.getD i 0 < n := hc.lt _ (by rw [List.getD_eq_getElem?_getD, List.getElem?_eq_getElem hi']; exact List.getElem_mem hi')
          omega
        · have harc := hc.path (i - 1) (by omega)
          rw [show i - 1 + 1 = i by omega] at harc
          rw [hls]
          rw [if_neg]
          · have : c.take i ++ [c.getD i 0] = c.take (i + 1) := by
              rw [List.take_succ_eq_append_getElem hi', List.getD_eq_getElem?_getD, List.getElem?_eq_getElem hi']; rfl
            rw [this]
            refine growF_finds ha hc hmin hd k (i + 1) _ ?_ (by omega) (by omega) (by omega)
            rcases ha (c.getD i 0) (c.getD (i - 1) 0) with h | h
            · exact absurd h harc
            · omega
          · rintro (h | h)
            · exact harc h
            · obtain ⟨j, hj, hje⟩ := List.getElem_of_mem h
              simp at hj
              rw [List.getElem_take, List.getD_eq_getElem?_getD, List.getElem?_eq_getElem hi', Option.getD_some] at hje
              have hpw := List.pairwise_iff_getElem.1 hd
              exact hpw j i (by omega) hi' (by omega) hje
end Go.Proofs.Ytcjidnpkeliieaa
end

section
namespace Go.Proofs.Ytcjidnpkeliieaa
set_option linter.unusedSimpArgs false
set_option linter.unusedVariables false

theorem nodup_le : ∀ (n : Nat) (l : List Nat), l.Nodup → (∀ x ∈ l, x < n) → l.length ≤ n
  | 0, l, _, h => by
    cases l with
    | nil => simp
    | cons x r => have := h x (by simp); omega
  | n + 1, l, hn, h => by
    by_cases hm : n ∈ l
    · have h1 := nodup_le n (l.erase n) (hn.erase n) (fun x hx => by
        have h2 := (hn.mem_erase_iff).1 hx
        have := h x h2.2
        omega)
      have := List.length_erase_of_mem hm
      omega
    · have := nodup_le n l hn (fun x hx => by
        have h1 := h x hx
        have : x ≠ n := fun e => hm (e ▸ hx)
        omega)
      omega
theorem nodup_sub : ∀ (l o : List Nat), l.Nodup → (∀ x ∈ l, x ∈ o) → l.length ≤ o.length
  | [], o, _, _ => by simp
  | x :: r, o, hn, h => by
    have hx := h x (by simp)
    obtain ⟨h1, h2⟩ := List.nodup_cons.1 hn
    have := nodup_sub r (o.erase x) h2 (fun y hy => (List.mem_erase_of_ne (fun e => h1 (by rw [← e]; exact hy))).2 (h y (by simp [hy])))
    have h3 := List.length_erase_of_mem hx
    have h4 := List.length_pos_of_mem hx
    simp; omega
/-- A list without a number twice, of all numbers below n, has each of them. -/
theorem nodup_full {n : Nat} {l : List Nat} (hn : l.Nodup) (h : ∀ x ∈ l, x < n) (hl : l.length = n) {x : Nat} (hx : x < n) : x ∈ l := by
  apply Classical.byContradiction
  intro hm
  have := nodup_le n (x :: l) (List.nodup_cons.2 ⟨hm, hn⟩) (fun y hy => by
    rcases List.mem_cons.1 hy with rfl | hy
    · exact hx
    · exact h y hy)
  simp at this; omega
def iter (f : Nat → Nat) : Nat → Nat → Nat
  | 0, x => x
  | k + 1, x => f (iter f k x)
theorem iter_add (f : Nat → Nat) : ∀ (i j x : Nat), iter f (i + j) x = iter f i (iter f j x)
  | 0, j, x => by simp [iter]
  | i + 1, j, x => by rw [show i + 1 + j = (i + j) + 1 by omega]; simp only [iter]; rw [iter_add f i j x]
theorem iter_lt {f : Nat → Nat} {n : Nat} (hf : ∀ x, x < n → f x < n) : ∀ (k x : Nat), x < n → iter f k x < n
  | 0, _, h => h
  | k + 1, x, h => hf _ (iter_lt hf k x h)
theorem exists_min (p : Nat → Prop) : ∀ (m : Nat), p m → ∃ k, p k ∧ ∀ j, p j → k ≤ j := by
  intro m
  induction m using Nat.strongRecOn with
  | _ m ih =>
    intro hm
    by_cases h : ∃ j, j < m ∧ p j
    · obtain ⟨j, hj, hp⟩ := h; exact ih j hj hp
    · exact ⟨m, hm, fun j hp => by
        apply Classical.byContradiction
        intro hlt
        exact h ⟨j, by omega, hp⟩⟩
/-- A function of finitely many numbers comes back: at its least number there. -/
theorem orbit {f : Nat → Nat} {n x0 : Nat} (hf : ∀ x, x < n → f x < n) (h0 : x0 < n) : ∃ v L m, v = iter f m x0 ∧ 0 < L ∧ iter f L v = v ∧ (∀ k, v ≤ iter f k v) ∧ ∀ s t, 0 < s → s < t → t ≤ L → iter f s v ≠ iter f t v := by
  have hrep : ∃ i j, i < j ∧ iter f i x0 = iter f j x0 := by
    apply Classical.byContradiction
    intro hno
    have hnd : ((List.range (n + 1)).map fun i => iter f i x0).Nodup := by
      rw [List.nodup_iff_pairwise_ne] <;> skip
      rw [List.pairwise_iff_getElem]
      intro i j hi hj hij e
      simp at e
      exact hno ⟨i, j, hij, e⟩
    have := nodup_le n _ hnd (fun x hx => by
      obtain ⟨i, _, rfl⟩ := List.mem_map.1 hx
      exact iter_lt hf i x0 h0)
    simp at this
    omega
  obtain ⟨i, j, hij, e⟩ := hrep
  have hp : iter f (j - i) (iter f i x0) = iter f i x0 := by
    rw [← iter_add, show j - i + i = j by omega, e]
  obtain ⟨v, ⟨t0, hv⟩, hmin⟩ := exists_min (fun y => ∃ t, iter f t (iter f i x0) = y) (iter f i x0) ⟨0, rfl⟩
  have hvp : iter f (j - i) v = v := by
    rw [← hv, ← iter_add, Nat.add_comm, iter_add, hp]
  obtain ⟨L, ⟨hL0, hL⟩, hLm⟩ := exists_min (fun L => 0 < L ∧ iter f L v = v) (j - i) ⟨by omega, hvp⟩
  refine ⟨v, L, t0 + i, by rw [iter_add, hv], hL0, hL, fun k => hmin _ ⟨k + t0, by rw [iter_add, hv]⟩, fun s t hs hst ht e2 => ?_⟩
  have h3 : iter f (L - t + s) v = v := by
    rw [iter_add, e2, ← iter_add, show L - t + t = L by omega, hL]
  have := hLm (L - t + s) ⟨by omega, h3⟩
  omega
/-- If each of some nodes waits for one of them, there is a cycle that the search finds. -/
theorem cyc_of_wait {a : Nat → Nat → Int} {n : Nat} {S : Nat → Prop} {x0 : Nat} (h0 : S x0) (hlt : ∀ x, S x → x < n) (hw : ∀ x, S x → ∃ u, S u ∧ a x u ≠ BOT) :
    ∃ c, Cyc a n c ∧ (∀ i, 0 < i → i < c.length → c.getD 0 0 < c.getD i 0) ∧ c.Nodup := by
  classical
  let f : Nat → Nat := fun x => if h : S x then Classical.choose (hw x h) else x0
  have hfS : ∀ x, S x → S (f x) ∧ a x (f x) ≠ BOT := fun x hx => by
    have : f x = Classical.choose (hw x hx) := by simp only [f]; rw [dif_pos hx]
    rw [this]
    exact Classical.choose_spec (hw x hx)
  have hfn : ∀ x, x < n → f x < n := fun x _ => by
    by_cases hx : S x
    · exact hlt _ (hfS x hx).1
    · simp only [f]; rw [dif_neg hx]; exact hlt _ h0
  obtain ⟨v, L, m, hv, hL0, hL, hmin, hdist⟩ := orbit hfn (hlt _ h0)
  have hSi : ∀ k, S (iter f k x0) := fun k => by
    induction k with
    | zero => exact h0
    | succ k ih => exact (hfS _ ih).1
  have hSv : ∀ k, S (iter f k v) := fun k => by rw [hv, ← iter_add]; exact hSi _
  have hget : ∀ i, i < L → ((List.range L).map fun t => iter f (L - t) v).getD i 0 = iter f (L - i) v := fun i hi => by
    simp [List.getD_eq_getElem?_getD, hi]
  have hlen : ((List.range L).map fun t => iter f (L - t) v).length = L := by simp
  have hstep : ∀ k, 0 < k → iter f k v = f (iter f (k - 1) v) := fun k hk => by
    obtain ⟨k', rfl⟩ : ∃ k', k = k' + 1 := ⟨k - 1, by omega⟩
    rfl
  refine ⟨(List.range L).map fun t => iter f (L - t) v, ⟨?_, ?_, ?_, ?_⟩, ?_, ?_⟩
  · intro e; have := congrArg List.length e; rw [hlen] at this; simp at this; omega
  · intro x hx
    obtain ⟨t, _, rfl⟩ := List.mem_map.1 hx
    exact hlt _ (hSv _)
  · intro i hi
    rw [hlen] at hi
    rw [hget (i + 1) hi, hget i (by omega), hstep (L - i) (by omega), show L - i - 1 = L - (i + 1) by omega]
    exact (hfS _ (hSv _)).2
  · rw [hdN_getD, lsN_getD, hlen, hget 0 hL0, hget (L - 1) (by omega), show L - 0 = L by omega, hL, show L - (L - 1) = 1 by omega]
    exact (hfS _ (hSv 0)).2
  · intro i hi hil
    rw [hlen] at hil
    rw [hget 0 hL0, hget i hil, show L - 0 = L by omega, hL]
    have h1 := hmin (L - i)
    have h2 := hdist (L - i) L (by omega) (by omega) (Nat.le_refl _)
    rw [hL] at h2
    omega
  · rw [List.nodup_iff_pairwise_ne] <;> skip
    rw [List.pairwise_iff_getElem]
    intro i j hi hj hij e
    simp at hi hj e
    exact hdist (L - j) (L - i) (by omega) (by omega) (by omega) e.symm

/-! ### Firing orders -/
/-- The least node that is not yet there and waits for none that is not there. -/
def nextE (w : Nat → Nat → Bool) (n : Nat) (ord : List Nat) : Option Nat := (List.range n).find? fun e => !ord.contains e && (List.range n).all fun u => !w e u || ord.contains u
def ordF (w : Nat → Nat → Bool) (n : Nat) : Nat → List Nat → Option (List Nat)
  | 0, ord => some ord
  | k + 1, ord => match nextE w n ord with
    | none => none
    | some e => ordF w n k (ord ++ [e])
structure OrdOk (w : Nat → Nat → Bool) (n : Nat) (ord : List Nat) : Prop where
  nd : ord.Nodup
  lt : ∀ x ∈ ord, x < n
  wait : ∀ i, i < ord.length → ∀ u, u < n → w (ord.getD i 0) u = true → u ∈ ord.take i
theorem OrdOk.nil {w : Nat → Nat → Bool} {n : Nat} : OrdOk w n [] := ⟨List.nodup_nil, fun x h => (by cases h), fun i h => (by simp at h)⟩
theorem nextE_some {w : Nat → Nat → Bool} {n : Nat} {ord : List Nat} {e : Nat} (h : nextE w n ord = some e) : e < n ∧ e ∉ ord ∧ ∀ u, u < n → w e u = true → u ∈ ord := by
  have h1 := List.mem_of_find?_eq_some h
  have h2 := List.find?_some h
  simp at h1 h2
  refine ⟨h1, h2.1, fun u hu hw => ?_⟩
  rcases h2.2 u hu with h3 | h3
  · rw [h3] at hw; cases hw
  · exact h3
theorem nextE_none {w : Nat → Nat → Bool} {n : Nat} {ord : List Nat} (h : nextE w n ord = none) {e : Nat} (he : e < n) (hn : e ∉ ord) : ∃ u, u < n ∧ w e u = true ∧ u ∉ ord := by
  have h1 := List.find?_eq_none.1 h e (by simpa using he)
  simp [hn] at h1
  obtain ⟨u, hu, h2, h3⟩ := h1
  exact ⟨u, hu, h2, h3⟩
theorem OrdOk.snoc {w : Nat → Nat → Bool} {n : Nat} {ord : List Nat} {e : Nat} (h : OrdOk w n ord) (hx : nextE w n ord = some e) : OrdOk w n (ord ++ [e]) := by
  obtain ⟨h1, h2, h3⟩ := nextE_some hx
  refine ⟨?_, fun x hx => ?_, fun i hi u hu hw => ?_⟩
  · rw [List.nodup_append]
    exact ⟨h.nd, by simp, fun a ha b hb => by simp at hb; subst hb; intro e2; subst e2; exact h2 ha⟩
  · rcases List.mem_append.1 hx with hx | hx
    · exact h.lt x hx
    · simp at hx; omega
  · by_cases hil : i < ord.length
    · have := h.wait i hil u hu (by simpa [List.getD_eq_getElem?_getD, List.getElem?_append_left hil] using hw)
      rwa [List.take_append_of_le_length (by omega)]
    · simp at hi
      have hie : i = ord.length := by omega
      subst hie
      have hw' : w e u = true := by simpa [List.getD_eq_getElem?_getD] using hw
      rw [List.take_append_of_le_length (Nat.le_refl _), List.take_length]
      exact h3 u hu hw'
theorem ordF_some {w : Nat → Nat → Bool} {n : Nat} : ∀ {k : Nat} {ord r : List Nat}, OrdOk w n ord → ordF w n k ord = some r → OrdOk w n r ∧ r.length = ord.length + k
  | 0, ord, r, h, e => by simp [ordF] at e; subst e; exact ⟨h, rfl⟩
  | k + 1, ord, r, h, e => by
    unfold ordF at e
    split at e
    · cases e
    · rename_i x hx
      obtain ⟨h1, h2⟩ := ordF_some (h.snoc hx) e
      exact ⟨h1, by simp at h2; omega⟩
theorem ordF_none {w : Nat → Nat → Bool} {n : Nat} : ∀ {k : Nat} {ord : List Nat}, OrdOk w n ord → ord.length + k = n → ordF w n k ord = none → ∃ o, OrdOk w n o ∧ o.length < n ∧ nextE w n o = none
  | 0, ord, h, _, e => by simp [ordF] at e
  | k + 1, ord, h, hl, e => by
    unfold ordF at e
    split at e
    · rename_i hx; exact ⟨ord, h, by omega, hx⟩
    · rename_i x hx
      exact ordF_none (h.snoc hx) (by simp; omega) e
/-- No order: a cycle. -/
theorem cyc_of_none {w : Nat → Nat → Bool} {a : Nat → Nat → Int} {n : Nat} (ha : ∀ e u, e < n → u < n → w e u = true → a e u ≠ BOT) (h : ordF w n n [] = none) :
    ∃ c, Cyc a n c ∧ (∀ i, 0 < i → i < c.length → c.getD 0 0 < c.getD i 0) ∧ c.Nodup := by
  obtain ⟨o, ho, hl, hx⟩ := ordF_none OrdOk.nil (by simp) h
  have : ∃ x0, x0 < n ∧ x0 ∉ o := by
    apply Classical.byContradiction
    intro hno
    have := nodup_sub (List.range n) o List.nodup_range (fun x hx => Classical.byContradiction fun hm => hno ⟨x, by simpa using hx, hm⟩)
    simp at this; omega
  obtain ⟨x0, h0, hm⟩ := this
  exact cyc_of_wait (S := fun x => x < n ∧ x ∉ o) (x0 := x0) ⟨h0, hm⟩ (fun x h => h.1) (fun x h => by
    obtain ⟨u, hu, h1, h2⟩ := nextE_none hx h.1 h.2
    exact ⟨u, ⟨hu, h2⟩, ha x u h.1 hu h1⟩)
/-- A cycle: no order. -/
theorem none_of_cyc {w : Nat → Nat → Bool} {a : Nat → Nat → Int} {n : Nat} {c : List Nat} (ha : ∀ e u, e < n → u < n → a e u ≠ BOT → w e u = true) (hc : Cyc a n c) : ordF w n n [] = none := by
  cases h : ordF w n n [] with
  | none => rfl
  | some ord =>
    exfalso
    obtain ⟨ho, hl⟩ := ordF_some OrdOk.nil h
    simp at hl
    have hmem : ∀ x, x < n → x ∈ ord := fun x hx => nodup_full ho.nd ho.lt hl hx
    have hpos : 0 < c.length := List.length_pos_iff.2 hc.ne
    have hclt : ∀ j, j < c.length → c.getD j 0 < n := fun j hj => hc.lt _ (by rw [List.getD_eq_getElem?_getD, List.getElem?_eq_getElem hj]; exact List.getElem_mem hj)
    have key : ∀ m, ∀ j, j < c.length → ord.getD m 0 = c.getD j 0 → m < ord.length → False := by
      intro m
      induction m using Nat.strongRecOn with
      | _ m ih =>
        intro j hj he hm
        have hpred : ∃ j', j' < c.length ∧ a (c.getD j 0) (c.getD j' 0) ≠ BOT := by
          by_cases h0 : j = 0
          · subst h0
            have := hc.close
            rw [hdN_getD, lsN_getD] at this
            exact ⟨c.length - 1, by omega, this⟩
          · have := hc.path (j - 1) (by omega)
            rw [show j - 1 + 1 = j by omega] at this
            exact ⟨j - 1, by omega, this⟩
        obtain ⟨j', hj', harc⟩ := hpred
        have hw := ha _ _ (hclt j hj) (hclt j' hj') harc
        have hin := ho.wait m hm _ (hclt j' hj') (by rw [he]; exact hw)
        obtain ⟨m', hm', hme⟩ := List.getElem_of_mem hin
        simp at hm'
        rw [List.getElem_take] at hme
        exact ih m' (by omega) j' hj' (by rw [List.getD_eq_getElem?_getD, List.getElem?_eq_getElem (by omega)]; exact hme) (by omega)
    obtain ⟨m, hm, hme⟩ := List.getElem_of_mem (hmem _ (hclt 0 hpos))
    exact key m 0 hpos (by rw [List.getD_eq_getElem?_getD, List.getElem?_eq_getElem hm]; exact hme) hm
/-- The search over all zero weights finds nothing exactly if there is an order. -/
theorem live_iff {w : Nat → Nat → Bool} {a : Nat → Nat → Int} {n : Nat} (h0 : ∀ u v, a u v = BOT ∨ 0 ≤ a u v) (ha : ∀ e u, e < n → u < n → (a e u ≠ BOT ↔ w e u = true)) : overF a n (-1) = [] ↔ ordF w n n [] ≠ none := by
  constructor
  · intro h hn
    obtain ⟨c, hc, hmin, hnd⟩ := cyc_of_none (fun e u he hu hw => (ha e u he hu).2 hw) hn
    have hpos : 0 < c.length := List.length_pos_iff.2 hc.ne
    have hlen := nodup_le n c hnd hc.lt
    have hf := growF_finds h0 hc hmin hnd n 1 0 (by omega) (by omega) (by omega) (by omega)
    have h1 : c.take 1 = [c.getD 0 0] := by cases c with | nil => simp at hpos | cons x r => simp
    rw [h1] at hf
    have : overF a n (-1) ≠ [] := tryAll_ne.2 ⟨c.getD 0 0, by
      rw [List.mem_range'_1]
      have := hc.lt (c.getD 0 0) (by rw [List.getD_eq_getElem?_getD, List.getElem?_eq_getElem hpos]; exact List.getElem_mem hpos)
      omega, hf⟩
    exact this h
  · intro h
    apply Classical.byContradiction
    intro hn
    exact h (none_of_cyc (fun e u he hu h => (ha e u he hu).1 h) (overF_cyc hn))
end Go.Proofs.Ytcjidnpkeliieaa
end

section
namespace Go.Proofs.Ytcjidnpkeliieaa
set_option linter.unusedSimpArgs false
set_option linter.unusedVariables false
open Go Go.RowKit
attribute [local irreducible] AL AD AW OpOk Le AC thenQ blockQ EndQ

abbrev IR (xs : List Int) : List (List D) := xs.map fun n => [DI n]
theorem IR_len {xs : List Int} : (IR xs).length = xs.length := by simp [IR]
theorem IR_get {xs : List Int} {k : Nat} {x : Int} (h : xs[k]? = some x) : (IR xs)[((k : Nat) : Int).toNat]? = some [DI x] := by simp [IR, h]
theorem IR_app {xs ys : List Int} : IR (xs ++ ys) = IR xs ++ IR ys := by simp [IR]
theorem IR_all {xs : List Int} : ∀ r ∈ IR xs, (r.map AV.d).all AV.one = true := fun r hr => by obtain ⟨p, _, rfl⟩ := List.mem_map.1 hr; rfl
theorem IR_row {xs : List Int} : ∀ r ∈ IR xs, r.length = 1 := fun r hr => by obtain ⟨p, _, rfl⟩ := List.mem_map.1 hr; rfl
theorem IR_plain {xs : List Int} : ∀ r ∈ IR xs, ∀ c ∈ r, ∃ v, c = D.v v := fun r hr c hc => by
  obtain ⟨p, _, rfl⟩ := List.mem_map.1 hr
  simp at hc; exact ⟨_, hc⟩
abbrev IL (xs : List Int) : AV := .d (.sl 1 (IR xs))
abbrev IO (xs : List Int) : AObj := dobj 1 (IR xs)
abbrev TR (t : List (List Int)) : List (List (List D)) := t.map IR
abbrev TD (t : List (List Int)) : D := .sl 1 (mRows 1 (TR t))
abbrev TL (t : List (List Int)) : AV := .d (TD t)
theorem TR_len {t : List (List Int)} : (TR t).length = t.length := by simp [TR]
theorem mTR_len {t : List (List Int)} : (mRows 1 (TR t)).length = t.length := by simp [TR, mRows]
theorem TR_get {t : List (List Int)} {k : Nat} {r : List Int} (h : t[k]? = some r) : (mRows 1 (TR t))[((k : Nat) : Int).toNat]? = some [.sl 1 (IR r)] := by simp [TR, mRows, h]
theorem TR_plain {t : List (List Int)} : plainR (TR t) := fun x hx r hr c hc => by
  obtain ⟨y, _, rfl⟩ := List.mem_map.1 hx
  exact IR_plain r hr c hc
theorem l01Has_ac (xs : List Int) (y : Int) (hn : xs.length ≤ 100000000) : AC Try.prog 218 [IL xs, I y] H0 (Bo (xs.any (fun x => decide (x = y)))) H0 := by
  refine AC.of_body 0 Try.func218 rfl (fun l h => absurd rfl h) (fun C hC => ?_)
  have hD : ∀ l, ¬ C.D0 l := fun l h => (hC l).1 h rfl
  simp only [startFr, Try.ntmps218, List.length_cons, List.length_nil, Nat.reduceAdd, Nat.reduceSub, List.replicate_succ, List.replicate_zero, List.cons_append, List.nil_append]
  repeat' (first | refine Qa ?_ | ((first | apply Ba | (apply Bb; (· rfl); (· rfl)) | (apply Bc; (· exact nxE)) | (apply Bd; (· rfl); (· rfl); (· exact nxE))); (· first | exact Ok.pe); (first | refine Na ?_ | refine Nb ?_)) | ((first | apply Ca | (apply Cb; (· exact nxE))); (· first | exact Ok.e0); (first | refine Nc ?_ | refine Nd ?_)) | refine Oa ?_ | refine Ob ?_ | ((first | refine Ga (fun h => ?_) (fun h => ?_) | refine AD.gsplit rfl rfl (fun h => ?_) (fun h => ?_)) <;> try (exfalso; omega; done)) | (first | refine AL.gsplitB rfl rfl (fun h => ?_) (fun h => ?_) | refine AD.gsplitB rfl rfl (fun h => ?_) (fun h => ?_)) | refine Fa ?_ | refine Qb ?_ | refine Qc ?_ | refine Qd ?_ | refine Fb ?_ | refine Qe ?_ | refine Wa ?_ | refine Wb ?_ | (refine AW.ite rfl (fun h => ?_) (fun h => ?_) <;> try (exfalso; omega; done)) | refine AW.cond _ rfl (fun h => ?_) (fun h => ?_) | refine Qf ?_ | refine Qg ?_ | refine Qh ?_ | refine Qi ?_ | refine Xa ?_ | refine Xb ?_ | refine Xc ?_ | refine Xd ?_ | refine Fc ?_)
  refine AW.loop (X := {k : Nat // k ≤ xs.length ∧ xs.any (fun x => decide (x = y)) = (xs.drop k).any (fun x => decide (x = y))}) (fun k => ⟨[IL xs, I y, Oo, Oo, Oo, I (k.1 : Nat), Oo, Oo, Oo, Oo, Oo, Oo, Oo, Oo, Oo, Oo, Oo, Oo], heapL [], 900⟩) (fun k => xs.length - k.1) ⟨0, Nat.zero_le _, by simp⟩ ?_ (fun k => ?_)
  ·
    (apply Le.headZ [] rfl)
    all_goals (try dsimp only [srcs])
    (case' hfr | hob => (repeat' (first | refine La ?_ ?_ | exact Lc | refine Lo ?_ | refine ⟨⟨_, rfl, ?_⟩, ?_⟩ | refine ObA.box ?_ | refine ObA.frE ?_ | refine ObA.dataE ?_ | refine ARs.agg ?_ | refine ARs.tup ?_ | refine AR.b ?_ | refine AR.iE ?_ | refine AR.e ?_ | refine AR.clo' ARs.nil ?_)))
    all_goals (first | (rfl) | exact Ld)
  obtain ⟨k, hk, hall⟩ := k
  simp only
  by_cases hlt : k < xs.length
  · obtain ⟨x, hx⟩ : ∃ x, xs[k]? = some x := ⟨xs[k], by simp⟩
    have hrow := IR_get hx
    have hdr : xs.drop k = x :: xs.drop (k + 1) := by
      obtain ⟨hk', rfl⟩ := List.getElem?_eq_some_iff.1 hx
      exact List.drop_eq_getElem_cons hk'
    repeat' (first | refine Qa ?_ | ((first | apply Ba | (apply Bb; (· rfl); (· rfl)) | (apply Bc; (· exact nxE)) | (apply Bd; (· rfl); (· rfl); (· exact nxE))); (· first | exact Ok.pe); (first | refine Na ?_ | refine Nb ?_)) | ((first | apply Ca | (apply Cb; (· exact nxE))); (· first | exact Ok.e0); (first | refine Nc ?_ | refine Nd ?_)) | refine Oa ?_ | refine Ob ?_ | ((first | refine Ga (fun h => ?_) (fun h => ?_) | refine AD.gsplit rfl rfl (fun h => ?_) (fun h => ?_)) <;> try (exfalso; omega; done)) | (first | refine AL.gsplitB rfl rfl (fun h => ?_) (fun h => ?_) | refine AD.gsplitB rfl rfl (fun h => ?_) (fun h => ?_)) | refine Fa ?_ | refine Qb ?_ | refine Qc ?_ | refine Qd ?_ | refine Fb ?_ | refine Qe ?_ | refine Wa ?_ | refine Wb ?_ | (refine AW.ite rfl (fun h => ?_) (fun h => ?_) <;> try (exfalso; omega; done)) | refine AW.cond _ rfl (fun h => ?_) (fun h => ?_) | refine Qf ?_ | refine Qg ?_ | refine Qh ?_ | refine Qi ?_ | refine Xa ?_ | refine Xb ?_ | refine Xc ?_ | refine Xd ?_ | refine Fc ?_)
    ·
      refine Ya ?_
      (apply Le.headZ (hs := []) [] rfl)
      all_goals (try dsimp only [srcs])
      (case' hfr => (repeat' (first | refine La ?_ ?_ | exact Lc | refine Lo ?_ | refine ⟨⟨_, rfl, ?_⟩, ?_⟩ | refine ObA.box ?_ | refine ObA.frE ?_ | refine ObA.dataE ?_ | refine ARs.agg ?_ | refine ARs.tup ?_ | refine AR.b ?_ | refine AR.iE ?_ | refine AR.e ?_ | refine AR.clo' ARs.nil ?_)))
      all_goals (first | exact Ld | exact trivial | ((rw [hall, hdr]; simp [h])))
    · refine ⟨⟨k + 1, by omega, by rw [hall, hdr]; simp [h]⟩, ?_, by simp only; omega⟩
      (apply Le.headZ [] rfl)
      all_goals (try dsimp only [srcs])
      (case' hfr | hob => (repeat' (first | refine La ?_ ?_ | exact Lc | refine Lo ?_ | refine ⟨⟨_, rfl, ?_⟩, ?_⟩ | refine ObA.box ?_ | refine ObA.frE ?_ | refine ObA.dataE ?_ | refine ARs.agg ?_ | refine ARs.tup ?_ | refine AR.b ?_ | refine AR.iE ?_ | refine AR.e ?_ | refine AR.clo' ARs.nil ?_)))
      all_goals (first | (rfl) | exact Ld)
  ·
    repeat' (first | refine Qa ?_ | ((first | apply Ba | (apply Bb; (· rfl); (· rfl)) | (apply Bc; (· exact nxE)) | (apply Bd; (· rfl); (· rfl); (· exact nxE))); (· first | exact Ok.pe); (first | refine Na ?_ | refine Nb ?_)) | ((first | apply Ca | (apply Cb; (· exact nxE))); (· first | exact Ok.e0); (first | refine Nc ?_ | refine Nd ?_)) | refine Oa ?_ | refine Ob ?_ | ((first | refine Ga (fun h => ?_) (fun h => ?_) | refine AD.gsplit rfl rfl (fun h => ?_) (fun h => ?_)) <;> try (exfalso; omega; done)) | (first | refine AL.gsplitB rfl rfl (fun h => ?_) (fun h => ?_) | refine AD.gsplitB rfl rfl (fun h => ?_) (fun h => ?_)) | refine Fa ?_ | refine Qb ?_ | refine Qc ?_ | refine Qd ?_ | refine Fb ?_ | refine Qe ?_ | refine Wa ?_ | refine Wb ?_ | (refine AW.ite rfl (fun h => ?_) (fun h => ?_) <;> try (exfalso; omega; done)) | refine AW.cond _ rfl (fun h => ?_) (fun h => ?_) | refine Qf ?_ | refine Qg ?_ | refine Qh ?_ | refine Qi ?_ | refine Xa ?_ | refine Xb ?_ | refine Xc ?_ | refine Xd ?_ | refine Fc ?_)
    refine Ya ?_
    (apply Le.headZ (hs := []) [] rfl)
    all_goals (try dsimp only [srcs])
    (case' hfr => (repeat' (first | refine La ?_ ?_ | exact Lc | refine Lo ?_ | refine ⟨⟨_, rfl, ?_⟩, ?_⟩ | refine ObA.box ?_ | refine ObA.frE ?_ | refine ObA.dataE ?_ | refine ARs.agg ?_ | refine ARs.tup ?_ | refine AR.b ?_ | refine AR.iE ?_ | refine AR.e ?_ | refine AR.clo' ARs.nil ?_)))
    all_goals (first | exact Ld | exact trivial | ((rw [hall, List.drop_of_length_le (by omega)]; rfl)))
theorem l01Own_ac (xs : List Int) (hn : xs.length ≤ 100000000) : AC Try.prog 180 [IL xs] H0 (own1 1 xs.length) (hp1 (IO xs)) := by
  refine AC.of_body 0 Try.func180 rfl (fun l h => absurd rfl h) (fun C hC => ?_)
  have hD : ∀ l, ¬ C.D0 l := fun l h => (hC l).1 h rfl
  simp only [startFr, Try.ntmps180, List.length_cons, List.length_nil, Nat.reduceAdd, Nat.reduceSub, List.replicate_succ, List.replicate_zero, List.cons_append, List.nil_append]
  repeat' (first | refine Qa ?_ | ((first | apply Ba | (apply Bb; (· rfl); (· rfl)) | (apply Bc; (· exact nxE)) | (apply Bd; (· rfl); (· rfl); (· exact nxE))); (· first | exact Ok.appendD (rows := []) rfl rfl (by decide) rfl rfl rfl rfl IR_len IR_row IR_all (by omega) (by omega) | exact Ok.pe); (first | refine Na ?_ | refine Nb ?_)) | ((first | apply Ca | (apply Cb; (· exact nxE))); (· first | exact Ok.appendD (rows := []) rfl rfl (by decide) rfl rfl rfl rfl IR_len IR_row IR_all (by omega) (by omega) | exact Ok.e0); (first | refine Nc ?_ | refine Nd ?_)) | refine Oa ?_ | refine Ob ?_ | ((first | refine Ga (fun h => ?_) (fun h => ?_) | refine AD.gsplit rfl rfl (fun h => ?_) (fun h => ?_)) <;> try (exfalso; omega; done)) | (first | refine AL.gsplitB rfl rfl (fun h => ?_) (fun h => ?_) | refine AD.gsplitB rfl rfl (fun h => ?_) (fun h => ?_)) | refine Fa ?_ | refine Qb ?_ | refine Qc ?_ | refine Qd ?_ | refine Fb ?_ | refine Qe ?_ | refine Wa ?_ | refine Wb ?_ | (refine AW.ite rfl (fun h => ?_) (fun h => ?_) <;> try (exfalso; omega; done)) | refine AW.cond _ rfl (fun h => ?_) (fun h => ?_) | refine Qf ?_ | refine Qg ?_ | refine Qh ?_ | refine Qi ?_ | refine Xa ?_ | refine Xb ?_ | refine Xc ?_ | refine Xd ?_ | refine Fc ?_)
  refine Ya ?_
  (apply Le.head [(⟨0, []⟩, _, _)])
  (case' hfr | hob => (repeat' (first | refine La ?_ ?_ | exact Lc | refine Lo ?_ | refine ⟨⟨_, rfl, ?_⟩, ?_⟩ | refine ObA.box ?_ | refine ObA.frE ?_ | refine ObA.dataE ?_ | refine ARs.agg ?_ | refine ARs.tup ?_ | refine AR.b ?_ | refine AR.iE ?_ | refine AR.e ?_ | refine AR.clo' ARs.nil ?_)))
  all_goals (first | exact Ld | (rfl))
end Go.Proofs.Ytcjidnpkeliieaa
end

section
namespace Go.Proofs.Ytcjidnpkeliieaa
set_option linter.unusedSimpArgs false
set_option linter.unusedVariables false
open Go Go.RowKit
attribute [local irreducible] AL AD AW OpOk Le AC thenQ blockQ EndQ

def entN (t : List (List Int)) (i j : Nat) : Int := (((t[i]?).getD [])[j]?).getD 0
structure Sq (t : List (List Int)) (n : Nat) : Prop where
  l : t.length = n
  r : ∀ r ∈ t, r.length = n
theorem Sq.get {t : List (List Int)} {n i j : Nat} (h : Sq t n) (hi : i < n) (hj : j < n) : ∃ r, t[i]? = some r ∧ r[j]? = some (entN t i j) ∧ r.length = n := by
  have h1 : i < t.length := by rw [h.l]; exact hi
  have h2 := h.r t[i] (List.getElem_mem h1)
  refine ⟨t[i], List.getElem?_eq_getElem h1, ?_, h2⟩
  unfold entN
  rw [List.getElem?_eq_getElem h1, Option.getD_some, List.getElem?_eq_getElem (by rw [h2]; exact hj), Option.getD_some]
abbrev cN (p : List Nat) : List Int := p.map fun v : Nat => (v : Int)
theorem any_cN {p : List Nat} {v : Nat} : (cN p).any (fun x => decide (x = (v : Int))) = decide (v ∈ p) := by
  rw [Bool.eq_iff_iff]
  simp only [List.any_map, List.any_eq_true, Function.comp_def, decide_eq_true_eq]
  constructor
  · rintro ⟨x, hx, e⟩; have : x = v := by omega
    subst this; exact hx
  · intro h; exact ⟨v, h, rfl⟩
theorem range'_cons {v n : Nat} (h : v < n) : List.range' v (n - v) = v :: List.range' (v + 1) (n - (v + 1)) := by
  rw [show n - v = (n - (v + 1)) + 1 by omega, List.range'_succ]
def bigB (t : List (List Int)) : Prop := ∀ i j, entN t i j = -1000000000000000 ∨ (-1000000000000 ≤ entN t i j ∧ entN t i j ≤ 1000000000000)
set_option maxHeartbeats 2000000 in
theorem l03Grow_ac (t : List (List Int)) (n : Nat) (ht : Sq t n) (hn : n ≤ 1000) (hb : bigB t) (over : Int) : ∀ (k : Nat) (path : List Nat) (w : Int), path ≠ [] → (∀ v ∈ path, v < n) → path.Nodup → path.length + k = n + 1 → (-1000000000000 * (path.length : Int) ≤ w ∧ w ≤ 1000000000000 * (path.length : Int)) →
    AC Try.prog 207 [TL t, IL (cN path), I w, I over] H0 (IL (cN (growF (entN t) n over k path w))) H0
  | 0, path, w, h0, h1, h2, h3, _ => by
    have := nodup_le n path h2 h1
    omega
  | k + 1, path, w, h0, h1, h2, h3, hw => by
    have ih := l03Grow_ac t n ht hn hb over k
    have hpl : 0 < path.length := List.length_pos_iff.2 h0
    have hpn := nodup_le n path h2 h1
    have hfn : hdN path < n := h1 _ (by rw [hdN_getD, List.getD_eq_getElem?_getD, List.getElem?_eq_getElem hpl]; exact List.getElem_mem hpl)
    have hln : lsN path < n := h1 _ (by rw [lsN_getD, List.getD_eq_getElem?_getD, List.getElem?_eq_getElem (by omega)]; exact List.getElem_mem _)
    have h00 : (IR (cN path))[(0 : Int).toNat]? = some [DI (hdN path)] := by
      rw [hdN_getD, List.getD_eq_getElem?_getD]; simp [List.getElem?_eq_getElem hpl]
    have hls : (IR (cN path))[((path.length : Int) - 1).toNat]? = some [DI (lsN path)] := by
      rw [lsN_getD, List.getD_eq_getElem?_getD, show ((path.length : Int) - 1).toNat = path.length - 1 by omega]; simp [List.getElem?_eq_getElem (show path.length - 1 < path.length by omega)]
    obtain ⟨rf, hf1, hf2, hf3⟩ := ht.get hfn hln
    have hf := TR_get hf1
    have hfl := IR_get hf2
    have hbf := hb (hdN path) (lsN path)
    rw [growF, show BOT = -1000000000000000 from rfl]
    refine AC.of_body 0 Try.func207 rfl (fun l h => absurd rfl h) (fun C hC => ?_)
    have hD : ∀ l, ¬ C.D0 l := fun l h => (hC l).1 h rfl
    simp only [startFr, Try.ntmps207, List.length_cons, List.length_nil, Nat.reduceAdd, Nat.reduceSub, List.replicate_succ, List.replicate_zero, List.cons_append, List.nil_append]
    repeat' (first | refine Qa ?_ | ((first | apply Ba | (apply Bb; (· rfl); (· rfl)) | (apply Bc; (· exact nxE)) | (apply Bd; (· rfl); (· rfl); (· exact nxE))); (· first | exact Ok.pe); (first | refine Na ?_ | refine Nb ?_)) | ((first | apply Ca | (apply Cb; (· exact nxE))); (· first | exact Ok.e0); (first | refine Nc ?_ | refine Nd ?_)) | refine Oa ?_ | refine Ob ?_ | ((first | refine Ga (fun h => ?_) (fun h => ?_) | refine AD.gsplit rfl rfl (fun h => ?_) (fun h => ?_)) <;> try (exfalso; omega; done)) | (first | refine AL.gsplitB rfl rfl (fun h => ?_) (fun h => ?_) | refine AD.gsplitB rfl rfl (fun h => ?_) (fun h => ?_)) | refine Fa ?_ | refine Qb ?_ | refine Qc ?_ | refine Qd ?_ | refine Fb ?_ | refine Qe ?_ | refine Wa ?_ | refine Wb ?_ | (refine AW.ite rfl (fun h => ?_) (fun h => ?_) <;> try (exfalso; omega; done)) | refine AW.cond _ rfl (fun h => ?_) (fun h => ?_) | refine Qf ?_ | refine Qg ?_ | refine Qh ?_ | refine Qi ?_ | refine Xa ?_ | refine Xb ?_ | refine Xc ?_ | refine Xd ?_ | refine Fc ?_)
    ·
      refine Ya ?_
      (apply Le.headZ (hs := []) [] rfl)
      all_goals (try dsimp only [srcs])
      (case' hfr => (repeat' (first | refine La ?_ ?_ | exact Lc | refine Lo ?_ | refine ⟨⟨_, rfl, ?_⟩, ?_⟩ | refine ObA.box ?_ | refine ObA.frE ?_ | refine ObA.dataE ?_ | refine ARs.agg ?_ | refine ARs.tup ?_ | refine AR.b ?_ | refine AR.iE ?_ | refine AR.e ?_ | refine AR.clo' ARs.nil ?_)))
      all_goals (first | exact Ld | exact trivial | ((rw [if_pos ⟨by assumption, by assumption⟩]; done)))
    all_goals
      have hno : ¬ (entN t (hdN path) (lsN path) ≠ -1000000000000000 ∧ over < w + entN t (hdN path) (lsN path)) := by omega
      simp only [if_neg hno]
      generalize hf0 : (fun v => if entN t v (lsN path) = -1000000000000000 ∨ v ∈ path then [] else growF (entN t) n over k (path ++ [v]) (w + entN t v (lsN path))) = f
      refine AW.loop (X := {v : Nat // hdN path + 1 ≤ v ∧ v ≤ n ∧ tryAll f (List.range' (hdN path + 1) (n - (hdN path + 1))) = tryAll f (List.range' v (n - v))}) (fun v => ⟨[TL t, IL (cN path), I w, I over, Oo, Oo, Oo, Oo, Oo, Oo, I (lsN path : Nat), I (v.1 : Nat), Oo, Oo, Oo, Oo, Oo, Oo, Oo, Oo, Oo, Oo, Oo, Oo, Oo, Oo, Oo, Oo, Oo, Oo, Oo, Oo, Oo, Oo, Oo, Oo, Oo, Oo, Oo, Oo, Oo, Oo, Oo, Oo, Oo, Oo, Oo, Oo, Oo, Oo, Oo, Oo, Oo, Oo, Oo, Oo, Oo, Oo, Oo, Oo, Oo, Oo, Oo, Oo, Oo, Oo, Oo, Oo, Oo, Oo, Oo, Oo, Oo, Oo, Oo, Oo, Oo, Oo, Oo, Oo, Oo, Oo, Oo, Oo, Oo, Oo], heapL [], 900⟩) (fun v => n - v.1) ⟨hdN path + 1, Nat.le_refl _, by omega, rfl⟩ ?_ (fun v => ?_)
      ·
        (apply Le.headZ [] rfl)
        all_goals (try dsimp only [srcs])
        (case' hfr | hob => (repeat' (first | refine La ?_ ?_ | exact Lc | refine Lo ?_ | refine ⟨⟨_, rfl, ?_⟩, ?_⟩ | refine ObA.box ?_ | refine ObA.frE ?_ | refine ObA.dataE ?_ | refine ARs.agg ?_ | refine ARs.tup ?_ | refine AR.b ?_ | refine AR.iE ?_ | refine AR.e ?_ | refine AR.clo' ARs.nil ?_)))
        all_goals (first | (rfl) | exact Ld)
      obtain ⟨v, hv1, hv2, hv3⟩ := v
      simp only
      have htl := ht.l
      by_cases hlt : v < n
      · obtain ⟨rv, hv4, hv5, hv6⟩ := ht.get hlt hln
        have hvr := TR_get hv4
        have hvl := IR_get hv5
        have hbv := hb v (lsN path)
        have hst := range'_cons hlt
        rw [hst, tryAll] at hv3
        have hfv : f v = if entN t v (lsN path) = -1000000000000000 ∨ v ∈ path then [] else growF (entN t) n over k (path ++ [v]) (w + entN t v (lsN path)) := by rw [← hf0]
        have hH := l01Has_ac (cN path) (v : Int) (by simp; omega)
        rw [any_cN] at hH
        by_cases hskip : entN t v (lsN path) = -1000000000000000 ∨ v ∈ path
        · rw [if_pos hskip] at hfv
          have hnx : tryAll f (List.range' (hdN path + 1) (n - (hdN path + 1))) = tryAll f (List.range' (v + 1) (n - (v + 1))) := by rw [hv3, hfv]; simp
          repeat' (first | refine Qa ?_ | ((first | apply Ba | (apply Bb; (· rfl); (· rfl)) | (apply Bc; (· exact nxE)) | (apply Bd; (· rfl); (· rfl); (· exact nxE))); (· first | exact Kz rfl rfl (hH) (Ad (Ad An)) | exact Ok.pe); (first | refine Na ?_ | refine Nb ?_)) | ((first | apply Ca | (apply Cb; (· exact nxE))); (· first | exact Ok.e0); (first | refine Nc ?_ | refine Nd ?_)) | refine Oa ?_ | refine Ob ?_ | ((first | refine Ga (fun h => ?_) (fun h => ?_) | refine AD.gsplit rfl rfl (fun h => ?_) (fun h => ?_)) <;> try (exfalso; omega; done)) | (first | refine AL.gsplitB rfl rfl (fun h => ?_) (fun h => ?_) | refine AD.gsplitB rfl rfl (fun h => ?_) (fun h => ?_)) | refine Fa ?_ | refine Qb ?_ | refine Qc ?_ | refine Qd ?_ | refine Fb ?_ | refine Qe ?_ | refine Wa ?_ | refine Wb ?_ | (refine AW.ite rfl (fun h => ?_) (fun h => ?_) <;> try (exfalso; omega; done)) | refine AW.cond _ rfl (fun h => ?_) (fun h => ?_) | refine Qf ?_ | refine Qg ?_ | refine Qh ?_ | refine Qi ?_ | refine Xa ?_ | refine Xb ?_ | refine Xc ?_ | refine Xd ?_ | refine Fc ?_)
          all_goals try (exfalso; rcases hskip with h5 | h5 <;> contradiction)
          all_goals
            refine ⟨⟨v + 1, by omega, by omega, hnx⟩, ?_, by simp only; omega⟩
            (apply Le.headZ [] rfl)
            all_goals (try dsimp only [srcs])
            (case' hfr | hob => (repeat' (first | refine La ?_ ?_ | exact Lc | refine Lo ?_ | refine ⟨⟨_, rfl, ?_⟩, ?_⟩ | refine ObA.box ?_ | refine ObA.frE ?_ | refine ObA.dataE ?_ | refine ARs.agg ?_ | refine ARs.tup ?_ | refine AR.b ?_ | refine AR.iE ?_ | refine AR.e ?_ | refine AR.clo' ARs.nil ?_)))
            all_goals (first | (rfl) | exact Ld)
        · have hG := ih (path ++ [v]) (w + entN t v (lsN path)) (by simp) (fun u hu => by
            rcases List.mem_append.1 hu with hu | hu
            · exact h1 u hu
            · simp at hu; omega) (List.nodup_append.2 ⟨h2, by simp, fun a ha b hb e => by simp at hb; subst hb; subst e; exact hskip (.inr ha)⟩) (by simp; omega) (by simp; omega)
          have happ : IR (cN (path ++ [v])) = IR (cN path) ++ [[DI v]] := by simp
          unfold IL at hG
          rw [happ] at hG
          have hO := l01Own_ac (cN path) (by simp; omega)
          rw [show (cN path).length = path.length by simp] at hO
          repeat' (first | refine Qa ?_ | ((first | apply Ba | (apply Bb; (· rfl); (· rfl)) | (apply Bc; (· exact nxE)) | (apply Bd; (· rfl); (· rfl); (· exact nxE))); (· first | exact Kz rfl rfl (hH) (Ad (Ad An)) | exact Zf rfl rfl (hG) (Sd (Sw (Sd (Sd Sn)))) | exact Eo rfl rfl (hO) (Sd Sn) | exact Ok.append1 (row := [DI v]) rfl rfl (by decide) rfl rfl (by simp; done) rfl rfl rfl (by rfl) (by omega) (by omega) | exact Ok.pe); (first | refine Na ?_ | refine Nb ?_)) | ((first | apply Ca | (apply Cb; (· exact nxE))); (· first | exact Eo rfl rfl (hO) (Sd Sn) | exact Ok.append1 (row := [DI v]) rfl rfl (by decide) rfl rfl (by simp; done) rfl rfl rfl (by rfl) (by omega) (by omega) | exact Ok.e0); (first | refine Nc ?_ | refine Nd ?_)) | refine Oa ?_ | refine Ob ?_ | ((first | refine Ga (fun h => ?_) (fun h => ?_) | refine AD.gsplit rfl rfl (fun h => ?_) (fun h => ?_)) <;> try (exfalso; omega; done)) | (first | refine AL.gsplitB rfl rfl (fun h => ?_) (fun h => ?_) | refine AD.gsplitB rfl rfl (fun h => ?_) (fun h => ?_)) | refine Fa ?_ | refine Qb ?_ | refine Qc ?_ | refine Qd ?_ | refine Fb ?_ | refine Qe ?_ | refine Wa ?_ | refine Wb ?_ | (refine AW.ite rfl (fun h => ?_) (fun h => ?_) <;> try (exfalso; omega; done)) | refine AW.cond _ rfl (fun h => ?_) (fun h => ?_) | refine Qf ?_ | refine Qg ?_ | refine Qh ?_ | refine Qi ?_ | refine Xa ?_ | refine Xb ?_ | refine Xc ?_ | refine Xd ?_ | refine Fc ?_)
          all_goals try (exfalso; first | exact hskip (.inl (by assumption)) | exact hskip (.inr (by assumption)))
          ·
            refine Ya ?_
            (apply Le.headZ (hs := []) [] rfl)
            all_goals (try dsimp only [srcs])
            (case' hfr => (repeat' (first | refine La ?_ ?_ | exact Lc | refine Lo ?_ | refine ⟨⟨_, rfl, ?_⟩, ?_⟩ | refine ObA.box ?_ | refine ObA.frE ?_ | refine ObA.dataE ?_ | refine ARs.agg ?_ | refine ARs.tup ?_ | refine AR.b ?_ | refine AR.iE ?_ | refine AR.e ?_ | refine AR.clo' ARs.nil ?_)))
            all_goals (first | exact Ld | exact trivial | ((rw [hv3, hfv, if_neg hskip, if_pos (by intro e; rw [e] at h; simp at h)]; done)))
          · have hnx : tryAll f (List.range' (hdN path + 1) (n - (hdN path + 1))) = tryAll f (List.range' (v + 1) (n - (v + 1))) := by
              rw [hv3, hfv, if_neg hskip, if_neg (by intro e; exact h (by have := List.length_pos_iff.2 e; omega))]
            refine ⟨⟨v + 1, by omega, by omega, hnx⟩, ?_, by simp only; omega⟩
            (apply Le.headZ [] rfl)
            all_goals (try dsimp only [srcs])
            (case' hfr | hob => (repeat' (first | refine La ?_ ?_ | exact Lc | refine Lo ?_ | refine ⟨⟨_, rfl, ?_⟩, ?_⟩ | refine ObA.box ?_ | refine ObA.frE ?_ | refine ObA.dataE ?_ | refine ARs.agg ?_ | refine ARs.tup ?_ | refine AR.b ?_ | refine AR.iE ?_ | refine AR.e ?_ | refine AR.clo' ARs.nil ?_)))
            all_goals (first | (rfl) | exact Ld)
      ·
        rw [show n - v = 0 by omega, List.range'_zero] at hv3
        rw [hv3]
        repeat' (first | refine Qa ?_ | ((first | apply Ba | (apply Bb; (· rfl); (· rfl)) | (apply Bc; (· exact nxE)) | (apply Bd; (· rfl); (· rfl); (· exact nxE))); (· first | exact Ok.pe); (first | refine Na ?_ | refine Nb ?_)) | ((first | apply Ca | (apply Cb; (· exact nxE))); (· first | exact Ok.e0); (first | refine Nc ?_ | refine Nd ?_)) | refine Oa ?_ | refine Ob ?_ | ((first | refine Ga (fun h => ?_) (fun h => ?_) | refine AD.gsplit rfl rfl (fun h => ?_) (fun h => ?_)) <;> try (exfalso; omega; done)) | (first | refine AL.gsplitB rfl rfl (fun h => ?_) (fun h => ?_) | refine AD.gsplitB rfl rfl (fun h => ?_) (fun h => ?_)) | refine Fa ?_ | refine Qb ?_ | refine Qc ?_ | refine Qd ?_ | refine Fb ?_ | refine Qe ?_ | refine Wa ?_ | refine Wb ?_ | (refine AW.ite rfl (fun h => ?_) (fun h => ?_) <;> try (exfalso; omega; done)) | refine AW.cond _ rfl (fun h => ?_) (fun h => ?_) | refine Qf ?_ | refine Qg ?_ | refine Qh ?_ | refine Qi ?_ | refine Xa ?_ | refine Xb ?_ | refine Xc ?_ | refine Xd ?_ | refine Fc ?_)
        refine Ya ?_
        (apply Le.headZ (hs := []) [] rfl)
        all_goals (try dsimp only [srcs])
        (case' hfr => (repeat' (first | refine La ?_ ?_ | exact Lc | refine Lo ?_ | refine ⟨⟨_, rfl, ?_⟩, ?_⟩ | refine ObA.box ?_ | refine ObA.frE ?_ | refine ObA.dataE ?_ | refine ARs.agg ?_ | refine ARs.tup ?_ | refine AR.b ?_ | refine AR.iE ?_ | refine AR.e ?_ | refine AR.clo' ARs.nil ?_)))
        all_goals (first | exact Ld | exact trivial | (rfl))
end Go.Proofs.Ytcjidnpkeliieaa
end

section
namespace Go.Proofs.Ytcjidnpkeliieaa
set_option linter.unusedSimpArgs false
set_option linter.unusedVariables false
open Go Go.RowKit
attribute [local irreducible] AL AD AW OpOk Le AC thenQ blockQ EndQ

abbrev mi1 (l : Loc) (R : List (List (List D))) : MI := { l := l, k := 1, R := R, src := l, base := l }
def botT (m n : Nat) : List (List Int) := List.replicate m (List.replicate n BOT)
theorem botT_succ {i n : Nat} : TR (botT (i + 1) n) = TR (botT i n) ++ [IR (List.replicate n BOT)] := by
  simp [botT, List.replicate_succ']
theorem repl_succ {i : Nat} {b : Int} : IR (List.replicate (i + 1) b) = IR (List.replicate i b) ++ [[DI b]] := by
  simp [List.replicate_succ']
theorem IR_len_repl {i : Nat} {b : Int} : (IR (List.replicate i b)).length = i := by simp
theorem l02Bottom_ac (m n : Nat) (hm : m ≤ 1000000) (hn : n ≤ 1000000) : AC Try.prog 169 [I m, I n] H0 (own1 1 m) (hpM 1 (TR (botT m n))) := by
  refine AC.of_body 0 Try.func169 rfl (fun l h => absurd rfl h) (fun C hC => ?_)
  have hD : ∀ l, ¬ C.D0 l := fun l h => (hC l).1 h rfl
  simp only [startFr, Try.ntmps169, List.length_cons, List.length_nil, Nat.reduceAdd, Nat.reduceSub, List.replicate_succ, List.replicate_zero, List.cons_append, List.nil_append]
  repeat' (first | refine Qa ?_ | ((first | apply Ba | (apply Bb; (· rfl); (· rfl)) | (apply Bc; (· exact nxE)) | (apply Bd; (· rfl); (· rfl); (· exact nxE))); (· first | exact Ok.pe); (first | refine Na ?_ | refine Nb ?_)) | ((first | apply Ca | (apply Cb; (· exact nxE))); (· first | exact Ok.e0); (first | refine Nc ?_ | refine Nd ?_)) | refine Oa ?_ | refine Ob ?_ | ((first | refine Ga (fun h => ?_) (fun h => ?_) | refine AD.gsplit rfl rfl (fun h => ?_) (fun h => ?_)) <;> try (exfalso; omega; done)) | (first | refine AL.gsplitB rfl rfl (fun h => ?_) (fun h => ?_) | refine AD.gsplitB rfl rfl (fun h => ?_) (fun h => ?_)) | refine Fa ?_ | refine Qb ?_ | refine Qc ?_ | refine Qd ?_ | refine Fb ?_ | refine Qe ?_ | refine Wa ?_ | refine Wb ?_ | (refine AW.ite rfl (fun h => ?_) (fun h => ?_) <;> try (exfalso; omega; done)) | refine AW.cond _ rfl (fun h => ?_) (fun h => ?_) | refine Qf ?_ | refine Qg ?_ | refine Qh ?_ | refine Qi ?_ | refine Xa ?_ | refine Xb ?_ | refine Xc ?_ | refine Xd ?_ | refine Fc ?_)
  refine AW.loop (X := {k : Nat // k ≤ m}) (fun k => ⟨[I m, I n, Oo, Oo, Oo, .own 1 ⟨1, []⟩ 0 (k.1 : Nat), I (k.1 : Nat), Oo, Oo, Oo, Oo, Oo, Oo, Oo, Oo, Oo, Oo, Oo, Oo, Oo, Oo, Oo, Oo, Oo, Oo, Oo, Oo, Oo, Oo], heapX [] [mi1 ⟨1, []⟩ (TR (botT k.1 n))], 900⟩) (fun k => m - k.1) ⟨0, Nat.zero_le _⟩ ?_ (fun k => ?_)
  ·
    (apply Le.headG [] [{ l := ⟨1, []⟩, k := 1, R := TR (botT 0 n), src := ⟨1, []⟩, base := ⟨1, []⟩ }] (fun _ => False))
    (case' hlen => rfl)
    (case' hms => rfl)
    all_goals (try dsimp only [srcs])
    (case' hfr | hob => (repeat' (first | refine La ?_ ?_ | exact Lc | refine Lo ?_ | refine ⟨⟨_, rfl, ?_⟩, ?_⟩ | refine ObA.box ?_ | refine ObA.frE ?_ | refine ObA.dataE ?_ | refine ARs.agg ?_ | refine ARs.tup ?_ | refine AR.b ?_ | refine AR.iE ?_ | refine AR.e ?_ | refine AR.clo' ARs.nil ?_)))
    (case' hok => first | exact ⟨MI.ok_same rfl (fun i x hx => by simp [botT] at hx), trivial⟩ | exact trivial)
    (case' hN => rfl)
    (case' hS => rfl)
    all_goals (first | exact Ld | (rfl))
  obtain ⟨i, hi⟩ := k
  simp only
  by_cases hlt : i < m
  ·
    repeat' (first | refine Qa ?_ | ((first | apply Ba | (apply Bb; (· rfl); (· rfl)) | (apply Bc; (· exact nxE)) | (apply Bd; (· rfl); (· rfl); (· exact nxE))); (· first | exact Ok.pe); (first | refine Na ?_ | refine Nb ?_)) | ((first | apply Ca | (apply Cb; (· exact nxE))); (· first | exact Ok.e0); (first | refine Nc ?_ | refine Nd ?_)) | refine Oa ?_ | refine Ob ?_ | ((first | refine Ga (fun h => ?_) (fun h => ?_) | refine AD.gsplit rfl rfl (fun h => ?_) (fun h => ?_)) <;> try (exfalso; omega; done)) | (first | refine AL.gsplitB rfl rfl (fun h => ?_) (fun h => ?_) | refine AD.gsplitB rfl rfl (fun h => ?_) (fun h => ?_)) | refine Fa ?_ | refine Qb ?_ | refine Qc ?_ | refine Qd ?_ | refine Fb ?_ | refine Qe ?_ | refine Wa ?_ | refine Wb ?_ | (refine AW.ite rfl (fun h => ?_) (fun h => ?_) <;> try (exfalso; omega; done)) | refine AW.cond _ rfl (fun h => ?_) (fun h => ?_) | refine Qf ?_ | refine Qg ?_ | refine Qh ?_ | refine Qi ?_ | refine Xa ?_ | refine Xb ?_ | refine Xc ?_ | refine Xd ?_ | refine Fc ?_)
    refine AW.loop (X := {k : Nat // k ≤ n}) (fun k => ⟨[I m, I n, Oo, Oo, Oo, .own 1 ⟨1, []⟩ 0 i, I i, .own 1 ⟨2, []⟩ 0 (k.1 : Nat), I (k.1 : Nat), Oo, Oo, Oo, Oo, Oo, Oo, Oo, Oo, Oo, Oo, Oo, Oo, Oo, Oo, Oo, Oo, Oo, Oo, Oo, Oo], heapX [(⟨2, []⟩, ⟨2, []⟩, IO (List.replicate k.1 BOT))] [mi1 ⟨1, []⟩ (TR (botT i n))], 900⟩) (fun k => n - k.1) ⟨0, Nat.zero_le _⟩ ?_ (fun k => ?_)
    ·
      (apply Le.headG [_] [mi1 ⟨1, []⟩ (TR (botT i n))] (fun _ => False))
      (case' hlen => rfl)
      (case' hms => rfl)
      all_goals (try dsimp only [srcs])
      (case' hfr | hob => (repeat' (first | refine La ?_ ?_ | exact Lc | refine Lo ?_ | refine ⟨⟨_, rfl, ?_⟩, ?_⟩ | refine ObA.box ?_ | refine ObA.frE ?_ | refine ObA.dataE ?_ | refine ARs.agg ?_ | refine ARs.tup ?_ | refine AR.b ?_ | refine AR.iE ?_ | refine AR.e ?_ | refine AR.clo' ARs.nil ?_)))
      (case' hok => first | exact ⟨MI.ok_same rfl (Cg), trivial⟩ | exact trivial)
      (case' hN => rfl)
      (case' hS => rfl)
      all_goals (first | exact Ld | (rfl))
    obtain ⟨j, hj⟩ := k
    simp only
    by_cases hlt2 : j < n
    ·
      repeat' (first | refine Qa ?_ | ((first | apply Ba | (apply Bb; (· rfl); (· rfl)) | (apply Bc; (· exact nxE)) | (apply Bd; (· rfl); (· rfl); (· exact nxE))); (· first | exact Ok.append1 (row := [DI BOT]) rfl rfl (by decide) rfl rfl IR_len_repl rfl rfl rfl (by rfl) (by omega) (by omega) | exact Ok.pe); (first | refine Na ?_ | refine Nb ?_)) | ((first | apply Ca | (apply Cb; (· exact nxE))); (· first | exact Ok.append1 (row := [DI BOT]) rfl rfl (by decide) rfl rfl IR_len_repl rfl rfl rfl (by rfl) (by omega) (by omega) | exact Ok.e0); (first | refine Nc ?_ | refine Nd ?_)) | refine Oa ?_ | refine Ob ?_ | ((first | refine Ga (fun h => ?_) (fun h => ?_) | refine AD.gsplit rfl rfl (fun h => ?_) (fun h => ?_)) <;> try (exfalso; omega; done)) | (first | refine AL.gsplitB rfl rfl (fun h => ?_) (fun h => ?_) | refine AD.gsplitB rfl rfl (fun h => ?_) (fun h => ?_)) | refine Fa ?_ | refine Qb ?_ | refine Qc ?_ | refine Qd ?_ | refine Fb ?_ | refine Qe ?_ | refine Wa ?_ | refine Wb ?_ | (refine AW.ite rfl (fun h => ?_) (fun h => ?_) <;> try (exfalso; omega; done)) | refine AW.cond _ rfl (fun h => ?_) (fun h => ?_) | refine Qf ?_ | refine Qg ?_ | refine Qh ?_ | refine Qi ?_ | refine Xa ?_ | refine Xb ?_ | refine Xc ?_ | refine Xd ?_ | refine Fc ?_)
      refine ⟨⟨j + 1, by omega⟩, ?_, by simp only; omega⟩
      (apply Le.headG [_] [mi1 ⟨1, []⟩ (TR (botT i n))] (fun _ => False))
      (case' hlen => rfl)
      (case' hms => rfl)
      all_goals (try dsimp only [srcs])
      (case' hfr | hob => (repeat' (first | refine La ?_ ?_ | exact Lc | refine Lo ?_ | refine ⟨⟨_, rfl, ?_⟩, ?_⟩ | refine ObA.box ?_ | refine ObA.frE ?_ | refine ObA.dataE ?_ | refine ARs.agg ?_ | refine ARs.tup ?_ | refine AR.b ?_ | refine AR.iE ?_ | refine AR.e ?_ | refine AR.clo' ARs.nil ?_)))
      (case' hok => first | exact ⟨MI.ok_same rfl (Cg), trivial⟩ | exact trivial)
      (case' hN => rfl)
      (case' hS => rfl)
      all_goals (first | exact Ld | ((rw [repl_succ])))
    ·
      have hjn : j = n := by omega
      subst hjn
      repeat' (first | refine Qa ?_ | ((first | apply Ba | (apply Bb; (· rfl); (· rfl)) | (apply Bc; (· exact nxE)) | (apply Bd; (· rfl); (· rfl); (· exact nxE))); (· first | exact Ok.appendT rfl rfl (by decide) rfl rfl rfl (by simp [outer_len, botT]; done) rfl rfl (by rfl) (by omega) (by omega) rfl | exact Ok.pe); (first | refine Na ?_ | refine Nb ?_)) | ((first | apply Ca | (apply Cb; (· exact nxE))); (· first | exact Ok.appendT rfl rfl (by decide) rfl rfl rfl (by simp [outer_len, botT]; done) rfl rfl (by rfl) (by omega) (by omega) rfl | exact Ok.e0); (first | refine Nc ?_ | refine Nd ?_)) | refine Oa ?_ | refine Ob ?_ | ((first | refine Ga (fun h => ?_) (fun h => ?_) | refine AD.gsplit rfl rfl (fun h => ?_) (fun h => ?_)) <;> try (exfalso; omega; done)) | (first | refine AL.gsplitB rfl rfl (fun h => ?_) (fun h => ?_) | refine AD.gsplitB rfl rfl (fun h => ?_) (fun h => ?_)) | refine Fa ?_ | refine Qb ?_ | refine Qc ?_ | refine Qd ?_ | refine Fb ?_ | refine Qe ?_ | refine Wa ?_ | refine Wb ?_ | (refine AW.ite rfl (fun h => ?_) (fun h => ?_) <;> try (exfalso; omega; done)) | refine AW.cond _ rfl (fun h => ?_) (fun h => ?_) | refine Qf ?_ | refine Qg ?_ | refine Qh ?_ | refine Qi ?_ | refine Xa ?_ | refine Xb ?_ | refine Xc ?_ | refine Xd ?_ | refine Fc ?_)
      refine ⟨⟨i + 1, by omega⟩, ?_, by simp only; omega⟩
      (apply Le.headG [] [{ l := ⟨1, []⟩, k := 1, R := TR (botT (i + 1) j), src := ⟨906, []⟩, base := ⟨1, []⟩, cut := i, ext := some ⟨2, []⟩ }] (fun _ => False))
      (case' hlen => rfl)
      (case' hms => rfl)
      all_goals (try dsimp only [srcs])
      (case' hfr | hob => (repeat' (first | refine La ?_ ?_ | exact Lc | refine Lo ?_ | refine ⟨⟨_, rfl, ?_⟩, ?_⟩ | refine ObA.box ?_ | refine ObA.frE ?_ | refine ObA.dataE ?_ | refine ARs.agg ?_ | refine ARs.tup ?_ | refine AR.b ?_ | refine AR.iE ?_ | refine AR.e ?_ | refine AR.clo' ARs.nil ?_)))
      (case' hok => first | exact ⟨MI.ok_app botT_succ (by simp [botT]) IR_len_repl rfl (Cg) rfl, trivial⟩ | exact trivial)
      (case' hN => rfl)
      (case' hS => rfl)
      all_goals (first | exact Ld | ((simp [AllP, botT]; done)))
  ·
    repeat' (first | refine Qa ?_ | ((first | apply Ba | (apply Bb; (· rfl); (· rfl)) | (apply Bc; (· exact nxE)) | (apply Bd; (· rfl); (· rfl); (· exact nxE))); (· first | exact Ok.pe); (first | refine Na ?_ | refine Nb ?_)) | ((first | apply Ca | (apply Cb; (· exact nxE))); (· first | exact Ok.e0); (first | refine Nc ?_ | refine Nd ?_)) | refine Oa ?_ | refine Ob ?_ | ((first | refine Ga (fun h => ?_) (fun h => ?_) | refine AD.gsplit rfl rfl (fun h => ?_) (fun h => ?_)) <;> try (exfalso; omega; done)) | (first | refine AL.gsplitB rfl rfl (fun h => ?_) (fun h => ?_) | refine AD.gsplitB rfl rfl (fun h => ?_) (fun h => ?_)) | refine Fa ?_ | refine Qb ?_ | refine Qc ?_ | refine Qd ?_ | refine Fb ?_ | refine Qe ?_ | refine Wa ?_ | refine Wb ?_ | (refine AW.ite rfl (fun h => ?_) (fun h => ?_) <;> try (exfalso; omega; done)) | refine AW.cond _ rfl (fun h => ?_) (fun h => ?_) | refine Qf ?_ | refine Qg ?_ | refine Qh ?_ | refine Qi ?_ | refine Xa ?_ | refine Xb ?_ | refine Xc ?_ | refine Xd ?_ | refine Fc ?_)
    have him : i = m := by omega
    subst him
    refine Ya ?_
    (apply Le.headG [] [{ l := ⟨0, []⟩, k := 1, R := TR (botT i n), src := ⟨1, []⟩, base := ⟨1, []⟩ }] (fun _ => False))
    (case' hlen => rfl)
    (case' hms => rfl)
    all_goals (try dsimp only [srcs])
    (case' hfr | hob => (repeat' (first | refine La ?_ ?_ | exact Lc | refine Lo ?_ | refine ⟨⟨_, rfl, ?_⟩, ?_⟩ | refine ObA.box ?_ | refine ObA.frE ?_ | refine ObA.dataE ?_ | refine ARs.agg ?_ | refine ARs.tup ?_ | refine AR.b ?_ | refine AR.iE ?_ | refine AR.e ?_ | refine AR.clo' ARs.nil ?_)))
    (case' hok => first | exact ⟨MI.ok_same rfl (Cg), trivial⟩ | exact trivial)
    (case' hN => rfl)
    (case' hS => rfl)
    all_goals (first | exact Ld | (rfl))
end Go.Proofs.Ytcjidnpkeliieaa
end
