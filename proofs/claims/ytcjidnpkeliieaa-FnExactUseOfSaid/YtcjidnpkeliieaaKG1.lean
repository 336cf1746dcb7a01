/-
  Plain law: cycles and firing orders of a graph. A search of cycles finds one exactly if there is one; there is an order in which each node comes behind those that lead to it exactly if there is none.
-/
namespace Go.Proofs.Ytcjidnpkeliieaa
set_option linter.unusedSimpArgs false
set_option linter.unusedVariables false

abbrev BOT : Int := -1000000000000000
def tryAll {α : Type} (f : Nat → List α) : List Nat → List α
  | [] => []
  | v :: r => if f v ≠ [] then f v else tryAll f r
theorem tryAll_ne {α : Type} {f : Nat → List α} : ∀ {l : List Nat}, tryAll f l ≠ [] ↔ ∃ v ∈ l, f v ≠ []
  | [] => by simp [tryAll]
  | v :: r => by
    unfold tryAll
    split
    · rename_i h; exact ⟨fun _ => ⟨v, by simp, h⟩, fun _ => h⟩
    · rename_i h
      rw [tryAll_ne]
      constructor
      · rintro ⟨u, hu, h2⟩; exact ⟨u, by simp [hu], h2⟩
      · rintro ⟨u, hu, h2⟩
        rcases List.mem_cons.1 hu with rfl | hu
        · exact absurd h2 h
        · exact ⟨u, hu, h2⟩
theorem tryAll_mem {α : Type} {f : Nat → List α} : ∀ {l : List Nat}, tryAll f l ≠ [] → ∃ v ∈ l, f v ≠ [] ∧ tryAll f l = f v
  | [], h => by simp [tryAll] at h
  | v :: r, h => by
    unfold tryAll at h ⊢
    split
    · rename_i h2; exact ⟨v, by simp, h2, rfl⟩
    · rename_i h2
      rw [if_neg h2] at h
      obtain ⟨u, hu, h3, h4⟩ := tryAll_mem h
      exact ⟨u, by simp [hu], h3, h4⟩
def hdN (p : List Nat) : Nat := p.headD 0
def lsN (p : List Nat) : Nat := p.getLastD 0
/-- The search of cycles: a v u is the weight of the arc from u to v. -/
def growF (a : Nat → Nat → Int) (n : Nat) (over : Int) : Nat → List Nat → Int → List Nat
  | 0, _, _ => []
  | k + 1, path, w => if a (hdN path) (lsN path) ≠ BOT ∧ over < w + a (hdN path) (lsN path) then path else
      tryAll (fun v => if a v (lsN path) = BOT ∨ v ∈ path then [] else growF a n over k (path ++ [v]) (w + a v (lsN path))) (List.range' (hdN path + 1) (n - (hdN path + 1)))
def overF (a : Nat → Nat → Int) (n : Nat) (over : Int) : List Nat := tryAll (fun v => growF a n over n [v] 0) (List.range' 0 n)

/-- Each node has an arc to the next one. -/
def pathP (a : Nat → Nat → Int) (c : List Nat) : Prop := ∀ i, i + 1 < c.length → a (c.getD (i + 1) 0) (c.getD i 0) ≠ BOT
structure Cyc (a : Nat → Nat → Int) (n : Nat) (c : List Nat) : Prop where
  ne : c ≠ []
  lt : ∀ v ∈ c, v < n
  path : pathP a c
  close : a (hdN c) (lsN c) ≠ BOT
theorem lsN_getD {c : List Nat} : lsN c = c.getD (c.length - 1) 0 := by
  cases c with
  | nil => rfl
  | cons x r =>
    unfold lsN
    rw [List.getLastD_eq_getLast?, List.getLast?_eq_getElem?, List.getD_eq_getElem?_getD]
theorem hdN_getD {c : List Nat} : hdN c = c.getD 0 0 := by cases c <;> rfl
theorem hdN_app {p q : List Nat} (h : p ≠ []) : hdN (p ++ q) = hdN p := by cases p with | nil => exact absurd rfl h | cons => rfl
theorem pathP_snoc {a : Nat → Nat → Int} {c : List Nat} {v : Nat} (h : pathP a c) (hv : a v (lsN c) ≠ BOT) : pathP a (c ++ [v]) := by
  intro i hi
  simp only [List.length_append, List.length_cons, List.length_nil] at hi
  by_cases h1 : i + 1 < c.length
  · have := h i h1
    simpa [List.getD_eq_getElem?_getD, List.getElem?_append_left h1, List.getElem?_append_left (show i < c.length by omega)] using this
  · have h2 : i + 1 = c.length := by omega
    have h3 : (c ++ [v]).getD (i + 1) 0 = v := by simp [List.getD_eq_getElem?_getD, h2]
    have h4 : (c ++ [v]).getD i 0 = lsN c := by
      rw [lsN_getD, ← h2]
      simp [List.getD_eq_getElem?_getD, List.getElem?_append_left (show i < c.length by omega)]
    rw [h3, h4]; exact hv
theorem growF_cyc {a : Nat → Nat → Int} {n : Nat} {over : Int} : ∀ {k : Nat} {path : List Nat} {w : Int}, path ≠ [] → (∀ v ∈ path, v < n) → pathP a path → growF a n over k path w ≠ [] → Cyc a n (growF a n over k path w)
  | 0, _, _, _, _, _, h => by simp [growF] at h
  | k + 1, path, w, h0, h1, h2, h => by
    unfold growF at h ⊢
    split
    · rename_i hc; exact ⟨h0, h1, h2, hc.1⟩
    · rename_i hc
      rw [if_neg hc] at h
      obtain ⟨v, hv, h3, h4⟩ := tryAll_mem h
      rw [h4]
      split at h3
      · exact absurd rfl h3
      · rename_i hn
        rw [if_neg hn]
        simp only [List.mem_range'_1] at hv
        exact growF_cyc (by simp) (fun u hu => by
          rcases List.mem_append.1 hu with hu | hu
          · exact h1 u hu
          · simp at hu; omega) (pathP_snoc h2 (fun e => hn (.inl e))) h3
theorem overF_cyc {a : Nat → Nat → Int} {n : Nat} {over : Int} (h : overF a n over ≠ []) : Cyc a n (overF a n over) := by
  obtain ⟨v, hv, h3, h4⟩ := tryAll_mem h
  simp only [List.mem_range'_1] at hv
  unfold overF
  rw [h4]
  exact growF_cyc (by simp) (by simp; omega) (fun i hi => by simp at hi) h3
/-- A cycle without a node twice, whose first node is its least one, is not overlooked. -/
theorem growF_finds {a : Nat → Nat → Int} {n : Nat} {c : List Nat} (ha : ∀ u v, a u v = BOT ∨ 0 ≤ a u v) (hc : Cyc a n c) (hmin : ∀ i, 0 < i → i < c.length → c.getD 0 0 < c.getD i 0) (hd : c.Nodup) :
    ∀ (k i : Nat) (w : Int), 0 ≤ w → 1 ≤ i → i ≤ c.length → c.length < k + i → growF a n (-1) k (c.take i) w ≠ []
  | 0, i, w, _, _, h2, h3 => by omega
  | k + 1, i, w, hw, h1, h2, h3 => by
    unfold growF
    have hhd : hdN (c.take i) = c.getD 0 0 := by rw [hdN_getD]; simp [List.getD_eq_getElem?_getD, List.getElem?_take, show 0 < i by omega]
    have hls : lsN (c.take i) = c.getD (i - 1) 0 := by
      rw [lsN_getD, List.length_take, Nat.min_eq_left h2, List.getD_eq_getElem?_getD, List.getElem?_take, if_pos (by omega), List.getD_eq_getElem?_getD]
    split
    · intro e
      have := congrArg List.length e
      rw [List.length_take, Nat.min_eq_left h2] at this; simp at this; omega
    · rename_i hno
      by_cases hi : i = c.length
      · exfalso
        apply hno
        have hcl := hc.close
        rw [hdN_getD, lsN_getD] at hcl
        rw [hhd, hls, hi]
        refine ⟨hcl, ?_⟩
        rcases ha (c.getD 0 0) (c.getD (c.length - 1) 0) with h | h
        · exact absurd h hcl
        · omega
      · have hi' : i < c.length := by omega
        rw [tryAll_ne]
        refine ⟨c.getD i 0, ?_, ?_⟩
        · rw [List.mem_range'_1, hhd]
          have h4 := hmin i (by omega) hi'
          have h5 : c.getD i 0 < n := hc.lt _ (by rw [List.getD_eq_getElem?_getD, List.getElem?_eq_getElem hi']; exact List.getElem_mem hi')
          omega
        · have harc := hc.path (i - 1) (by omega)
          rw [show i - 1 + 1 = i by omega] at harc
          rw [hls]
          rw [if_neg]
          · have : c.take i ++ [c.getD i 0] = c.take (i + 1) := by
              rw [List.take_succ_eq_append_getElem hi', List.getD_eq_getElem?_getD, List.getElem?_eq_getElem hi']; rfl
            rw [this]
            refine growF_finds ha hc hmin hd k (i + 1) _ ?_ (by omega) (by omega) (by omega)
            rcases ha (c.getD i 0) (c.getD (i - 1) 0) with h | h
            · exact absurd h harc
            · omega
          · rintro (h | h)
            · exact harc h
            · obtain ⟨j, hj, hje⟩ := List.getElem_of_mem h
              simp at hj
              rw [List.getElem_take, List.getD_eq_getElem?_getD, List.getElem?_eq_getElem hi', Option.getD_some] at hje
              have hpw := List.pairwise_iff_getElem.1 hd
              exact hpw j i (by omega) hi' (by omega) hje
end Go.Proofs.Ytcjidnpkeliieaa
