/-
  Walks in the abstract reading, part 10.
-/
import Derived.Test.YtkpoclbnnpglfaaKcU9
section
namespace Go.Proofs.Ytkpoclbnnpglfaa
set_option linter.unusedSimpArgs false
set_option linter.unusedVariables false

/-- The greatest weight of a walk of k arcs from u to z. -/
def hwF (W : Nat → Nat → Int) (n z : Nat) : Nat → Nat → Int
  | 0 => fun u => unitF z u
  | k + 1 => fun u => maxN (fun v => timesB (W v u) (hwF W n z k v)) n
theorem timesB_ne_iff {a b : Int} (h : timesB a b ≠ BOT) : a ≠ BOT ∧ b ≠ BOT ∧ timesB a b = a + b := by
  unfold timesB at h ⊢
  by_cases h1 : a = BOT ∨ b = BOT
  · rw [if_pos h1] at h; exact absurd rfl h
  · rw [if_neg h1]
    exact ⟨fun e => h1 (.inl e), fun e => h1 (.inr e), rfl⟩
theorem timesB_comm {a b : Int} : timesB a b = timesB b a := by
  unfold timesB
  by_cases h1 : a = BOT ∨ b = BOT
  · rw [if_pos h1, if_pos h1.symm]
  · rw [if_neg h1, if_neg fun h => h1 h.symm, Int.add_comm]
theorem unitF_ne {z u : Nat} (h : unitF z u ≠ BOT) : z = u := by
  unfold unitF at h
  by_cases e : z = u
  · exact e
  · rw [if_neg e] at h; exact absurd rfl h
theorem least_of {P : Nat → Prop} : ∀ (k : Nat), P k → ∃ j, j ≤ k ∧ P j ∧ ∀ i, i < j → ¬ P i := by
  intro k
  induction k using Nat.strongRecOn with
  | _ k ih =>
    intro h
    by_cases hx : ∃ i, i < k ∧ P i
    · obtain ⟨i, hi, hp⟩ := hx
      obtain ⟨j, h1, h2, h3⟩ := ih i hi hp
      exact ⟨j, by omega, h2, h3⟩
    · exact ⟨k, Nat.le_refl _, h, fun i hi hp => hx ⟨i, hi, hp⟩⟩
section
variable {W : Nat → Nat → Int} {n z : Nat} (hW : ∀ u v, W v u ≠ BOT → -1000000 ≤ W v u ∧ W v u ≤ 1000000)
include hW
theorem hwF_bnd : ∀ (k : Nat) (u : Nat), hwF W n z k u = BOT ∨ (-(1000000 * (k : Int)) ≤ hwF W n z k u ∧ hwF W n z k u ≤ 1000000 * (k : Int))
  | 0, u => by
    by_cases h : unitF z u = BOT
    · exact .inl h
    · have e := unitF_ne h
      right; show _ ≤ unitF z u ∧ unitF z u ≤ _
      unfold unitF; rw [if_pos e]; omega
  | k + 1, u => by
    rcases maxN_at (f := fun v => timesB (W v u) (hwF W n z k v)) (n := n) with h | ⟨v, hv, h⟩
    · exact .inl h
    · show maxN _ n = BOT ∨ _ ≤ maxN _ n ∧ maxN _ n ≤ _
      rw [h]
      by_cases hb : timesB (W v u) (hwF W n z k v) = BOT
      · exact .inl hb
      · obtain ⟨h1, h2, h3⟩ := timesB_ne_iff hb
        have g1 := hW u v h1
        have g2 := (hwF_bnd k v).resolve_left h2
        right
        show _ ≤ timesB (W v u) (hwF W n z k v) ∧ timesB (W v u) (hwF W n z k v) ≤ _
        rw [h3]
        omega
omit hW in
theorem hwF_at : ∀ (k : Nat) (u : Nat), hwF W n z k u ≠ BOT → ∃ l : List Nat, l.length = k ∧ (∀ x ∈ l, x < n) ∧ kP W u l ∧ kE u l = z ∧ kW W u l = hwF W n z k u
  | 0, u, h => by
    have e := unitF_ne h
    refine ⟨[], rfl, by simp, trivial, e.symm, ?_⟩
    show 0 = unitF z u
    unfold unitF; rw [if_pos e]
  | k + 1, u, h => by
    rcases maxN_at (f := fun v => timesB (W v u) (hwF W n z k v)) (n := n) with e | ⟨v, hv, e⟩
    · exact absurd e h
    · have hb : timesB (W v u) (hwF W n z k v) ≠ BOT := fun e2 => h (e.trans e2)
      obtain ⟨h1, h2, h3⟩ := timesB_ne_iff hb
      obtain ⟨l, g1, g2, g3, g4, g5⟩ := hwF_at k v h2
      refine ⟨v :: l, by simp [g1], fun x hx => ?_, ⟨h1, g3⟩, g4, ?_⟩
      · rcases List.mem_cons.1 hx with rfl | hx
        · exact hv
        · exact g2 x hx
      · show W v u + kW W v l = maxN _ n
        rw [e, g5]; exact h3.symm
theorem hwF_ge : ∀ (l : List Nat) (u : Nat), l.length ≤ 1000 → (∀ x ∈ l, x < n) → kP W u l → kE u l = z → hwF W n z l.length u ≠ BOT ∧ kW W u l ≤ hwF W n z l.length u
  | [], u, _, _, _, h => by
    have e : z = u := h.symm
    have : hwF W n z 0 u = 0 := by show unitF z u = 0; unfold unitF; rw [if_pos e]
    refine ⟨fun h => ?_, ?_⟩
    · rw [show ([] : List Nat).length = 0 from rfl, this] at h; exact absurd h (by decide)
    · rw [show ([] : List Nat).length = 0 from rfl, this]; exact Int.le_refl _
  | v :: l, u, hl, hx, hp, he => by
    obtain ⟨g1, g2⟩ := hwF_ge l v (by simp at hl; omega) (fun x hx' => hx x (List.mem_cons_of_mem _ hx')) hp.2 he
    have hle := maxN_ge (f := fun v => timesB (W v u) (hwF W n z l.length v)) (hx v (by simp))
    have e : timesB (W v u) (hwF W n z l.length v) = W v u + hwF W n z l.length v := timesB_ne hp.1 g1
    have b1 := hW u v hp.1
    have b2 := (hwF_bnd hW (n := n) (z := z) l.length v).resolve_left g1
    rw [show (v :: l).length = l.length + 1 from rfl]
    have hle' : W v u + hwF W n z l.length v ≤ hwF W n z (l.length + 1) u := by rw [← e]; exact hle
    simp only [List.length_cons] at hl
    refine ⟨fun h => ?_, ?_⟩
    · rw [h] at hle'; unfold BOT at hle'; omega
    · show W v u + kW W v l ≤ _
      omega
theorem hwF_star {s : Nat → Nat → Int} (hs : StarOk W n s) (hnp : NoPos W n) (hn : n ≤ 10) {u : Nat} (hu : u < n) (hz : z < n) (hne : s z u ≠ BOT) : ∃ k, k ≤ n ∧ hwF W n z k u = s z u ∧ ∀ j, j < k → hwF W n z j u ≠ s z u := by
  have h1 : ∃ k, k ≤ n ∧ hwF W n z k u = s z u := by
    rcases hs.some u z hu hz with h | ⟨rfl, h⟩ | ⟨c, c1, c2, c3⟩
    · exact absurd h hne
    · refine ⟨0, by omega, ?_⟩
      rw [h]; show unitF u u = 0; unfold unitF; rw [if_pos rfl]
    · obtain ⟨c', d1, d2, d3, d4⟩ := walk_short hnp c.length c u z (Nat.le_refl _) hu c2 c1
      have d5 := (hs.all u z c' hu hz d3 d1).2
      have hx : ∀ x ∈ c' ++ [z], x < n := fun x hx => by
        rcases List.mem_append.1 hx with hx | hx
        · exact d3 x hx
        · simp at hx; omega
      have hl : (c' ++ [z]).length = c'.length + 1 := by simp
      obtain ⟨e1, e2⟩ := hwF_ge hW (n := n) (z := z) (c' ++ [z]) u (by rw [hl]; omega) hx (WM_kP.1 d1) (by rw [kE_app]; rfl)
      rw [hl] at e1 e2
      rw [← wM_kW] at e2
      obtain ⟨l, f1, f2, f3, f4, f5⟩ := hwF_at (c'.length + 1) u e1
      have hlne : l ≠ [] := fun e => by rw [e] at f1; simp at f1
      obtain ⟨a, v, rfl⟩ := snoc_of hlne
      rw [kE_app] at f4
      have hv : v = z := f4
      subst hv
      have f6 := (hs.all u v a hu hz (fun x hx => f2 x (List.mem_append_left _ hx)) (WM_kP.2 f3)).2
      rw [wM_kW, f5] at f6
      exact ⟨c'.length + 1, d2, Int.le_antisymm f6 (Int.le_trans (Int.le_of_eq c3) (Int.le_trans d4 e2))⟩
  obtain ⟨k, hk, e⟩ := h1
  obtain ⟨j, g1, g2, g3⟩ := least_of (P := fun k => hwF W n z k u = s z u) k e
  exact ⟨j, by omega, g2, g3⟩
end
/-! ### The heaviest walk of k arcs, each time by the least node -/
abbrev hpC (W : Nat → Nat → Int) (n z k u v : Nat) : Prop := W v u ≠ BOT ∧ hwF W n z k v ≠ BOT ∧ W v u + hwF W n z k v = hwF W n z (k + 1) u
noncomputable def nxN (W : Nat → Nat → Int) (n z k u : Nat) : Nat := open Classical in if h : ∃ v, hpC W n z k u v then (Classical.choose (least_of (P := hpC W n z k u) h.choose h.choose_spec)) else 0
theorem nxN_ok {W : Nat → Nat → Int} {n z k u : Nat} (h : hwF W n z (k + 1) u ≠ BOT) : nxN W n z k u < n ∧ hpC W n z k u (nxN W n z k u) ∧ ∀ v, v < nxN W n z k u → ¬ hpC W n z k u v := by
  rcases maxN_at (f := fun v => timesB (W v u) (hwF W n z k v)) (n := n) with e | ⟨v, hv, e⟩
  · exact absurd e h
  · have hb : timesB (W v u) (hwF W n z k v) ≠ BOT := fun e2 => h (e.trans e2)
    obtain ⟨h1, h2, h3⟩ := timesB_ne_iff hb
    have hx : ∃ v, hpC W n z k u v := ⟨v, h1, h2, by rw [← h3]; exact e.symm⟩
    have hs := Classical.choose_spec (least_of (P := hpC W n z k u) hx.choose hx.choose_spec)
    have e0 : nxN W n z k u = Classical.choose (least_of (P := hpC W n z k u) hx.choose hx.choose_spec) := by unfold nxN; rw [dif_pos hx]
    rw [← e0] at hs
    refine ⟨?_, hs.2.1, hs.2.2⟩
    rcases Nat.lt_or_ge v (nxN W n z k u) with h4 | h4
    · exact absurd ⟨h1, h2, by rw [← h3]; exact e.symm⟩ (hs.2.2 v h4)
    · omega
noncomputable def hpT (W : Nat → Nat → Int) (n z : Nat) : Nat → Nat → List Nat
  | 0, _ => []
  | k + 1, u => nxN W n z k u :: hpT W n z k (nxN W n z k u)
theorem hpT_len {W : Nat → Nat → Int} {n z : Nat} : ∀ {k u : Nat}, (hpT W n z k u).length = k
  | 0, _ => rfl
  | k + 1, u => by simp [hpT, hpT_len (k := k)]
theorem hpT_ok {W : Nat → Nat → Int} {n z : Nat} : ∀ {k u : Nat}, hwF W n z k u ≠ BOT → (∀ x ∈ hpT W n z k u, x < n) ∧ kP W u (hpT W n z k u) ∧ kE u (hpT W n z k u) = z ∧ kW W u (hpT W n z k u) = hwF W n z k u
  | 0, u, h => by
    have e := unitF_ne h
    refine ⟨by simp [hpT], trivial, e.symm, ?_⟩
    show 0 = unitF z u
    unfold unitF; rw [if_pos e]
  | k + 1, u, h => by
    obtain ⟨h1, ⟨h2, h3, h4⟩, _⟩ := nxN_ok h
    obtain ⟨g1, g2, g3, g4⟩ := hpT_ok h3
    refine ⟨fun x hx => ?_, ⟨h2, g2⟩, g3, ?_⟩
    · rcases List.mem_cons.1 hx with rfl | hx
      · exact h1
      · exact g1 x hx
    · show W _ u + kW W _ _ = _
      rw [g4]; exact h4
/-- The node behind j arcs. -/
noncomputable def hpN (W : Nat → Nat → Int) (n z k u j : Nat) : Nat := kE u ((hpT W n z k u).take j)
theorem hpN_0 {W : Nat → Nat → Int} {n z k u : Nat} : hpN W n z k u 0 = u := by simp [hpN, kE]
theorem hpT_step {W : Nat → Nat → Int} {n z : Nat} : ∀ {k u j : Nat}, hwF W n z k u ≠ BOT → u < n → j ≤ k → hwF W n z (k - j) (hpN W n z k u j) ≠ BOT ∧ hpN W n z k u j < n ∧ (j < k → (hpT W n z k u).take (j + 1) = (hpT W n z k u).take j ++ [nxN W n z (k - j - 1) (hpN W n z k u j)] ∧ hpN W n z k u (j + 1) = nxN W n z (k - j - 1) (hpN W n z k u j))
  | 0, u, j, h, hu, hj => by
    obtain rfl : j = 0 := by omega
    exact ⟨by rw [hpN_0]; exact h, by rw [hpN_0]; exact hu, fun h => by omega⟩
  | k + 1, u, 0, h, hu, _ => ⟨by rw [hpN_0]; exact h, by rw [hpN_0]; exact hu, fun _ => by simp [hpN, hpT, kE]⟩
  | k + 1, u, j + 1, h, hu, hj => by
    obtain ⟨h1, ⟨h2, h3, h4⟩, _⟩ := nxN_ok h
    obtain ⟨g1, g2, g3⟩ := hpT_step (k := k) (u := nxN W n z k u) (j := j) h3 h1 (by omega)
    have e : ∀ j, hpN W n z (k + 1) u (j + 1) = hpN W n z k (nxN W n z k u) j := fun j => by simp [hpN, hpT, kE]
    rw [e, show k + 1 - (j + 1) = k - j by omega]
    refine ⟨g1, g2, fun hlt => ?_⟩
    obtain ⟨g4, g5⟩ := g3 (by omega)
    refine ⟨?_, by rw [e]; exact g5⟩
    show nxN W n z k u :: (hpT W n z k (nxN W n z k u)).take (j + 1) = nxN W n z k u :: (hpT W n z k (nxN W n z k u)).take j ++ _
    rw [g4]; rfl
end Go.Proofs.Ytkpoclbnnpglfaa
end

section
namespace Go.Proofs.Ytkpoclbnnpglfaa
set_option linter.unusedSimpArgs false
set_option linter.unusedVariables false
open Go Go.RowKit
attribute [local irreducible] AL AD AW OpOk Le AC thenQ blockQ EndQ

theorem BmOk.all [Mode] {t : List (List Int)} {n : Nat} (h : BmOk t n) : ∀ u v, entN t v u ≠ BOT → -1000000 ≤ entN t v u ∧ entN t v u ≤ 1000000 := fun u v hne => by
  by_cases ho : n ≤ v ∨ n ≤ u
  · rw [h.out ho]; omega
  · exact (h.bnd v u (by omega) (by omega)).resolve_left hne
theorem hwF_sm [Mode] {t : List (List Int)} {n z : Nat} (h : BmOk t n) {k : Nat} (hk : k ≤ 100) (u : Nat) : hwF (entN t) n z k u = BOT ∨ (-100000000 ≤ hwF (entN t) n z k u ∧ hwF (entN t) n z k u ≤ 100000000) := by
  rcases hwF_bnd h.all (n := n) (z := z) k u with e | e
  · exact .inl e
  · right; omega
theorem hwT_ac [Mode] (t : List (List Int)) (n z : Nat) (h : BmOk t n) (k : Nat) (hk : k ≤ 100) : AC Try.prog 78 [TL (tabF n n (tuF (entN t))), IL (rowF n (hwF (entN t) n z k))] H0 (own1 1 n) (hp1 (IO (rowF n (hwF (entN t) n z (k + 1))))) := by
  have hn := h.nn
  have hT := timesVector_ac (tabF n n (tuF (entN t))) n n (hwF (entN t) n z k) tabF_rc (by omega) (by omega) ⟨fun i j hi hj => by
    rw [tabF_ent hi hj]
    rcases h.bnd j i hj hi with e | e
    · exact .inl e
    · right; show _ ≤ entN t j i ∧ entN t j i ≤ _; omega, fun j _ => by
    rcases hwF_sm h (z := z) hk j with e | e
    · exact .inl e
    · right; omega⟩
  have e : (rowF n fun i => apA (entN (tabF n n (tuF (entN t)))) (hwF (entN t) n z k) i n) = rowF n (hwF (entN t) n z (k + 1)) := rowF_congr fun i hi => by
    rw [apA_max]
    show _ = maxN (fun v => timesB (entN t v i) (hwF (entN t) n z k v)) n
    exact maxN_congr fun v hv => by rw [tabF_ent hi hv]
  rw [e] at hT
  exact hT
abbrev lf0 (n k : Nat) : Nat → Int := fun u => if u < k then BOT else 0
theorem lf0_set [Mode] {n k : Nat} : (rowF n (lf0 n k)).set k BOT = rowF n (lf0 n (k + 1)) := by
  rw [rowF_set]
  refine rowF_congr fun j _ => ?_
  by_cases e : j = k
  · subst e; simp [lf0]
  · rw [if_neg e]
    by_cases h : j < k
    · simp [lf0, h, show j < k + 1 by omega]
    · simp [lf0, h, show ¬ j < k + 1 by omega]
theorem lf0_to [Mode] {W : Nat → Nat → Int} {n z : Nat} : (rowF n (lf0 n n)).set z 0 = rowF n (hwF W n z 0) := by
  rw [rowF_set]
  refine rowF_congr fun j hj => ?_
  show _ = unitF z j
  by_cases e : j = z
  · subst e; simp [unitF]
  · simp [unitF, lf0, hj, e, Ne.symm e]
/-- The heaviest walk, node by node: nd j the node behind j arcs, nx j the next one. -/
structure HpF (W : Nat → Nat → Int) (n : Nat) (dk : Nat → Nat → Int) (kk f : Nat) (pth : List Nat) (nd nx : Nat → Nat) : Prop where
  len : pth.length = kk
  zero : nd 0 = f
  at' : ∀ j, j ≤ kk → dk (kk - j) (nd j) ≠ BOT ∧ nd j < n ∧ (f :: pth.take j)[j]? = some (nd j)
  st : ∀ j, j < kk → pth.take (j + 1) = pth.take j ++ [nx j] ∧ nd (j + 1) = nx j ∧ nx j < n ∧ W (nx j) (nd j) ≠ BOT ∧ dk (kk - j - 1) (nx j) ≠ BOT ∧ W (nx j) (nd j) + dk (kk - j - 1) (nx j) = dk (kk - j) (nd j)
  no : ∀ j v, j < kk → v < nx j → ¬ (W v (nd j) ≠ BOT ∧ dk (kk - j - 1) v ≠ BOT ∧ W v (nd j) + dk (kk - j - 1) v = dk (kk - j) (nd j))
theorem hpF_ex [Mode] {W : Nat → Nat → Int} {n z kk f : Nat} (hne : hwF W n z kk f ≠ BOT) (hf : f < n) : ∃ nd nx, HpF W n (hwF W n z) kk f (hpT W n z kk f) nd nx := by
  have hs := fun j (hj : j ≤ kk) => hpT_step (W := W) (n := n) (z := z) (k := kk) (u := f) (j := j) hne hf hj
  have hx := fun j (hj : j < kk) => nxN_ok (W := W) (n := n) (z := z) (k := kk - j - 1) (u := hpN W n z kk f j) (by rw [show kk - j - 1 + 1 = kk - j by omega]; exact (hs j (by omega)).1)
  refine ⟨hpN W n z kk f, fun j => nxN W n z (kk - j - 1) (hpN W n z kk f j), hpT_len, hpN_0, fun j hj => ⟨(hs j hj).1, (hs j hj).2.1, ?_⟩, fun j hj => ?_, fun j v hj hv hc => ?_⟩
  · rw [kE_take (by rw [List.length_take, hpT_len]; omega), List.take_take, Nat.min_self]; rfl
  · obtain ⟨a1, ⟨a2, a3, a4⟩, _⟩ := hx j hj
    obtain ⟨b1, b2⟩ := (hs j (by omega)).2.2 hj
    rw [show kk - j - 1 + 1 = kk - j by omega] at a4
    exact ⟨b1, b2, a1, a2, a3, a4⟩
  · refine (hx j hj).2.2 v hv ⟨hc.1, hc.2.1, ?_⟩
    rw [show kk - j - 1 + 1 = kk - j by omega]
    exact hc.2.2
set_option maxHeartbeats 16000000 in
theorem heaviestPath_ac [Mode] (t st : List (List Int)) (n f z kk : Nat) (h : BmOk t n) (hst : Sq st n) (hf : f < n) (hz : z < n) (hkk : kk ≤ n) (h1 : hwF (entN t) n z kk f = entN st z f) (h2 : ∀ j, j < kk → hwF (entN t) n z j f ≠ entN st z f) (hne : entN st z f ≠ BOT) : AC Try.prog 30 [TL t, TL st, I f, I z] H0 (own1 1 (kk + 1)) (hp1 (IO (cN (f :: hpT (entN t) n z kk f)))) := by
  have hn := h.nn
  have htl : (mRows 1 (TR t)).length = n := by rw [mTR_len, h.sq.l]
  have hTu := transposed_ac (entN t) n h.n0 (by omega)
  rw [sq_tab h.sq] at hTu
  have hTu := hTu.frzT (by rw [TR_len, tabF_len])
  have hTV := fun k hk => hwT_ac t n z h k hk
  obtain ⟨nd, nx, hF⟩ := hpF_ex (W := entN t) (n := n) (z := z) (kk := kk) (f := f) (by rw [h1]; exact hne) hf
  have hsm := fun k hk u => hwF_sm h (z := z) (k := k) hk u
  have hz0 := lf0_to (W := entN t) (n := n) (z := z)
  have hbd := h.bnd
  have hsg : ∀ i j, i < n → j < n → ∃ r, (mRows 1 (TR t))[((i : Nat) : Int).toNat]? = some [.sl 1 (IR r)] ∧ (IR r)[((j : Nat) : Int).toNat]? = some [DI (entN t i j)] ∧ (IR r).length = n := fun i j hi hj => by
    obtain ⟨r, h1, h2, h3⟩ := h.sq.get hi hj
    exact ⟨r, TR_get h1, IR_get h2, by rw [IR_len, h3]⟩
  obtain ⟨sr, s1, s2, s3⟩ : ∃ r, (mRows 1 (TR st))[((z : Nat) : Int).toNat]? = some [.sl 1 (IR r)] ∧ (IR r)[((f : Nat) : Int).toNat]? = some [DI (entN st z f)] ∧ (IR r).length = n := by
    obtain ⟨r, h1, h2, h3⟩ := hst.get hz hf
    exact ⟨r, TR_get h1, IR_get h2, by rw [IR_len, h3]⟩
  have hss := hsm kk (by omega) f
  rw [h1] at hss
  generalize hwF (entN t) n z = dk at *
  generalize hpT (entN t) n z kk f = pth at *
  obtain ⟨hpl, hnd0, hstp, hnx, hno⟩ := hF
  have hpa : pth.take kk = pth := List.take_of_length_le (by omega)
  generalize entN st z f = sv at *
  have hz1 : TR [rowF n (lf0 n 0)] = [List.replicate n [DI 0]] := by
    have e : rowF n (lf0 n 0) = List.replicate n 0 := by
      have e0 : lf0 n 0 = fun _ => 0 := by funext u; simp [lf0]
      rw [e0]; simp [rowF, List.map_const']
    rw [e]; simp
  refine AC.of_body 0 Try.func30 rfl (fun l h => absurd rfl h) (fun C hC => ?_)
  have hD : ∀ l, ¬ C.D0 l := fun l h => (hC l).1 h rfl
  simp only [startFr, Try.ntmps30, List.length_cons, List.length_nil, Nat.reduceAdd, Nat.reduceSub, List.replicate_succ, List.replicate_zero, List.cons_append, List.nil_append]
  repeat' (first | ((first | apply Ba | (apply Bb; (· rfl); (· rfl)) | (apply Bc; (· exact nxE)) | (apply Bd; (· rfl); (· rfl); (· exact nxE))); (· first | exact Ok.lenD rfl rfl htl | exact Ok.pe)) | ((first | apply Ca | (apply Cb; (· exact nxE))); (· first | exact Ok.e0)) | refine Sx ?_ | (refine Sy (fun h => ?_) (fun h => ?_) <;> try (exfalso; omega; done)) | refine Sz (fun h => ?_) (fun h => ?_))
  refine AW.loop (X := {k : Nat // k ≤ n}) (fun k => ⟨[TL t, TL st, I f, I z, Oo, Oo, Oo, Oo, Oo, I n, .own 1 ⟨1, []⟩ 0 1, Oo, Oo, Oo, Oo, Oo, Oo, Oo, Oo, Oo, Oo, Oo, Oo, Oo, Oo, I n, I (k.1 : Nat), Oo, Oo, Oo, Oo, Oo, Oo, Oo, Oo, Oo, Oo, Oo, Oo, Oo, Oo, Oo, Oo, Oo, Oo, Oo, Oo, Oo, Oo, Oo, Oo, Oo, Oo, Oo, Oo, Oo, Oo, Oo, Oo, Oo, Oo, Oo, Oo, Oo, Oo, Oo, Oo, Oo, Oo, Oo, Oo, Oo, Oo, Oo, Oo, Oo, Oo, Oo, Oo, Oo, Oo, Oo, Oo, Oo, Oo, Oo, Oo, Oo, Oo, Oo, Oo, Oo, Oo, Oo, Oo, Oo, Oo, Oo, Oo, Oo, Oo, Oo, Oo, Oo, Oo, Oo, Oo, Oo, Oo, Oo, Oo, Oo, Oo, Oo, Oo, Oo, Oo, Oo, Oo, Oo, Oo, Oo, Oo, Oo, Oo, Oo, Oo, Oo, Oo, Oo, Oo, Oo, Oo, Oo], heapX [] [mi1 ⟨1, []⟩ (TR [rowF n (lf0 n k.1)])], 900⟩) (fun k => n - k.1) ⟨0, Nat.zero_le _⟩ ?_ (fun k => ?_)
  ·
    (apply Le.headG [] [{ l := ⟨1, []⟩, k := 1, R := TR [rowF n (lf0 n 0)], src := ⟨6, []⟩, base := ⟨6, []⟩, cut := 0, ext := some ⟨5, []⟩ }] (fun _ => False))
    (case' hlen => rfl)
    (case' hms => rfl)
    all_goals (try dsimp only [srcs])
    (case' hfr | hob => (repeat' (first | refine La ?_ ?_ | exact Lc | refine Lo ?_ | refine ⟨⟨_, rfl, ?_⟩, ?_⟩ | refine Lx ?_)))
    (case' hok => first | exact ⟨MI.ok_app (R := []) (r := List.replicate n [DI 0]) hz1 rfl (by simp) rfl (fun i x hx => by simp at hx) rfl, trivial⟩ | exact trivial)
    (case' hN => rfl)
    (case' hS => rfl)
    all_goals (first | exact Ld | ((first | (simp [AllP]; done) | (simp [AllP, tabF_len, TR_len]; done))))
  obtain ⟨k, hk⟩ := k
  simp only
  have hr0 : (TR [rowF n (lf0 n k)])[0]? = some (IR (rowF n (lf0 n k))) := rfl
  have hl0 : (IR (rowF n (lf0 n k))).length = n := by rw [IR_len, rowF_len]
  by_cases hlt : k < n
  · have hgk : (IR (rowF n (lf0 n k)))[k]? = some [DI (lf0 n k k)] := IRF_get hlt
    repeat' (first | ((first | apply Ba | (apply Bb; (· rfl); (· rfl)) | (apply Bc; (· exact nxE)) | (apply Bd; (· rfl); (· rfl); (· exact nxE))); (· first | exact Ok.ldTn rfl rfl rfl hr0 hl0 | exact Ok.st1 rfl rfl (congrArg (Option.map (dobj 1)) hr0) (by omega) (by rw [hgk]; rfl) rfl rfl IR_set | exact Ok.pe)) | ((first | apply Ca | (apply Cb; (· exact nxE))); (· first | exact Ok.st1 rfl rfl (congrArg (Option.map (dobj 1)) hr0) (by omega) (by rw [hgk]; rfl) rfl rfl IR_set | exact Ok.e0)) | refine Sx ?_ | (refine Sy (fun h => ?_) (fun h => ?_) <;> try (exfalso; omega; done)) | refine Sz (fun h => ?_) (fun h => ?_))
    refine ⟨⟨k + 1, by omega⟩, ?_, by simp only; omega⟩
    (apply Le.headG [] [{ l := ⟨1, []⟩, k := 1, R := TR [rowF n (lf0 n (k + 1))], src := ⟨1, []⟩, base := ⟨1, []⟩ }] (fun _ => False))
    (case' hlen => rfl)
    (case' hms => rfl)
    all_goals (try dsimp only [srcs])
    (case' hfr | hob => (repeat' (first | refine La ?_ ?_ | exact Lc | refine Lo ?_ | refine ⟨⟨_, rfl, ?_⟩, ?_⟩ | refine Lx ?_)))
    (case' hok => first | exact ⟨MI.ok_row (i := 0) (r0 := IR (rowF n (lf0 n k))) (r := IR ((rowF n (lf0 n k)).set k BOT)) (by rw [lf0_set]; rfl) hr0 (by simp) rfl (Cg), trivial⟩ | exact trivial)
    (case' hN => rfl)
    (case' hS => rfl)
    all_goals (first | exact Ld | (rfl))
  obtain rfl : n = k := by omega
  have hgz : (IR (rowF n (lf0 n n)))[z]? = some [DI (lf0 n n z)] := IRF_get hz
  repeat' (first | ((first | apply Ba | (apply Bb; (· rfl); (· rfl)) | (apply Bc; (· exact nxE)) | (apply Bd; (· rfl); (· rfl); (· exact nxE))); (· first | exact Ok.ldTn rfl rfl rfl hr0 hl0 | exact Ok.st1 rfl rfl (congrArg (Option.map (dobj 1)) hr0) (by omega) (by rw [hgz]; rfl) rfl rfl IR_set | exact Ok.pe)) | ((first | apply Ca | (apply Cb; (· exact nxE))); (· first | exact Ok.st1 rfl rfl (congrArg (Option.map (dobj 1)) hr0) (by omega) (by rw [hgz]; rfl) rfl rfl IR_set | exact Ok.e0)) | refine Sx ?_ | (refine Sy (fun h => ?_) (fun h => ?_) <;> try (exfalso; omega; done)) | refine Sz (fun h => ?_) (fun h => ?_))
  refine AW.loop (X := {k : Nat // k ≤ kk}) (fun k => ⟨[TL t, TL st, I f, I z, Oo, Oo, Oo, Oo, Oo, I n, .own 1 ⟨1, []⟩ 0 ((k.1 : Nat) + 1), Oo, Oo, Oo, Oo, Oo, Oo, Oo, Oo, Oo, Oo, Oo, Oo, Oo, Oo, Oo, Oo, Oo, Oo, Oo, Oo, Oo, Oo, Oo, Oo, Oo, Oo, Oo, Oo, Oo, Oo, Oo, Oo, Oo, Oo, Oo, Oo, Oo, Oo, Oo, Oo, Oo, Oo, Oo, Oo, Oo, Oo, Oo, Oo, Oo, Oo, Oo, Oo, Oo, Oo, Oo, Oo, Oo, Oo, Oo, Oo, Oo, Oo, Oo, Oo, Oo, Oo, Oo, Oo, Oo, Oo, Oo, Oo, Oo, Oo, Oo, Oo, Oo, Oo, Oo, Oo, Oo, Oo, Oo, Oo, Oo, Oo, Oo, Oo, Oo, Oo, Oo, Oo, Oo, Oo, Oo, Oo, Oo, Oo, Oo, Oo, Oo, Oo, Oo, Oo, Oo, Oo, Oo, Oo, Oo, Oo, Oo, Oo, Oo, Oo, Oo, Oo, Oo, Oo, Oo, Oo, Oo, Oo, Oo], heapX [] [mi1 ⟨1, []⟩ (TR (tabF (k.1 + 1) n dk))], 900⟩) (fun k => kk - k.1) ⟨0, Nat.zero_le _⟩ ?_ (fun k => ?_)
  ·
    (apply Le.headG [] [{ l := ⟨1, []⟩, k := 1, R := TR (tabF (0 + 1) n dk), src := ⟨1, []⟩, base := ⟨1, []⟩ }] (fun _ => False))
    (case' hlen => rfl)
    (case' hms => rfl)
    all_goals (try dsimp only [srcs])
    (case' hfr | hob => (repeat' (first | refine La ?_ ?_ | exact Lc | refine Lo ?_ | refine ⟨⟨_, rfl, ?_⟩, ?_⟩ | refine Lx ?_)))
    (case' hok => first | exact ⟨MI.ok_row (i := 0) (r0 := IR (rowF n (lf0 n n))) (r := IR ((rowF n (lf0 n n)).set z 0)) (by rw [hz0]; rfl) hr0 (by simp) rfl (Cg), trivial⟩ | exact trivial)
    (case' hN => rfl)
    (case' hS => rfl)
    all_goals (first | exact Ld | (rfl))
  clear hr0 hl0 hgz
  obtain ⟨k, hk'⟩ := k
  simp only
  have hrk : (TR (tabF (k + 1) n dk))[(((k + 1 : Nat) : Int) - 1).toNat]? = some (IR (rowF n (dk k))) := by
    rw [show (((k + 1 : Nat) : Int) - 1).toNat = k by omega]; exact TRF_get (by omega)
  have hlk : (IR (rowF n (dk k))).length = n := by rw [IR_len, rowF_len]
  have htk : (TR (tabF (k + 1) n dk)).length = k + 1 := by rw [TR_len, tabF_len]
  have hgf : (IR (rowF n (dk k)))[f]? = some [DI (dk k f)] := IRF_get hf
  by_cases hlt : k < kk
  · have hne2 := h2 k hlt
    have hTVk := hTV k (by omega)
    repeat' (first | ((first | apply Ba | (apply Bb; (· rfl); (· rfl)) | (apply Bc; (· exact nxE)) | (apply Bd; (· rfl); (· rfl); (· exact nxE))); (· first | exact Ok.ldTn rfl rfl rfl hrk hlk | exact Ok.ld1 rfl rfl (congrArg (Option.map (dobj 1)) hrk) hgf | exact Kz rfl rfl (hTu) (Ad An) | exact Eo rfl rfl hTVk (Sd (CA.w (congrArg (Option.map (dobj 1)) hrk) hlk Sn)) | exact Ok.appendT rfl rfl (by decide) rfl rfl rfl (by rw [outer_len, htk]; rfl) rfl rfl (by rfl) (by omega) (by omega) rfl | exact Ok.pe)) | ((first | apply Ca | (apply Cb; (· exact nxE))); (· first | exact Eo rfl rfl hTVk (Sd (CA.w (congrArg (Option.map (dobj 1)) hrk) hlk Sn)) | exact Ok.appendT rfl rfl (by decide) rfl rfl rfl (by rw [outer_len, htk]; rfl) rfl rfl (by rfl) (by omega) (by omega) rfl | exact Ok.e0)) | refine Sx ?_ | (refine Sy (fun h => ?_) (fun h => ?_) <;> try (exfalso; omega; done)) | refine Sz (fun h => ?_) (fun h => ?_))
    refine ⟨⟨k + 1, by omega⟩, ?_, by simp only; omega⟩
    (apply Le.headG [] [{ l := ⟨1, []⟩, k := 1, R := TR (tabF (k + 1 + 1) n dk), src := ⟨928, []⟩, base := ⟨1, []⟩, cut := k + 1, ext := some ⟨926, [0]⟩ }] (fun _ => False))
    (case' hlen => rfl)
    (case' hms => rfl)
    all_goals (try dsimp only [srcs])
    (case' hfr | hob => (repeat' (first | refine La ?_ ?_ | exact Lc | refine Lo ?_ | refine ⟨⟨_, rfl, ?_⟩, ?_⟩ | refine Lx ?_)))
    (case' hok => first | exact ⟨MI.ok_app tabF_sn htk (by rw [IR_len, rowF_len]) rfl (Cg) rfl, trivial⟩ | exact trivial)
    (case' hN => rfl)
    (case' hS => rfl)
    all_goals (first | exact Ld | ((first | (simp [AllP, tabF_len, TR_len]; done) | (simp [AllP, tabF_len, TR_len]; omega))))
  obtain rfl : kk = k := by omega
  rw [h1] at hgf
  repeat' (first | ((first | apply Ba | (apply Bb; (· rfl); (· rfl)) | (apply Bc; (· exact nxE)) | (apply Bd; (· rfl); (· rfl); (· exact nxE))); (· first | exact Ok.ldTn rfl rfl rfl hrk hlk | exact Ok.ld1 rfl rfl (congrArg (Option.map (dobj 1)) hrk) hgf | exact Ok.pe)) | ((first | apply Ca | (apply Cb; (· exact nxE))); (· first | exact Ok.e0)) | refine Sx ?_ | (refine Sy (fun h => ?_) (fun h => ?_) <;> try (exfalso; omega; done)) | refine Sz (fun h => ?_) (fun h => ?_))
  clear hrk hlk hgf hTV hTu
  refine AW.loop (X := {k : Nat // k ≤ kk}) (fun k => ⟨[TL t, Oo, Oo, Oo, Oo, Oo, Oo, Oo, Oo, I n, .own 1 ⟨1, []⟩ 0 (kk + 1), Oo, .own 1 ⟨0, []⟩ 0 ((k.1 : Nat) + 1), I ((kk : Int) - ((k.1 : Nat) : Nat)), Oo, Oo, Oo, Oo, Oo, Oo, Oo, Oo, Oo, Oo, Oo, Oo, Oo, Oo, Oo, Oo, Oo, Oo, Oo, Oo, Oo, Oo, Oo, Oo, Oo, Oo, Oo, Oo, Oo, Oo, Oo, Oo, Oo, Oo, Oo, Oo, Oo, Oo, Oo, Oo, Oo, Oo, Oo, Oo, Oo, Oo, Oo, Oo, Oo, Oo, Oo, Oo, Oo, Oo, Oo, Oo, Oo, Oo, Oo, Oo, Oo, Oo, Oo, Oo, Oo, Oo, Oo, Oo, Oo, Oo, Oo, Oo, Oo, Oo, Oo, Oo, Oo, Oo, Oo, Oo, Oo, Oo, Oo, Oo, Oo, Oo, Oo, Oo, Oo, Oo, Oo, Oo, Oo, Oo, Oo, Oo, Oo, Oo, Oo, Oo, Oo, Oo, Oo, Oo, Oo, Oo, Oo, Oo, Oo, Oo, Oo, Oo, Oo, Oo, Oo, Oo, Oo, Oo, Oo, Oo], heapX [(⟨0, []⟩, ⟨0, []⟩, IO (cN (f :: pth.take k.1)))] [mi1 ⟨1, []⟩ (TR (tabF (kk + 1) n dk))], 900⟩) (fun k => kk - k.1) ⟨0, Nat.zero_le _⟩ ?_ (fun k => ?_)
  ·
    (apply Le.headG [_] [{ l := ⟨1, []⟩, k := 1, R := TR (tabF (kk + 1) n dk), src := ⟨1, []⟩, base := ⟨1, []⟩ }] (fun _ => False))
    (case' hlen => rfl)
    (case' hms => rfl)
    all_goals (try dsimp only [srcs])
    (case' hfr | hob => (repeat' (first | refine La ?_ ?_ | exact Lc | refine Lo ?_ | refine ⟨⟨_, rfl, ?_⟩, ?_⟩ | refine Lx ?_)))
    (case' hok => first | exact ⟨MI.ok_same rfl (Cg), trivial⟩ | exact trivial)
    (case' hN => rfl)
    (case' hS => rfl)
    all_goals (first | exact Ld | ((first | rfl | exact congrArg (fun x : Int => I x) (by omega) | (simp [AllP]; done) | (simp [AllP, tabF_len, TR_len]; done) | (simp [AllP, tabF_len, TR_len]; omega))))
  obtain ⟨j, hj⟩ := k
  simp only
  by_cases hlt : j < kk
  case neg =>
    obtain rfl : kk = j := by omega
    rw [hpa]
    repeat' (first | ((first | apply Ba | (apply Bb; (· rfl); (· rfl)) | (apply Bc; (· exact nxE)) | (apply Bd; (· rfl); (· rfl); (· exact nxE))); (· first | exact Ok.pe)) | ((first | apply Ca | (apply Cb; (· exact nxE))); (· first | exact Ok.e0)) | refine Sx ?_ | (refine Sy (fun h => ?_) (fun h => ?_) <;> try (exfalso; omega; done)) | refine Sz (fun h => ?_) (fun h => ?_))
    refine Ya ?_
    (apply Le.head [(⟨0, []⟩, _, _)])
    (case' hfr | hob => (repeat' (first | refine La ?_ ?_ | exact Lc | refine Lo ?_ | refine ⟨⟨_, rfl, ?_⟩, ?_⟩ | refine Lx ?_)))
    all_goals (first | exact Ld | (rfl))
  obtain ⟨g1, g2, hg⟩ := hstp j (by omega)
  obtain ⟨g4, g5, x1, x2, x3, x4⟩ := hnx j hlt
  have x5 := fun v hv => hno j v hlt hv
  have hapl : (IR (cN (f :: pth.take j))).length = j + 1 := by simp; omega
  have hlst : (dobj 1 (IR (cN (f :: pth.take j)))).rows[0 + (((j + 1 : Nat) : Int) - 1).toNat]? = some [I (nd j : Nat)] := by
    rw [show (((j + 1 : Nat) : Int) - 1).toNat = j by omega]; exact cNr_get hg
  have hpj : f :: pth.take (j + 1) = (f :: pth.take j) ++ [nx j] := by rw [g4]; rfl
  generalize nx j = xj at *
  generalize nd j = at0 at *
  obtain ⟨m, hm⟩ : ∃ m, kk - j = m + 1 := ⟨kk - j - 1, by omega⟩
  have e1 : kk - j - 1 = m := by omega
  rw [e1] at x3 x4
  rw [hm] at g1 x4
  simp only [e1, hm] at x5
  have hmi : (kk : Int) - (j : Nat) = ((m + 1 : Nat) : Int) := by omega
  rw [hmi]
  repeat' (first | ((first | apply Ba | (apply Bb; (· rfl); (· rfl)) | (apply Bc; (· exact nxE)) | (apply Bd; (· rfl); (· rfl); (· exact nxE))); (· first | exact OpOk.loadCell rfl rfl rfl rfl hlst rfl | exact Ok.pe)) | ((first | apply Ca | (apply Cb; (· exact nxE))); (· first | exact Ok.e0)) | refine Sx ?_ | (refine Sy (fun h => ?_) (fun h => ?_) <;> try (exfalso; omega; done)) | refine Sz (fun h => ?_) (fun h => ?_))
  refine AW.loop (X := {k : Nat // k ≤ xj}) (fun k => ⟨[TL t, Oo, Oo, Oo, Oo, Oo, Oo, Oo, Oo, I n, .own 1 ⟨1, []⟩ 0 (kk + 1), Oo, .own 1 ⟨0, []⟩ 0 (j + 1), I (m + 1 : Nat), I at0, Oo, Oo, Oo, Oo, Oo, Oo, Oo, Oo, Oo, Oo, Oo, Oo, Oo, Oo, Oo, Oo, Oo, Oo, Oo, Oo, Oo, Oo, Oo, Oo, Oo, Oo, Oo, Oo, Oo, Oo, Oo, Oo, Oo, Oo, Oo, Oo, Oo, Oo, Oo, Oo, Oo, Oo, Oo, Oo, Oo, Oo, Oo, Oo, Oo, Oo, Oo, Oo, Oo, Oo, Oo, Oo, Oo, Oo, Oo, Oo, Oo, Oo, Oo, Oo, Oo, Oo, Oo, Oo, Oo, I n, I (k.1 : Nat), Oo, Oo, Oo, Oo, Oo, Oo, Oo, Oo, Oo, Oo, Oo, Oo, Oo, Oo, Oo, Oo, Oo, Oo, Oo, Oo, Oo, Oo, Oo, Oo, Oo, Oo, Oo, Oo, Oo, Oo, Oo, Oo, Oo, Oo, Oo, Oo, Oo, Oo, Oo, Oo, Oo, Oo, Oo, Oo, Oo, Oo, Oo, Oo], heapX [(⟨0, []⟩, ⟨0, []⟩, IO (cN (f :: pth.take j)))] [mi1 ⟨1, []⟩ (TR (tabF (kk + 1) n dk))], 900⟩) (fun k => xj - k.1) ⟨0, Nat.zero_le _⟩ ?_ (fun k => ?_)
  ·
    (apply Le.headG [_] [{ l := ⟨1, []⟩, k := 1, R := TR (tabF (kk + 1) n dk), src := ⟨1, []⟩, base := ⟨1, []⟩ }] (fun _ => False))
    (case' hlen => rfl)
    (case' hms => rfl)
    all_goals (try dsimp only [srcs])
    (case' hfr | hob => (repeat' (first | refine La ?_ ?_ | exact Lc | refine Lo ?_ | refine ⟨⟨_, rfl, ?_⟩, ?_⟩ | refine Lx ?_)))
    (case' hok => first | exact ⟨MI.ok_same rfl (Cg), trivial⟩ | exact trivial)
    (case' hN => rfl)
    (case' hS => rfl)
    all_goals (first | exact Ld | ((first | rfl | exact congrArg (fun x : Int => I x) (by omega) | (simp [AllP]; done) | (simp [AllP, tabF_len, TR_len]; done) | (simp [AllP, tabF_len, TR_len]; omega))))
  obtain ⟨v, hv⟩ := k
  simp only
  have hvn : v < n := by omega
  obtain ⟨r, q1, q2, q3⟩ := hsg v at0 hvn g2
  have hrm : (TR (tabF (kk + 1) n dk))[(((m + 1 : Nat) : Int) - 1).toNat]? = some (IR (rowF n (dk m))) := by
    rw [show (((m + 1 : Nat) : Int) - 1).toNat = m by omega]; exact TRF_get (by omega)
  have hrm1 : (TR (tabF (kk + 1) n dk))[((m + 1 : Nat) : Int).toNat]? = some (IR (rowF n (dk (m + 1)))) := by
    rw [Int.toNat_natCast]; exact TRF_get (by omega)
  have hlm : (IR (rowF n (dk m))).length = n := by rw [IR_len, rowF_len]
  have hlm1 : (IR (rowF n (dk (m + 1)))).length = n := by rw [IR_len, rowF_len]
  have hgm : (IR (rowF n (dk m)))[v]? = some [DI (dk m v)] := IRF_get hvn
  have hga : (IR (rowF n (dk (m + 1))))[at0]? = some [DI (dk (m + 1) at0)] := IRF_get g2
  have hmid := congrArg (Option.map (dobj 1)) hrm
  have hmid1 := congrArg (Option.map (dobj 1)) hrm1
  have hxb := hbd v at0 hvn g2
  have hdb := hsm m (by omega) v
  by_cases hlt2 : v < xj
  · have hno' := x5 v hlt2
    by_cases c1 : entN t v at0 = BOT
    · rw [c1] at q2
      unfold BOT at q2
      repeat' (first | ((first | apply Ba | (apply Bb; (· rfl); (· rfl)) | (apply Bc; (· exact nxE)) | (apply Bd; (· rfl); (· rfl); (· exact nxE))); (· first | exact Ok.pe)) | ((first | apply Ca | (apply Cb; (· exact nxE))); (· first | exact Ok.e0)) | refine Sx ?_ | (refine Sy (fun h => ?_) (fun h => ?_) <;> try (exfalso; omega; done)) | refine Sz (fun h => ?_) (fun h => ?_))
      refine ⟨⟨v + 1, by omega⟩, ?_, by simp only; omega⟩
      (apply Le.headG [_] [{ l := ⟨1, []⟩, k := 1, R := TR (tabF (kk + 1) n dk), src := ⟨1, []⟩, base := ⟨1, []⟩ }] (fun _ => False))
      (case' hlen => rfl)
      (case' hms => rfl)
      all_goals (try dsimp only [srcs])
      (case' hfr | hob => (repeat' (first | refine La ?_ ?_ | exact Lc | refine Lo ?_ | refine ⟨⟨_, rfl, ?_⟩, ?_⟩ | refine Lx ?_)))
      (case' hok => first | exact ⟨MI.ok_same rfl (Cg), trivial⟩ | exact trivial)
      (case' hN => rfl)
      (case' hS => rfl)
      all_goals (first | exact Ld | ((first | rfl | exact congrArg (fun x : Int => I x) (by omega) | (simp [AllP]; done) | (simp [AllP, tabF_len, TR_len]; done) | (simp [AllP, tabF_len, TR_len]; omega))))
    by_cases c2 : dk m v = BOT
    · rw [c2] at hgm
      unfold BOT at hgm
      generalize entN t v at0 = x at *
      unfold BOT at c1
      repeat' (first | ((first | apply Ba | (apply Bb; (· rfl); (· rfl)) | (apply Bc; (· exact nxE)) | (apply Bd; (· rfl); (· rfl); (· exact nxE))); (· first | exact Ok.ldTn rfl rfl rfl hrm hlm | exact Ok.ld1 rfl rfl hmid hgm | exact Ok.pe)) | ((first | apply Ca | (apply Cb; (· exact nxE))); (· first | exact Ok.e0)) | refine Sx ?_ | (refine Sy (fun h => ?_) (fun h => ?_) <;> try (exfalso; omega; done)) | refine Sz (fun h => ?_) (fun h => ?_))
      refine ⟨⟨v + 1, by omega⟩, ?_, by simp only; omega⟩
      (apply Le.headG [_] [{ l := ⟨1, []⟩, k := 1, R := TR (tabF (kk + 1) n dk), src := ⟨1, []⟩, base := ⟨1, []⟩ }] (fun _ => False))
      (case' hlen => rfl)
      (case' hms => rfl)
      all_goals (try dsimp only [srcs])
      (case' hfr | hob => (repeat' (first | refine La ?_ ?_ | exact Lc | refine Lo ?_ | refine ⟨⟨_, rfl, ?_⟩, ?_⟩ | refine Lx ?_)))
      (case' hok => first | exact ⟨MI.ok_same rfl (Cg), trivial⟩ | exact trivial)
      (case' hN => rfl)
      (case' hS => rfl)
      all_goals (first | exact Ld | ((first | rfl | exact congrArg (fun x : Int => I x) (by omega) | (simp [AllP]; done) | (simp [AllP, tabF_len, TR_len]; done) | (simp [AllP, tabF_len, TR_len]; omega))))
    · have c3 : entN t v at0 + dk m v ≠ dk (m + 1) at0 := fun e => hno' ⟨c1, c2, e⟩
      replace hxb := hxb.resolve_left c1
      replace hdb := hdb.resolve_left c2
      generalize entN t v at0 = x at *
      generalize dk m v = y at *
      generalize dk (m + 1) at0 = w at *
      unfold BOT at c1 c2
      repeat' (first | ((first | apply Ba | (apply Bb; (· rfl); (· rfl)) | (apply Bc; (· exact nxE)) | (apply Bd; (· rfl); (· rfl); (· exact nxE))); (· first | exact Ok.ldTn rfl rfl rfl hrm hlm | exact Ok.ld1 rfl rfl hmid hgm | exact Ok.ldTn rfl rfl rfl hrm1 hlm1 | exact Ok.ld1 rfl rfl hmid1 hga | exact Ok.pe)) | ((first | apply Ca | (apply Cb; (· exact nxE))); (· first | exact Ok.e0)) | refine Sx ?_ | (refine Sy (fun h => ?_) (fun h => ?_) <;> try (exfalso; omega; done)) | refine Sz (fun h => ?_) (fun h => ?_))
      refine ⟨⟨v + 1, by omega⟩, ?_, by simp only; omega⟩
      (apply Le.headG [_] [{ l := ⟨1, []⟩, k := 1, R := TR (tabF (kk + 1) n dk), src := ⟨1, []⟩, base := ⟨1, []⟩ }] (fun _ => False))
      (case' hlen => rfl)
      (case' hms => rfl)
      all_goals (try dsimp only [srcs])
      (case' hfr | hob => (repeat' (first | refine La ?_ ?_ | exact Lc | refine Lo ?_ | refine ⟨⟨_, rfl, ?_⟩, ?_⟩ | refine Lx ?_)))
      (case' hok => first | exact ⟨MI.ok_same rfl (Cg), trivial⟩ | exact trivial)
      (case' hN => rfl)
      (case' hS => rfl)
      all_goals (first | exact Ld | ((first | rfl | exact congrArg (fun x : Int => I x) (by omega) | (simp [AllP]; done) | (simp [AllP, tabF_len, TR_len]; done) | (simp [AllP, tabF_len, TR_len]; omega))))
  · obtain rfl : v = xj := by omega
    replace hxb := hxb.resolve_left x2
    replace hdb := hdb.resolve_left x3
    have hm2 : ((m + 1 : Nat) : Int) - 1 = (kk : Int) - ((j + 1 : Nat) : Int) := by omega
    generalize entN t v at0 = x at *
    generalize dk m v = y at *
    generalize dk (m + 1) at0 = w at *
    unfold BOT at x2 x3
    repeat' (first | ((first | apply Ba | (apply Bb; (· rfl); (· rfl)) | (apply Bc; (· exact nxE)) | (apply Bd; (· rfl); (· rfl); (· exact nxE))); (· first | exact Ok.ldTn rfl rfl rfl hrm hlm | exact Ok.ld1 rfl rfl hmid hgm | exact Ok.ldTn rfl rfl rfl hrm1 hlm1 | exact Ok.ld1 rfl rfl hmid1 hga | exact Ok.append1 (row := [DI (v : Nat)]) rfl rfl (by decide) rfl rfl hapl rfl rfl rfl (by rfl) (by omega) (by omega) | exact Ok.pe)) | ((first | apply Ca | (apply Cb; (· exact nxE))); (· first | exact Ok.append1 (row := [DI (v : Nat)]) rfl rfl (by decide) rfl rfl hapl rfl rfl rfl (by rfl) (by omega) (by omega) | exact Ok.e0)) | refine Sx ?_ | (refine Sy (fun h => ?_) (fun h => ?_) <;> try (exfalso; omega; done)) | refine Sz (fun h => ?_) (fun h => ?_))
    refine ⟨⟨j + 1, by omega⟩, ?_, by simp only; omega⟩
    rw [hpj]
    (apply Le.headG [_] [{ l := ⟨1, []⟩, k := 1, R := TR (tabF (kk + 1) n dk), src := ⟨1, []⟩, base := ⟨1, []⟩ }] (fun _ => False))
    (case' hlen => rfl)
    (case' hms => rfl)
    all_goals (try dsimp only [srcs])
    (case' hfr | hob => (repeat' (first | refine La ?_ ?_ | exact Lc | refine Lo ?_ | refine ⟨⟨_, rfl, ?_⟩, ?_⟩ | refine Lx ?_)))
    (case' hok => first | exact ⟨MI.ok_same rfl (Cg), trivial⟩ | exact trivial)
    (case' hN => rfl)
    (case' hS => rfl)
    all_goals (first | exact Ld | ((first | rfl | exact congrArg (fun x : Int => I x) (by omega) | (simp [AllP]; done) | (simp [AllP, tabF_len, TR_len]; done) | (simp [AllP, tabF_len, TR_len]; omega))))
end Go.Proofs.Ytkpoclbnnpglfaa
end

section
namespace Go.Proofs.Ytkpoclbnnpglfaa
set_option linter.unusedSimpArgs false
set_option linter.unusedVariables false
open Go Go.RowKit
attribute [local irreducible] AL AD AW OpOk Le AC thenQ blockQ EndQ

/-- The matrix of the greatest weights of walks of k arcs. -/
abbrev hwM (W : Nat → Nat → Int) (n k : Nat) : List (List Int) := tabF n n fun i u => hwF W n i k u
abbrev pwD (W : Nat → Nat → Int) (n k : Nat) : List (List D) := (List.range k).map fun j => [D.sl 1 (mRows 1 (TR (hwM W n j)))]
theorem pwD_succ [Mode] {W : Nat → Nat → Int} {n k : Nat} : pwD W n (k + 1) = pwD W n k ++ [[D.sl 1 (mRows 1 (TR (hwM W n k)))]] := by simp [pwD, List.range_succ]
theorem pwD_len [Mode] {W : Nat → Nat → Int} {n k : Nat} : (pwD W n k).length = k := by simp [pwD]
theorem pwD_row [Mode] {W : Nat → Nat → Int} {n k j : Nat} (h : j < k) : (dobj 1 (pwD W n k)).rows[0 + j]? = some [TL (hwM W n j)] := by
  simp [dobj, pwD, h]
theorem hwMul_ac [Mode] (t : List (List Int)) (n : Nat) (h : BmOk t n) (k : Nat) (hk : k ≤ 100) : AC Try.prog 66 [TL (hwM (entN t) n k), TL t] H0 (TL (hwM (entN t) n (k + 1))) H0 := by
  have hn := h.nn
  have hM := l02Multiply_ac n (hwM (entN t) n k) t tabF_rc ⟨h.sq.l, h.sq.r⟩ (by omega) h.n0 (fun i q j hi hq hj h1 h2 => by
    rw [tabF_ent hi hq] at h1 ⊢
    have g1 := (hwF_sm h (z := i) hk q).resolve_left h1
    have g2 := h.all j q h2
    show _ ≤ hwF (entN t) n i k q + _ ∧ hwF (entN t) n i k q + _ ≤ _
    omega)
  have e : tabF n n (mulF (hwM (entN t) n k) t n) = hwM (entN t) n (k + 1) := tabF_congr fun i u hi hu => by
    show maxN (fun v => timesB (entN (hwM (entN t) n k) i v) (entN t v u)) n = maxN (fun v => timesB (entN t v u) (hwF (entN t) n i k v)) n
    exact maxN_congr fun v hv => by rw [tabF_ent hi hv, timesB_comm]
  rw [e] at hM
  exact hM.frzT (by rw [TR_len, tabF_len])
/-- The least node of the last q that a property has, or -1. -/
def selF (c : Nat → Bool) (n : Nat) : Nat → Int
  | 0 => -1
  | q + 1 => if c (n - 1 - q) = true then ((n - 1 - q : Nat) : Int) else selF c n q
theorem selF_at [Mode] {c : Nat → Bool} {n x : Nat} (hx : x < n) (h1 : c x = true) (h2 : ∀ v, v < x → c v = false) : ∀ q, q ≤ n → n - q ≤ x → selF c n q = (x : Int)
  | 0, _, h => by omega
  | q + 1, hq, h => by
    unfold selF
    by_cases e : n - 1 - q = x
    · rw [e, if_pos h1]
    · rw [if_neg (by rw [h2 (n - 1 - q) (by omega)]; simp)]
      exact selF_at hx h1 h2 q (by omega) (by omega)
theorem selF_rng [Mode] {c : Nat → Bool} {n : Nat} : ∀ q, -1 ≤ selF c n q ∧ selF c n q < n + 1
  | 0 => by unfold selF; omega
  | q + 1 => by
    unfold selF
    have := selF_rng (c := c) (n := n) q
    split <;> omega
set_option maxHeartbeats 16000000 in
theorem sHeaviestPath_ac [Mode] (t : List (List Int)) (n f z kk : Nat) (h : BmOk t n) (hnp : NoPos (entN t) n) (hf : f < n) (hz : z < n) (hkk : kk ≤ n) (h1 : hwF (entN t) n z kk f = starF (entN t) n z f) (h2 : ∀ j, j < kk → hwF (entN t) n z j f ≠ starF (entN t) n z f) (hne : starF (entN t) n z f ≠ BOT) : AC Try.prog 34 [TL t, I f, I z] H0 (.tup [own1 1 (kk + 1), I 0]) (hp1 (IO (cN (f :: hpT (entN t) n z kk f)))) := by
  have hn := h.nn
  have htl : (mRows 1 (TR t)).length = n := by rw [mTR_len, h.sq.l]
  have hQ := l02Square_ac t (by have := h.sq.l; omega) (fun r hr => by have := h.sq.r r hr; omega)
  rw [h.isSq] at hQ
  have hN : ∀ v : Nat, v < n → AC Try.prog 84 [TL t, I v] H0 (Bo true) H0 := fun v hv => by
    have hh := l03Node_ac t v (by have := h.sq.l; omega)
    rw [show nodB t v = true by unfold nodB; rw [wi_iff, h.sq.l]; omega] at hh
    exact hh
  have hN1 := hN f hf
  have hN2 := hN z hz
  have hS := (l03Star_ac t n (h.sb.m hnp)).frzT2 (by rw [TR_len, tabF_len])
  have hU : AC Try.prog 65 [I n] H0 (TL (hwM (entN t) n 0)) H0 := (l02Unit_ac n (by omega)).frzT (by rw [TR_len, tabF_len])
  have hMu := fun k hk => hwMul_ac t n h k hk
  obtain ⟨nd, nx, hF⟩ := hpF_ex (W := entN t) (n := n) (z := z) (kk := kk) (f := f) (by rw [h1]; exact hne) hf
  have hsm := fun k hk u => hwF_sm h (z := z) (k := k) hk u
  have hrow := fun (k j : Nat) (hj : j < k) => pwD_row (W := entN t) (n := n) hj
  have hrz : ∀ k, (mRows 1 (TR (hwM (entN t) n k)))[((z : Nat) : Int).toNat]? = some [.sl 1 (IR (rowF n (hwF (entN t) n z k)))] := fun k => by
    rw [Int.toNat_natCast]; exact TR_get (tabF_get hz)
  obtain ⟨sr, s1, s2, s3⟩ : ∃ r, (mRows 1 (TR (tabF n n (starF (entN t) n))))[((z : Nat) : Int).toNat]? = some [.sl 1 (IR r)] ∧ (IR r)[((f : Nat) : Int).toNat]? = some [DI (starF (entN t) n z f)] ∧ (IR r).length = n :=
    ⟨_, by rw [Int.toNat_natCast]; exact TR_get (tabF_get hz), by rw [Int.toNat_natCast]; exact IRF_get hf, by rw [IR_len, rowF_len]⟩
  have hbd := h.bnd
  have hsg : ∀ i j, i < n → j < n → ∃ r, (mRows 1 (TR t))[((i : Nat) : Int).toNat]? = some [.sl 1 (IR r)] ∧ (IR r)[((j : Nat) : Int).toNat]? = some [DI (entN t i j)] ∧ (IR r).length = n := fun i j hi hj => by
    obtain ⟨r, h1, h2, h3⟩ := h.sq.get hi hj
    exact ⟨r, TR_get h1, IR_get h2, by rw [IR_len, h3]⟩
  have hss := hsm kk (by omega) f
  have hw0 : ∀ k, (hwM (entN t) n k).length = n := fun k => tabF_len
  rw [h1] at hss
  have hpl0 := fun k => pwD_len (W := entN t) (n := n) (k := k)
  have hps := fun k => pwD_succ (W := entN t) (n := n) (k := k)
  generalize pwD (entN t) n = pw at *
  generalize hwM (entN t) n = hm at *
  generalize hwF (entN t) n z = dk at *
  generalize hpT (entN t) n z kk f = pth at *
  obtain ⟨hpl, hnd0, hstp, hnx, hno⟩ := hF
  have hpa : pth.take kk = pth := List.take_of_length_le (by omega)
  generalize starF (entN t) n z f = sv at *
  generalize tabF n n (starF (entN t) n) = st at *
  replace hss := hss.resolve_left hne
  unfold BOT at hne
  refine AC.of_body 0 Try.func34 rfl (fun l h => absurd rfl h) (fun C hC => ?_)
  have hD : ∀ l, ¬ C.D0 l := fun l h => (hC l).1 h rfl
  simp only [startFr, Try.ntmps34, List.length_cons, List.length_nil, Nat.reduceAdd, Nat.reduceSub, List.replicate_succ, List.replicate_zero, List.cons_append, List.nil_append]
  repeat' (first | ((first | apply Ba | (apply Bb; (· rfl); (· rfl)) | (apply Bc; (· exact nxE)) | (apply Bd; (· rfl); (· rfl); (· exact nxE))); (· first | exact Ok.lenD rfl rfl htl | exact Kz rfl rfl (hQ) (Ad An) | exact Kz rfl rfl (hN1) (Ad (Ad An)) | exact Kz rfl rfl (hN2) (Ad (Ad An)) | exact Kz rfl rfl (hS) (Ad An) | exact Kz rfl rfl (hU) (Ad An) | exact Ok.pe)) | ((first | apply Ca | (apply Cb; (· exact nxE))); (· first | exact Ok.e0)) | refine Sx ?_ | (refine Sy (fun h => ?_) (fun h => ?_) <;> try (exfalso; omega; done)) | refine Sz (fun h => ?_) (fun h => ?_))
  have hpw1 : pw (0 + 1) = [[D.sl 1 (mRows 1 (TR (hm 0)))]] := by rw [hps 0, List.length_eq_zero_iff.1 (hpl0 0)]; rfl
  refine AW.loop (X := {k : Nat // k ≤ kk}) (fun k => ⟨[TL t, I f, I z, Oo, Oo, Oo, Oo, Oo, TL st, Oo, .own 1 ⟨0, []⟩ 0 ((k.1 : Nat) + 1), Oo, Oo, Oo, Oo, Oo, Oo, Oo, Oo, Oo, Oo, Oo, Oo, Oo, Oo, Oo, Oo, Oo, Oo, Oo, Oo, Oo, Oo, Oo, Oo, Oo, Oo, Oo, Oo, Oo, Oo, Oo, Oo, Oo, Oo, Oo, Oo, Oo, Oo, Oo, Oo, Oo, Oo, Oo, Oo, Oo, Oo, Oo, Oo, Oo, Oo, Oo, Oo, Oo, Oo, Oo, Oo, Oo, Oo, Oo, Oo, Oo, Oo, Oo, Oo, Oo, Oo, Oo, Oo, Oo, Oo, Oo, Oo, Oo, Oo, Oo, Oo, Oo, Oo, Oo, Oo, Oo, Oo, Oo, Oo, Oo, Oo, Oo, Oo, Oo, Oo, Oo, Oo, Oo, Oo, Oo, Oo, Oo, Oo, Oo, Oo, Oo, Oo, Oo, Oo, Oo, Oo, Oo, Oo, Oo, Oo, Oo, Oo, Oo, Oo, Oo, Oo, Oo, Oo, Oo, Oo, Oo, Oo, Oo, Oo, Oo, Oo, Oo, Oo, Oo, Oo, Oo, Oo, Oo, Oo, Oo, Oo, Oo, Oo, Oo, Oo, Oo, Oo, Oo, Oo, Oo], heapL [(⟨0, []⟩, ⟨0, []⟩, dobj 1 (pw (k.1 + 1)))], 900⟩) (fun k => kk - k.1) ⟨0, Nat.zero_le _⟩ ?_ (fun k => ?_)
  ·
    (apply Le.headZ [_] rfl)
    all_goals (try dsimp only [srcs])
    (case' hfr | hob => (repeat' (first | refine La ?_ ?_ | exact Lc | refine Lo ?_ | refine ⟨⟨_, rfl, ?_⟩, ?_⟩ | refine Lx ?_)))
    all_goals (first | ((first | rfl | (rw [hpw1]; rfl))) | exact Ld)
  obtain ⟨k, hk⟩ := k
  simp only
  have hlst : (dobj 1 (pw (k + 1))).rows[0 + (((k + 1 : Nat) : Int) - 1).toNat]? = some [TL (hm k)] := by
    rw [show (((k + 1 : Nat) : Int) - 1).toNat = k by omega]; exact hrow (k + 1) k (by omega)
  have hrzk := hrz k
  have hml := hw0 k
  have hgf : (IR (rowF n (dk k)))[((f : Nat) : Int).toNat]? = some [DI (dk k f)] := by rw [Int.toNat_natCast]; exact IRF_get hf
  have hapl : (pw (k + 1)).length = k + 1 := hpl0 _
  by_cases hlt : k < kk
  · have hne2 := h2 k hlt
    have hM := hMu k (by omega)
    repeat' (first | ((first | apply Ba | (apply Bb; (· rfl); (· rfl)) | (apply Bc; (· exact nxE)) | (apply Bd; (· rfl); (· rfl); (· exact nxE))); (· first | exact OpOk.loadCell rfl rfl rfl rfl hlst rfl | exact Kz rfl rfl (hM) (Ad (Ad An)) | exact Ok.append1 (row := [D.sl 1 (mRows 1 (TR (hm (k + 1))))]) rfl rfl (by decide) rfl rfl hapl rfl rfl rfl (by rfl) (by omega) (by omega) | exact Ok.pe)) | ((first | apply Ca | (apply Cb; (· exact nxE))); (· first | exact Ok.append1 (row := [D.sl 1 (mRows 1 (TR (hm (k + 1))))]) rfl rfl (by decide) rfl rfl hapl rfl rfl rfl (by rfl) (by omega) (by omega) | exact Ok.e0)) | refine Sx ?_ | (refine Sy (fun h => ?_) (fun h => ?_) <;> try (exfalso; omega; done)) | refine Sz (fun h => ?_) (fun h => ?_))
    refine ⟨⟨k + 1, by omega⟩, ?_, by simp only; omega⟩
    rw [hps (k + 1)]
    (apply Le.headZ [_] rfl)
    all_goals (try dsimp only [srcs])
    (case' hfr | hob => (repeat' (first | refine La ?_ ?_ | exact Lc | refine Lo ?_ | refine ⟨⟨_, rfl, ?_⟩, ?_⟩ | refine Lx ?_)))
    all_goals (first | (rfl) | exact Ld)
  obtain rfl : kk = k := by omega
  rw [h1] at hgf
  repeat' (first | ((first | apply Ba | (apply Bb; (· rfl); (· rfl)) | (apply Bc; (· exact nxE)) | (apply Bd; (· rfl); (· rfl); (· exact nxE))); (· first | exact OpOk.loadCell rfl rfl rfl rfl hlst rfl | exact Ok.pe)) | ((first | apply Ca | (apply Cb; (· exact nxE))); (· first | exact Ok.e0)) | refine Sx ?_ | (refine Sy (fun h => ?_) (fun h => ?_) <;> try (exfalso; omega; done)) | refine Sz (fun h => ?_) (fun h => ?_))
  clear hlst hrzk hgf
  refine AW.loop (X := {k : Nat // k ≤ kk}) (fun k => ⟨[TL t, Oo, I z, Oo, Oo, Oo, Oo, Oo, Oo, Oo, .own 1 ⟨0, []⟩ 0 (kk + 1), .own 1 ⟨1, []⟩ 0 ((k.1 : Nat) + 1), I (dk (kk - (k.1 : Nat)) (nd (k.1 : Nat))), I ((kk : Int) - 1 - ((k.1 : Nat) : Nat)), Oo, Oo, Oo, Oo, Oo, Oo, Oo, Oo, Oo, Oo, Oo, Oo, Oo, Oo, Oo, Oo, Oo, Oo, Oo, Oo, Oo, Oo, Oo, Oo, Oo, Oo, Oo, Oo, Oo, Oo, Oo, Oo, Oo, Oo, Oo, Oo, Oo, Oo, Oo, Oo, Oo, Oo, Oo, Oo, Oo, Oo, Oo, Oo, Oo, Oo, Oo, Oo, Oo, Oo, Oo, Oo, Oo, Oo, Oo, Oo, Oo, Oo, Oo, Oo, Oo, Oo, Oo, Oo, Oo, Oo, Oo, Oo, Oo, Oo, Oo, Oo, Oo, Oo, Oo, Oo, Oo, Oo, Oo, Oo, Oo, Oo, Oo, Oo, Oo, Oo, Oo, Oo, Oo, Oo, Oo, Oo, Oo, Oo, Oo, Oo, Oo, Oo, Oo, Oo, Oo, Oo, Oo, Oo, Oo, Oo, Oo, Oo, Oo, Oo, Oo, Oo, Oo, Oo, Oo, Oo, Oo, Oo, Oo, Oo, Oo, Oo, Oo, Oo, Oo, Oo, Oo, Oo, Oo, Oo, Oo, Oo, Oo, Oo, Oo, Oo, Oo, Oo], heapL [(⟨0, []⟩, ⟨0, []⟩, dobj 1 (pw (kk + 1))), (⟨1, []⟩, ⟨1, []⟩, IO (cN (f :: pth.take k.1)))], 900⟩) (fun k => kk - k.1) ⟨0, Nat.zero_le _⟩ ?_ (fun k => ?_)
  ·
    have e0 : dk (kk - 0) (nd 0) = sv := by rw [hnd0]; exact h1
    rw [e0]
    (apply Le.headZ [_, _] rfl)
    all_goals (try dsimp only [srcs])
    (case' hfr | hob => (repeat' (first | refine La ?_ ?_ | exact Lc | refine Lo ?_ | refine ⟨⟨_, rfl, ?_⟩, ?_⟩ | refine Lx ?_)))
    all_goals (first | ((first | rfl | exact congrArg (fun x : Int => I x) (by omega))) | exact Ld)
  obtain ⟨j, hj⟩ := k
  simp only
  by_cases hlt : j < kk
  case neg =>
    obtain rfl : kk = j := by omega
    rw [hpa]
    repeat' (first | ((first | apply Ba | (apply Bb; (· rfl); (· rfl)) | (apply Bc; (· exact nxE)) | (apply Bd; (· rfl); (· rfl); (· exact nxE))); (· first | exact Ok.pe)) | ((first | apply Ca | (apply Cb; (· exact nxE))); (· first | exact Ok.e0)) | refine Sx ?_ | (refine Sy (fun h => ?_) (fun h => ?_) <;> try (exfalso; omega; done)) | refine Sz (fun h => ?_) (fun h => ?_))
    refine Yb ?_
    (apply Le.head [(⟨0, []⟩, _, _)])
    (case' hfr | hob => (repeat' (first | refine La ?_ ?_ | exact Lc | refine Lo ?_ | refine ⟨⟨_, rfl, ?_⟩, ?_⟩ | refine Lx ?_)))
    all_goals (first | exact Ld | (rfl))
  obtain ⟨g1, g2, hg⟩ := hstp j (by omega)
  obtain ⟨g4, g5, x1, x2, x3, x4⟩ := hnx j hlt
  have x5 := fun v hv => hno j v hlt hv
  have hapl2 : (IR (cN (f :: pth.take j))).length = j + 1 := by simp; omega
  have hlst : (dobj 1 (IR (cN (f :: pth.take j)))).rows[0 + (((j + 1 : Nat) : Int) - 1).toNat]? = some [I (nd j : Nat)] := by
    rw [show (((j + 1 : Nat) : Int) - 1).toNat = j by omega]; exact cNr_get hg
  have hpj : f :: pth.take (j + 1) = (f :: pth.take j) ++ [nx j] := by rw [g4]; rfl
  generalize nx j = xj at *
  obtain ⟨at0, hat0⟩ : ∃ a, nd j = a := ⟨_, rfl⟩
  rw [hat0] at g1 g2 hg x2 x4 hlst
  simp only [hat0] at x5
  try rw [hat0]
  obtain ⟨m, hm'⟩ : ∃ m, kk - j = m + 1 := ⟨kk - j - 1, by omega⟩
  have e1 : kk - j - 1 = m := by omega
  rw [e1] at x3 x4
  rw [hm'] at g1 x4
  simp only [e1, hm'] at x5
  have hm2 := hm'
  rw [hm']
  have hmi : (kk : Int) - 1 - (j : Nat) = (m : Nat) := by omega
  rw [hmi]
  have hpm : (dobj 1 (pw (kk + 1))).rows[0 + ((m : Nat) : Int).toNat]? = some [TL (hm m)] := by
    rw [Int.toNat_natCast]; exact hrow (kk + 1) m (by omega)
  have hrzm := hrz m
  obtain ⟨need, hneed⟩ : ∃ w, dk (m + 1) at0 = w := ⟨_, rfl⟩
  rw [hneed] at g1 x4
  simp only [hneed] at x5
  rw [hneed]
  obtain ⟨c, hc⟩ : ∃ c : Nat → Bool, ∀ v, c v = decide (entN t v at0 ≠ BOT ∧ dk m v ≠ BOT ∧ entN t v at0 + dk m v = need) := ⟨_, fun _ => rfl⟩
  have hsel := selF_at (c := c) (n := n) (x := xj) x1 (by rw [hc, decide_eq_true_eq]; exact ⟨x2, x3, x4⟩) (fun v hv => by rw [hc, decide_eq_false_iff_not]; exact x5 v hv) n (Nat.le_refl n) (by omega)
  have hsr := fun q => selF_rng (c := c) (n := n) q
  repeat' (first | ((first | apply Ba | (apply Bb; (· rfl); (· rfl)) | (apply Bc; (· exact nxE)) | (apply Bd; (· rfl); (· rfl); (· exact nxE))); (· first | exact OpOk.loadCell rfl rfl rfl rfl hlst rfl | exact Ok.lenD rfl rfl htl | exact Ok.pe)) | ((first | apply Ca | (apply Cb; (· exact nxE))); (· first | exact Ok.e0)) | refine Sx ?_ | (refine Sy (fun h => ?_) (fun h => ?_) <;> try (exfalso; omega; done)) | refine Sz (fun h => ?_) (fun h => ?_))
  refine AW.loop (X := {k : Nat // k ≤ n}) (fun k => ⟨[TL t, Oo, I z, Oo, Oo, Oo, Oo, Oo, Oo, Oo, .own 1 ⟨0, []⟩ 0 (kk + 1), .own 1 ⟨1, []⟩ 0 (j + 1), I need, I m, I at0, I (selF c n (k.1 : Nat)), I ((n : Int) - 1 - ((k.1 : Nat) : Nat)), Oo, Oo, Oo, Oo, Oo, Oo, Oo, Oo, Oo, Oo, Oo, Oo, Oo, Oo, Oo, Oo, Oo, Oo, Oo, Oo, Oo, Oo, Oo, Oo, Oo, Oo, Oo, Oo, Oo, Oo, Oo, Oo, Oo, Oo, Oo, Oo, Oo, Oo, Oo, Oo, Oo, Oo, Oo, Oo, Oo, Oo, Oo, Oo, Oo, Oo, Oo, Oo, Oo, Oo, Oo, Oo, Oo, Oo, Oo, Oo, Oo, Oo, Oo, Oo, Oo, Oo, Oo, Oo, Oo, Oo, Oo, Oo, Oo, Oo, Oo, Oo, Oo, Oo, Oo, Oo, Oo, Oo, Oo, Oo, Oo, Oo, Oo, Oo, Oo, Oo, Oo, Oo, Oo, Oo, Oo, Oo, Oo, Oo, Oo, Oo, Oo, Oo, Oo, Oo, Oo, Oo, Oo, Oo, Oo, Oo, Oo, Oo, Oo, Oo, Oo, Oo, Oo, Oo, Oo, Oo, Oo, Oo, Oo, Oo, Oo, Oo, Oo, Oo, Oo, Oo, Oo, Oo, Oo, Oo, Oo, Oo, Oo, Oo, Oo], heapL [(⟨0, []⟩, ⟨0, []⟩, dobj 1 (pw (kk + 1))), (⟨1, []⟩, ⟨1, []⟩, IO (cN (f :: pth.take j)))], 900⟩) (fun k => n - k.1) ⟨0, Nat.zero_le _⟩ ?_ (fun k => ?_)
  ·
    (apply Le.headZ [_, _] rfl)
    all_goals (try dsimp only [srcs])
    (case' hfr | hob => (repeat' (first | refine La ?_ ?_ | exact Lc | refine Lo ?_ | refine ⟨⟨_, rfl, ?_⟩, ?_⟩ | refine Lx ?_)))
    all_goals (first | ((first | rfl | exact congrArg (fun x : Int => I x) (by omega))) | exact Ld)
  obtain ⟨q, hq⟩ := k
  simp only
  by_cases hlt2 : q < n
  · obtain ⟨v, hv⟩ : ∃ v, n - 1 - q = v := ⟨_, rfl⟩
    have hvn : v < n := by omega
    have hvi : (n : Int) - 1 - (q : Nat) = (v : Nat) := by omega
    rw [hvi]
    obtain ⟨r, q1, q2, q3⟩ := hsg v at0 hvn g2
    have hgm : (IR (rowF n (dk m)))[((v : Nat) : Int).toNat]? = some [DI (dk m v)] := by rw [Int.toNat_natCast]; exact IRF_get hvn
    have hmm : (hm m).length = n := hw0 m
    have hxb := hbd v at0 hvn g2
    have hdb := hsm m (by omega) v
    have hstq : selF c n (q + 1) = if c v = true then (v : Int) else selF c n q := by rw [← hv]; rfl
    have hcv := hc v
    by_cases c1 : entN t v at0 = BOT
    · rw [if_neg (by rw [hcv, decide_eq_true_eq]; exact fun h => h.1 c1)] at hstq
      rw [c1] at q2
      unfold BOT at q2
      repeat' (first | ((first | apply Ba | (apply Bb; (· rfl); (· rfl)) | (apply Bc; (· exact nxE)) | (apply Bd; (· rfl); (· rfl); (· exact nxE))); (· first | exact Ok.pe)) | ((first | apply Ca | (apply Cb; (· exact nxE))); (· first | exact Ok.e0)) | refine Sx ?_ | (refine Sy (fun h => ?_) (fun h => ?_) <;> try (exfalso; omega; done)) | refine Sz (fun h => ?_) (fun h => ?_))
      refine ⟨⟨q + 1, by omega⟩, ?_, by simp only; omega⟩
      rw [hstq]
      (apply Le.headZ [_, _] rfl)
      all_goals (try dsimp only [srcs])
      (case' hfr | hob => (repeat' (first | refine La ?_ ?_ | exact Lc | refine Lo ?_ | refine ⟨⟨_, rfl, ?_⟩, ?_⟩ | refine Lx ?_)))
      all_goals (first | ((first | rfl | exact congrArg (fun x : Int => I x) (by omega))) | exact Ld)
    have hTm := l01Times_ac (entN t v at0) (dk m v) (fun a b => by have := hxb.resolve_left a; have := hdb.resolve_left b; omega)
    by_cases c2 : timesB (entN t v at0) (dk m v) = need
    · have hb : c v = true := by
        rw [hcv, decide_eq_true_eq]
        have hnb : timesB (entN t v at0) (dk m v) ≠ BOT := by rw [c2]; exact g1
        obtain ⟨b1, b2, b3⟩ := timesB_ne_iff hnb
        exact ⟨b1, b2, by rw [← b3]; exact c2⟩
      rw [if_pos hb] at hstq
      rw [c2] at hTm
      generalize entN t v at0 = x at *
      generalize dk m v = y at *
      unfold BOT at c1
      repeat' (first | ((first | apply Ba | (apply Bb; (· rfl); (· rfl)) | (apply Bc; (· exact nxE)) | (apply Bd; (· rfl); (· rfl); (· exact nxE))); (· first | exact OpOk.loadCell rfl rfl rfl rfl hpm rfl | exact Kz rfl rfl (hTm) (Ad (Ad An)) | exact Ok.pe)) | ((first | apply Ca | (apply Cb; (· exact nxE))); (· first | exact Ok.e0)) | refine Sx ?_ | (refine Sy (fun h => ?_) (fun h => ?_) <;> try (exfalso; omega; done)) | refine Sz (fun h => ?_) (fun h => ?_))
      refine ⟨⟨q + 1, by omega⟩, ?_, by simp only; omega⟩
      rw [hstq]
      (apply Le.headZ [_, _] rfl)
      all_goals (try dsimp only [srcs])
      (case' hfr | hob => (repeat' (first | refine La ?_ ?_ | exact Lc | refine Lo ?_ | refine ⟨⟨_, rfl, ?_⟩, ?_⟩ | refine Lx ?_)))
      all_goals (first | ((first | rfl | exact congrArg (fun x : Int => I x) (by omega))) | exact Ld)
    · have hb : ¬ c v = true := by
        rw [hcv, decide_eq_true_eq]
        rintro ⟨b1, b2, b3⟩
        exact c2 (by rw [timesB_ne b1 b2]; exact b3)
      rw [if_neg hb] at hstq
      generalize timesB (entN t v at0) (dk m v) = w at *
      generalize entN t v at0 = x at *
      generalize dk m v = y at *
      unfold BOT at c1
      repeat' (first | ((first | apply Ba | (apply Bb; (· rfl); (· rfl)) | (apply Bc; (· exact nxE)) | (apply Bd; (· rfl); (· rfl); (· exact nxE))); (· first | exact OpOk.loadCell rfl rfl rfl rfl hpm rfl | exact Kz rfl rfl (hTm) (Ad (Ad An)) | exact Ok.pe)) | ((first | apply Ca | (apply Cb; (· exact nxE))); (· first | exact Ok.e0)) | refine Sx ?_ | (refine Sy (fun h => ?_) (fun h => ?_) <;> try (exfalso; omega; done)) | refine Sz (fun h => ?_) (fun h => ?_))
      refine ⟨⟨q + 1, by omega⟩, ?_, by simp only; omega⟩
      rw [hstq]
      (apply Le.headZ [_, _] rfl)
      all_goals (try dsimp only [srcs])
      (case' hfr | hob => (repeat' (first | refine La ?_ ?_ | exact Lc | refine Lo ?_ | refine ⟨⟨_, rfl, ?_⟩, ?_⟩ | refine Lx ?_)))
      all_goals (first | ((first | rfl | exact congrArg (fun x : Int => I x) (by omega))) | exact Ld)
  · obtain rfl : n = q := by omega
    rw [hsel]
    obtain ⟨r, q1, q2, q3⟩ := hsg xj at0 x1 g2
    have hxb := (hbd xj at0 x1 g2).resolve_left x2
    have hdb := (hsm m (by omega) xj).resolve_left x3
    have hnn : dk (kk - (j + 1)) (nd (j + 1)) = need - entN t xj at0 := by
      rw [g5, show kk - (j + 1) = m by omega]; omega
    generalize entN t xj at0 = x at *
    repeat' (first | ((first | apply Ba | (apply Bb; (· rfl); (· rfl)) | (apply Bc; (· exact nxE)) | (apply Bd; (· rfl); (· rfl); (· exact nxE))); (· first | exact Ok.append1 (row := [DI (xj : Nat)]) rfl rfl (by decide) rfl rfl hapl2 rfl rfl rfl (by rfl) (by omega) (by omega) | exact Ok.pe)) | ((first | apply Ca | (apply Cb; (· exact nxE))); (· first | exact Ok.append1 (row := [DI (xj : Nat)]) rfl rfl (by decide) rfl rfl hapl2 rfl rfl rfl (by rfl) (by omega) (by omega) | exact Ok.e0)) | refine Sx ?_ | (refine Sy (fun h => ?_) (fun h => ?_) <;> try (exfalso; omega; done)) | refine Sz (fun h => ?_) (fun h => ?_))
    refine ⟨⟨j + 1, by omega⟩, ?_, by simp only; omega⟩
    rw [hpj, hnn]
    (apply Le.headZ [_, _] rfl)
    all_goals (try dsimp only [srcs])
    (case' hfr | hob => (repeat' (first | refine La ?_ ?_ | exact Lc | refine Lo ?_ | refine ⟨⟨_, rfl, ?_⟩, ?_⟩ | refine Lx ?_)))
    all_goals (first | ((first | rfl | exact congrArg (fun x : Int => I x) (by omega) | (simp [cN]; done))) | exact Ld)
end Go.Proofs.Ytkpoclbnnpglfaa
end
