/-
  Walks in the abstract reading, part 17.
-/
import Derived.Test.YtdgodkpobomneaaKwU3
import Derived.Test.YtdgodkpobomneaaKwU4
import Derived.Test.YtdgodkpobomneaaKwU8
import Derived.Test.YtdgodkpobomneaaKwU5
import Derived.Test.YtdgodkpobomneaaKwA3
import Derived.Test.YtdgodkpobomneaaKwU6
import Derived.Test.YtdgodkpobomneaaKwU12
section
namespace Go.Proofs.Ytdgodkpobomneaa
set_option linter.unusedSimpArgs false
set_option linter.unusedVariables false

structure FWX (W : Nat → Nat → Int) (n : Nat) (M : Int) (k : Nat) (s : Nat → Nat → Int) : Prop where
  bnd : ∀ u v, u < n → v < n → s v u ≠ BOT → -(M * 2 ^ k) ≤ s v u ∧ s v u ≤ M * 2 ^ k
  dia : ∀ u, u < n → s u u ≠ BOT ∧ 0 ≤ s u u
  arc : ∀ u v, u < n → v < n → W v u ≠ BOT → s v u ≠ BOT ∧ W v u ≤ s v u
  tr : ∀ u m v, u < n → m < k → m < n → v < n → s m u ≠ BOT → s v m ≠ BOT → s v u ≠ BOT ∧ s m u + s v m ≤ s v u
section
variable {W : Nat → Nat → Int} {n : Nat} {M : Int}
theorem FWX.start (hM : 0 ≤ M) (hMb : M < 1000000000000000) (hW : ∀ u v, W v u ≠ BOT → -M ≤ W v u ∧ W v u ≤ M) : FWX W n M 0 (fun i j => max (W i j) (if i = j then 0 else BOT)) := by
  have hb : ∀ u v, W v u = BOT ∨ (-M ≤ W v u ∧ W v u ≤ M) := fun u v => by
    by_cases h : W v u = BOT
    · exact .inl h
    · exact .inr (hW u v h)
  refine ⟨fun u v _ _ h => ?_, fun u _ => ?_, fun u v _ _ h => ?_, fun u m v _ h => by omega⟩
  · rw [Int.pow_zero, Int.mul_one]
    have h1 := hb u v
    revert h
    unfold BOT at *
    split <;> omega
  · have h1 := hb u u
    simp only [if_true]
    unfold BOT at *
    omega
  · have h1 := hW u v h
    unfold BOT at *
    split <;> omega
variable {k : Nat} {s : Nat → Nat → Int}
theorem FWX.step (hM : 0 ≤ M) (hMb : M * 2 ^ (k + 1) < 1000000000000000) (hk : k < n) (h : FWX W n M k s) (hkk : s k k = 0) : FWX W n M (k + 1) (fwS s k) ∧ (∀ i, i < n → fwS s k i k = s i k) ∧ ∀ j, j < n → fwS s k k j = s k j := by
  have hpow : M * 2 ^ (k + 1) = M * 2 ^ k * 2 := by rw [Int.pow_succ, Int.mul_assoc]
  have hp0 : 0 ≤ M * 2 ^ k := Int.mul_nonneg hM (Int.pow_nonneg (by omega))
  obtain ⟨hb, hd, ha, ht⟩ := h
  generalize M * 2 ^ k = B at *
  rw [hpow] at hMb
  have hc : ∀ v u, u < n → v < n → s v u = BOT ∨ (s v u ≠ BOT ∧ -B ≤ s v u ∧ s v u ≤ B) := fun v u hu hv => by
    by_cases e : s v u = BOT
    · exact .inl e
    · exact .inr ⟨e, hb u v hu hv e⟩
  have g1 : ∀ v u, u < n → v < n → s v u ≠ BOT → fwS s k v u ≠ BOT ∧ s v u ≤ fwS s k v u := fun v u hu hv h => by
    have := hb u v hu hv h
    unfold fwS BOT at *
    omega
  have g2 : ∀ v u, u < n → v < n → s v k ≠ BOT → s k u ≠ BOT → fwS s k v u ≠ BOT ∧ s v k + s k u ≤ fwS s k v u := fun v u hu hv h1 h2 => by
    have a1 := hb k v hk hv h1
    have a2 := hb u k hu hk h2
    unfold fwS
    rw [timesB_ne h1 h2]
    unfold BOT at *
    omega
  have g3 : ∀ v u, u < n → v < n → fwS s k v u ≠ BOT → (s v u ≠ BOT ∧ fwS s k v u = s v u) ∨ (s v k ≠ BOT ∧ s k u ≠ BOT ∧ fwS s k v u = s v k + s k u) := fun v u hu hv h => by
    have a0 := hc v u hu hv
    by_cases h1 : s v k = BOT
    · have e : fwS s k v u = max (s v u) BOT := by unfold fwS timesB; rw [if_pos (.inl h1)]
      rw [e] at h ⊢
      left; unfold BOT at *; omega
    · by_cases h2 : s k u = BOT
      · have e : fwS s k v u = max (s v u) BOT := by unfold fwS timesB; rw [if_pos (.inr h2)]
        rw [e] at h ⊢
        left; unfold BOT at *; omega
      · have a1 := hb k v hk hv h1
        have a2 := hb u k hu hk h2
        have e : fwS s k v u = max (s v u) (s v k + s k u) := by unfold fwS; rw [timesB_ne h1 h2]
        rw [e] at h ⊢
        by_cases h3 : s v u = BOT
        · right; refine ⟨h1, h2, ?_⟩; unfold BOT at *; omega
        · by_cases h4 : s v k + s k u ≤ s v u
          · left; exact ⟨h3, by omega⟩
          · right; exact ⟨h1, h2, by omega⟩
  refine ⟨⟨fun u v hu hv h => ?_, fun u hu => ?_, fun u v hu hv h => ?_, fun u m v hu hm hmn hv h1 h2 => ?_⟩, fun i hi => ?_, fun j hj => ?_⟩
  · rw [hpow]
    rcases g3 v u hu hv h with ⟨a, e⟩ | ⟨a, b, e⟩
    · have := hb u v hu hv a; omega
    · have := hb k v hk hv a
      have := hb u k hu hk b
      omega
  · obtain ⟨a, b⟩ := hd u hu
    have := g1 u u hu hu a
    exact ⟨this.1, by omega⟩
  · obtain ⟨a, b⟩ := ha u v hu hv h
    have := g1 v u hu hv a
    exact ⟨this.1, by omega⟩
  · by_cases e : m = k
    · subst e
      have e1 : fwS s m m u = s m u := by unfold fwS; rw [hkk, timesB_0']; omega
      have e2 : fwS s m v m = s v m := by unfold fwS; rw [hkk, timesB_0]; omega
      rw [e1] at h1 ⊢
      rw [e2] at h2 ⊢
      have := g2 v u hu hv h2 h1
      exact ⟨this.1, by omega⟩
    · have ih := fun u v hu hv => ht u m v hu (by omega) hmn hv
      rcases g3 m u hu hmn h1 with ⟨a, ea⟩ | ⟨a, a', ea⟩ <;> rcases g3 v m hmn hv h2 with ⟨b, eb⟩ | ⟨b, b', eb⟩
      · obtain ⟨i1, i2⟩ := ih u v hu hv a b
        have := g1 v u hu hv i1
        exact ⟨this.1, by omega⟩
      · obtain ⟨i1, i2⟩ := ih u k hu hk a b'
        have := g2 v u hu hv b i1
        exact ⟨this.1, by omega⟩
      · obtain ⟨i1, i2⟩ := ih k v hk hv a b
        have := g2 v u hu hv i1 a'
        exact ⟨this.1, by omega⟩
      · obtain ⟨i1, i2⟩ := ih k k hk hk a b'
        have := g2 v u hu hv b a'
        exact ⟨this.1, by omega⟩
  · unfold fwS; rw [hkk, timesB_0]; omega
  · unfold fwS; rw [hkk, timesB_0']; omega
theorem FWX.walk (h : FWX W n M n s) : ∀ (c : List Nat) (u v : Nat), u < n → v < n → (∀ x ∈ c, x < n) → WM W u c v → s v u ≠ BOT ∧ wM W u c v ≤ s v u
  | [], u, v, hu, hv, _, hw => h.arc u v hu hv hw
  | m :: c, u, v, hu, hv, hc, hw => by
    have hm := hc m (by simp)
    obtain ⟨a1, a2⟩ := h.arc u m hu hm hw.1
    obtain ⟨b1, b2⟩ := h.walk c m v hm hv (fun x hx => hc x (by simp [hx])) hw.2
    obtain ⟨c1, c2⟩ := h.tr u m v hu hm hm hv a1 b1
    exact ⟨c1, by simp only [wM]; omega⟩
/-- Where no diagonal is positive there is no positive cycle. -/
theorem FWX.np (h : FWX W n M n s) (h0 : ∀ u, u < n → s u u ≤ 0) : NoPos W n := fun u c hu hc hw => by
  have := h.walk c u u hu hu hc hw
  have := h0 u hu
  omega
end
end Go.Proofs.Ytdgodkpobomneaa
end

section
namespace Go.Proofs.Ytdgodkpobomneaa
set_option linter.unusedSimpArgs false
set_option linter.unusedVariables false
open Go Go.RowKit
attribute [local irreducible] AL AD AW OpOk Le AC thenQ blockQ EndQ

/-- A matrix whose star may not be there. -/
structure StarB (t : List (List Int)) (n : Nat) : Prop where
  rc : Rc t n n
  n0 : 0 < n
  nn : n ≤ 10
  bnd : ∀ u v, entN t v u ≠ BOT → -100000000000 ≤ entN t v u ∧ entN t v u ≤ 100000000000
theorem StarB.m [Mode] {t : List (List Int)} {n : Nat} (h : StarB t n) (hp : NoPos (entN t) n) : StarM t n := ⟨h.rc, h.n0, h.nn, h.bnd, hp⟩
section
variable {t : List (List Int)} {n : Nat} (h : StarB t n)
include h
theorem StarB.fwx [Mode] : ∀ k, k ≤ n → (∀ j, j < k → fwN (entN t) j j j ≤ 0) → FWX (entN t) n 100000000000 k (fwN (entN t) k)
  | 0, _, _ => FWX.start (by decide) (by decide) h.bnd
  | k + 1, hk, hd => by
    have h2 := pow_le10 (show k + 1 ≤ 10 by have := h.nn; omega)
    have ih := StarB.fwx k (by omega) (fun j hj => hd j (by omega))
    have d1 := hd k (by omega)
    have d2 := (ih.dia k (by omega)).2
    exact (FWX.step (by decide) (by omega) (by omega) ih (by omega)).1
theorem StarB.cells [Mode] {k : Nat} (hk : k ≤ n) (hd : ∀ j, j < k → fwN (entN t) j j j ≤ 0) {i j : Nat} (hi : i < n) (hj : j < n) : fwN (entN t) k i j = BOT ∨ (-102400000000000 ≤ fwN (entN t) k i j ∧ fwN (entN t) k i j ≤ 102400000000000) := by
  by_cases e : fwN (entN t) k i j = BOT
  · exact .inl e
  · have := (h.fwx k hk hd).bnd j i hj hi e
    have := pow_le10 (show k ≤ 10 by have := h.nn; omega)
    right; omega
theorem StarB.px [Mode] {m : Nat} (hm : m ≤ n + 1) : PX (entN t) n 100000000000 m (powN (entN t) n m) :=
  powN_px (by decide) h.bnd m (by have := h.nn; omega)
theorem StarB.mul [Mode] {m : Nat} (hm : m ≤ n) : AC Try.prog 83 [TL t, TL (tabF n n (powN (entN t) n m))] H0 (own1 1 n) (hpM 1 (TR (tabF n n (mulF t (tabF n n (powN (entN t) n m)) n)))) := by
  have hn := h.nn
  refine l02Multiply_ac n t _ h.rc tabF_rc (by omega) h.n0 (fun i q j hi hq hj h1 h2 => ?_)
  rw [tabF_ent hq hj] at h2 ⊢
  have g1 := h.bnd q i h1
  have g2 := (h.px (show m ≤ n + 1 by omega)).bnd j q hj hq h2
  omega
theorem StarB.add [Mode] {m : Nat} : AC Try.prog 115 [TL (tabF n n unitF), TL (tabF n n (mulF t (tabF n n (powN (entN t) n m)) n))] H0 (own1 1 n) (hpM 1 (TR (tabF n n (powN (entN t) n (m + 1))))) := by
  have hn := h.nn
  have hA := l02Add_ac n n (tabF n n unitF) (tabF n n (mulF t (tabF n n (powN (entN t) n m)) n)) tabF_rc tabF_rc (by omega) (by omega)
  have e : tabF n n (addF (tabF n n unitF) (tabF n n (mulF t (tabF n n (powN (entN t) n m)) n))) = tabF n n (powN (entN t) n (m + 1)) := tabF_congr fun i j hi hj => by
    unfold addF
    rw [tabF_ent hi hj, tabF_ent hi hj]
    show _ = powS (entN t) n (powN (entN t) n m) i j
    unfold powS mulF
    rw [maxN_congr (g := fun q => timesB (entN t i q) (powN (entN t) n m q j)) (fun q hq => by show timesB (entN t i q) (entN (tabF n n (powN (entN t) n m)) q j) = _; rw [tabF_ent hq hj])]
  rw [← e]
  exact hA
end
end Go.Proofs.Ytdgodkpobomneaa
end

section
namespace Go.Proofs.Ytdgodkpobomneaa
set_option linter.unusedSimpArgs false
set_option linter.unusedVariables false

theorem MaxR.below {xs : List Pl} {s r : Int × Int} (ht : ∀ c, Circ xs c → 0 < sumT xs c) (h1 : MaxR xs s) (hr : 0 < r.2) : (∀ c, Circ xs c → wgt xs r.1 r.2 c ≤ 0) ↔ s.1 * r.2 ≤ r.1 * s.2 := by
  constructor
  · intro hle2
    obtain ⟨c, hc, e⟩ := h1.eq
    have hk := ht c hc
    have hle := hle2 c hc
    rw [wgt_sums] at e hle
    have e1 : s.2 * sumD xs c = s.1 * sumT xs c := by omega
    have h3 : r.2 * sumD xs c ≤ r.1 * sumT xs c := by omega
    have h4 := Int.mul_le_mul_of_nonneg_left h3 (Int.le_of_lt h1.pos)
    have h5 : s.2 * (r.2 * sumD xs c) = r.2 * (s.1 * sumT xs c) := by rw [← e1]; rw [← Int.mul_assoc, ← Int.mul_assoc, Int.mul_comm s.2 r.2]
    rw [h5] at h4
    have h6 : (s.1 * r.2) * sumT xs c ≤ (r.1 * s.2) * sumT xs c := by
      rw [show s.1 * r.2 * sumT xs c = r.2 * (s.1 * sumT xs c) by rw [Int.mul_comm s.1 r.2, Int.mul_assoc], show r.1 * s.2 * sumT xs c = s.2 * (r.1 * sumT xs c) by rw [Int.mul_comm r.1 s.2, Int.mul_assoc]]
      exact h4
    exact Int.le_of_mul_le_mul_right h6 hk
  · intro hle c hc
    have hk := ht c hc
    have h2 := h1.le c hc
    rw [wgt_sums] at h2 ⊢
    have h3 : s.2 * sumD xs c ≤ s.1 * sumT xs c := by omega
    have h4 := Int.mul_le_mul_of_nonneg_left h3 (Int.le_of_lt hr)
    have h5 := Int.mul_le_mul_of_nonneg_right hle (Int.le_of_lt hk)
    have h6 : s.2 * (r.2 * sumD xs c) ≤ s.2 * (r.1 * sumT xs c) := by
      rw [show s.2 * (r.2 * sumD xs c) = r.2 * (s.2 * sumD xs c) by rw [← Int.mul_assoc, ← Int.mul_assoc, Int.mul_comm s.2 r.2], show s.2 * (r.1 * sumT xs c) = r.1 * s.2 * sumT xs c by rw [← Int.mul_assoc, Int.mul_comm s.2 r.1]]
      have h7 : r.2 * (s.1 * sumT xs c) = s.1 * r.2 * sumT xs c := by rw [← Int.mul_assoc, Int.mul_comm r.2 s.1]
      omega
    have := Int.le_of_mul_le_mul_left h6 h1.pos
    omega
end Go.Proofs.Ytdgodkpobomneaa
end

section
namespace Go.Proofs.Ytdgodkpobomneaa
set_option linter.unusedSimpArgs false
set_option linter.unusedVariables false
open Go Go.RowKit
attribute [local irreducible] AL AD AW OpOk Le AC thenQ blockQ EndQ

/-- A ratio that is drawn. -/
structure DrT (r : Int × Int) : Prop where
  n : -2000000 ≤ r.1 ∧ r.1 ≤ 2000000
  d : -1 ≤ r.2 ∧ r.2 ≤ 1000000
end Go.Proofs.Ytdgodkpobomneaa
end

section
namespace Go.Proofs.Ytdgodkpobomneaa
set_option linter.unusedSimpArgs false
set_option linter.unusedVariables false
open Go Go.RowKit
attribute [local irreducible] AL AD AW OpOk Le AC thenQ blockQ EndQ

end Go.Proofs.Ytdgodkpobomneaa
end

section
namespace Go.Proofs.Ytdgodkpobomneaa
set_option linter.unusedSimpArgs false
set_option linter.unusedVariables false
open Go Go.RowKit
attribute [local irreducible] AL AD AW OpOk Le AC thenQ blockQ EndQ

/-- A ratio as a cycle time is one. -/
structure RatOk (r : Int × Int) : Prop where
  n : 0 ≤ r.1 ∧ r.1 ≤ 1000000
  d : 1 ≤ r.2 ∧ r.2 ≤ 1000000
  g : Nat.gcd r.1.toNat r.2.toNat = 1
end Go.Proofs.Ytdgodkpobomneaa
end

section
namespace Go.Proofs.Ytdgodkpobomneaa
set_option linter.unusedSimpArgs false
set_option linter.unusedVariables false
open Go Go.RowKit
attribute [local irreducible] AL AD AW OpOk Le AC thenQ blockQ EndQ

/-! ### The least potential -/
end Go.Proofs.Ytdgodkpobomneaa
end

section
namespace Go.Proofs.Ytdgodkpobomneaa
set_option linter.unusedSimpArgs false
set_option linter.unusedVariables false
open Go Go.RowKit
attribute [local irreducible] AL AD AW OpOk Le AC thenQ blockQ EndQ

structure TtOk (n : Nat) (P : Int) (st : List Int) : Prop where
  l : st.length = n
  p : 0 ≤ P ∧ P ≤ 100000
  s : ∀ j, j < n → 0 ≤ st.getD j 0 ∧ st.getD j 0 ≤ 1000000
/-! ### Slacks -/
end Go.Proofs.Ytdgodkpobomneaa
end

section
namespace Go.Proofs.Ytdgodkpobomneaa
set_option linter.unusedSimpArgs false
set_option linter.unusedVariables false
open Go Go.RowKit
attribute [local irreducible] AL AD AW OpOk Le AC thenQ blockQ EndQ

end Go.Proofs.Ytdgodkpobomneaa
end

section
namespace Go.Proofs.Ytdgodkpobomneaa
set_option linter.unusedSimpArgs false
set_option linter.unusedVariables false
open Go Go.RowKit
attribute [local irreducible] AL AD AW OpOk Le AC thenQ blockQ EndQ

end Go.Proofs.Ytdgodkpobomneaa
end

section
namespace Go.Proofs.Ytdgodkpobomneaa
set_option linter.unusedSimpArgs false
set_option linter.unusedVariables false
open Go Go.RowKit
attribute [local irreducible] AL AD AW OpOk Le AC thenQ blockQ EndQ

/-! ### The circuit that is told -/
end Go.Proofs.Ytdgodkpobomneaa
end

section
namespace Go.Proofs.Ytdgodkpobomneaa
set_option linter.unusedSimpArgs false
set_option linter.unusedVariables false
open Go Go.RowKit
attribute [local irreducible] AL AD AW OpOk Le AC thenQ blockQ EndQ

end Go.Proofs.Ytdgodkpobomneaa
end

section
namespace Go.Proofs.Ytdgodkpobomneaa
set_option linter.unusedSimpArgs false
set_option linter.unusedVariables false
open Go Go.RowKit
attribute [local irreducible] AL AD AW OpOk Le AC thenQ blockQ EndQ

end Go.Proofs.Ytdgodkpobomneaa
end

section
namespace Go.Proofs.Ytdgodkpobomneaa
set_option linter.unusedSimpArgs false
set_option linter.unusedVariables false
open Go Go.RowKit
attribute [local irreducible] AL AD AW OpOk Le AC thenQ blockQ EndQ

end Go.Proofs.Ytdgodkpobomneaa
end

section
namespace Go.Proofs.Ytdgodkpobomneaa
set_option linter.unusedSimpArgs false
set_option linter.unusedVariables false
open Go Go.RowKit
attribute [local irreducible] AL AD AW OpOk Le AC thenQ blockQ EndQ

theorem DRel.cells [Mode] {H : Heap} {lent : Loc → Prop} {l : Loc} {ds : List D} {cs : List AV} (hl : H l = some ⟨1, cs.map fun c => [c]⟩) (hm : lent l) (hlen : ds.length = cs.length) (h : ∀ (i : Nat) d c, ds[i]? = some d → cs[i]? = some c → DRel H lent d c) : DRel H lent (.sl 1 (ds.map fun d => [d])) (.own 1 l 0 cs.length) := by
  refine .own 1 l 0 _ _ _ hl hm rfl (by simp) (by simp [hlen]) (fun i r r' hr hr' => ?_) (fun i r r' hr hr' j c c' hc hc' => ?_)
  all_goals
    simp only [Nat.zero_add, List.getElem?_map, Option.map_eq_some_iff] at hr hr'
    obtain ⟨d, hd, rfl⟩ := hr
    obtain ⟨e, he, rfl⟩ := hr'
  · rfl
  · cases j with
    | zero => simp at hc hc'; subst hc; subst hc'; exact h i d e hd he
    | succ j => simp at hc
theorem DRel.one [Mode] {H : Heap} {lent : Loc → Prop} {l : Loc} {d : D} {c : AV} (hl : H l = some ⟨1, [[c]]⟩) (hm : lent l) (h : DRel H lent d c) : DRel H lent (.sl 1 [[d]]) (.own 1 l 0 1) :=
  DRel.cells (ds := [d]) (cs := [c]) hl hm rfl fun i d' c' h1 h2 => by
    cases i with
    | zero => simp at h1 h2; subst h1; subst h2; exact h
    | succ i => simp at h1
theorem DRel.two [Mode] {H : Heap} {lent : Loc → Prop} {l : Loc} {d d' : D} {c c' : AV} (hl : H l = some ⟨1, [[c], [c']]⟩) (hm : lent l) (h : DRel H lent d c) (h' : DRel H lent d' c') : DRel H lent (.sl 1 [[d], [d']]) (.own 1 l 0 2) :=
  DRel.cells (ds := [d, d']) (cs := [c, c']) hl hm rfl fun i x y h1 h2 => by
    match i with
    | 0 => simp at h1 h2; subst h1; subst h2; exact h
    | 1 => simp at h1 h2; subst h1; subst h2; exact h'
    | i + 2 => simp at h1
noncomputable def dsT [Mode] (code : List Int) (hc : CodeOk code) (n : Nat) (hn : 1 ≤ n ∧ n ≤ 10) (s : Src) : Src × List (List Int) := by
  classical
  exact if h : SrcOk code s then (Classical.choose (Classical.choose_spec (l02DrawSize_ex code hc s h n n hn hn)), Classical.choose (l02DrawSize_ex code hc s h n n hn hn)) else (s, [])
theorem dsT_ok [Mode] {code : List Int} (hc : CodeOk code) {n : Nat} (hn : 1 ≤ n ∧ n ≤ 10) {s : Src} (hs : SrcOk code s) (m : Int) (hm : m = n) : TabOk (dsT code hc n hn s).2 ∧ (dsT code hc n hn s).2.length ≤ n + 1 ∧ SrcOk code (dsT code hc n hn s).1 ∧ AC Try.prog 131 [Bx 3 0, I m, I m] (srcH code s) (TL (dsT code hc n hn s).2) (srcH code (dsT code hc n hn s).1) := by
  subst hm
  unfold dsT
  rw [dif_pos hs]
  exact Classical.choose_spec (Classical.choose_spec (l02DrawSize_ex code hc s hs n n hn hn))
noncomputable def dmF [Mode] (code : List Int) (hc : CodeOk code) (n : Nat) (hn : 1 ≤ n ∧ n ≤ 10) (q : Src × List (List (List Int))) : Src × List (List (List Int)) := ((dsT code hc n hn q.1).1, q.2 ++ [(dsT code hc n hn q.1).2])
def TsOk (n : Nat) (ms : List (List (List Int))) : Prop := ∀ t ∈ ms, TabOk t ∧ t.length ≤ n
theorem TsOk.snoc [Mode] {n : Nat} {ms : List (List (List Int))} {t : List (List Int)} (h : TsOk n ms) (ht : TabOk t) (hl : t.length ≤ n) : TsOk n (ms ++ [t]) := fun u hu => by
  rcases List.mem_append.1 hu with h1 | h1
  · exact h u h1
  · simp at h1; subst h1; exact ⟨ht, hl⟩
theorem TsOk.ms [Mode] {n : Nat} {ms : List (List (List Int))} (h : TsOk n ms) (hl : ms.length ≤ 5) : MsOk ms := ⟨by omega, fun t ht => by have := (h t ht).1.l; omega, fun t ht r hr => by have := (h t ht).1.r r hr; omega⟩
theorem QR_len [Mode] {ms : List (List (List Int))} : (QR ms).length = ms.length := List.length_map _
theorem dmF_ok [Mode] {code : List Int} (hc : CodeOk code) {n : Nat} (hn : 1 ≤ n ∧ n ≤ 10) {s : Src} (hs : SrcOk code s) (k : Nat) : SrcOk code (itr (dmF code hc n hn) k (s, [])).1 ∧ (itr (dmF code hc n hn) k (s, [])).2.length = k ∧ TsOk (n + 2) (itr (dmF code hc n hn) k (s, [])).2 :=
  itr_ok (p := fun k (q : Src × List (List (List Int))) => SrcOk code q.1 ∧ q.2.length = k ∧ TsOk (n + 2) q.2) ⟨hs, rfl, fun t ht => absurd ht (by simp)⟩ (fun k x h => by
    obtain ⟨h1, h2, h3, _⟩ := dsT_ok hc hn h.1 n rfl
    exact ⟨h3, by simp [dmF, h.2.1], h.2.2.snoc h1 (by omega)⟩) k
set_option maxHeartbeats 8000000 in
theorem l25Draw_ex [Mode] (code : List Int) (hc : CodeOk code) (s : Src) (hs : SrcOk code s) : ∃ (ms : List (List (List Int))) (s' : Src), TsOk 10 ms ∧ ms.length ≤ 5 ∧ SrcOk code s' ∧ AC Try.prog 80 [Bx 3 0] (srcH code s) (QL ms) (srcH code s') := by
  obtain ⟨y, s1, y1, y2, h1, q1, N1⟩ := next_ex hc hs 3
  obtain ⟨k0, s2, k1, k2, h2, q2, N2⟩ := next_ex hc h1 3
  obtain ⟨n, hn⟩ : ∃ n : Nat, 1 + y = n := ⟨(1 + y).toNat, by omega⟩
  obtain ⟨u, hu⟩ : ∃ u : Nat, 1 + k0 = u := ⟨(1 + k0).toNat, by omega⟩
  have hn2 : 1 ≤ n ∧ n ≤ 10 := by omega
  have hn3 : 1 ≤ n + 1 ∧ n + 1 ≤ 10 := by omega
  obtain ⟨hA, hAl, hAt⟩ := dmF_ok hc hn2 h2 u
  generalize hqA : itr (dmF code hc n hn2) u (s2, []) = qA at hA hAl hAt
  obtain ⟨s3, ms⟩ := qA
  simp only at hA hAl hAt
  obtain ⟨v, s4, v1, v2, h4, q4, N4⟩ := next_ex hc hA 40
  obtain ⟨d1, d2, d3, D4⟩ := dsT_ok hc hn3 h4 ((n : Int) + 1) (by omega)
  generalize dsT code hc (n + 1) hn3 s4 = dT at d1 d2 d3 D4
  obtain ⟨s5, T⟩ := dT
  simp only at d1 d2 d3 D4
  obtain ⟨p, s6, hp, h6, p6, q6, K6⟩ := pick_ex hc h4 [400000, -7] 2 rfl
  have hml : (QR ms).length = u := by rw [QR_len, hAl]
  refine ⟨if v = 0 then ms ++ [T] else if v = 1 then [] else if v = 2 then [[[p]], [[1]]] else ms, if v = 0 then s5 else if v = 1 then s4 else if v = 2 then s6 else s4, ?_, ?_, ?_, ?_⟩
  · have hm2 : TsOk 10 ms := fun t ht => ⟨(hAt t ht).1, by have := (hAt t ht).2; omega⟩
    split
    · exact hm2.snoc d1 (by omega)
    · split
      · exact fun t ht => absurd ht (by simp)
      · split
        · intro t ht
          simp only [List.mem_cons, List.not_mem_nil, or_false] at ht
          rcases ht with rfl | rfl <;> exact ⟨⟨by simp, fun r hr => by simp at hr; subst hr; simp⟩, by simp⟩
        · exact hm2
  · (repeat' split) <;> (first | (simp; done) | (simp; omega) | omega)
  · (repeat' split) <;> assumption
  show AC _ _ _ (heapL [(⟨0, []⟩, ⟨0, []⟩, srcO code s)]) _ _
  refine AC.of_body 1 Try.func80 rfl (fun l h => by simp [heapL, upd] at h; simp [h]) (fun C hC => ?_)
  simp only [startFr, Try.ntmps80, List.length_cons, List.length_nil, Nat.reduceAdd, Nat.reduceSub, List.replicate_succ, List.replicate_zero, List.cons_append, List.nil_append]
  have hD : ∀ l, C.D0 l → l = ⟨0, []⟩ := fun l h => by have := (hC l).1 h; simp [heapL, upd] at this; exact this
  repeat' (first | ((first | apply Ba | (apply Bb; (· rfl); (· rfl)) | (apply Bc; (· exact nxE)) | (apply Bd; (· rfl); (· rfl); (· exact nxE))); (· first | exact Nx N1 rfl rfl rfl rfl rfl | exact Nx N2 rfl rfl rfl rfl rfl | exact Ok.pe)) | ((first | apply Ca | (apply Cb; (· exact nxE))); (· first | exact Nx N1 rfl rfl rfl rfl rfl | exact Nx N2 rfl rfl rfl rfl rfl | exact Ok.e0)) | refine Sx ?_ | (refine Sy (fun h => ?_) (fun h => ?_) <;> try (exfalso; omega; done)) | refine Sz (fun h => ?_) (fun h => ?_))
  rw [hn, hu]
  refine AW.loop (X := {k : Nat // k ≤ u}) (fun k => ⟨[Bx 3 0, Oo, Oo, .own 1 ⟨1, []⟩ 0 (itr (dmF code hc n hn2) (k.1 : Nat) (s2, [])).2.length, I n, I ((u : Int) - (k.1 : Nat)), Oo, Oo, Oo, Oo, Oo, Oo, Oo, Oo, Oo, Oo, Oo, Oo, Oo, Oo, Oo, Oo, Oo, Oo, Oo, Oo, Oo, Oo, Oo, Oo, Oo, Oo, Oo, Oo, Oo, Oo, Oo, Oo, Oo, Oo, Oo, Oo, Oo, Oo, Oo, Oo, Oo, Oo, Oo, Oo], heapL [(⟨0, []⟩, ⟨0, []⟩, srcO code (itr (dmF code hc n hn2) k.1 (s2, [])).1), (⟨1, []⟩, ⟨1, []⟩, dobj 1 (QR (itr (dmF code hc n hn2) k.1 (s2, [])).2))], 900⟩) (fun k => u - k.1) ⟨0, Nat.zero_le _⟩ ?_ (fun k => ?_)
  ·
    (apply Le.headZ [_, _] rfl)
    all_goals (try dsimp only [srcs])
    (case' hfr | hob => (repeat' (first | refine La ?_ ?_ | exact Lc | refine Lo ?_ | refine ⟨⟨_, rfl, ?_⟩, ?_⟩ | refine Lx ?_)))
    all_goals (first | (rfl) | exact Ld)
  obtain ⟨w, hw⟩ := k
  simp only
  by_cases hlt : w < u
  · obtain ⟨i1, i2, i3⟩ := dmF_ok hc hn2 h2 w
    have hst : itr (dmF code hc n hn2) (w + 1) (s2, []) = dmF code hc n hn2 (itr (dmF code hc n hn2) w (s2, [])) := rfl
    generalize itr (dmF code hc n hn2) w (s2, []) = q at i1 i2 i3 hst ⊢
    obtain ⟨s7, ts⟩ := q
    simp only at i1 i2 i3 ⊢
    obtain ⟨e1, e2, e3, E4⟩ := dsT_ok hc hn2 i1 (n : Int) rfl
    have hst := hst.trans (show dmF code hc n hn2 (s7, ts) = ((dsT code hc n hn2 s7).1, ts ++ [(dsT code hc n hn2 s7).2]) from rfl)
    generalize dsT code hc n hn2 s7 = dU at e1 e2 e3 E4 hst
    obtain ⟨s8, U⟩ := dU
    simp only at e1 e2 e3 E4 hst
    have htl : (QR ts).length = ts.length := QR_len
    repeat' (first | ((first | apply Ba | (apply Bb; (· rfl); (· rfl)) | (apply Bc; (· exact nxE)) | (apply Bd; (· rfl); (· rfl); (· exact nxE))); (· first | exact Zx (args := [I (n : Int), I (n : Int)]) E4 rfl rfl rfl rfl (.cons (.dd _) (.cons (.dd _) .nil)) (fun _ => by simp [rn]) | exact Ok.append1 (row := [TD U]) rfl rfl (by decide) rfl rfl htl rfl rfl rfl (by rfl) (by omega) (by omega) | exact Ok.pe)) | ((first | apply Ca | (apply Cb; (· exact nxE))); (· first | exact Zx (args := [I (n : Int), I (n : Int)]) E4 rfl rfl rfl rfl (.cons (.dd _) (.cons (.dd _) .nil)) (fun _ => by simp [rn]) | exact Ok.append1 (row := [TD U]) rfl rfl (by decide) rfl rfl htl rfl rfl rfl (by rfl) (by omega) (by omega) | exact Ok.e0)) | refine Sx ?_ | (refine Sy (fun h => ?_) (fun h => ?_) <;> try (exfalso; omega; done)) | refine Sz (fun h => ?_) (fun h => ?_))
    refine ⟨⟨w + 1, by omega⟩, ?_, by simp only; omega⟩
    simp only [hst]
    (apply Le.headZ [_, _] rfl)
    all_goals (try dsimp only [srcs])
    (case' hfr | hob => (repeat' (first | refine La ?_ ?_ | exact Lc | refine Lo ?_ | refine ⟨⟨_, rfl, ?_⟩, ?_⟩ | refine Lx ?_)))
    all_goals (first | ((simp; done)) | exact Ld)
  obtain rfl : w = u := by omega
  rw [hqA]
  simp only
  have hml2 : (QR ms).length = ms.length := QR_len
  by_cases c0 : v = 0
  · simp only [if_pos c0]
    repeat' (first | ((first | apply Ba | (apply Bb; (· rfl); (· rfl)) | (apply Bc; (· exact nxE)) | (apply Bd; (· rfl); (· rfl); (· exact nxE))); (· first | exact Nx N4 rfl rfl rfl rfl rfl | exact Zx (args := [I ((n : Int) + 1), I ((n : Int) + 1)]) D4 rfl rfl rfl rfl (.cons (.dd _) (.cons (.dd _) .nil)) (fun _ => by simp [rn]) | exact Ok.append1 (row := [TD T]) rfl rfl (by decide) rfl rfl hml2 rfl rfl rfl (by rfl) (by omega) (by omega) | exact Ok.pe)) | ((first | apply Ca | (apply Cb; (· exact nxE))); (· first | exact Nx N4 rfl rfl rfl rfl rfl | exact Zx (args := [I ((n : Int) + 1), I ((n : Int) + 1)]) D4 rfl rfl rfl rfl (.cons (.dd _) (.cons (.dd _) .nil)) (fun _ => by simp [rn]) | exact Ok.append1 (row := [TD T]) rfl rfl (by decide) rfl rfl hml2 rfl rfl rfl (by rfl) (by omega) (by omega) | exact Ok.e0)) | refine Sx ?_ | (refine Sy (fun h => ?_) (fun h => ?_) <;> try (exfalso; omega; done)) | refine Sz (fun h => ?_) (fun h => ?_))
    refine Ya ?_
    (apply Le.headZ (hs := [(⟨0, []⟩, ⟨0, []⟩, _)]) [⟨0, []⟩] rfl)
    all_goals (try dsimp only [srcs])
    (case' hfr | hob => (repeat' (first | refine La ?_ ?_ | refine ARs.agg ?_ | refine ARs.tup ?_ | (exact AR.whole (rows := QR (ms ++ [T])) (by simp; rfl) (by simp) (by simp)) | refine La ?_ ?_ | exact Lc | refine Lo ?_ | refine ⟨⟨_, rfl, ?_⟩, ?_⟩ | refine Lx ?_)))
    all_goals (first | exact Ld | exact trivial | (exact AR.whole (rows := QR (ms ++ [T])) (by simp; rfl) (by simp) (by simp)))
  simp only [if_neg c0]
  by_cases c1 : v = 1
  · simp only [if_pos c1]
    repeat' (first | ((first | apply Ba | (apply Bb; (· rfl); (· rfl)) | (apply Bc; (· exact nxE)) | (apply Bd; (· rfl); (· rfl); (· exact nxE))); (· first | exact Nx N4 rfl rfl rfl rfl rfl | exact Ok.pe)) | ((first | apply Ca | (apply Cb; (· exact nxE))); (· first | exact Nx N4 rfl rfl rfl rfl rfl | exact Ok.e0)) | refine Sx ?_ | (refine Sy (fun h => ?_) (fun h => ?_) <;> try (exfalso; omega; done)) | refine Sz (fun h => ?_) (fun h => ?_))
    refine Ya ?_
    (apply Le.headZ (hs := [(⟨0, []⟩, ⟨0, []⟩, _)]) [⟨0, []⟩] rfl)
    all_goals (try dsimp only [srcs])
    (case' hfr | hob => (repeat' (first | refine La ?_ ?_ | exact Lc | refine Lo ?_ | refine ⟨⟨_, rfl, ?_⟩, ?_⟩ | refine Lx ?_)))
    all_goals (first | exact Ld | exact trivial | (rfl))
  simp only [if_neg c1]
  by_cases c2 : v = 2
  · simp only [if_pos c2]
    repeat' (first | ((first | apply Ba | (apply Bb; (· rfl); (· rfl)) | (apply Bc; (· exact nxE)) | (apply Bd; (· rfl); (· rfl); (· exact nxE))); (· first | exact Nx N4 rfl rfl rfl rfl rfl | exact Kx K6 rfl rfl rfl rfl rfl rfl (by decide) | exact Ok.bs2I rfl rfl rfl rfl | exact Ok.bs2 rfl (by conv => lhs; whnf) (by conv => lhs; whnf) (by rfl) (by rfl) (by rfl) (by rfl) (by rfl) (by rfl) (by decide) | exact Ok.pe)) | ((first | apply Ca | (apply Cb; (· exact nxE))); (· first | exact Nx N4 rfl rfl rfl rfl rfl | exact Kx K6 rfl rfl rfl rfl rfl rfl (by decide) | exact Ok.bs2I rfl rfl rfl rfl | exact Ok.bs2 rfl (by conv => lhs; whnf) (by conv => lhs; whnf) (by rfl) (by rfl) (by rfl) (by rfl) (by rfl) (by rfl) (by decide) | exact Ok.e0)) | refine Sx ?_ | (refine Sy (fun h => ?_) (fun h => ?_) <;> try (exfalso; omega; done)) | refine Sz (fun h => ?_) (fun h => ?_))
    refine Ya ?_
    (apply Le.headZ (hs := [(⟨0, []⟩, ⟨0, []⟩, _)]) [⟨0, []⟩] rfl)
    all_goals (try dsimp only [srcs])
    (case' hfr | hob => (repeat' (first | refine La ?_ ?_ | refine ARs.agg ?_ | refine ARs.tup ?_ | (exact AR.d (DRel.two rfl (by simp) (DRel.one rfl (by simp) (DRel.one rfl (by simp) (.d _))) (DRel.one rfl (by simp) (DRel.one rfl (by simp) (.d _))))) | refine La ?_ ?_ | exact Lc | refine Lo ?_ | refine ⟨⟨_, rfl, ?_⟩, ?_⟩ | refine Lx ?_)))
    all_goals (first | exact Ld | exact trivial | (exact AR.d (DRel.two rfl (by simp) (DRel.one rfl (by simp) (DRel.one rfl (by simp) (.d _))) (DRel.one rfl (by simp) (DRel.one rfl (by simp) (.d _))))))
  simp only [if_neg c2]
  repeat' (first | ((first | apply Ba | (apply Bb; (· rfl); (· rfl)) | (apply Bc; (· exact nxE)) | (apply Bd; (· rfl); (· rfl); (· exact nxE))); (· first | exact Nx N4 rfl rfl rfl rfl rfl | exact Ok.pe)) | ((first | apply Ca | (apply Cb; (· exact nxE))); (· first | exact Nx N4 rfl rfl rfl rfl rfl | exact Ok.e0)) | refine Sx ?_ | (refine Sy (fun h => ?_) (fun h => ?_) <;> try (exfalso; omega; done)) | refine Sz (fun h => ?_) (fun h => ?_))
  refine Ya ?_
  (apply Le.headZ (hs := [(⟨0, []⟩, ⟨0, []⟩, _)]) [⟨0, []⟩] rfl)
  all_goals (try dsimp only [srcs])
  (case' hfr | hob => (repeat' (first | refine La ?_ ?_ | refine ARs.agg ?_ | refine ARs.tup ?_ | (exact AR.whole rfl (by simp) (by simp)) | refine La ?_ ?_ | exact Lc | refine Lo ?_ | refine ⟨⟨_, rfl, ?_⟩, ?_⟩ | refine Lx ?_)))
  all_goals (first | exact Ld | exact trivial | (exact AR.whole rfl (by simp) (by simp)))
end Go.Proofs.Ytdgodkpobomneaa
end

section
namespace Go.Proofs.Ytdgodkpobomneaa
set_option linter.unusedSimpArgs false
set_option linter.unusedVariables false
open Go Go.RowKit
attribute [local irreducible] AL AD AW OpOk Le AC thenQ blockQ EndQ

theorem dv_ex [Mode] (code : List Int) (hc : CodeOk code) (s : Src) (hs : SrcOk code s) (m : Int) (n : Nat) (hm : m = n) (hn : n ≤ 1000) : ∃ (x : List Int) (s' : Src), x.length ≤ n + 1 ∧ SrcOk code s' ∧ AC Try.prog 117 [Bx 3 0, I m] (srcH code s) (IL x) (srcH code s') := by
  subst hm; exact l02DrawVector_ex code hc s hs n hn
set_option maxHeartbeats 4000000 in
theorem l25DrawVector_ex [Mode] (code : List Int) (hc : CodeOk code) (s : Src) (hs : SrcOk code s) : ∃ (ms : List (List (List Int))) (x : List Int) (s' : Src), TsOk 10 ms ∧ ms.length ≤ 5 ∧ x.length ≤ 20 ∧ SrcOk code s' ∧ AC Try.prog 58 [Bx 3 0] (srcH code s) (.tup [QL ms, IL x]) (srcH code s') := by
  obtain ⟨ms, s1, hT, hl, h1, D1⟩ := l25Draw_ex code hc s hs
  obtain ⟨y, s2, y1, y2, h2, q2, N2⟩ := next_ex hc h1 24
  have hml : (QR ms).length = ms.length := QR_len
  cases ms with
  | nil =>
    by_cases c : y = 0
    · obtain ⟨x, s3, hx, h3, D3⟩ := dv_ex code hc s2 h2 (1 + 1) 2 rfl (by omega)
      refine ⟨[], x, s3, hT, hl, by omega, h3, ?_⟩
      show AC _ _ _ (heapL [(⟨0, []⟩, ⟨0, []⟩, srcO code s)]) _ _
      refine AC.of_body 1 Try.func58 rfl (fun l h => by simp [heapL, upd] at h; simp [h]) (fun C hC => ?_)
      simp only [startFr, Try.ntmps58, List.length_cons, List.length_nil, Nat.reduceAdd, Nat.reduceSub, List.replicate_succ, List.replicate_zero, List.cons_append, List.nil_append]
      have hD : ∀ l, C.D0 l → l = ⟨0, []⟩ := fun l h => by have := (hC l).1 h; simp [heapL, upd] at this; exact this
      repeat' (first | ((first | apply Ba | (apply Bb; (· rfl); (· rfl)) | (apply Bc; (· exact nxE)) | (apply Bd; (· rfl); (· rfl); (· exact nxE))); (· first | exact Ok.lenD rfl rfl hml | exact Zx (args := []) D1 rfl rfl rfl rfl .nil (fun _ => by simp [rn]) | exact Nx N2 rfl rfl rfl rfl rfl | exact Zx (args := [I (1 + 1)]) D3 rfl rfl rfl rfl (.cons (.dd _) .nil) (fun _ => by simp [rn]) | exact Ok.pe)) | ((first | apply Ca | (apply Cb; (· exact nxE))); (· first | exact Zx (args := []) D1 rfl rfl rfl rfl .nil (fun _ => by simp [rn]) | exact Nx N2 rfl rfl rfl rfl rfl | exact Zx (args := [I (1 + 1)]) D3 rfl rfl rfl rfl (.cons (.dd _) .nil) (fun _ => by simp [rn]) | exact Ok.e0)) | refine Sx ?_ | (refine Sy (fun h => ?_) (fun h => ?_) <;> try (exfalso; omega; done)) | refine Sz (fun h => ?_) (fun h => ?_))
      refine Yb ?_
      (apply Le.headZ (hs := [(⟨0, []⟩, ⟨0, []⟩, _)]) [⟨0, []⟩] rfl)
      all_goals (try dsimp only [srcs])
      (case' hfr | hob => (repeat' (first | refine La ?_ ?_ | exact Lc | refine Lo ?_ | refine ⟨⟨_, rfl, ?_⟩, ?_⟩ | refine Lx ?_)))
      all_goals (first | exact Ld | exact trivial | (rfl))
    · obtain ⟨x, s3, hx, h3, D3⟩ := dv_ex code hc s2 h2 1 1 rfl (by omega)
      refine ⟨[], x, s3, hT, hl, by omega, h3, ?_⟩
      show AC _ _ _ (heapL [(⟨0, []⟩, ⟨0, []⟩, srcO code s)]) _ _
      refine AC.of_body 1 Try.func58 rfl (fun l h => by simp [heapL, upd] at h; simp [h]) (fun C hC => ?_)
      simp only [startFr, Try.ntmps58, List.length_cons, List.length_nil, Nat.reduceAdd, Nat.reduceSub, List.replicate_succ, List.replicate_zero, List.cons_append, List.nil_append]
      have hD : ∀ l, C.D0 l → l = ⟨0, []⟩ := fun l h => by have := (hC l).1 h; simp [heapL, upd] at this; exact this
      repeat' (first | ((first | apply Ba | (apply Bb; (· rfl); (· rfl)) | (apply Bc; (· exact nxE)) | (apply Bd; (· rfl); (· rfl); (· exact nxE))); (· first | exact Ok.lenD rfl rfl hml | exact Zx (args := []) D1 rfl rfl rfl rfl .nil (fun _ => by simp [rn]) | exact Nx N2 rfl rfl rfl rfl rfl | exact Zx (args := [I 1]) D3 rfl rfl rfl rfl (.cons (.dd _) .nil) (fun _ => by simp [rn]) | exact Ok.pe)) | ((first | apply Ca | (apply Cb; (· exact nxE))); (· first | exact Zx (args := []) D1 rfl rfl rfl rfl .nil (fun _ => by simp [rn]) | exact Nx N2 rfl rfl rfl rfl rfl | exact Zx (args := [I 1]) D3 rfl rfl rfl rfl (.cons (.dd _) .nil) (fun _ => by simp [rn]) | exact Ok.e0)) | refine Sx ?_ | (refine Sy (fun h => ?_) (fun h => ?_) <;> try (exfalso; omega; done)) | refine Sz (fun h => ?_) (fun h => ?_))
      refine Yb ?_
      (apply Le.headZ (hs := [(⟨0, []⟩, ⟨0, []⟩, _)]) [⟨0, []⟩] rfl)
      all_goals (try dsimp only [srcs])
      (case' hfr | hob => (repeat' (first | refine La ?_ ?_ | exact Lc | refine Lo ?_ | refine ⟨⟨_, rfl, ?_⟩, ?_⟩ | refine Lx ?_)))
      all_goals (first | exact Ld | exact trivial | (rfl))
  | cons t q =>
    have ht := (hT t (by simp)).2
    have hml2 : (QR (t :: q)).length = q.length + 1 := by simp
    have htl : (mRows 1 (TR t)).length = t.length := by simp
    have hrow : (QR (t :: q))[0]? = some [TD t] := rfl
    by_cases c : y = 0
    · obtain ⟨x, s3, hx, h3, D3⟩ := dv_ex code hc s2 h2 ((t.length : Int) + 1) (t.length + 1) (by omega) (by omega)
      refine ⟨t :: q, x, s3, hT, hl, by omega, h3, ?_⟩
      show AC _ _ _ (heapL [(⟨0, []⟩, ⟨0, []⟩, srcO code s)]) _ _
      refine AC.of_body 1 Try.func58 rfl (fun l h => by simp [heapL, upd] at h; simp [h]) (fun C hC => ?_)
      simp only [startFr, Try.ntmps58, List.length_cons, List.length_nil, Nat.reduceAdd, Nat.reduceSub, List.replicate_succ, List.replicate_zero, List.cons_append, List.nil_append]
      have hD : ∀ l, C.D0 l → l = ⟨0, []⟩ := fun l h => by have := (hC l).1 h; simp [heapL, upd] at this; exact this
      repeat' (first | ((first | apply Ba | (apply Bb; (· rfl); (· rfl)) | (apply Bc; (· exact nxE)) | (apply Bd; (· rfl); (· rfl); (· exact nxE))); (· first | exact Ok.lenD rfl rfl hml2 | exact Ok.lenD rfl rfl htl | exact Zx (args := []) D1 rfl rfl rfl rfl .nil (fun _ => by simp [rn]) | exact Nx N2 rfl rfl rfl rfl rfl | exact Zx (args := [I ((t.length : Int) + 1)]) D3 rfl rfl rfl rfl (.cons (.dd _) .nil) (fun _ => by simp [rn]) | exact Ok.pe)) | ((first | apply Ca | (apply Cb; (· exact nxE))); (· first | exact Zx (args := []) D1 rfl rfl rfl rfl .nil (fun _ => by simp [rn]) | exact Nx N2 rfl rfl rfl rfl rfl | exact Zx (args := [I ((t.length : Int) + 1)]) D3 rfl rfl rfl rfl (.cons (.dd _) .nil) (fun _ => by simp [rn]) | exact Ok.e0)) | refine Sx ?_ | (refine Sy (fun h => ?_) (fun h => ?_) <;> try (exfalso; omega; done)) | refine Sz (fun h => ?_) (fun h => ?_))
      refine Yb ?_
      (apply Le.headZ (hs := [(⟨0, []⟩, ⟨0, []⟩, _)]) [⟨0, []⟩] rfl)
      all_goals (try dsimp only [srcs])
      (case' hfr | hob => (repeat' (first | refine La ?_ ?_ | exact Lc | refine Lo ?_ | refine ⟨⟨_, rfl, ?_⟩, ?_⟩ | refine Lx ?_)))
      all_goals (first | exact Ld | exact trivial | (rfl))
    · obtain ⟨x, s3, hx, h3, D3⟩ := dv_ex code hc s2 h2 (t.length : Int) t.length rfl (by omega)
      refine ⟨t :: q, x, s3, hT, hl, by omega, h3, ?_⟩
      show AC _ _ _ (heapL [(⟨0, []⟩, ⟨0, []⟩, srcO code s)]) _ _
      refine AC.of_body 1 Try.func58 rfl (fun l h => by simp [heapL, upd] at h; simp [h]) (fun C hC => ?_)
      simp only [startFr, Try.ntmps58, List.length_cons, List.length_nil, Nat.reduceAdd, Nat.reduceSub, List.replicate_succ, List.replicate_zero, List.cons_append, List.nil_append]
      have hD : ∀ l, C.D0 l → l = ⟨0, []⟩ := fun l h => by have := (hC l).1 h; simp [heapL, upd] at this; exact this
      repeat' (first | ((first | apply Ba | (apply Bb; (· rfl); (· rfl)) | (apply Bc; (· exact nxE)) | (apply Bd; (· rfl); (· rfl); (· exact nxE))); (· first | exact Ok.lenD rfl rfl hml2 | exact Ok.lenD rfl rfl htl | exact Zx (args := []) D1 rfl rfl rfl rfl .nil (fun _ => by simp [rn]) | exact Nx N2 rfl rfl rfl rfl rfl | exact Zx (args := [I (t.length : Int)]) D3 rfl rfl rfl rfl (.cons (.dd _) .nil) (fun _ => by simp [rn]) | exact Ok.pe)) | ((first | apply Ca | (apply Cb; (· exact nxE))); (· first | exact Zx (args := []) D1 rfl rfl rfl rfl .nil (fun _ => by simp [rn]) | exact Nx N2 rfl rfl rfl rfl rfl | exact Zx (args := [I (t.length : Int)]) D3 rfl rfl rfl rfl (.cons (.dd _) .nil) (fun _ => by simp [rn]) | exact Ok.e0)) | refine Sx ?_ | (refine Sy (fun h => ?_) (fun h => ?_) <;> try (exfalso; omega; done)) | refine Sz (fun h => ?_) (fun h => ?_))
      refine Yb ?_
      (apply Le.headZ (hs := [(⟨0, []⟩, ⟨0, []⟩, _)]) [⟨0, []⟩] rfl)
      all_goals (try dsimp only [srcs])
      (case' hfr | hob => (repeat' (first | refine La ?_ ?_ | exact Lc | refine Lo ?_ | refine ⟨⟨_, rfl, ?_⟩, ?_⟩ | refine Lx ?_)))
      all_goals (first | exact Ld | exact trivial | (rfl))
theorem l25DrawNumber_ex [Mode] (code : List Int) (hc : CodeOk code) (s : Src) (hs : SrcOk code s) : ∃ (ms : List (List (List Int))) (x : List Int) (k : Int) (s' : Src), TsOk 10 ms ∧ ms.length ≤ 5 ∧ x.length ≤ 20 ∧ (-1 ≤ k ∧ k ≤ 10) ∧ SrcOk code s' ∧ AC Try.prog 42 [Bx 3 0] (srcH code s) (.tup [QL ms, IL x, I k]) (srcH code s') := by
  obtain ⟨ms, x, s1, hT, hl, hx, h1, D1⟩ := l25DrawVector_ex code hc s hs
  obtain ⟨y, s2, y1, y2, h2, q2, N2⟩ := next_ex hc h1 24
  by_cases c : y = 0
  · obtain ⟨p, s3, hp, h3, p3, q3, K3⟩ := pick_ex hc h2 [-1, 0, 7] 3 rfl
    refine ⟨ms, x, p, s3, hT, hl, hx, by simp at hp; omega, h3, ?_⟩
    show AC _ _ _ (heapL [(⟨0, []⟩, ⟨0, []⟩, srcO code s)]) _ _
    refine AC.of_body 1 Try.func42 rfl (fun l h => by simp [heapL, upd] at h; simp [h]) (fun C hC => ?_)
    simp only [startFr, Try.ntmps42, List.length_cons, List.length_nil, Nat.reduceAdd, Nat.reduceSub, List.replicate_succ, List.replicate_zero, List.cons_append, List.nil_append]
    have hD : ∀ l, C.D0 l → l = ⟨0, []⟩ := fun l h => by have := (hC l).1 h; simp [heapL, upd] at this; exact this
    repeat' (first | ((first | apply Ba | (apply Bb; (· rfl); (· rfl)) | (apply Bc; (· exact nxE)) | (apply Bd; (· rfl); (· rfl); (· exact nxE))); (· first | exact Zx (args := []) D1 rfl rfl rfl rfl .nil (fun _ => by simp [rn]) | exact Nx N2 rfl rfl rfl rfl rfl | exact Kx K3 rfl rfl rfl rfl rfl rfl (by decide) | exact Ok.bs3 rfl rfl rfl rfl rfl | exact Ok.pe)) | ((first | apply Ca | (apply Cb; (· exact nxE))); (· first | exact Zx (args := []) D1 rfl rfl rfl rfl .nil (fun _ => by simp [rn]) | exact Nx N2 rfl rfl rfl rfl rfl | exact Kx K3 rfl rfl rfl rfl rfl rfl (by decide) | exact Ok.bs3 rfl rfl rfl rfl rfl | exact Ok.e0)) | refine Sx ?_ | (refine Sy (fun h => ?_) (fun h => ?_) <;> try (exfalso; omega; done)) | refine Sz (fun h => ?_) (fun h => ?_))
    refine Yc ?_
    (apply Le.headZ (hs := [(⟨0, []⟩, ⟨0, []⟩, _)]) [⟨0, []⟩] rfl)
    all_goals (try dsimp only [srcs])
    (case' hfr | hob => (repeat' (first | refine La ?_ ?_ | exact Lc | refine Lo ?_ | refine ⟨⟨_, rfl, ?_⟩, ?_⟩ | refine Lx ?_)))
    all_goals (first | exact Ld | exact trivial | (rfl))
  · obtain ⟨p, s3, p1, p2, h3, q3, N3⟩ := next_ex hc h2 5
    refine ⟨ms, x, p, s3, hT, hl, hx, by omega, h3, ?_⟩
    show AC _ _ _ (heapL [(⟨0, []⟩, ⟨0, []⟩, srcO code s)]) _ _
    refine AC.of_body 1 Try.func42 rfl (fun l h => by simp [heapL, upd] at h; simp [h]) (fun C hC => ?_)
    simp only [startFr, Try.ntmps42, List.length_cons, List.length_nil, Nat.reduceAdd, Nat.reduceSub, List.replicate_succ, List.replicate_zero, List.cons_append, List.nil_append]
    have hD : ∀ l, C.D0 l → l = ⟨0, []⟩ := fun l h => by have := (hC l).1 h; simp [heapL, upd] at this; exact this
    repeat' (first | ((first | apply Ba | (apply Bb; (· rfl); (· rfl)) | (apply Bc; (· exact nxE)) | (apply Bd; (· rfl); (· rfl); (· exact nxE))); (· first | exact Zx (args := []) D1 rfl rfl rfl rfl .nil (fun _ => by simp [rn]) | exact Nx N2 rfl rfl rfl rfl rfl | exact Nx N3 rfl rfl rfl rfl rfl | exact Ok.pe)) | ((first | apply Ca | (apply Cb; (· exact nxE))); (· first | exact Zx (args := []) D1 rfl rfl rfl rfl .nil (fun _ => by simp [rn]) | exact Nx N2 rfl rfl rfl rfl rfl | exact Nx N3 rfl rfl rfl rfl rfl | exact Ok.e0)) | refine Sx ?_ | (refine Sy (fun h => ?_) (fun h => ?_) <;> try (exfalso; omega; done)) | refine Sz (fun h => ?_) (fun h => ?_))
    refine Yc ?_
    (apply Le.headZ (hs := [(⟨0, []⟩, ⟨0, []⟩, _)]) [⟨0, []⟩] rfl)
    all_goals (try dsimp only [srcs])
    (case' hfr | hob => (repeat' (first | refine La ?_ ?_ | exact Lc | refine Lo ?_ | refine ⟨⟨_, rfl, ?_⟩, ?_⟩ | refine Lx ?_)))
    all_goals (first | exact Ld | exact trivial | (rfl))
theorem drawHighestWord_ex [Mode] (code : List Int) (hc : CodeOk code) : ∃ (ms : List (List (List Int))) (x : List Int) (k : Int), TsOk 10 ms ∧ ms.length ≤ 5 ∧ x.length ≤ 20 ∧ (-1 ≤ k ∧ k ≤ 10) ∧ AC Try.prog 7 [.d (BD code)] H0 (.tup [QL ms, IL x, I k]) H0 := by
  have hF := l01From_ac code hc
  obtain ⟨ms, x, k, s1, hT, hl, hx, hk, h1, D1⟩ := l25DrawNumber_ex code hc _ (src0_ok hc)
  refine ⟨ms, x, k, hT, hl, hx, hk, ?_⟩
  refine AC.of_body 0 Try.func7 rfl (fun l h => absurd rfl h) (fun C hC => ?_)
  have hD : ∀ l, ¬ C.D0 l := fun l h => (hC l).1 h rfl
  simp only [startFr, Try.ntmps7, List.length_cons, List.length_nil, Nat.reduceAdd, Nat.reduceSub, List.replicate_succ, List.replicate_zero, List.cons_append, List.nil_append]
  repeat' (first | ((first | apply Ba | (apply Bb; (· rfl); (· rfl)) | (apply Bc; (· exact nxE)) | (apply Bd; (· rfl); (· rfl); (· exact nxE))); (· first | exact Fx hF rfl rfl rfl | exact Zl (args := []) D1 rfl rfl rfl rfl .nil (fun _ => by simp [rn]) | exact Ok.pe)) | ((first | apply Ca | (apply Cb; (· exact nxE))); (· first | exact Fx hF rfl rfl rfl | exact Zl (args := []) D1 rfl rfl rfl rfl .nil (fun _ => by simp [rn]) | exact Ok.e0)) | refine Sx ?_ | (refine Sy (fun h => ?_) (fun h => ?_) <;> try (exfalso; omega; done)) | refine Sz (fun h => ?_) (fun h => ?_))
  refine Yc ?_
  (apply Le.headZ (hs := []) [] rfl)
  all_goals (try dsimp only [srcs])
  (case' hfr => (repeat' (first | refine La ?_ ?_ | exact Lc | refine Lo ?_ | refine ⟨⟨_, rfl, ?_⟩, ?_⟩ | refine Lx ?_)))
  all_goals (first | exact Ld | exact trivial | (rfl))
end Go.Proofs.Ytdgodkpobomneaa
end

section
namespace Go.Proofs.Ytdgodkpobomneaa
set_option linter.unusedSimpArgs false
set_option linter.unusedVariables false
open Go Go.RowKit
attribute [local irreducible] AL AD AW OpOk Le AC thenQ blockQ EndQ

def dwF (code : List Int) (M : Int) (q : QS) : QS := ((nxt code q.1 M).2, q.2 ++ [(nxt code q.1 M).1])
theorem dwF_ok [Mode] {code : List Int} (hc : CodeOk code) {s : Src} (hs : SrcOk code s) (M : Int) (n : Nat) : SrcOk code (itr (dwF code M) n (s, [])).1 ∧ (itr (dwF code M) n (s, [])).2.length = n :=
  itr_ok (p := fun k (q : QS) => SrcOk code q.1 ∧ q.2.length = k) ⟨hs, rfl⟩ (fun k x h => ⟨(nxt_ok hc h.1 M).2.2, by simp [dwF, h.2]⟩) n
set_option maxHeartbeats 4000000 in
theorem l25DrawWord_ex [Mode] (code : List Int) (hc : CodeOk code) (s : Src) (hs : SrcOk code s) (ms : List (List (List Int))) (hm : ms.length ≤ 5) : ∃ (w : List Int) (s' : Src), w.length ≤ 10 ∧ SrcOk code s' ∧ AC Try.prog 59 [Bx 3 0, QL ms] (srcH code s) (IL w) (srcH code s') := by
  obtain ⟨k0, s1, k1, k2, h1, q1, N1⟩ := next_ex hc hs 7
  obtain ⟨n, rfl⟩ : ∃ n : Nat, k0 = n := ⟨k0.toNat, by omega⟩
  have hml : (QR ms).length = ms.length := QR_len
  obtain ⟨hA, hAl⟩ := dwF_ok hc h1 (ms.length : Int) n
  generalize hqA : itr (dwF code (ms.length : Int)) n (s1, []) = qA at hA hAl
  obtain ⟨s2, xs⟩ := qA
  simp only at hA hAl
  obtain ⟨y, s3, y1, y2, h3, q3, N3⟩ := next_ex hc hA 30
  obtain ⟨v, s4, hv, h4, p4, q4, K4⟩ := pick_ex hc h3 [-1, 0, (ms.length : Int)] 3 rfl
  refine ⟨if y = 0 then xs ++ [v] else xs, if y = 0 then s4 else s3, ?_, by split <;> assumption, ?_⟩
  · (repeat' split) <;> (first | (simp; done) | (simp; omega) | omega)
  have hyl : (IR xs).length = n := by rw [IR_len, hAl]
  have hyl3 : (IR xs).length = xs.length := IR_len
  show AC _ _ _ (heapL [(⟨0, []⟩, ⟨0, []⟩, srcO code s)]) _ _
  refine AC.of_body 1 Try.func59 rfl (fun l h => by simp [heapL, upd] at h; simp [h]) (fun C hC => ?_)
  simp only [startFr, Try.ntmps59, List.length_cons, List.length_nil, Nat.reduceAdd, Nat.reduceSub, List.replicate_succ, List.replicate_zero, List.cons_append, List.nil_append]
  have hD : ∀ l, C.D0 l → l = ⟨0, []⟩ := fun l h => by have := (hC l).1 h; simp [heapL, upd] at this; exact this
  repeat' (first | ((first | apply Ba | (apply Bb; (· rfl); (· rfl)) | (apply Bc; (· exact nxE)) | (apply Bd; (· rfl); (· rfl); (· exact nxE))); (· first | exact Nx N1 rfl rfl rfl rfl rfl | exact Ok.pe)) | ((first | apply Ca | (apply Cb; (· exact nxE))); (· first | exact Nx N1 rfl rfl rfl rfl rfl | exact Ok.e0)) | refine Sx ?_ | (refine Sy (fun h => ?_) (fun h => ?_) <;> try (exfalso; omega; done)) | refine Sz (fun h => ?_) (fun h => ?_))
  refine AW.loop (X := {k : Nat // k ≤ n}) (fun k => ⟨[Bx 3 0, QL ms, Oo, Oo, Oo, .own 1 ⟨1, []⟩ 0 (itr (dwF code (ms.length : Int)) (k.1 : Nat) (s1, [])).2.length, I ((n : Int) - (k.1 : Nat)), Oo, Oo, Oo, Oo, Oo, Oo, Oo, Oo, Oo, Oo, Oo, Oo, Oo, Oo, Oo, Oo, Oo, Oo, Oo, Oo, Oo, Oo, Oo, Oo, Oo, Oo], heapL [(⟨0, []⟩, ⟨0, []⟩, srcO code (itr (dwF code (ms.length : Int)) k.1 (s1, [])).1), (⟨1, []⟩, ⟨1, []⟩, IO (itr (dwF code (ms.length : Int)) k.1 (s1, [])).2)], 900⟩) (fun k => n - k.1) ⟨0, Nat.zero_le _⟩ ?_ (fun k => ?_)
  ·
    (apply Le.headZ [_, _] rfl)
    all_goals (try dsimp only [srcs])
    (case' hfr | hob => (repeat' (first | refine La ?_ ?_ | exact Lc | refine Lo ?_ | refine ⟨⟨_, rfl, ?_⟩, ?_⟩ | refine Lx ?_)))
    all_goals (first | (rfl) | exact Ld)
  obtain ⟨w, hw⟩ := k
  simp only
  by_cases hlt : w < n
  · obtain ⟨i1, i2⟩ := dwF_ok hc h1 (ms.length : Int) w
    have hst : itr (dwF code (ms.length : Int)) (w + 1) (s1, []) = dwF code (ms.length : Int) (itr (dwF code (ms.length : Int)) w (s1, [])) := rfl
    generalize itr (dwF code (ms.length : Int)) w (s1, []) = q at i1 i2 hst ⊢
    obtain ⟨s5, ys⟩ := q
    simp only at i1 i2 ⊢
    obtain ⟨a, s6, a1, a2, h6, q6, N6⟩ := next_ex hc i1 (ms.length : Int)
    have hst := hst.trans (show dwF code (ms.length : Int) (s5, ys) = (s6, ys ++ [a]) by unfold dwF; simp only [q6])
    have hyl2 : (IR ys).length = ys.length := IR_len
    repeat' (first | ((first | apply Ba | (apply Bb; (· rfl); (· rfl)) | (apply Bc; (· exact nxE)) | (apply Bd; (· rfl); (· rfl); (· exact nxE))); (· first | exact Ok.lenD rfl rfl hml | exact Nx N6 rfl rfl rfl rfl rfl | exact Ok.append1 (row := [DI a]) rfl rfl (by decide) rfl rfl hyl2 rfl rfl rfl (by rfl) (by omega) (by omega) | exact Ok.pe)) | ((first | apply Ca | (apply Cb; (· exact nxE))); (· first | exact Nx N6 rfl rfl rfl rfl rfl | exact Ok.append1 (row := [DI a]) rfl rfl (by decide) rfl rfl hyl2 rfl rfl rfl (by rfl) (by omega) (by omega) | exact Ok.e0)) | refine Sx ?_ | (refine Sy (fun h => ?_) (fun h => ?_) <;> try (exfalso; omega; done)) | refine Sz (fun h => ?_) (fun h => ?_))
    refine ⟨⟨w + 1, by omega⟩, ?_, by simp only; omega⟩
    simp only [hst]
    (apply Le.headZ [_, _] rfl)
    all_goals (try dsimp only [srcs])
    (case' hfr | hob => (repeat' (first | refine La ?_ ?_ | exact Lc | refine Lo ?_ | refine ⟨⟨_, rfl, ?_⟩, ?_⟩ | refine Lx ?_)))
    all_goals (first | ((simp; done)) | exact Ld)
  obtain rfl : w = n := by omega
  rw [hqA]
  simp only
  by_cases c0 : y = 0
  · simp only [if_pos c0]
    repeat' (first | ((first | apply Ba | (apply Bb; (· rfl); (· rfl)) | (apply Bc; (· exact nxE)) | (apply Bd; (· rfl); (· rfl); (· exact nxE))); (· first | exact Ok.lenD rfl rfl hml | exact Nx N3 rfl rfl rfl rfl rfl | exact Kx K4 rfl rfl rfl rfl rfl rfl (by decide) | exact Ok.bs3 rfl rfl rfl rfl rfl | exact Ok.append1 (row := [DI v]) rfl rfl (by decide) rfl rfl hyl3 rfl rfl rfl (by rfl) (by omega) (by omega) | exact Ok.pe)) | ((first | apply Ca | (apply Cb; (· exact nxE))); (· first | exact Nx N3 rfl rfl rfl rfl rfl | exact Kx K4 rfl rfl rfl rfl rfl rfl (by decide) | exact Ok.bs3 rfl rfl rfl rfl rfl | exact Ok.append1 (row := [DI v]) rfl rfl (by decide) rfl rfl hyl3 rfl rfl rfl (by rfl) (by omega) (by omega) | exact Ok.e0)) | refine Sx ?_ | (refine Sy (fun h => ?_) (fun h => ?_) <;> try (exfalso; omega; done)) | refine Sz (fun h => ?_) (fun h => ?_))
    refine Ya ?_
    (apply Le.headZ (hs := [(⟨0, []⟩, ⟨0, []⟩, _)]) [⟨0, []⟩] rfl)
    all_goals (try dsimp only [srcs])
    (case' hfr | hob => (repeat' (first | refine La ?_ ?_ | refine ARs.agg ?_ | refine ARs.tup ?_ | (exact AR.whole (rows := IR (xs ++ [v])) (by simp; rfl) (by simp) (by simp)) | refine La ?_ ?_ | exact Lc | refine Lo ?_ | refine ⟨⟨_, rfl, ?_⟩, ?_⟩ | refine Lx ?_)))
    all_goals (first | exact Ld | exact trivial | (exact AR.whole (rows := IR (xs ++ [v])) (by simp; rfl) (by simp) (by simp)))
  · simp only [if_neg c0]
    repeat' (first | ((first | apply Ba | (apply Bb; (· rfl); (· rfl)) | (apply Bc; (· exact nxE)) | (apply Bd; (· rfl); (· rfl); (· exact nxE))); (· first | exact Nx N3 rfl rfl rfl rfl rfl | exact Ok.pe)) | ((first | apply Ca | (apply Cb; (· exact nxE))); (· first | exact Nx N3 rfl rfl rfl rfl rfl | exact Ok.e0)) | refine Sx ?_ | (refine Sy (fun h => ?_) (fun h => ?_) <;> try (exfalso; omega; done)) | refine Sz (fun h => ?_) (fun h => ?_))
    refine Ya ?_
    (apply Le.headZ (hs := [(⟨0, []⟩, ⟨0, []⟩, _)]) [⟨0, []⟩] rfl)
    all_goals (try dsimp only [srcs])
    (case' hfr | hob => (repeat' (first | refine La ?_ ?_ | refine ARs.agg ?_ | refine ARs.tup ?_ | (exact AR.whole rfl (by simp) (by simp)) | refine La ?_ ?_ | exact Lc | refine Lo ?_ | refine ⟨⟨_, rfl, ?_⟩, ?_⟩ | refine Lx ?_)))
    all_goals (first | exact Ld | exact trivial | (exact AR.whole rfl (by simp) (by simp)))
theorem drawAfterWord_ex [Mode] (code : List Int) (hc : CodeOk code) : ∃ (ms : List (List (List Int))) (x w : List Int), TsOk 10 ms ∧ ms.length ≤ 5 ∧ x.length ≤ 20 ∧ w.length ≤ 10 ∧ AC Try.prog 14 [.d (BD code)] H0 (.tup [QL ms, IL x, IL w]) H0 := by
  have hF := l01From_ac code hc
  obtain ⟨ms, x, s1, hT, hl, hx, h1, D1⟩ := l25DrawVector_ex code hc _ (src0_ok hc)
  obtain ⟨w, s2, hw, h2, D2⟩ := l25DrawWord_ex code hc s1 h1 ms hl
  refine ⟨ms, x, w, hT, hl, hx, hw, ?_⟩
  refine AC.of_body 0 Try.func14 rfl (fun l h => absurd rfl h) (fun C hC => ?_)
  have hD : ∀ l, ¬ C.D0 l := fun l h => (hC l).1 h rfl
  simp only [startFr, Try.ntmps14, List.length_cons, List.length_nil, Nat.reduceAdd, Nat.reduceSub, List.replicate_succ, List.replicate_zero, List.cons_append, List.nil_append]
  repeat' (first | ((first | apply Ba | (apply Bb; (· rfl); (· rfl)) | (apply Bc; (· exact nxE)) | (apply Bd; (· rfl); (· rfl); (· exact nxE))); (· first | exact Fx hF rfl rfl rfl | exact Zl (args := []) D1 rfl rfl rfl rfl .nil (fun _ => by simp [rn]) | exact Zl (args := [QL ms]) D2 rfl rfl rfl rfl (.cons (.dd _) .nil) (fun _ => by simp [rn]) | exact Ok.pe)) | ((first | apply Ca | (apply Cb; (· exact nxE))); (· first | exact Fx hF rfl rfl rfl | exact Zl (args := []) D1 rfl rfl rfl rfl .nil (fun _ => by simp [rn]) | exact Zl (args := [QL ms]) D2 rfl rfl rfl rfl (.cons (.dd _) .nil) (fun _ => by simp [rn]) | exact Ok.e0)) | refine Sx ?_ | (refine Sy (fun h => ?_) (fun h => ?_) <;> try (exfalso; omega; done)) | refine Sz (fun h => ?_) (fun h => ?_))
  refine Yc ?_
  (apply Le.headZ (hs := []) [] rfl)
  all_goals (try dsimp only [srcs])
  (case' hfr => (repeat' (first | refine La ?_ ?_ | exact Lc | refine Lo ?_ | refine ⟨⟨_, rfl, ?_⟩, ?_⟩ | refine Lx ?_)))
  all_goals (first | exact Ld | exact trivial | (rfl))
end Go.Proofs.Ytdgodkpobomneaa
end
