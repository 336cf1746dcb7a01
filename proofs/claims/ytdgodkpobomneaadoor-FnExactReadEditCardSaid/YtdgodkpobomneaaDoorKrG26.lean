/-
  Plain laws: a place's text cut and read, an edit's text read.
-/
import Derived.Test.YtdgodkpobomneaaDoorKrG25
import Derived.Test.YtdgodkpobomneaaDoorKrS2
namespace Go.Proofs.YtdgodkpobomneaaDoor
set_option linter.unusedSimpArgs false
set_option linter.unusedVariables false
open Go

/-- The pieces of a place's text, as the program cuts it. -/
def rpA (l : List UInt8) : List UInt8 := (Lib.cut l [62]).1
def rpR (l : List UInt8) : List UInt8 := (Lib.cut l [62]).2.1
def rpB (l : List UInt8) : List UInt8 := (Lib.cut (rpR l) [58]).1
def rpS (l : List UInt8) : List UInt8 := (Lib.cut (rpR l) [58]).2.1
def rpC (l : List UInt8) : List UInt8 := (Lib.cut (rpS l) [42]).1
def rpD (l : List UInt8) : List UInt8 := (Lib.cut (rpS l) [42]).2.1
/-- A place as the program reads it. -/
def rpN (l : List UInt8) : Pl × Bool :=
  if (rdN (rpA l)).2 = true ∧ (rdN (rpB l)).2 = true ∧ (rdN (rpC l)).2 = true ∧ (rdN (rpD l)).2 = true then
    (⟨(rdN (rpA l)).1, (rdN (rpB l)).1, (rdN (rpC l)).1, (rdN (rpD l)).1⟩, true) else (⟨0, 0, 0, 0⟩, false)
theorem plB_nat {p : Pl} (h : plB 9 p = true) : ∃ a b c d : Nat, p = ⟨a, b, c, d⟩ ∧ a ≤ 9 ∧ b ≤ 9 ∧ c ≤ 1000 ∧ d ≤ 5 := by
  obtain ⟨⟨h1, h2⟩, h3, h4⟩ := plB_iff.1 h
  obtain ⟨f, t, d, k⟩ := p
  simp only at h1 h2 h3 h4
  exact ⟨f.toNat, t.toNat, d.toNat, k.toNat, by simp only [Pl.mk.injEq]; omega, by omega, by omega, by omega, by omega⟩
theorem plT_nat (a b c d : Nat) : plT ⟨a, b, c, d⟩ = dec a ++ 62 :: (dec b ++ 58 :: (dec c ++ 42 :: dec d)) := by simp [plT]
theorem rp_cut (a b c d : Nat) : let l := dec a ++ 62 :: (dec b ++ 58 :: (dec c ++ 42 :: dec d)); rpA l = dec a ∧ rpB l = dec b ∧ rpC l = dec c ∧ rpD l = dec d := by
  intro l
  have e1 : Lib.cut l [62] = (dec a, dec b ++ 58 :: (dec c ++ 42 :: dec d), true) := cut_at (dec_no (by decide))
  have e2 : Lib.cut (dec b ++ 58 :: (dec c ++ 42 :: dec d)) [58] = (dec b, dec c ++ 42 :: dec d, true) := cut_at (dec_no (by decide))
  have e3 : Lib.cut (dec c ++ 42 :: dec d) [42] = (dec c, dec d, true) := cut_at (dec_no (by decide))
  simp [rpA, rpB, rpC, rpD, rpR, rpS, e1, e2, e3]
theorem rp_plT {p : Pl} (h : plB 9 p = true) : rpN (plT p) = (p, true) := by
  obtain ⟨a, b, c, d, rfl, h1, h2, h3, h4⟩ := plB_nat h
  rw [plT_nat]
  obtain ⟨e1, e2, e3, e4⟩ := rp_cut a b c d
  unfold rpN
  rw [e1, e2, e3, e4, rdN_dec (by omega), rdN_dec (by omega), rdN_dec (by omega), rdN_dec (by omega)]
  simp
theorem rdN_nil : (rdN []).2 = false := by
  cases h : (rdN []).2 with
  | false => rfl
  | true =>
    have := rdN_some h
    generalize (rdN []).1 = v at this
    by_cases h0 : v < 0
    · rw [Lib.itoa, if_pos h0] at this; simp at this
    · rw [itoa_pos (by omega)] at this; exact absurd this.symm (dec_ne _)
/-- Whatever is cut with something behind is put together again. -/
theorem cut_join {c : UInt8} {l : List UInt8} (h : (Lib.cut l [c]).2.1 ≠ []) : l = (Lib.cut l [c]).1 ++ c :: (Lib.cut l [c]).2.1 := by
  rcases first_byte c l with h1 | ⟨a, b, rfl, h1⟩
  · rw [cut_no h1] at h; exact absurd rfl h
  · rw [cut_at h1]
theorem rp_some {l : List UInt8} (h : (rpN l).2 = true) (hb : plB 9 (rpN l).1 = true) : plT (rpN l).1 = l := by
  unfold rpN at h hb ⊢
  split at h
  case isFalse => cases h
  rename_i hall
  rw [if_pos hall] at hb ⊢
  obtain ⟨h1, h2, h3, h4⟩ := hall
  obtain ⟨⟨g1, g2⟩, g3, g4⟩ := plB_iff.1 hb
  simp only at g1 g2 g3 g4 ⊢
  have nd : rpD l ≠ [] := fun e => by rw [e, rdN_nil] at h4; cases h4
  have nc : rpC l ≠ [] := fun e => by rw [e, rdN_nil] at h3; cases h3
  have nb : rpB l ≠ [] := fun e => by rw [e, rdN_nil] at h2; cases h2
  have j3 : rpS l = rpC l ++ 42 :: rpD l := cut_join (l := rpS l) nd
  have ns : rpS l ≠ [] := by rw [j3]; simp
  have j2 : rpR l = rpB l ++ 58 :: rpS l := cut_join (l := rpR l) ns
  have nr : rpR l ≠ [] := by rw [j2]; simp
  have j1 : l = rpA l ++ 62 :: rpR l := cut_join (l := l) nr
  have i1 := rdN_some h1
  have i2 := rdN_some h2
  have i3 := rdN_some h3
  have i4 := rdN_some h4
  rw [itoa_pos g1.1] at i1
  rw [itoa_pos g2.1] at i2
  rw [itoa_pos g3.1] at i3
  rw [itoa_pos g4.1] at i4
  conv => rhs; rw [j1, j2, j3, i1, i2, i3, i4]
  simp [plT]
def reN (c : UInt8) (l : List UInt8) : Ed × Bool :=
  if c = 45 then (⟨2, (rdN (Lib.cut l [32]).1).1, ⟨0, 0, 0, 0⟩⟩, (rdN (Lib.cut l [32]).1).2 && !(Lib.cut l [32]).2.2)
  else if c = 43 ∨ c = 61 then (⟨if c = 61 then 3 else 1, (rdN (Lib.cut l [32]).1).1, (rpN (Lib.cut l [32]).2.1).1⟩, (rdN (Lib.cut l [32]).1).2 && (Lib.cut l [32]).2.2 && (rpN (Lib.cut l [32]).2.1).2)
  else (⟨0, (rdN (Lib.cut l [32]).1).1, ⟨0, 0, 0, 0⟩⟩, (rdN (Lib.cut l [32]).1).2)
theorem edB_iff {e : Ed} : edB e = true ↔ (1 ≤ e.kind ∧ e.kind ≤ 3) ∧ (0 ≤ e.idx ∧ e.idx ≤ 30) ∧ (if e.kind = 2 then e.pl = ⟨0, 0, 0, 0⟩ else plB 9 e.pl = true) := by
  unfold edB
  constructor
  · intro h
    split at h
    · split at h
      · rename_i h1 h2
        refine ⟨wi_iff'.1 h1, wi_iff'.1 h2, ?_⟩
        split at h
        · rename_i h3; rw [if_pos h3]; simpa using h
        · rename_i h3; rw [if_neg h3]; exact h
      · cases h
    · cases h
  · rintro ⟨h1, h2, h3⟩
    rw [if_pos (wi_iff'.2 h1), if_pos (wi_iff'.2 h2)]
    split
    · rename_i h4; rw [if_pos h4] at h3; simpa using h3
    · rename_i h4; rw [if_neg h4] at h3; exact h3
theorem re_ok {e : Ed} (h : edB e = true) : ∃ c l, edT e = c :: l ∧ reN c l = (e, true) := by
  obtain ⟨⟨k1, k2⟩, ⟨x1, x2⟩, hp⟩ := edB_iff.1 h
  rw [edT_yes h]
  obtain ⟨kd, ix, pl⟩ := e
  simp only at k1 k2 x1 x2 hp ⊢
  obtain ⟨n, rfl⟩ : ∃ n : Nat, ix = n := ⟨ix.toNat, by omega⟩
  rw [Int.toNat_natCast]
  by_cases h2 : kd = 2
  · subst h2
    simp only [if_true] at hp
    subst hp
    refine ⟨45, dec n, by rw [if_pos rfl], ?_⟩
    unfold reN
    rw [if_pos rfl, cut_no (dec_no (by decide)), rdN_dec (by omega)]
    rfl
  · simp only [if_neg h2] at hp ⊢
    have hc : Lib.cut (dec n ++ [32] ++ plT pl) [32] = (dec n, plT pl, true) := by
      rw [List.append_assoc]
      exact cut_at (a := dec n) (b := plT pl) (dec_no (by decide))
    by_cases h1 : kd = 1
    · subst h1
      refine ⟨43, _, by rw [if_pos rfl], ?_⟩
      unfold reN
      rw [if_neg (by decide), if_pos (by decide), hc, rdN_dec (by omega), rp_plT hp]
      rfl
    · obtain rfl : kd = 3 := by omega
      refine ⟨61, _, by rw [if_neg (by decide)], ?_⟩
      unfold reN
      rw [if_neg (by decide), if_pos (by decide), hc, rdN_dec (by omega), rp_plT hp]
      rfl
theorem re_some {c : UInt8} {l : List UInt8} (h : (reN c l).2 = true) (hb : edB (reN c l).1 = true) : edT (reN c l).1 = c :: l := by
  obtain ⟨⟨k1, k2⟩, ⟨x1, x2⟩, hp⟩ := edB_iff.1 hb
  rw [edT_yes hb]
  unfold reN at h hb k1 k2 x1 x2 hp ⊢
  by_cases c1 : c = 45
  · subst c1
    simp only [if_true] at h hb x1 x2 ⊢
    simp only [Bool.and_eq_true, Bool.not_eq_true'] at h
    obtain ⟨h1, h2⟩ := h
    have i1 := rdN_some h1
    rw [itoa_pos x1] at i1
    have hl : (Lib.cut l [32]).1 = l := by
      rcases first_byte 32 l with h3 | ⟨a, b, rfl, h3⟩
      · rw [cut_no h3]
      · rw [cut_at h3] at h2; cases h2
    rw [← i1, hl]
  · rw [if_neg c1] at h hb k1 k2 x1 x2 hp ⊢
    by_cases c2 : c = 43 ∨ c = 61
    · rw [if_pos c2] at h hb k1 k2 x1 x2 hp ⊢
      simp only [Bool.and_eq_true] at h
      obtain ⟨⟨h1, h2⟩, h3⟩ := h
      have i1 := rdN_some h1
      simp only at x1 x2 hp ⊢
      rw [itoa_pos x1] at i1
      have hk : ¬ (if c = 61 then (3 : Int) else 1) = 2 := by split <;> decide
      rw [if_neg hk] at hp ⊢
      have i2 := rp_some h3 hp
      rw [← i1, i2]
      have hl : l = (Lib.cut l [32]).1 ++ 32 :: (Lib.cut l [32]).2.1 := by
        rcases first_byte 32 l with h4 | ⟨a, b, rfl, h4⟩
        · rw [cut_no h4] at h2; cases h2
        · rw [cut_at h4]
      have hc : (if (if c = 61 then (3 : Int) else 1) = 1 then (43 : UInt8) else 61) = c := by
        rcases c2 with rfl | rfl <;> rfl
      rw [hc]
      conv => rhs; rw [hl]
      simp
    · rw [if_neg c2] at k1
      simp at k1
end Go.Proofs.YtdgodkpobomneaaDoor
