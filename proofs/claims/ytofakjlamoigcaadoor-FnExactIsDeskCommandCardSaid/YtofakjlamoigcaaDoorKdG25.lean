/-
  Bytes: numerals written and read, texts split at a byte. Plain laws, no program.
-/
import Derived.Lib.ItoaNum
import Derived.Lib.ParseIntB
import Derived.Lib.Split
namespace Go.Proofs.YtofakjlamoigcaaDoor
set_option linter.unusedSimpArgs false
set_option linter.unusedVariables false
open Go

/-! ### Split at a byte -/
/-- The pieces of a text at a byte, p being the beginning of the first one. -/
def splP (c : UInt8) (p : List UInt8) : List UInt8 → List (List UInt8)
  | [] => [p]
  | x :: xs => if x = c then p :: splP c [] xs else splP c (p ++ [x]) xs
def spl (c : UInt8) (l : List UInt8) : List (List UInt8) := splP c [] l
theorem splP_no {c : UInt8} : ∀ {a : List UInt8} {p : List UInt8}, c ∉ a → splP c p a = [p ++ a]
  | [], p, _ => by simp [splP]
  | x :: a, p, h => by
    simp only [List.mem_cons, not_or] at h
    rw [splP, if_neg (fun e => h.1 e.symm), splP_no h.2, List.append_assoc]; rfl
theorem splP_at {c : UInt8} {b : List UInt8} : ∀ {a : List UInt8} {p : List UInt8}, c ∉ a → splP c p (a ++ c :: b) = (p ++ a) :: splP c [] b
  | [], p, _ => by simp [splP]
  | x :: a, p, h => by
    simp only [List.mem_cons, not_or] at h
    rw [List.cons_append, splP, if_neg (fun e => h.1 e.symm), splP_at h.2, List.append_assoc]; rfl
theorem spl_no {c : UInt8} {a : List UInt8} (h : c ∉ a) : spl c a = [a] := splP_no (p := []) h
theorem spl_at {c : UInt8} {a b : List UInt8} (h : c ∉ a) : spl c (a ++ c :: b) = a :: spl c b := splP_at (p := []) h
/-- A text and its first c. -/
theorem first_byte (c : UInt8) : ∀ l : List UInt8, c ∉ l ∨ ∃ a b, l = a ++ c :: b ∧ c ∉ a
  | [] => .inl (by simp)
  | x :: l => by
    by_cases h : x = c
    · exact .inr ⟨[], l, by rw [h]; rfl, by simp⟩
    · rcases first_byte c l with h1 | ⟨a, b, rfl, h1⟩
      · exact .inl (by simp [Ne.symm h, h1])
      · exact .inr ⟨x :: a, b, rfl, by simp [Ne.symm h, h1]⟩
theorem index_no {c : UInt8} : ∀ {l : List UInt8}, c ∉ l → Lib.index l [c] = -1
  | [], _ => rfl
  | x :: l, h => by
    simp only [List.mem_cons, not_or] at h
    have := index_no (l := l) h.2
    have e : ([c].isPrefixOf (x :: l)) = false := by simp [List.isPrefixOf, h.1]
    simp [Lib.index, e, this]
theorem index_at {c : UInt8} {b : List UInt8} : ∀ {a : List UInt8}, c ∉ a → Lib.index (a ++ c :: b) [c] = a.length
  | [], _ => by simp [Lib.index, List.isPrefixOf]
  | x :: a, h => by
    simp only [List.mem_cons, not_or] at h
    have := index_at (b := b) (a := a) h.2
    have e : ([c].isPrefixOf (x :: (a ++ c :: b))) = false := by simp [List.isPrefixOf, h.1]
    have hn : ¬ ((a.length : Int) = -1) := by omega
    rw [List.cons_append, Lib.index, e, this]
    simp [hn]
theorem cut_no {c : UInt8} {l : List UInt8} (h : c ∉ l) : Lib.cut l [c] = (l, [], false) := by simp [Lib.cut, index_no h]
theorem cut_at {c : UInt8} {a b : List UInt8} (h : c ∉ a) : Lib.cut (a ++ c :: b) [c] = (a, b, true) := by
  have e : (a ++ c :: b).drop (a.length + 1) = b := by
    rw [← List.drop_drop]; simp
  simp [Lib.cut, index_at h, e]
theorem splitK_spl {c : UInt8} : ∀ (fuel : Nat) (l : List UInt8), l.length < fuel → Lib.splitK [c] 0 (Lib.countFrom [c] fuel l) l = spl c l
  | 0, l, h => by omega
  | fuel + 1, l, h => by
    rcases first_byte c l with h1 | ⟨a, b, rfl, h1⟩
    · simp [Lib.countFrom, index_no h1, Lib.splitK, spl_no h1]
    · have hn : ¬ ((a.length : Int) = -1) := by omega
      have e : (a ++ c :: b).drop (a.length + 1) = b := by
        rw [← List.drop_drop]; simp
      have ih := splitK_spl (c := c) fuel b (by simp only [List.length_append, List.length_cons] at h; omega)
      rw [spl_at h1, ← ih]
      simp [Lib.countFrom, index_at h1, hn, e, Nat.add_comm 1, Lib.splitK]
theorem split_spl (c : UInt8) (l : List UInt8) : Lib.split l [c] = spl c l := splitK_spl _ l (Nat.lt_succ_self _)
/-- The state of a loop that cuts a text: where the piece begins, the pieces so far. -/
def stS (c : UInt8) (l : List UInt8) : Nat → Nat × List (List UInt8)
  | 0 => (0, [])
  | i + 1 => if i = l.length ∨ l[i]? = some c then (i + 1, (stS c l i).2 ++ [(l.drop (stS c l i).1).take (i - (stS c l i).1)]) else stS c l i
theorem stS_le (c : UInt8) (l : List UInt8) : ∀ i, (stS c l i).1 ≤ i
  | 0 => Nat.le_refl _
  | i + 1 => by
    rw [stS]
    split
    · exact Nat.le_refl _
    · exact Nat.le_succ_of_le (stS_le c l i)
theorem stS_len (c : UInt8) (l : List UInt8) : ∀ i, (stS c l i).2.length ≤ i
  | 0 => Nat.le_refl _
  | i + 1 => by
    rw [stS]
    split
    · simpa using stS_len c l i
    · exact Nat.le_succ_of_le (stS_len c l i)
theorem stS_inv (c : UInt8) (l : List UInt8) : ∀ i, i ≤ l.length → (stS c l i).2 ++ splP c ((l.drop (stS c l i).1).take (i - (stS c l i).1)) (l.drop i) = spl c l
  | 0, _ => by simp [stS, spl]
  | i + 1, h => by
    have ih := stS_inv c l i (by omega)
    have hle := stS_le c l i
    rw [List.drop_eq_getElem_cons (by omega : i < l.length), splP] at ih
    rw [stS]
    by_cases hc : l[i] = c
    · rw [if_pos hc] at ih
      rw [if_pos (.inr (by rw [List.getElem?_eq_getElem (by omega), hc]))]
      simp only [Nat.sub_self, List.take_zero, List.append_assoc, List.singleton_append]
      exact ih
    · rw [if_neg hc] at ih
      rw [if_neg (by rw [List.getElem?_eq_getElem (by omega)]; simp [hc]; omega)]
      rw [← ih]
      congr 2
      rw [show i + 1 - (stS c l i).1 = (i - (stS c l i).1) + 1 by omega, List.take_add_one, List.getElem?_drop, show (stS c l i).1 + (i - (stS c l i).1) = i by omega, List.getElem?_eq_getElem (by omega)]
      rfl
theorem stS_end (c : UInt8) (l : List UInt8) : (stS c l (l.length + 1)).2 = spl c l := by
  have := stS_inv c l l.length (Nat.le_refl _)
  rw [List.drop_length, splP] at this
  rw [stS, if_pos (.inl rfl)]
  exact this

/-! ### Numerals -/
abbrev dec (n : Nat) : List UInt8 := Lib.decDigits n
theorem dec_small {n : Nat} (h : n < 10) : dec n = [UInt8.ofNat (48 + n)] := by rw [dec, Lib.decDigits, dif_pos h]
theorem dec_big {n : Nat} (h : ¬ n < 10) : dec n = dec (n / 10) ++ [UInt8.ofNat (48 + n % 10)] := by rw [dec, Lib.decDigits, dif_neg h]
theorem dg_toNat {d : Nat} (h : d < 10) : (UInt8.ofNat (48 + d)).toNat = 48 + d := by
  rw [UInt8.toNat_ofNat']; omega
theorem dec_ne (n : Nat) : dec n ≠ [] := by
  by_cases h : n < 10
  · rw [dec_small h]; simp
  · rw [dec_big h]; simp
/-- All bytes of a numeral are digits. -/
theorem dec_digits (n : Nat) : ∀ c ∈ dec n, 48 ≤ c.toNat ∧ c.toNat ≤ 57 := by
  induction n using Nat.strongRecOn with
  | ind n ih =>
    intro c hc
    by_cases h : n < 10
    · rw [dec_small h] at hc
      simp only [List.mem_singleton] at hc
      rw [hc, dg_toNat h]; omega
    · rw [dec_big h, List.mem_append] at hc
      rcases hc with hc | hc
      · exact ih (n / 10) (by omega) c hc
      · simp only [List.mem_singleton] at hc
        rw [hc, dg_toNat (by omega)]; omega
theorem dec_len_le (k : Nat) : ∀ n, n < 10 ^ (k + 1) → (dec n).length ≤ k + 1 := by
  induction k with
  | zero => intro n h; rw [dec_small (by simpa using h)]; simp
  | succ k ih =>
    intro n h
    by_cases h1 : n < 10
    · rw [dec_small h1]; simp
    · rw [dec_big h1, List.length_append]
      have := ih (n / 10) (by rw [Nat.pow_succ] at h; omega)
      simp; omega
/-- What digits spell. -/
def dgA (l : List UInt8) : Nat := l.foldl (fun a c => 10 * a + (c.toNat - 48)) 0
theorem dgA_snoc (l : List UInt8) (c : UInt8) : dgA (l ++ [c]) = 10 * dgA l + (c.toNat - 48) := by simp [dgA]
theorem dgA_dec (n : Nat) : dgA (dec n) = n := by
  induction n using Nat.strongRecOn with
  | ind n ih =>
    by_cases h : n < 10
    · rw [dec_small h]; simp only [dgA, List.foldl_cons, List.foldl_nil]; rw [dg_toNat h]; omega
    · rw [dec_big h, dgA_snoc, ih (n / 10) (by omega), dg_toNat (by omega)]; omega
theorem dgA_lt_from : ∀ (l : List UInt8) (a k : Nat), (∀ c ∈ l, c.toNat ≤ 57) → a < 10 ^ k → l.foldl (fun a c => 10 * a + (c.toNat - 48)) a < 10 ^ (k + l.length)
  | [], _, _, _, ha => ha
  | c :: l, a, k, h, ha => by
    have h2 := h c (by simp)
    have := dgA_lt_from l (10 * a + (c.toNat - 48)) (k + 1) (fun c hc => h c (by simp [hc])) (by rw [Nat.pow_succ]; omega)
    rw [List.foldl_cons, List.length_cons, show k + (l.length + 1) = k + 1 + l.length by omega]
    exact this
theorem dgA_lt (l : List UInt8) (h : ∀ c ∈ l, c.toNat ≤ 57) : dgA l < 10 ^ l.length := by
  have := dgA_lt_from l 0 0 h (by decide)
  rwa [Nat.zero_add] at this
/-- A number of at most ten digits, as the reference reads it. -/
def digN (l : List UInt8) : Int × Bool :=
  if l.length < 1 ∨ 10 < l.length then (0, false) else if ∀ c ∈ l, 48 ≤ c.toNat ∧ c.toNat ≤ 57 then (dgA l, decide (dec (dgA l) = l)) else (0, false)
def sgN (l : List UInt8) : Int × Bool := if l.head? = some 45 then (-(digN l.tail).1, (digN l.tail).2 && decide (0 < (digN l.tail).1)) else digN l
theorem digN_dec {n : Nat} (h : n < 10000000000) : digN (dec n) = ((n : Int), true) := by
  have h1 := dec_len_le 9 n (by simpa using h)
  have h2 : (dec n).length ≠ 0 := fun e => dec_ne n (List.length_eq_zero_iff.1 e)
  rw [digN, if_neg (by omega), if_pos (dec_digits n), dgA_dec]; simp
theorem digN_some {l : List UInt8} (h : (digN l).2 = true) : ∃ n : Nat, n < 10000000000 ∧ l = dec n ∧ (digN l).1 = n := by
  unfold digN at h ⊢
  split at h
  · cases h
  · rename_i hl
    split at h
    · rename_i hd
      have h1 := dgA_lt l (fun c hc => (hd c hc).2)
      have h2 : 10 ^ l.length ≤ 10 ^ 10 := Nat.pow_le_pow_right (by decide) (by omega)
      exact ⟨dgA l, by omega, (of_decide_eq_true h).symm, by rw [if_neg hl, if_pos hd]⟩
    · cases h
theorem digN_nonneg (l : List UInt8) : 0 ≤ (digN l).1 := by
  unfold digN
  split
  · exact Int.le_refl _
  · split
    · exact Int.natCast_nonneg _
    · exact Int.le_refl _
theorem digN_lt (l : List UInt8) : (digN l).1 < 10000000000 := by
  unfold digN
  split
  · decide
  · rename_i hl
    split
    · rename_i hd
      have h1 := dgA_lt l (fun c hc => (hd c hc).2)
      have h2 : 10 ^ l.length ≤ 10 ^ 10 := Nat.pow_le_pow_right (by decide) (by omega)
      show ((dgA l : Nat) : Int) < _
      omega
    · decide
theorem dec_head (n : Nat) : (dec n).head? ≠ some 45 := fun h => by
  have h1 := dec_digits n 45 (List.mem_of_mem_head? h)
  simp at h1
theorem sgN_dec {n : Nat} (h : n < 10000000000) : sgN (dec n) = ((n : Int), true) := by rw [sgN, if_neg (dec_head n), digN_dec h]
/-! The library reads what it writes. -/
theorem parseUintM_append {M : Nat} : ∀ {l : List UInt8} {acc a : Nat} {r : List UInt8}, Lib.parseUintM M acc l = .ok a → Lib.parseUintM M acc (l ++ r) = Lib.parseUintM M a r
  | [], acc, a, r, h => by
    simp only [Lib.parseUintM] at h
    cases h; rfl
  | c :: l, acc, a, r, h => by
    rw [List.cons_append, Lib.parseUintM]
    rw [Lib.parseUintM] at h
    split at h
    · rename_i h1
      rw [if_pos h1]
      split at h
      · cases h
      · rename_i h2
        rw [if_neg h2]
        split at h
        · cases h
        · rename_i h3
          rw [if_neg h3]
          exact parseUintM_append h
    · cases h
theorem parseUintM_dec (n : Nat) (h : n ≤ 18446744073709551615) : Lib.parseUintM 18446744073709551615 0 (dec n) = .ok n := by
  induction n using Nat.strongRecOn with
  | ind n ih =>
    by_cases h1 : n < 10
    · have h2 := dg_toNat h1
      rw [dec_small h1, Lib.parseUintM, h2, if_pos (by omega), if_neg (by omega), if_neg (by omega), Lib.parseUintM]
      congr 1; omega
    · have h2 := dg_toNat (d := n % 10) (by omega)
      rw [dec_big h1, parseUintM_append (ih (n / 10) (by omega) (by omega)), Lib.parseUintM, h2, if_pos (by omega), if_neg (by omega), if_neg (by omega), Lib.parseUintM]
      congr 1; omega
theorem parse_dec {n : Nat} (h : n < 9223372036854775808) : Lib.parseIntB 64 (dec n) = .ok (n : Int) := by
  have h1 := parseUintM_dec n (by omega)
  have hne := dec_ne n
  have hd := dec_digits n
  generalize dec n = l at h1 hne hd
  match l, hne with
  | c :: r, _ =>
    have hc := hd c (by simp)
    have e1 : ¬ (c.toNat = 43 ∨ c.toNat = 45) := by omega
    have e2 : ¬ c.toNat = 45 := by omega
    have e3 : Lib.parseUintB 64 (c :: r) = .ok n := by
      simp only [Lib.parseUintB, if_neg (List.cons_ne_nil c r)]; exact h1
    simp only [Lib.parseIntB]
    rw [if_neg e1, e3]
    simp only [e2, not_false_eq_true, true_and, false_and, if_false]
    rw [if_neg (by simp; omega)]
/-- A number as the program reads it. -/
def rdN (l : List UInt8) : Int × Bool := match Lib.parseIntB 64 l with
  | .ok v => if Lib.itoa v = l then (v, true) else (0, false)
  | _ => (0, false)
theorem itoa_nat (n : Nat) : Lib.itoa n = dec n := by
  rw [Lib.itoa, if_neg (by omega)]; rfl
theorem rdN_dec {n : Nat} (h : n < 9223372036854775808) : rdN (dec n) = ((n : Int), true) := by rw [rdN, parse_dec h]; simp [itoa_nat]
theorem rdN_some {l : List UInt8} (h : (rdN l).2 = true) : l = Lib.itoa (rdN l).1 := by
  unfold rdN at h ⊢
  split at h
  · split at h
    · rename_i v e1 e2
      simp only [e2, if_true]
    · cases h
  · cases h
end Go.Proofs.YtofakjlamoigcaaDoor
