/-
  Plain laws: a signed number of at most ten digits, as the reference and as the program read it.
-/
import Derived.Test.YtofakjlamoigcaaDoorKdG26
namespace Go.Proofs.YtofakjlamoigcaaDoor
set_option linter.unusedSimpArgs false
set_option linter.unusedVariables false
open Go

/-- A word without its sign. -/
def trm (w : List UInt8) : List UInt8 := if w.head? = some 45 then w.tail else w
theorem dec_short {m : Nat} (h : (dec m).length ≤ 10) : m < 10000000000 := by
  have h1 := dgA_lt (dec m) (fun c hc => (dec_digits m c hc).2)
  rw [dgA_dec] at h1
  have h2 : 10 ^ (dec m).length ≤ 10 ^ 10 := Nat.pow_le_pow_right (by decide) h
  omega
theorem parse_neg {n : Nat} (h : n ≤ 9223372036854775808) : Lib.parseIntB 64 (45 :: dec n) = .ok (-(n : Int)) := by
  have h1 := parseUintM_dec n (by omega)
  have hne := dec_ne n
  have e3 : Lib.parseUintB 64 (dec n) = .ok n := by
    generalize dec n = l at h1 hne
    match l, hne with
    | c :: r, _ => simp only [Lib.parseUintB, if_neg (List.cons_ne_nil c r)]; exact h1
  simp only [Lib.parseIntB]
  rw [if_pos (by decide), e3]
  simp only
  rw [if_neg (by simp), if_neg (by simp; omega), if_pos (by decide)]
theorem itoa_neg {v : Int} (h : v < 0) : Lib.itoa v = 45 :: dec (-v).toNat := by
  rw [Lib.itoa, if_pos h, show v.natAbs = (-v).toNat by omega]
theorem rdN_neg {n : Nat} (h0 : 0 < n) (h : n ≤ 9223372036854775808) : rdN (45 :: dec n) = (-(n : Int), true) := by
  have e : Lib.itoa (-(n : Int)) = 45 :: dec n := by rw [itoa_neg (by omega)]; congr 2; omega
  rw [rdN, parse_neg h]
  simp only
  rw [if_pos e]
theorem sgN_iff (w : List UInt8) : (sgN w).2 = ((rdN w).2 && decide ((trm w).length ≤ 10)) := by
  apply Bool.eq_iff_iff.2
  rw [Bool.and_eq_true, decide_eq_true_iff]
  constructor
  · intro h
    unfold sgN at h
    unfold trm
    split at h
    · rename_i h1
      rw [if_pos h1]
      rw [Bool.and_eq_true, decide_eq_true_iff] at h
      obtain ⟨h2, h3⟩ := h
      obtain ⟨n, h4, h5, h6⟩ := digN_some h2
      rw [h6] at h3
      have hw : w = 45 :: dec n := by
        cases w with
        | nil => cases h1
        | cons c t =>
          simp only [List.head?_cons, Option.some.injEq] at h1
          simp only [List.tail_cons] at h5
          rw [h1, h5]
      rw [h5, hw, rdN_neg (by omega) (by omega)]
      exact ⟨rfl, dec_len_le 9 n (by simpa using h4)⟩
    · rename_i h1
      rw [if_neg h1]
      obtain ⟨n, h4, h5, _⟩ := digN_some h
      rw [h5, rdN_dec (by omega)]
      exact ⟨rfl, dec_len_le 9 n (by simpa using h4)⟩
  · rintro ⟨h1, h2⟩
    have h3 := rdN_some h1
    generalize (rdN w).1 = v at h3
    subst h3
    by_cases hv : v < 0
    · rw [itoa_neg hv] at h2 ⊢
      have h4 : (dec (-v).toNat).length ≤ 10 := by simpa [trm] using h2
      have h5 := dec_short h4
      rw [sgN, if_pos (show (45 :: dec (-v).toNat).head? = some 45 from rfl), List.tail_cons, digN_dec h5]
      simp only [Bool.true_and, decide_eq_true_iff]
      omega
    · rw [itoa_pos (by omega)] at h2 ⊢
      have h4 : (dec v.toNat).length ≤ 10 := by rw [trm, if_neg (dec_head _)] at h2; exact h2
      rw [sgN_dec (dec_short h4)]
end Go.Proofs.YtofakjlamoigcaaDoor
