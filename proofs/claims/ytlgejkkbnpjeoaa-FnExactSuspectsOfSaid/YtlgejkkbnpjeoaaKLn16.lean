/-
  Plain law: the answers are short.
-/
import Derived.Test.YtlgejkkbnpjeoaaKC16
namespace Go.Proofs.Ytlgejkkbnpjeoaa
set_option linter.unusedSimpArgs false
set_option linter.unusedVariables false
open Go Go.RowKit
theorem blOut_len {ev : Int} {xs : List Pl} {t : List (List Int)} : (blOut ev xs t).length ≤ 1000 := by
  unfold blOut
  split
  · rename_i h
    obtain ⟨n, rfl, _, h2, _⟩ := code_ok h
    rw [Int.toNat_natCast, blRow_len]; omega
  · simp
theorem suOut_len {ev : Int} {xs : List Pl} {t : List (List Int)} : (suOut ev xs t).length ≤ 1000 := by
  unfold suOut
  split
  · rename_i h
    obtain ⟨n, rfl, _, h2, _⟩ := code_ok h
    rw [Int.toNat_natCast]
    exact Nat.le_trans susF_le (by omega)
  · simp
end Go.Proofs.Ytlgejkkbnpjeoaa
