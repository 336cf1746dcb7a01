/-
  Plain law: the answers are short.
-/
import Derived.Test.YtlgejkkbnpjeoaaKC17
namespace Go.Proofs.Ytlgejkkbnpjeoaa
set_option linter.unusedSimpArgs false
set_option linter.unusedVariables false
open Go Go.RowKit
theorem eaOut_len {ev : Int} {xs : List Pl} {t : List (List Int)} : (eaOut ev xs t).length ≤ 1000 := by
  unfold eaOut
  split
  · rename_i h
    obtain ⟨n, rfl, _, h2, _, _, h5, _⟩ := code_ok h
    have := (dueB_ok h5).2.1
    rw [Int.toNat_natCast]
    have := earT_le (c := eaC t (alFn t xs)) h2 t.length
    omega
  · simp
theorem eaOut_rows {ev : Int} {xs : List Pl} {t : List (List Int)} : ∀ r ∈ eaOut ev xs t, r.length ≤ 1000 := by
  unfold eaOut
  split
  · intro r hr
    rw [earT_rows r hr]; decide
  · intro r hr; cases hr
end Go.Proofs.Ytlgejkkbnpjeoaa
