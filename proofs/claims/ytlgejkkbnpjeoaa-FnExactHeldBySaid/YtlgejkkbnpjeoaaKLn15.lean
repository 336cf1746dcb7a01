/-
  Plain law: the answers are short.
-/
import Derived.Test.YtlgejkkbnpjeoaaKC15
namespace Go.Proofs.Ytlgejkkbnpjeoaa
set_option linter.unusedSimpArgs false
set_option linter.unusedVariables false
open Go Go.RowKit
theorem hbOut_len {ev : Int} {xs : List Pl} {t : List (List Int)} : (hbOut ev xs t).length ≤ 1000 := by
  unfold hbOut
  split
  · rename_i h
    obtain ⟨n, rfl, _, h2, _, _, h5, _⟩ := code_ok h
    have := (dueB_ok h5).2.1
    rw [hbTab_len]; omega
  · simp
theorem hbOut_rows {ev : Int} {xs : List Pl} {t : List (List Int)} : ∀ r ∈ hbOut ev xs t, r.length ≤ 1000 := by
  unfold hbOut
  split
  · rename_i h
    obtain ⟨n, rfl, _, h2, _⟩ := code_ok h
    intro r hr
    have : r.length = n := tabF_rc.r r hr
    omega
  · intro r hr; cases hr
end Go.Proofs.Ytlgejkkbnpjeoaa
