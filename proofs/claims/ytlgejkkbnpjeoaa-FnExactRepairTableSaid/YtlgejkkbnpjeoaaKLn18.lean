/-
  Plain law: the answers are short.
-/
import Derived.Test.YtlgejkkbnpjeoaaKC18
namespace Go.Proofs.Ytlgejkkbnpjeoaa
set_option linter.unusedSimpArgs false
set_option linter.unusedVariables false
open Go Go.RowKit
theorem rpOut_len {ev : Int} {xs : List Pl} {t : List (List Int)} : (rpOut ev xs t).length ≤ 1000 := by
  unfold rpOut
  split
  · rename_i h
    have hg : goodI ev xs t = 0 := by
      unfold rpC at h
      split at h
      · assumption
      · exact h
    obtain ⟨n, rfl, _, h2, _, _, h5, _⟩ := code_ok hg
    have := (dueB_ok h5).2.1
    unfold rpTab
    rw [tabF_len]; omega
  · simp
theorem rpOut_rows {ev : Int} {xs : List Pl} {t : List (List Int)} : ∀ r ∈ rpOut ev xs t, r.length ≤ 1000 := by
  unfold rpOut
  split
  · rename_i h
    have hg : goodI ev xs t = 0 := by
      unfold rpC at h
      split at h
      · assumption
      · exact h
    obtain ⟨n, rfl, _, h2, _⟩ := code_ok hg
    intro r hr
    have : r.length = n := by unfold rpTab at hr; rw [Int.toNat_natCast] at hr; exact tabF_rc.r r hr
    omega
  · intro r hr; cases hr
end Go.Proofs.Ytlgejkkbnpjeoaa
