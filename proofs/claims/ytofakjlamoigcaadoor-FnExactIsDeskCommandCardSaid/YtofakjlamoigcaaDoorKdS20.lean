/-
  Walks in the abstract reading: a place read by the program; an edit read by the program.
-/
import Derived.Test.YtofakjlamoigcaaDoorKdG26
import Derived.Test.YtofakjlamoigcaaDoorKdS8
import Derived.Test.YtofakjlamoigcaaDoorKdA3
namespace Go.Proofs.YtofakjlamoigcaaDoor
set_option linter.unusedSimpArgs false
set_option linter.unusedVariables false
open Go Go.RowKit
attribute [local irreducible] AL AD AW OpOk Le AC thenQ blockQ EndQ

theorem cut_len1 [Mode] (l : List UInt8) (c : UInt8) : (Lib.cut l [c]).1.length ≤ l.length ∧ (Lib.cut l [c]).2.1.length ≤ l.length := by
  rcases first_byte c l with h1 | ⟨a, b, rfl, h1⟩
  · rw [cut_no h1]; simp
  · rw [cut_at h1]; simp only [List.length_append, List.length_cons]; omega
end Go.Proofs.YtofakjlamoigcaaDoor
