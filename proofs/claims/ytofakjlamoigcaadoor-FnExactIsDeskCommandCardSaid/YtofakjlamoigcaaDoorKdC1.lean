/-
  Walks in the abstract reading: lists of numbers.
-/
import Derived.Test.YtofakjlamoigcaaDoorKdA2
import Derived.Test.YtofakjlamoigcaaDoorKdB3
import Derived.Test.YtofakjlamoigcaaDoorKdA3
import Derived.Test.YtofakjlamoigcaaDoorKdG2
namespace Go.Proofs.YtofakjlamoigcaaDoor
set_option linter.unusedSimpArgs false
set_option linter.unusedVariables false
open Go Go.RowKit
attribute [local irreducible] AL AD AW OpOk Le AC thenQ blockQ EndQ

abbrev IR (xs : List Int) : List (List D) := xs.map fun n => [DI n]
theorem IR_len [Mode] {xs : List Int} : (IR xs).length = xs.length := by simp [IR]
theorem IR_app [Mode] {xs ys : List Int} : IR (xs ++ ys) = IR xs ++ IR ys := by simp [IR]
abbrev IL (xs : List Int) : AV := .d (.sl 1 (IR xs))
abbrev IO (xs : List Int) : AObj := dobj 1 (IR xs)
abbrev TR (t : List (List Int)) : List (List (List D)) := t.map IR
theorem TR_len [Mode] {t : List (List Int)} : (TR t).length = t.length := by simp [TR]
end Go.Proofs.YtofakjlamoigcaaDoor
