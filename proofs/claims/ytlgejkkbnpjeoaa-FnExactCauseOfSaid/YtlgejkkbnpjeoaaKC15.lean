/-
  Walks in the abstract reading: HeldBy of both sides.
-/
import Derived.Test.YtlgejkkbnpjeoaaKC10
import Derived.Test.YtlgejkkbnpjeoaaKA2
namespace Go.Proofs.Ytlgejkkbnpjeoaa
set_option linter.unusedSimpArgs false
set_option linter.unusedVariables false
open Go Go.RowKit
attribute [local irreducible] AL AD AW OpOk Le AC thenQ blockQ EndQ

theorem alT_le {n : Nat} {t : List (List Int)} {r e : Nat} {xs : List Pl} {B : Int} (hB : 0 ≤ B) (hb : ∀ i j, entN t i j ≤ B) (hv : ∀ p ∈ xs, okPl n p) : 0 ≤ alT t r e xs ∧ alT t r e xs ≤ B + 10000 := alA_le hB hb (fun p hp => (hv p hp).2.2.1.2) _
end Go.Proofs.Ytlgejkkbnpjeoaa
