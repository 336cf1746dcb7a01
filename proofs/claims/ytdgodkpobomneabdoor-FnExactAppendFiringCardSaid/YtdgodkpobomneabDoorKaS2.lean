/-
  Walks in the abstract reading: the text of an edit by both sides.
-/
import Derived.Test.YtdgodkpobomneabDoorKaS1
namespace Go.Proofs.YtdgodkpobomneabDoor
set_option linter.unusedSimpArgs false
set_option linter.unusedVariables false
open Go Go.RowKit
attribute [local irreducible] AL AD AW OpOk Le AC thenQ blockQ EndQ

theorem l01DecI_ac [Mode] (n : Int) (h0 : 0 ≤ n) (h1 : n ≤ 9223372036854775807) : AC Tryd.prog 55 [I n] H0 (Str (dec n.toNat)) H0 := by
  have := l01Dec_ac n.toNat (by omega)
  rwa [Int.toNat_of_nonneg h0] at this
theorem decimal_ac [Mode] [HasTab] (n : Int) (h0 : -9223372036854775808 ≤ n) (h1 : n ≤ 9223372036854775807) : AC Tryd.prog 42 [I n] H0 (Str (Lib.itoa n)) H0 := by
  refine AC.of_body 0 Tryd.func42 rfl (fun l h => absurd rfl h) (fun C hC => ?_)
  have hD : ∀ l, ¬ C.D0 l := fun l h => (hC l).1 h rfl
  simp only [startFr, Tryd.ntmps42, List.length_cons, List.length_nil, Nat.reduceAdd, Nat.reduceSub, List.replicate_succ, List.replicate_zero, List.cons_append, List.nil_append]
  repeat' (first | ((first | apply Ba | (apply Bb; (· rfl); (· rfl)) | (apply Bc; (· exact nxE)) | (apply Bd; (· rfl); (· rfl); (· exact nxE))); (· first | exact Kz rfl rfl (formatInt_ac n h0 h1) (Ad (Ad An)) | exact Ok.seqS rfl rfl rfl | exact Ok.sneS rfl rfl rfl | exact Ok.slen rfl rfl | exact Ok.sjoin rfl rfl rfl (by simp only [List.length_append, List.length_cons, List.length_nil]; omega) | exact Ok.pe)) | ((first | apply Ca | (apply Cb; (· exact nxE))); (· first | exact Ok.e0)) | refine Sx ?_ | (refine Sy (fun h => ?_) (fun h => ?_) <;> try (exfalso; omega; done)) | refine Sz (fun h => ?_) (fun h => ?_))
  refine Ya ?_
  (apply Le.headZ (hs := []) [] rfl)
  all_goals (try dsimp only [srcs])
  (case' hfr => (repeat' (first | refine La ?_ ?_ | exact Lc | refine Lo ?_ | refine ⟨⟨_, rfl, ?_⟩, ?_⟩ | refine Lx ?_)))
  all_goals (first | exact Ld | exact trivial | (rfl))
theorem itoa_pos [Mode] {n : Int} (h : 0 ≤ n) : Lib.itoa n = dec n.toNat := by rw [Lib.itoa, if_neg (by omega)]
theorem decimalP_ac [Mode] [HasTab] (n : Int) (h0 : 0 ≤ n) (h1 : n ≤ 9223372036854775807) : AC Tryd.prog 42 [I n] H0 (Str (dec n.toNat)) H0 := by
  have := decimal_ac n (by omega) h1
  rwa [itoa_pos h0] at this
end Go.Proofs.YtdgodkpobomneabDoor
