/-
  The law of AppendFiring, in the abstract reading.
-/
import Derived.Test.YtdgodkpobomneabDoorKaS18
import Derived.Test.YtdgodkpobomneabDoorKaA3
namespace Go.Proofs.YtdgodkpobomneabDoor
set_option linter.unusedSimpArgs false
set_option linter.unusedVariables false
open Go Go.RowKit
attribute [local irreducible] AL AD AW OpOk Le AC thenQ blockQ EndQ

set_option maxHeartbeats 2000000 in
theorem lawAppendFiring_ac [Mode] [HasTab] [HasErr] [HasLen] (s : List UInt8) (f : Fi) (_hn : s.length ≤ 9223372036854775807) : AC Tryd.prog 3 [Str s, f.av] H0 (Bo true) H0 := by
  have hF := toFiring_ac f
  by_cases h1 : (s.length : Int) ≤ 1048576
  case neg =>
    obtain ⟨fe, fn, ft⟩ := f
    refine AC.of_body 0 Tryd.func3 rfl (fun l h => absurd rfl h) (fun C hC => ?_)
    have hD : ∀ l, ¬ C.D0 l := fun l h => (hC l).1 h rfl
    simp only [startFr, Tryd.ntmps3, List.length_cons, List.length_nil, Nat.reduceAdd, Nat.reduceSub, List.replicate_succ, List.replicate_zero, List.cons_append, List.nil_append]
    repeat' (first | ((first | apply Ba | (apply Bb; (· rfl); (· rfl)) | (apply Bc; (· exact nxE)) | (apply Bd; (· rfl); (· rfl); (· exact nxE))); (· first | exact Ok.slen rfl rfl | exact Ok.sneSame rfl rfl rfl | exact Ok.pe)) | ((first | apply Ca | (apply Cb; (· exact nxE))); (· first | exact Ok.e0)) | refine Sx ?_ | (refine Sy (fun h => ?_) (fun h => ?_) <;> try (exfalso; omega; done)) | refine Sz (fun h => ?_) (fun h => ?_))
    refine Ya ?_
    (apply Le.headZ (hs := []) [] rfl)
    all_goals (try dsimp only [srcs])
    (case' hfr => (repeat' (first | refine La ?_ ?_ | exact Lc | refine Lo ?_ | refine ⟨⟨_, rfl, ?_⟩, ?_⟩ | refine Lx ?_)))
    all_goals (first | exact Ld | exact trivial | (rfl))
  obtain ⟨fs, r, hf⟩ := rec_ex s
  have hS := sAppendFiring_ac s fs r f hf (by omega)
  have hI := iAppendFiring_ac s fs r f hf (by omega)
  generalize apT s fs r f = tx at *
  generalize apC fs r f = c at *
  obtain ⟨fe, fn, ft⟩ := f
  refine AC.of_body 0 Tryd.func3 rfl (fun l h => absurd rfl h) (fun C hC => ?_)
  have hD : ∀ l, ¬ C.D0 l := fun l h => (hC l).1 h rfl
  simp only [startFr, Tryd.ntmps3, List.length_cons, List.length_nil, Nat.reduceAdd, Nat.reduceSub, List.replicate_succ, List.replicate_zero, List.cons_append, List.nil_append]
  repeat' (first | ((first | apply Ba | (apply Bb; (· rfl); (· rfl)) | (apply Bc; (· exact nxE)) | (apply Bd; (· rfl); (· rfl); (· exact nxE))); (· first | exact Kz rfl rfl (hF) (Aa (Ad (Ad (Ad An))) An) | exact Kz rfl rfl (hS) (Ad (Aa (Ad (Ad (Ad An))) An)) | exact Kz rfl rfl (hI) (Ad (Aa (Ad (Ad (Ad An))) An)) | exact Ok.slen rfl rfl | exact Ok.sneSame rfl rfl rfl | exact Ok.pe)) | ((first | apply Ca | (apply Cb; (· exact nxE))); (· first | exact Ok.e0)) | refine Sx ?_ | (refine Sy (fun h => ?_) (fun h => ?_) <;> try (exfalso; omega; done)) | refine Sz (fun h => ?_) (fun h => ?_))
  all_goals
    refine Ya ?_
    (apply Le.headZ (hs := []) [] rfl)
    all_goals (try dsimp only [srcs])
    (case' hfr => (repeat' (first | refine La ?_ ?_ | exact Lc | refine Lo ?_ | refine ⟨⟨_, rfl, ?_⟩, ?_⟩ | refine Lx ?_)))
    all_goals (first | exact Ld | exact trivial | (rfl))
end Go.Proofs.YtdgodkpobomneabDoor
