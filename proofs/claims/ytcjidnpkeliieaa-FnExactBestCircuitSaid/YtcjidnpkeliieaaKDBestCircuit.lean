/-
  The law of BestCircuit, in the abstract reading.
-/
import Derived.Test.YtcjidnpkeliieaaKU11
namespace Go.Proofs.Ytcjidnpkeliieaa
set_option linter.unusedSimpArgs false
set_option linter.unusedVariables false
open Go Go.RowKit
attribute [local irreducible] AL AD AW OpOk Le AC thenQ blockQ EndQ

set_option maxHeartbeats 8000000 in
theorem lawBestCircuit_ac (ev : Int) (xs : List Pl) (hx : xs.length ≤ 9223372036854775807) : AC Try.prog 5 [grD ev xs] H0 (Bo true) H0 := by
  by_cases h1 : (xs.length : Int) ≤ 1048576
  case neg =>
    refine AC.of_body 0 Try.func5 rfl (fun l h => absurd rfl h) (fun C hC => ?_)
    have hD : ∀ l, ¬ C.D0 l := fun l h => (hC l).1 h rfl
    simp only [startFr, Try.ntmps5, List.length_cons, List.length_nil, Nat.reduceAdd, Nat.reduceSub, List.replicate_succ, List.replicate_zero, List.cons_append, List.nil_append]
    repeat' (first | refine Qa ?_ | ((first | apply Ba | (apply Bb; (· rfl); (· rfl)) | (apply Bc; (· exact nxE)) | (apply Bd; (· rfl); (· rfl); (· exact nxE))); (· first | exact Ez rfl rfl (szEG_no _ _ _ hx (by omega) h1) (Sa (Sd (Sd Sn)) (Sd Sn)) | exact Ok.pe); (first | refine Na ?_ | refine Nb ?_)) | ((first | apply Ca | (apply Cb; (· exact nxE))); (· first | exact Ok.e0); (first | refine Nc ?_ | refine Nd ?_)) | refine Oa ?_ | refine Ob ?_ | ((first | refine Ga (fun h => ?_) (fun h => ?_) | refine AD.gsplit rfl rfl (fun h => ?_) (fun h => ?_)) <;> try (exfalso; omega; done)) | (first | refine AL.gsplitB rfl rfl (fun h => ?_) (fun h => ?_) | refine AD.gsplitB rfl rfl (fun h => ?_) (fun h => ?_)) | refine Fa ?_ | refine Qb ?_ | refine Qc ?_ | refine Qd ?_ | refine Fb ?_ | refine Qe ?_ | refine Wa ?_ | refine Wb ?_ | (refine AW.ite rfl (fun h => ?_) (fun h => ?_) <;> try (exfalso; omega; done)) | refine AW.cond _ rfl (fun h => ?_) (fun h => ?_) | refine Qf ?_ | refine Qg ?_ | refine Qh ?_ | refine Qi ?_ | refine Xa ?_ | refine Xb ?_ | refine Xc ?_ | refine Xd ?_ | refine Fc ?_)
    refine Ya ?_
    (apply Le.headZ (hs := []) [] rfl)
    all_goals (try dsimp only [srcs])
    (case' hfr => (repeat' (first | refine La ?_ ?_ | exact Lc | refine Lo ?_ | refine ⟨⟨_, rfl, ?_⟩, ?_⟩ | refine ObA.box ?_ | refine ObA.frE ?_ | refine ObA.dataE ?_ | refine ARs.agg ?_ | refine ARs.tup ?_ | refine AR.b ?_ | refine AR.iE ?_ | refine AR.e ?_ | refine AR.clo' ARs.nil ?_)))
    all_goals (first | exact Ld | exact trivial | (rfl))
  have hS := BestCircuit_ac ev xs (by omega)
  have hI := iBestCircuit_ac ev xs (by omega)
  have hol : (cN (bcL ev xs)).length ≤ 1000 := (by rw [List.length_map]; exact bcL_len)
  rw [show (bcL ev xs).length = (cN (bcL ev xs)).length by simp] at hI
  generalize cN (bcL ev xs) = out at *
  refine AC.of_body 0 Try.func5 rfl (fun l h => absurd rfl h) (fun C hC => ?_)
  have hD : ∀ l, ¬ C.D0 l := fun l h => (hC l).1 h rfl
  simp only [startFr, Try.ntmps5, List.length_cons, List.length_nil, Nat.reduceAdd, Nat.reduceSub, List.replicate_succ, List.replicate_zero, List.cons_append, List.nil_append]
  repeat' (first | refine Qa ?_ | ((first | apply Ba | (apply Bb; (· rfl); (· rfl)) | (apply Bc; (· exact nxE)) | (apply Bd; (· rfl); (· rfl); (· exact nxE))); (· first | exact Ez rfl rfl (szEG_ok _ _ _ (by omega) h1) (Sa (Sd (Sd Sn)) (Sd Sn)) | exact Zf rfl rfl (hS) (Sa (Sd (Sw Sn)) Sn) | exact Ez rfl rfl (eqInt64S_ac out (by omega)) (Sw (Sd Sn)) | exact Ez rfl rfl (eqEG_refl ev xs (by omega)) (Sa (Sd (Sw Sn)) (Sa (Sd (Sw Sn)) Sn)) | exact Ez rfl rfl (heldInt64S_ac out.length _ (by omega) (by omega)) (Sw (Sd Sn)) | exact Eo rfl rfl (toEventGraph_ac ev xs (by omega)) (Sa (Sd (Sd Sn)) Sn) | exact Eo rfl rfl (hI) (Sa (Sd (Sw Sn)) Sn) | exact OpOk.callM rfl rfl (markEventGraph_ac ev xs _ (by omega) (by omega)) rfl rfl (.cons (ARs.agg (.cons (.dd _) (.cons (.own _ _ _ _ rfl) .nil))) (.cons (.dd _) .nil)) | exact OpOk.callM rfl rfl (markInts_ac out _ (by omega) (by omega)) rfl rfl (.cons (.own _ _ _ _ rfl) (.cons (.dd _) .nil)) | exact Ok.pe); (first | refine Na ?_ | refine Nb ?_)) | ((first | apply Ca | (apply Cb; (· exact nxE))); (· first | exact Eo rfl rfl (toEventGraph_ac ev xs (by omega)) (Sa (Sd (Sd Sn)) Sn) | exact Eo rfl rfl (hI) (Sa (Sd (Sw Sn)) Sn) | exact OpOk.callM rfl rfl (markEventGraph_ac ev xs _ (by omega) (by omega)) rfl rfl (.cons (ARs.agg (.cons (.dd _) (.cons (.own _ _ _ _ rfl) .nil))) (.cons (.dd _) .nil)) | exact OpOk.callM rfl rfl (markInts_ac out _ (by omega) (by omega)) rfl rfl (.cons (.own _ _ _ _ rfl) (.cons (.dd _) .nil)) | exact Ok.e0); (first | refine Nc ?_ | refine Nd ?_)) | refine Oa ?_ | refine Ob ?_ | ((first | refine Ga (fun h => ?_) (fun h => ?_) | refine AD.gsplit rfl rfl (fun h => ?_) (fun h => ?_)) <;> try (exfalso; omega; done)) | (first | refine AL.gsplitB rfl rfl (fun h => ?_) (fun h => ?_) | refine AD.gsplitB rfl rfl (fun h => ?_) (fun h => ?_)) | refine Fa ?_ | refine Qb ?_ | refine Qc ?_ | refine Qd ?_ | refine Fb ?_ | refine Qe ?_ | refine Wa ?_ | refine Wb ?_ | (refine AW.ite rfl (fun h => ?_) (fun h => ?_) <;> try (exfalso; omega; done)) | refine AW.cond _ rfl (fun h => ?_) (fun h => ?_) | refine Qf ?_ | refine Qg ?_ | refine Qh ?_ | refine Qi ?_ | refine Xa ?_ | refine Xb ?_ | refine Xc ?_ | refine Xd ?_ | refine Fc ?_)
  all_goals
    refine Ya ?_
    (apply Le.headZ (hs := []) [] rfl)
    all_goals (try dsimp only [srcs])
    (case' hfr => (repeat' (first | refine La ?_ ?_ | exact Lc | refine Lo ?_ | refine ⟨⟨_, rfl, ?_⟩, ?_⟩ | refine ObA.box ?_ | refine ObA.frE ?_ | refine ObA.dataE ?_ | refine ARs.agg ?_ | refine ARs.tup ?_ | refine AR.b ?_ | refine AR.iE ?_ | refine AR.e ?_ | refine AR.clo' ARs.nil ?_)))
    all_goals (first | exact Ld | exact trivial | (rfl))
end Go.Proofs.Ytcjidnpkeliieaa
