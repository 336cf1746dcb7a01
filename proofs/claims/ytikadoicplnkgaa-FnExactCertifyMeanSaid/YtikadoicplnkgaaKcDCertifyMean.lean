/-
  The law of CertifyMean, in the abstract reading.
-/
import Derived.Test.YtikadoicplnkgaaKcU12
import Derived.Test.YtikadoicplnkgaaKcU11
import Derived.Test.YtikadoicplnkgaaKcU6
import Derived.Test.YtikadoicplnkgaaKcA2
namespace Go.Proofs.Ytikadoicplnkgaa
set_option linter.unusedSimpArgs false
set_option linter.unusedVariables false
open Go Go.RowKit
attribute [local irreducible] AL AD AW OpOk Le AC thenQ blockQ EndQ

set_option maxHeartbeats 8000000 in
theorem lawCertifyMean_ac (t : List (List Int)) (ht : t.length ≤ 9223372036854775807) (hr : ∀ r ∈ t, r.length ≤ 9223372036854775807) : AC Try.prog 5 [TL t] H0 (Bo true) H0 := by
  have hS := szInt64SS_ac t 1048576 ht hr (by omega)
  by_cases h2 : 0 ≤ szT t 1048576
  case neg =>
    refine AC.of_body 0 Try.func5 rfl (fun l h => absurd rfl h) (fun C hC => ?_)
    have hD : ∀ l, ¬ C.D0 l := fun l h => (hC l).1 h rfl
    simp only [startFr, Try.ntmps5, List.length_cons, List.length_nil, Nat.reduceAdd, Nat.reduceSub, List.replicate_succ, List.replicate_zero, List.cons_append, List.nil_append]
    repeat' (first | ((first | apply Ba | (apply Bb; (· rfl); (· rfl)) | (apply Bc; (· exact nxE)) | (apply Bd; (· rfl); (· rfl); (· exact nxE))); (· first | exact Ez rfl rfl (hS) (Sd (Sd Sn)) | exact Ok.pe)) | ((first | apply Ca | (apply Cb; (· exact nxE))); (· first | exact Ok.e0)) | refine Sx ?_ | (refine Sy (fun h => ?_) (fun h => ?_) <;> try (exfalso; omega; done)) | refine Sz (fun h => ?_) (fun h => ?_))
    refine Ya ?_
    (apply Le.headZ (hs := []) [] rfl)
    all_goals (try dsimp only [srcs])
    (case' hfr => (repeat' (first | refine La ?_ ?_ | exact Lc | refine Lo ?_ | refine ⟨⟨_, rfl, ?_⟩, ?_⟩ | refine Lx ?_)))
    all_goals (first | exact Ld | exact trivial | (rfl))
  obtain ⟨h3, h4⟩ := szT_ok h2 (by omega)
  have h5 : ∀ r ∈ t, r.length ≤ 100000000 := fun r h => by have := h4 r h; omega
  have hSp := sCertifyMean_ac t (by omega) h5
  have hI := iCertifyMean_ac t (by omega) h5
  have hol := cfL_len (t := t)
  have hol2 := cfX_len (t := t)
  generalize cfL t = l1 at *
  generalize cfX t = l2 at *
  generalize cfR t = m at *
  refine AC.of_body 0 Try.func5 rfl (fun l h => absurd rfl h) (fun C hC => ?_)
  have hD : ∀ l, ¬ C.D0 l := fun l h => (hC l).1 h rfl
  simp only [startFr, Try.ntmps5, List.length_cons, List.length_nil, Nat.reduceAdd, Nat.reduceSub, List.replicate_succ, List.replicate_zero, List.cons_append, List.nil_append]
  repeat' (first | ((first | apply Ba | (apply Bb; (· rfl); (· rfl)) | (apply Bc; (· exact nxE)) | (apply Bd; (· rfl); (· rfl); (· exact nxE))); (· first | exact Ez rfl rfl (hS) (Sd (Sd Sn)) | exact Zf rfl rfl (hSp) (Sm Sn) | exact Ez rfl rfl (eqRatio_ac _ _) (Sa (Sd (Sd Sn)) (Sa (Sd (Sd Sn)) Sn)) | exact Ez rfl rfl (eqInt64S_ac l1 (by omega)) (Sw (Sd Sn)) | exact Ez rfl rfl (eqInt64S_ac l2 (by omega)) (Sw (Sd Sn)) | exact Ez rfl rfl (eqInt64SS_ac t (by omega) h5) (Sm (Sm Sn)) | exact Ez rfl rfl (heldInt64S_ac l1.length 1 (by omega) (by omega)) (Sw (Sd Sn)) | exact Ez rfl rfl (heldInt64S_ac l2.length (1 + ↑l1.length) (by omega) (by omega)) (Sw (Sd Sn)) | exact Tb rfl rfl (toInt64SS_ac t h3 h4) (Sd Sn) | exact Ok.c2 rfl rfl (hI) (CA.m ⟨rfl, fun i x hx => by first | exact congrArg (Option.map (dobj 1)) hx | exact unAt hx⟩ (by first | rfl | assumption | (simp; done) | (simp; omega) | (simp [mkAt_len]; done)) CA.nil) (by (first | exact free_rowsPl | exact free_rowsEd | exact free_rowsG (fun _ => rfl) | (repeat' (first | exact FreeF.own _ _ _ _ | exact FreeF.v _ | refine FreeF.tup ?_ | refine FreeF.agg ?_ | refine FreeF.cons ?_ ?_ | exact FreeF.nil)))) (by (first | exact free_rowsPl | exact free_rowsEd | exact free_rowsG (fun _ => rfl) | (repeat' (first | exact FreeF.own _ _ _ _ | exact FreeF.v _ | refine FreeF.tup ?_ | refine FreeF.agg ?_ | refine FreeF.cons ?_ ?_ | exact FreeF.nil)))) (by (first | exact free_rowsPl | exact free_rowsEd | exact free_rowsG (fun _ => rfl) | (repeat' (first | exact FreeF.own _ _ _ _ | exact FreeF.v _ | refine FreeF.tup ?_ | refine FreeF.agg ?_ | refine FreeF.cons ?_ ?_ | exact FreeF.nil)))) (fun _ => by first | exact rnO_dobj _ _ _ | (simp [rnO_dobj]; done)) (fun _ => by first | exact rnO_dobj _ _ _ | (simp [rnO_dobj]; done)) (by simp only [rn, List.map_cons, List.map_nil]; exact rfl) | exact Ok.cT rfl rfl rfl rfl (markInt64SS_ac t _ h3 h4 (by omega)) ⟨rfl, fun i x hx => congrArg (Option.map (dobj 1)) hx⟩ (by first | rfl | assumption | (simp [mkAt_len]; done)) rfl | exact OpOk.callM rfl rfl (markInts_ac l1 1 (by omega) (by omega)) rfl rfl (.cons (.own _ _ _ _ rfl) (.cons (.dd _) .nil)) | exact OpOk.callM rfl rfl (markInts_ac l2 (1 + ↑l1.length) (by omega) (by omega)) rfl rfl (.cons (.own _ _ _ _ rfl) (.cons (.dd _) .nil)) | exact Ok.pe)) | ((first | apply Ca | (apply Cb; (· exact nxE))); (· first | exact Tb rfl rfl (toInt64SS_ac t h3 h4) (Sd Sn) | exact Ok.c2 rfl rfl (hI) (CA.m ⟨rfl, fun i x hx => by first | exact congrArg (Option.map (dobj 1)) hx | exact unAt hx⟩ (by first | rfl | assumption | (simp; done) | (simp; omega) | (simp [mkAt_len]; done)) CA.nil) (by (first | exact free_rowsPl | exact free_rowsEd | exact free_rowsG (fun _ => rfl) | (repeat' (first | exact FreeF.own _ _ _ _ | exact FreeF.v _ | refine FreeF.tup ?_ | refine FreeF.agg ?_ | refine FreeF.cons ?_ ?_ | exact FreeF.nil)))) (by (first | exact free_rowsPl | exact free_rowsEd | exact free_rowsG (fun _ => rfl) | (repeat' (first | exact FreeF.own _ _ _ _ | exact FreeF.v _ | refine FreeF.tup ?_ | refine FreeF.agg ?_ | refine FreeF.cons ?_ ?_ | exact FreeF.nil)))) (by (first | exact free_rowsPl | exact free_rowsEd | exact free_rowsG (fun _ => rfl) | (repeat' (first | exact FreeF.own _ _ _ _ | exact FreeF.v _ | refine FreeF.tup ?_ | refine FreeF.agg ?_ | refine FreeF.cons ?_ ?_ | exact FreeF.nil)))) (fun _ => by first | exact rnO_dobj _ _ _ | (simp [rnO_dobj]; done)) (fun _ => by first | exact rnO_dobj _ _ _ | (simp [rnO_dobj]; done)) (by simp only [rn, List.map_cons, List.map_nil]; exact rfl) | exact Ok.cT rfl rfl rfl rfl (markInt64SS_ac t _ h3 h4 (by omega)) ⟨rfl, fun i x hx => congrArg (Option.map (dobj 1)) hx⟩ (by first | rfl | assumption | (simp [mkAt_len]; done)) rfl | exact OpOk.callM rfl rfl (markInts_ac l1 1 (by omega) (by omega)) rfl rfl (.cons (.own _ _ _ _ rfl) (.cons (.dd _) .nil)) | exact OpOk.callM rfl rfl (markInts_ac l2 (1 + ↑l1.length) (by omega) (by omega)) rfl rfl (.cons (.own _ _ _ _ rfl) (.cons (.dd _) .nil)) | exact Ok.e0)) | refine Sx ?_ | (refine Sy (fun h => ?_) (fun h => ?_) <;> try (exfalso; omega; done)) | refine Sz (fun h => ?_) (fun h => ?_))
  all_goals
    refine Ya ?_
    (apply Le.headZ (hs := []) [] rfl)
    all_goals (try dsimp only [srcs])
    (case' hfr => (repeat' (first | refine La ?_ ?_ | exact Lc | refine Lo ?_ | refine ⟨⟨_, rfl, ?_⟩, ?_⟩ | refine Lx ?_)))
    all_goals (first | exact Ld | exact trivial | (rfl))
end Go.Proofs.Ytikadoicplnkgaa
