/-
  The law of RecoverTrace, in the abstract reading.
-/
import Derived.Test.YtdgodkpobomneaaDoorKcU2
import Derived.Test.YtdgodkpobomneaaDoorKcU4
import Derived.Test.YtdgodkpobomneaaDoorKcA3
namespace Go.Proofs.YtdgodkpobomneaaDoor
set_option linter.unusedSimpArgs false
set_option linter.unusedVariables false
open Go Go.RowKit
attribute [local irreducible] AL AD AW OpOk Le AC thenQ blockQ EndQ

set_option maxHeartbeats 2000000 in
theorem lawRecoverTrace_ac [Mode] [HasTab] [HasErr] [HasLen] (s : List UInt8) (_hn : s.length ≤ 9223372036854775807) : AC Tryd.prog 9 [Str s] H0 (Bo true) H0 := by
  by_cases h1 : (s.length : Int) ≤ 1048576
  case neg =>
    refine AC.of_body 0 Tryd.func9 rfl (fun l h => absurd rfl h) (fun C hC => ?_)
    have hD : ∀ l, ¬ C.D0 l := fun l h => (hC l).1 h rfl
    simp only [startFr, Tryd.ntmps9, List.length_cons, List.length_nil, Nat.reduceAdd, Nat.reduceSub, List.replicate_succ, List.replicate_zero, List.cons_append, List.nil_append]
    repeat' (first | ((first | apply Ba | (apply Bb; (· rfl); (· rfl)) | (apply Bc; (· exact nxE)) | (apply Bd; (· rfl); (· rfl); (· exact nxE))); (· first | exact Ok.slen rfl rfl | exact Ok.pe)) | ((first | apply Ca | (apply Cb; (· exact nxE))); (· first | exact Ok.e0)) | refine Sx ?_ | (refine Sy (fun h => ?_) (fun h => ?_) <;> try (exfalso; omega; done)) | refine Sz (fun h => ?_) (fun h => ?_))
    refine Ya ?_
    (apply Le.headZ (hs := []) [] rfl)
    all_goals (try dsimp only [srcs])
    (case' hfr => (repeat' (first | refine La ?_ ?_ | exact Lc | refine Lo ?_ | refine ⟨⟨_, rfl, ?_⟩, ?_⟩ | refine Lx ?_)))
    all_goals (first | exact Ld | exact trivial | (rfl))
  obtain ⟨fs, r, hf⟩ := rec_ex s
  have hS := sRecoverTrace_ac s fs r hf (by omega)
  have hfl := hf.len
  by_cases hb : 20000 < s.length
  · have hI := iRecoverTrace_big s hb (by omega)
    have e1 : rtL s fs = [] := if_pos hb
    have e2 : rtC s = 3 := if_pos hb
    rw [e1, e2] at hS
    have hE := eqFiringS_refl [] (by simp)
    have hM := markFiS_none 1
    have hH : AC Tryd.prog 30 [FL [], I 1] H0 (I 1) H0 := heldFiS_ac 0 1 (by omega) (by omega)
    refine AC.of_body 0 Tryd.func9 rfl (fun l h => absurd rfl h) (fun C hC => ?_)
    have hD : ∀ l, ¬ C.D0 l := fun l h => (hC l).1 h rfl
    simp only [startFr, Tryd.ntmps9, List.length_cons, List.length_nil, Nat.reduceAdd, Nat.reduceSub, List.replicate_succ, List.replicate_zero, List.cons_append, List.nil_append]
    repeat' (first | ((first | apply Ba | (apply Bb; (· rfl); (· rfl)) | (apply Bc; (· exact nxE)) | (apply Bd; (· rfl); (· rfl); (· exact nxE))); (· first | exact Kz rfl rfl (hS) (Ad An) | exact Kz rfl rfl (hI) (Ad An) | exact Kz rfl rfl (hE) (Ad (Ad An)) | exact Kz rfl rfl (hM) (Ad (Ad An)) | exact Kz rfl rfl (hH) (Ad (Ad An)) | exact Ok.slen rfl rfl | exact Ok.pe)) | ((first | apply Ca | (apply Cb; (· exact nxE))); (· first | exact Ok.e0)) | refine Sx ?_ | (refine Sy (fun h => ?_) (fun h => ?_) <;> try (exfalso; omega; done)) | refine Sz (fun h => ?_) (fun h => ?_))
    all_goals
      refine Ya ?_
      (apply Le.headZ (hs := []) [] rfl)
      all_goals (try dsimp only [srcs])
      (case' hfr => (repeat' (first | refine La ?_ ?_ | exact Lc | refine Lo ?_ | refine ⟨⟨_, rfl, ?_⟩, ?_⟩ | refine Lx ?_)))
      all_goals (first | exact Ld | exact trivial | (rfl))
  · have hI := iRecoverTrace_ac s fs r hf (by omega)
    have e1 : rtL s fs = fs := if_neg hb
    have e2 : rtC s = 0 := if_neg hb
    rw [e1, e2] at hS
    have hE := eqFiringS_refl fs (by omega)
    have hol : ((mksF 1 fs.length).map Fi.row).length = fs.length := by rw [FL_len, mksF_len]
    refine AC.of_body 0 Tryd.func9 rfl (fun l h => absurd rfl h) (fun C hC => ?_)
    have hD : ∀ l, ¬ C.D0 l := fun l h => (hC l).1 h rfl
    simp only [startFr, Tryd.ntmps9, List.length_cons, List.length_nil, Nat.reduceAdd, Nat.reduceSub, List.replicate_succ, List.replicate_zero, List.cons_append, List.nil_append]
    repeat' (first | ((first | apply Ba | (apply Bb; (· rfl); (· rfl)) | (apply Bc; (· exact nxE)) | (apply Bd; (· rfl); (· rfl); (· exact nxE))); (· first | exact Kz rfl rfl (hS) (Ad An) | exact Ez rfl rfl (hE) (Sw (Sd Sn)) | exact Ez rfl rfl (heldFiS_ac fs.length _ (by omega) (by omega)) (Sw (hn := by assumption) (Sd Sn)) | exact Ok.slen rfl rfl | exact Eo rfl rfl (hI) (Sd Sn) | exact OpOk.callM rfl rfl (markFiS_ac fs _ (by omega) (by omega)) rfl rfl (.cons (.own _ _ _ _ rfl) (.cons (.dd _) .nil)) | exact Ok.pe)) | ((first | apply Ca | (apply Cb; (· exact nxE))); (· first | exact Eo rfl rfl (hI) (Sd Sn) | exact OpOk.callM rfl rfl (markFiS_ac fs _ (by omega) (by omega)) rfl rfl (.cons (.own _ _ _ _ rfl) (.cons (.dd _) .nil)) | exact Ok.e0)) | refine Sx ?_ | (refine Sy (fun h => ?_) (fun h => ?_) <;> try (exfalso; omega; done)) | refine Sz (fun h => ?_) (fun h => ?_))
    all_goals
      refine Ya ?_
      (apply Le.headZ (hs := []) [] rfl)
      all_goals (try dsimp only [srcs])
      (case' hfr => (repeat' (first | refine La ?_ ?_ | exact Lc | refine Lo ?_ | refine ⟨⟨_, rfl, ?_⟩, ?_⟩ | refine Lx ?_)))
      all_goals (first | exact Ld | exact trivial | (rfl))
end Go.Proofs.YtdgodkpobomneaaDoor
