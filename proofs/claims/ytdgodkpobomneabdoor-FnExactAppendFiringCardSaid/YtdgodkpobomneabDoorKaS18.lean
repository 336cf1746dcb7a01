/-
  Walks in the abstract reading: AppendFiring of both sides.
-/
import Derived.Test.YtdgodkpobomneabDoorKaS12
import Derived.Test.YtdgodkpobomneabDoorKaA3
namespace Go.Proofs.YtdgodkpobomneabDoor
set_option linter.unusedSimpArgs false
set_option linter.unusedVariables false
open Go Go.RowKit
attribute [local irreducible] AL AD AW OpOk Le AC thenQ blockQ EndQ

theorem wrA_one [Mode] (f : Fi) : wrA [f] = wrF f := by simp [wrA]
theorem l28Recover_data [Mode] (s : List UInt8) (fs : List Fi) (r : List UInt8) (h : RecOf s fs r) (hs : s.length ≤ 1048576) : AC Tryd.prog 23 [Str s] H0 (.tup [FL fs, I ((trT 1 fs).length : Nat)]) H0 :=
  (l28Recover_ac s fs r h (by omega)).frz (ARs.tup (.cons (AR.whole rfl trivial FL_len) (.cons (.dd _) .nil)))
/-- What AppendFiring answers: a text and a code. -/
def apT (s : List UInt8) (fs : List Fi) (r : List UInt8) (f : Fi) : List UInt8 := if r ≠ [] ∨ wrF f = false ∨ fs.length = 500 then [] else s ++ trN (chA 1 fs) f
def apC (fs : List Fi) (r : List UInt8) (f : Fi) : Int := if r ≠ [] then 6 else if wrF f = false then 2 else if fs.length = 500 then 3 else 0
set_option maxHeartbeats 2000000 in
theorem sAppendFiring_ac [Mode] (s : List UInt8) (fs : List Fi) (r : List UInt8) (f : Fi) (h : RecOf s fs r) (hs : s.length ≤ 1048576) : AC Tryd.prog 5 [Str s, f.av] H0 (.tup [Str (apT s fs r f), I (apC fs r f)]) H0 := by
  have hR := l28Recover_data s fs r h hs
  have hfl := h.len
  have hlen : (trT 1 fs).length + r.length = s.length := by rw [h.txt, List.length_append]
  have k1 : (fs.map Fi.row).length = fs.length := FL_len
  by_cases hr : r = []
  case neg =>
    have hr0 : 0 < r.length := by cases r with
      | nil => exact absurd rfl hr
      | cons a b => simp
    have e1 : apT s fs r f = [] := if_pos (.inl hr)
    have e2 : apC fs r f = 6 := if_pos hr
    rw [e1, e2]
    obtain ⟨fe, fn, ft⟩ := f
    generalize trT 1 fs = tx at *
    refine AC.of_body 0 Tryd.func5 rfl (fun l h => absurd rfl h) (fun C hC => ?_)
    have hD : ∀ l, ¬ C.D0 l := fun l h => (hC l).1 h rfl
    simp only [startFr, Tryd.ntmps5, List.length_cons, List.length_nil, Nat.reduceAdd, Nat.reduceSub, List.replicate_succ, List.replicate_zero, List.cons_append, List.nil_append]
    repeat' (first | ((first | apply Ba | (apply Bb; (· rfl); (· rfl)) | (apply Bc; (· exact nxE)) | (apply Bd; (· rfl); (· rfl); (· exact nxE))); (· first | exact Kz rfl rfl (hR) (Ad An) | exact Ok.slen rfl rfl | exact Ok.pe)) | ((first | apply Ca | (apply Cb; (· exact nxE))); (· first | exact Ok.e0)) | refine Sx ?_ | (refine Sy (fun h => ?_) (fun h => ?_) <;> try (exfalso; omega; done)) | refine Sz (fun h => ?_) (fun h => ?_))
    all_goals
      refine Yb ?_
      (apply Le.headZ (hs := []) [] rfl)
      all_goals (try dsimp only [srcs])
      (case' hfr => (repeat' (first | refine La ?_ ?_ | exact Lc | refine Lo ?_ | refine ⟨⟨_, rfl, ?_⟩, ?_⟩ | refine Lx ?_)))
      all_goals (first | exact Ld | exact trivial | (rfl))
  subst hr
  have hW := l28Writable_ac f
  cases hw : wrF f with
  | false =>
    rw [hw] at hW
    have e1 : apT s fs [] f = [] := if_pos (.inr (.inl hw))
    have e2 : apC fs [] f = 2 := by rw [apC, if_neg (fun h => h rfl), if_pos hw]
    rw [e1, e2]
    obtain ⟨fe, fn, ft⟩ := f
    simp only [List.length_nil] at hlen
    generalize trT 1 fs = tx at *
    refine AC.of_body 0 Tryd.func5 rfl (fun l h => absurd rfl h) (fun C hC => ?_)
    have hD : ∀ l, ¬ C.D0 l := fun l h => (hC l).1 h rfl
    simp only [startFr, Tryd.ntmps5, List.length_cons, List.length_nil, Nat.reduceAdd, Nat.reduceSub, List.replicate_succ, List.replicate_zero, List.cons_append, List.nil_append]
    repeat' (first | ((first | apply Ba | (apply Bb; (· rfl); (· rfl)) | (apply Bc; (· exact nxE)) | (apply Bd; (· rfl); (· rfl); (· exact nxE))); (· first | exact Kz rfl rfl (hR) (Ad An) | exact Kz rfl rfl (hW) (Aa (Ad (Ad (Ad An))) An) | exact Ok.slen rfl rfl | exact Ok.pe)) | ((first | apply Ca | (apply Cb; (· exact nxE))); (· first | exact Ok.e0)) | refine Sx ?_ | (refine Sy (fun h => ?_) (fun h => ?_) <;> try (exfalso; omega; done)) | refine Sz (fun h => ?_) (fun h => ?_))
    all_goals
      refine Yb ?_
      (apply Le.headZ (hs := []) [] rfl)
      all_goals (try dsimp only [srcs])
      (case' hfr => (repeat' (first | refine La ?_ ?_ | exact Lc | refine Lo ?_ | refine ⟨⟨_, rfl, ?_⟩, ?_⟩ | refine Lx ?_)))
      all_goals (first | exact Ld | exact trivial | (rfl))
  | true =>
    rw [hw] at hW
    by_cases h5 : fs.length = 500
    · have e1 : apT s fs [] f = [] := if_pos (.inr (.inr h5))
      have e2 : apC fs [] f = 3 := by rw [apC, if_neg (fun h => h rfl), if_neg (by rw [hw]; decide), if_pos h5]
      rw [e1, e2]
      obtain ⟨fe, fn, ft⟩ := f
      simp only [List.length_nil] at hlen
      generalize trT 1 fs = tx at *
      refine AC.of_body 0 Tryd.func5 rfl (fun l h => absurd rfl h) (fun C hC => ?_)
      have hD : ∀ l, ¬ C.D0 l := fun l h => (hC l).1 h rfl
      simp only [startFr, Tryd.ntmps5, List.length_cons, List.length_nil, Nat.reduceAdd, Nat.reduceSub, List.replicate_succ, List.replicate_zero, List.cons_append, List.nil_append]
      repeat' (first | ((first | apply Ba | (apply Bb; (· rfl); (· rfl)) | (apply Bc; (· exact nxE)) | (apply Bd; (· rfl); (· rfl); (· exact nxE))); (· first | exact Kz rfl rfl (hR) (Ad An) | exact Kz rfl rfl (hW) (Aa (Ad (Ad (Ad An))) An) | exact Ok.lenD rfl rfl k1 | exact Ok.slen rfl rfl | exact Ok.pe)) | ((first | apply Ca | (apply Cb; (· exact nxE))); (· first | exact Ok.e0)) | refine Sx ?_ | (refine Sy (fun h => ?_) (fun h => ?_) <;> try (exfalso; omega; done)) | refine Sz (fun h => ?_) (fun h => ?_))
      all_goals
        refine Yb ?_
        (apply Le.headZ (hs := []) [] rfl)
        all_goals (try dsimp only [srcs])
        (case' hfr => (repeat' (first | refine La ?_ ?_ | exact Lc | refine Lo ?_ | refine ⟨⟨_, rfl, ?_⟩, ?_⟩ | refine Lx ?_)))
        all_goals (first | exact Ld | exact trivial | (rfl))
    · have e1 : apT s fs [] f = s ++ (trL (chA 1 fs) f ++ [10]) := if_neg (by rw [hw]; rintro (h | h | h); exact h rfl; cases h; exact h5 h)
      have e2 : apC fs [] f = 0 := by rw [apC, if_neg (fun h => h rfl), if_neg (by rw [hw]; decide), if_neg h5]
      rw [e1, e2, ← List.append_assoc]
      have hall : wrA fs = true := wrA_iff.2 ⟨h.wr, hfl⟩
      have hCt := sChainAfter_ac fs (by omega)
      rw [show caC fs = chA 1 fs from if_pos hall] at hCt
      have hbd := chA_bd (c := 1) (by decide) (by decide) h.wr
      have hN := l28Next_ac (chA 1 fs) f hbd.1 hbd.2 hw
      have hLn := l28Line_ac (chA 1 fs) f hbd.1 hbd.2 hw
      have hNl := trN_len hbd.1 hw
      have hN2 : trN (chA 1 fs) f = trL (chA 1 fs) f ++ [10] := rfl
      rw [hN2, List.length_append, List.length_singleton] at hNl
      obtain ⟨fe, fn, ft⟩ := f
      simp only [List.length_nil] at hlen
      clear hN2
      generalize trT 1 fs = tx at *
      generalize trL (chA 1 fs) _ = l0 at *
      generalize nxI (chA 1 fs) _ = nx at *
      generalize chA 1 fs = ch at *
      refine AC.of_body 0 Tryd.func5 rfl (fun l h => absurd rfl h) (fun C hC => ?_)
      have hD : ∀ l, ¬ C.D0 l := fun l h => (hC l).1 h rfl
      simp only [startFr, Tryd.ntmps5, List.length_cons, List.length_nil, Nat.reduceAdd, Nat.reduceSub, List.replicate_succ, List.replicate_zero, List.cons_append, List.nil_append]
      repeat' (first | ((first | apply Ba | (apply Bb; (· rfl); (· rfl)) | (apply Bc; (· exact nxE)) | (apply Bd; (· rfl); (· rfl); (· exact nxE))); (· first | exact Kz rfl rfl (hR) (Ad An) | exact Kz rfl rfl (hW) (Aa (Ad (Ad (Ad An))) An) | exact Ok.lenD rfl rfl k1 | exact Kz rfl rfl (hCt) (Ad An) | exact Kz rfl rfl (hN) (Ad (Aa (Ad (Ad (Ad An))) An)) | exact Kz rfl rfl (hLn) (Aa (Ad (Ad (Ad An))) (Ad An)) | exact Ok.sjoin (a := s) (b := l0) rfl rfl rfl (by omega) | exact Ok.sjoin (a := s ++ l0) (b := [10]) rfl rfl rfl (by simp only [List.length_append, List.length_cons, List.length_nil]; omega) | exact Ok.slen rfl rfl | exact Ok.pe)) | ((first | apply Ca | (apply Cb; (· exact nxE))); (· first | exact Ok.e0)) | refine Sx ?_ | (refine Sy (fun h => ?_) (fun h => ?_) <;> try (exfalso; omega; done)) | refine Sz (fun h => ?_) (fun h => ?_))
      all_goals
        refine Yb ?_
        (apply Le.headZ (hs := []) [] rfl)
        all_goals (try dsimp only [srcs])
        (case' hfr => (repeat' (first | refine La ?_ ?_ | exact Lc | refine Lo ?_ | refine ⟨⟨_, rfl, ?_⟩, ?_⟩ | refine Lx ?_)))
        all_goals (first | exact Ld | exact trivial | (rfl))
set_option maxHeartbeats 2000000 in
theorem iAppendFiring_ac [Mode] [HasTab] [HasErr] [HasLen] (s : List UInt8) (fs : List Fi) (r : List UInt8) (f : Fi) (h : RecOf s fs r) (hs : s.length ≤ 1048576) : AC Tryd.prog 7 [Str s, f.av] H0 (.tup [Str (apT s fs r f), I (apC fs r f)]) H0 := by
  have hR := recoverTrace_ac s fs r h (by omega)
  have hfl := h.len
  have hlen : (trT 1 fs).length + r.length = s.length := by rw [h.txt, List.length_append]
  have k1 : (fs.map Fi.row).length = fs.length := FL_len
  by_cases hr : r = []
  case neg =>
    have hr0 : 0 < r.length := by cases r with
      | nil => exact absurd rfl hr
      | cons a b => simp
    have e1 : apT s fs r f = [] := if_pos (.inl hr)
    have e2 : apC fs r f = 6 := if_pos hr
    rw [e1, e2]
    obtain ⟨fe, fn, ft⟩ := f
    generalize trT 1 fs = tx at *
    refine AC.of_body 0 Tryd.func7 rfl (fun l h => absurd rfl h) (fun C hC => ?_)
    have hD : ∀ l, ¬ C.D0 l := fun l h => (hC l).1 h rfl
    simp only [startFr, Tryd.ntmps7, List.length_cons, List.length_nil, Nat.reduceAdd, Nat.reduceSub, List.replicate_succ, List.replicate_zero, List.cons_append, List.nil_append]
    repeat' (first | ((first | apply Ba | (apply Bb; (· rfl); (· rfl)) | (apply Bc; (· exact nxE)) | (apply Bd; (· rfl); (· rfl); (· exact nxE))); (· first | exact Ok.slen rfl rfl | exact Eo rfl rfl (hR) (Sd Sn) | exact Ok.pe)) | ((first | apply Ca | (apply Cb; (· exact nxE))); (· first | exact Eo rfl rfl (hR) (Sd Sn) | exact Ok.e0)) | refine Sx ?_ | (refine Sy (fun h => ?_) (fun h => ?_) <;> try (exfalso; omega; done)) | refine Sz (fun h => ?_) (fun h => ?_))
    all_goals
      refine Yb ?_
      (apply Le.headZ (hs := []) [] rfl)
      all_goals (try dsimp only [srcs])
      (case' hfr => (repeat' (first | refine La ?_ ?_ | exact Lc | refine Lo ?_ | refine ⟨⟨_, rfl, ?_⟩, ?_⟩ | refine Lx ?_)))
      all_goals (first | exact Ld | exact trivial | (rfl))
  subst hr
  have hW := isWritable_ac [f] (by simp)
  rw [wrA_one] at hW
  cases hw : wrF f with
  | false =>
    rw [hw] at hW
    have e1 : apT s fs [] f = [] := if_pos (.inr (.inl hw))
    have e2 : apC fs [] f = 2 := by rw [apC, if_neg (fun h => h rfl), if_pos hw]
    rw [e1, e2]
    obtain ⟨fe, fn, ft⟩ := f
    simp only [List.length_nil] at hlen
    generalize trT 1 fs = tx at *
    refine AC.of_body 0 Tryd.func7 rfl (fun l h => absurd rfl h) (fun C hC => ?_)
    have hD : ∀ l, ¬ C.D0 l := fun l h => (hC l).1 h rfl
    simp only [startFr, Tryd.ntmps7, List.length_cons, List.length_nil, Nat.reduceAdd, Nat.reduceSub, List.replicate_succ, List.replicate_zero, List.cons_append, List.nil_append]
    repeat' (first | ((first | apply Ba | (apply Bb; (· rfl); (· rfl)) | (apply Bc; (· exact nxE)) | (apply Bd; (· rfl); (· rfl); (· exact nxE))); (· first | exact Ez rfl rfl (hW) (Sw Sn) | exact Ok.slen rfl rfl | exact Eo rfl rfl (hR) (Sd Sn) | exact Ok.pe)) | ((first | apply Ca | (apply Cb; (· exact nxE))); (· first | exact Eo rfl rfl (hR) (Sd Sn) | exact Ok.e0)) | refine Sx ?_ | (refine Sy (fun h => ?_) (fun h => ?_) <;> try (exfalso; omega; done)) | refine Sz (fun h => ?_) (fun h => ?_))
    all_goals
      refine Yb ?_
      (apply Le.headZ (hs := []) [] rfl)
      all_goals (try dsimp only [srcs])
      (case' hfr => (repeat' (first | refine La ?_ ?_ | exact Lc | refine Lo ?_ | refine ⟨⟨_, rfl, ?_⟩, ?_⟩ | refine Lx ?_)))
      all_goals (first | exact Ld | exact trivial | (rfl))
  | true =>
    rw [hw] at hW
    by_cases h5 : fs.length = 500
    · have e1 : apT s fs [] f = [] := if_pos (.inr (.inr h5))
      have e2 : apC fs [] f = 3 := by rw [apC, if_neg (fun h => h rfl), if_neg (by rw [hw]; decide), if_pos h5]
      rw [e1, e2]
      obtain ⟨fe, fn, ft⟩ := f
      simp only [List.length_nil] at hlen
      generalize trT 1 fs = tx at *
      refine AC.of_body 0 Tryd.func7 rfl (fun l h => absurd rfl h) (fun C hC => ?_)
      have hD : ∀ l, ¬ C.D0 l := fun l h => (hC l).1 h rfl
      simp only [startFr, Tryd.ntmps7, List.length_cons, List.length_nil, Nat.reduceAdd, Nat.reduceSub, List.replicate_succ, List.replicate_zero, List.cons_append, List.nil_append]
      repeat' (first | ((first | apply Ba | (apply Bb; (· rfl); (· rfl)) | (apply Bc; (· exact nxE)) | (apply Bd; (· rfl); (· rfl); (· exact nxE))); (· first | exact Ez rfl rfl (hW) (Sw Sn) | exact Ok.slen rfl rfl | exact Eo rfl rfl (hR) (Sd Sn) | exact Ok.pe)) | ((first | apply Ca | (apply Cb; (· exact nxE))); (· first | exact Eo rfl rfl (hR) (Sd Sn) | exact Ok.e0)) | refine Sx ?_ | (refine Sy (fun h => ?_) (fun h => ?_) <;> try (exfalso; omega; done)) | refine Sz (fun h => ?_) (fun h => ?_))
      all_goals
        refine Yb ?_
        (apply Le.headZ (hs := []) [] rfl)
        all_goals (try dsimp only [srcs])
        (case' hfr => (repeat' (first | refine La ?_ ?_ | exact Lc | refine Lo ?_ | refine ⟨⟨_, rfl, ?_⟩, ?_⟩ | refine Lx ?_)))
        all_goals (first | exact Ld | exact trivial | (rfl))
    · have e1 : apT s fs [] f = s ++ trN (chA 1 fs) f := if_neg (by rw [hw]; rintro (h | h | h); exact h rfl; cases h; exact h5 h)
      have e2 : apC fs [] f = 0 := by rw [apC, if_neg (fun h => h rfl), if_neg (by rw [hw]; decide), if_neg h5]
      have e3 : trT 1 (fs ++ [f]) = s ++ trN (chA 1 fs) f := by rw [trT_snoc, h.txt, List.append_nil]
      rw [e1, e2, ← e3]
      have hT : AC Tryd.prog 30 [.d (.sl 3 (fs.map Fi.row ++ [f.row]))] H0 (.tup [Str (trT 1 (fs ++ [f])), I (chA 1 (fs ++ [f]))]) H0 := by
        have := traceText_ac (fs ++ [f]) (by rw [List.all_append, h.wr]; simp [hw]) (by simp; omega)
        rwa [FL, List.map_append] at this
      have hol : (fs.map Fi.row).length = fs.length := FL_len
      have hol2 : (fs.map Fi.row ++ [f.row]).length = fs.length + 1 := by simp
      have hbd := chA_bd (c := 1) (by decide) (by decide) h.wr
      have hNl := trN_len hbd.1 hw
      have hTl : (trT 1 (fs ++ [f])).length ≤ 1048700 := by rw [e3, List.length_append]; omega
      obtain ⟨fe, fn, ft⟩ := f
      simp only [List.length_nil] at hlen
      generalize trT 1 (fs ++ _) = tx2 at *
      generalize chA 1 (fs ++ _) = ch2 at *
      generalize trT 1 fs = tx at *
      refine AC.of_body 0 Tryd.func7 rfl (fun l h => absurd rfl h) (fun C hC => ?_)
      have hD : ∀ l, ¬ C.D0 l := fun l h => (hC l).1 h rfl
      simp only [startFr, Tryd.ntmps7, List.length_cons, List.length_nil, Nat.reduceAdd, Nat.reduceSub, List.replicate_succ, List.replicate_zero, List.cons_append, List.nil_append]
      repeat' (first | ((first | apply Ba | (apply Bb; (· rfl); (· rfl)) | (apply Bc; (· exact nxE)) | (apply Bd; (· rfl); (· rfl); (· exact nxE))); (· first | exact Ez rfl rfl (hW) (Sw Sn) | exact Ez rfl rfl (hT) (Sw (hn := by assumption) Sn) | exact Ok.slen rfl rfl | exact Eo rfl rfl (hR) (Sd Sn) | exact Ok.append1 (row := Fi.row ⟨fe, fn, ft⟩) rfl rfl (by decide) rfl rfl hol rfl rfl rfl (by rfl) (by omega) (by omega) | exact Ok.pe)) | ((first | apply Ca | (apply Cb; (· exact nxE))); (· first | exact Eo rfl rfl (hR) (Sd Sn) | exact Ok.append1 (row := Fi.row ⟨fe, fn, ft⟩) rfl rfl (by decide) rfl rfl hol rfl rfl rfl (by rfl) (by omega) (by omega) | exact Ok.e0)) | refine Sx ?_ | (refine Sy (fun h => ?_) (fun h => ?_) <;> try (exfalso; omega; done)) | refine Sz (fun h => ?_) (fun h => ?_))
      all_goals
        refine Yb ?_
        (apply Le.headZ (hs := []) [] rfl)
        all_goals (try dsimp only [srcs])
        (case' hfr => (repeat' (first | refine La ?_ ?_ | exact Lc | refine Lo ?_ | refine ⟨⟨_, rfl, ?_⟩, ?_⟩ | refine Lx ?_)))
        all_goals (first | exact Ld | exact trivial | (rfl))
end Go.Proofs.YtdgodkpobomneabDoor
