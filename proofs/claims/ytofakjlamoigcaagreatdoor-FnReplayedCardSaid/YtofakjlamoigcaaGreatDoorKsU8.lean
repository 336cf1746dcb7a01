/-
  Walks in the abstract reading, part 8.
-/
import Derived.Test.YtofakjlamoigcaaGreatDoorKsS12
import Derived.Test.YtofakjlamoigcaaGreatDoorKsA3
import Derived.Test.YtofakjlamoigcaaGreatDoorKsU2
import Derived.Test.YtofakjlamoigcaaGreatDoorKsU3
section
namespace Go.Proofs.YtofakjlamoigcaaGreatDoor
set_option linter.unusedSimpArgs false
set_option linter.unusedVariables false
open Go Go.RowKit
attribute [local irreducible] AL AD AW OpOk Le AC thenQ blockQ EndQ

theorem wrA_one [Mode] (f : Fi) : wrA [f] = wrF f := by simp [wrA]
theorem l28Recover_data [Mode] (s : List UInt8) (fs : List Fi) (r : List UInt8) (h : RecOf s fs r) (hs : s.length ≤ 1048576) : AC Tryz.prog 44 [Str s] H0 (.tup [FL fs, I ((trT 1 fs).length : Nat)]) H0 :=
  (l28Recover_ac s fs r h (by omega)).frz (ARs.tup (.cons (AR.whole rfl trivial FL_len) (.cons (.dd _) .nil)))
/-- What AppendFiring answers: a text and a code. -/
def apT (s : List UInt8) (fs : List Fi) (r : List UInt8) (f : Fi) : List UInt8 := if r ≠ [] ∨ wrF f = false ∨ fs.length = 500 then [] else s ++ trN (chA 1 fs) f
def apC (fs : List Fi) (r : List UInt8) (f : Fi) : Int := if r ≠ [] then 6 else if wrF f = false then 2 else if fs.length = 500 then 3 else 0
set_option maxHeartbeats 2000000 in
theorem sAppendFiring_ac [Mode] (s : List UInt8) (fs : List Fi) (r : List UInt8) (f : Fi) (h : RecOf s fs r) (hs : s.length ≤ 1048576) : AC Tryz.prog 29 [Str s, f.av] H0 (.tup [Str (apT s fs r f), I (apC fs r f)]) H0 := by
  have hR := l28Recover_data s fs r h hs
  have hfl := h.len
  have hlen : (trT 1 fs).length + r.length = s.length := by rw [h.txt, List.length_append]
  have k1 : (fs.map Fi.row).length = fs.length := FL_len
  by_cases hr : r = []
  case neg =>
    have hr0 : 0 < r.length := by cases r with
      | nil => exact absurd rfl hr
      | cons a b => simp
    have e1 : apT s fs r f = [] := if_pos (.inl hr)
    have e2 : apC fs r f = 6 := if_pos hr
    rw [e1, e2]
    obtain ⟨fe, fn, ft⟩ := f
    generalize trT 1 fs = tx at *
    refine AC.of_body 0 Tryz.func29 rfl (fun l h => absurd rfl h) (fun C hC => ?_)
    have hD : ∀ l, ¬ C.D0 l := fun l h => (hC l).1 h rfl
    simp only [startFr, Tryz.ntmps29, List.length_cons, List.length_nil, Nat.reduceAdd, Nat.reduceSub, List.replicate_succ, List.replicate_zero, List.cons_append, List.nil_append]
    repeat' (first | ((first | apply Ba | (apply Bb; (· rfl); (· rfl)) | (apply Bc; (· exact nxE)) | (apply Bd; (· rfl); (· rfl); (· exact nxE))); (· first | exact Kz rfl rfl (hR) (Ad An) | exact Ok.slen rfl rfl | exact Ok.pe)) | ((first | apply Ca | (apply Cb; (· exact nxE))); (· first | exact Ok.e0)) | refine Sx ?_ | (refine Sy (fun h => ?_) (fun h => ?_) <;> try (exfalso; omega; done)) | refine Sz (fun h => ?_) (fun h => ?_))
    all_goals
      refine Yb ?_
      (apply Le.headZ (hs := []) [] rfl)
      all_goals (try dsimp only [srcs])
      (case' hfr => (repeat' (first | refine La ?_ ?_ | exact Lc | refine Lo ?_ | refine ⟨⟨_, rfl, ?_⟩, ?_⟩ | refine Lx ?_)))
      all_goals (first | exact Ld | exact trivial | (rfl))
  subst hr
  have hW := l28Writable_ac f
  cases hw : wrF f with
  | false =>
    rw [hw] at hW
    have e1 : apT s fs [] f = [] := if_pos (.inr (.inl hw))
    have e2 : apC fs [] f = 2 := by rw [apC, if_neg (fun h => h rfl), if_pos hw]
    rw [e1, e2]
    obtain ⟨fe, fn, ft⟩ := f
    simp only [List.length_nil] at hlen
    generalize trT 1 fs = tx at *
    refine AC.of_body 0 Tryz.func29 rfl (fun l h => absurd rfl h) (fun C hC => ?_)
    have hD : ∀ l, ¬ C.D0 l := fun l h => (hC l).1 h rfl
    simp only [startFr, Tryz.ntmps29, List.length_cons, List.length_nil, Nat.reduceAdd, Nat.reduceSub, List.replicate_succ, List.replicate_zero, List.cons_append, List.nil_append]
    repeat' (first | ((first | apply Ba | (apply Bb; (· rfl); (· rfl)) | (apply Bc; (· exact nxE)) | (apply Bd; (· rfl); (· rfl); (· exact nxE))); (· first | exact Kz rfl rfl (hR) (Ad An) | exact Kz rfl rfl (hW) (Aa (Ad (Ad (Ad An))) An) | exact Ok.slen rfl rfl | exact Ok.pe)) | ((first | apply Ca | (apply Cb; (· exact nxE))); (· first | exact Ok.e0)) | refine Sx ?_ | (refine Sy (fun h => ?_) (fun h => ?_) <;> try (exfalso; omega; done)) | refine Sz (fun h => ?_) (fun h => ?_))
    all_goals
      refine Yb ?_
      (apply Le.headZ (hs := []) [] rfl)
      all_goals (try dsimp only [srcs])
      (case' hfr => (repeat' (first | refine La ?_ ?_ | exact Lc | refine Lo ?_ | refine ⟨⟨_, rfl, ?_⟩, ?_⟩ | refine Lx ?_)))
      all_goals (first | exact Ld | exact trivial | (rfl))
  | true =>
    rw [hw] at hW
    by_cases h5 : fs.length = 500
    · have e1 : apT s fs [] f = [] := if_pos (.inr (.inr h5))
      have e2 : apC fs [] f = 3 := by rw [apC, if_neg (fun h => h rfl), if_neg (by rw [hw]; decide), if_pos h5]
      rw [e1, e2]
      obtain ⟨fe, fn, ft⟩ := f
      simp only [List.length_nil] at hlen
      generalize trT 1 fs = tx at *
      refine AC.of_body 0 Tryz.func29 rfl (fun l h => absurd rfl h) (fun C hC => ?_)
      have hD : ∀ l, ¬ C.D0 l := fun l h => (hC l).1 h rfl
      simp only [startFr, Tryz.ntmps29, List.length_cons, List.length_nil, Nat.reduceAdd, Nat.reduceSub, List.replicate_succ, List.replicate_zero, List.cons_append, List.nil_append]
      repeat' (first | ((first | apply Ba | (apply Bb; (· rfl); (· rfl)) | (apply Bc; (· exact nxE)) | (apply Bd; (· rfl); (· rfl); (· exact nxE))); (· first | exact Kz rfl rfl (hR) (Ad An) | exact Kz rfl rfl (hW) (Aa (Ad (Ad (Ad An))) An) | exact Ok.lenD rfl rfl k1 | exact Ok.slen rfl rfl | exact Ok.pe)) | ((first | apply Ca | (apply Cb; (· exact nxE))); (· first | exact Ok.e0)) | refine Sx ?_ | (refine Sy (fun h => ?_) (fun h => ?_) <;> try (exfalso; omega; done)) | refine Sz (fun h => ?_) (fun h => ?_))
      all_goals
        refine Yb ?_
        (apply Le.headZ (hs := []) [] rfl)
        all_goals (try dsimp only [srcs])
        (case' hfr => (repeat' (first | refine La ?_ ?_ | exact Lc | refine Lo ?_ | refine ⟨⟨_, rfl, ?_⟩, ?_⟩ | refine Lx ?_)))
        all_goals (first | exact Ld | exact trivial | (rfl))
    · have e1 : apT s fs [] f = s ++ (trL (chA 1 fs) f ++ [10]) := if_neg (by rw [hw]; rintro (h | h | h); exact h rfl; cases h; exact h5 h)
      have e2 : apC fs [] f = 0 := by rw [apC, if_neg (fun h => h rfl), if_neg (by rw [hw]; decide), if_neg h5]
      rw [e1, e2, ← List.append_assoc]
      have hall : wrA fs = true := wrA_iff.2 ⟨h.wr, hfl⟩
      have hCt := sChainAfter_ac fs (by omega)
      rw [show caC fs = chA 1 fs from if_pos hall] at hCt
      have hbd := chA_bd (c := 1) (by decide) (by decide) h.wr
      have hN := l28Next_ac (chA 1 fs) f hbd.1 hbd.2 hw
      have hLn := l28Line_ac (chA 1 fs) f hbd.1 hbd.2 hw
      have hNl := trN_len hbd.1 hw
      have hN2 : trN (chA 1 fs) f = trL (chA 1 fs) f ++ [10] := rfl
      rw [hN2, List.length_append, List.length_singleton] at hNl
      obtain ⟨fe, fn, ft⟩ := f
      simp only [List.length_nil] at hlen
      clear hN2
      generalize trT 1 fs = tx at *
      generalize trL (chA 1 fs) _ = l0 at *
      generalize nxI (chA 1 fs) _ = nx at *
      generalize chA 1 fs = ch at *
      refine AC.of_body 0 Tryz.func29 rfl (fun l h => absurd rfl h) (fun C hC => ?_)
      have hD : ∀ l, ¬ C.D0 l := fun l h => (hC l).1 h rfl
      simp only [startFr, Tryz.ntmps29, List.length_cons, List.length_nil, Nat.reduceAdd, Nat.reduceSub, List.replicate_succ, List.replicate_zero, List.cons_append, List.nil_append]
      repeat' (first | ((first | apply Ba | (apply Bb; (· rfl); (· rfl)) | (apply Bc; (· exact nxE)) | (apply Bd; (· rfl); (· rfl); (· exact nxE))); (· first | exact Kz rfl rfl (hR) (Ad An) | exact Kz rfl rfl (hW) (Aa (Ad (Ad (Ad An))) An) | exact Ok.lenD rfl rfl k1 | exact Kz rfl rfl (hCt) (Ad An) | exact Kz rfl rfl (hN) (Ad (Aa (Ad (Ad (Ad An))) An)) | exact Kz rfl rfl (hLn) (Aa (Ad (Ad (Ad An))) (Ad An)) | exact Ok.sjoin (a := s) (b := l0) rfl rfl rfl (by omega) | exact Ok.sjoin (a := s ++ l0) (b := [10]) rfl rfl rfl (by simp only [List.length_append, List.length_cons, List.length_nil]; omega) | exact Ok.slen rfl rfl | exact Ok.pe)) | ((first | apply Ca | (apply Cb; (· exact nxE))); (· first | exact Ok.e0)) | refine Sx ?_ | (refine Sy (fun h => ?_) (fun h => ?_) <;> try (exfalso; omega; done)) | refine Sz (fun h => ?_) (fun h => ?_))
      all_goals
        refine Yb ?_
        (apply Le.headZ (hs := []) [] rfl)
        all_goals (try dsimp only [srcs])
        (case' hfr => (repeat' (first | refine La ?_ ?_ | exact Lc | refine Lo ?_ | refine ⟨⟨_, rfl, ?_⟩, ?_⟩ | refine Lx ?_)))
        all_goals (first | exact Ld | exact trivial | (rfl))
set_option maxHeartbeats 2000000 in
theorem iAppendFiring_ac [Mode] [HasTab] [HasErr] [HasLen] (s : List UInt8) (fs : List Fi) (r : List UInt8) (f : Fi) (h : RecOf s fs r) (hs : s.length ≤ 1048576) : AC Tryz.prog 28 [Str s, f.av] H0 (.tup [Str (apT s fs r f), I (apC fs r f)]) H0 := by
  have hR := recoverTrace_ac s fs r h (by omega)
  have hfl := h.len
  have hlen : (trT 1 fs).length + r.length = s.length := by rw [h.txt, List.length_append]
  have k1 : (fs.map Fi.row).length = fs.length := FL_len
  by_cases hr : r = []
  case neg =>
    have hr0 : 0 < r.length := by cases r with
      | nil => exact absurd rfl hr
      | cons a b => simp
    have e1 : apT s fs r f = [] := if_pos (.inl hr)
    have e2 : apC fs r f = 6 := if_pos hr
    rw [e1, e2]
    obtain ⟨fe, fn, ft⟩ := f
    generalize trT 1 fs = tx at *
    refine AC.of_body 0 Tryz.func28 rfl (fun l h => absurd rfl h) (fun C hC => ?_)
    have hD : ∀ l, ¬ C.D0 l := fun l h => (hC l).1 h rfl
    simp only [startFr, Tryz.ntmps28, List.length_cons, List.length_nil, Nat.reduceAdd, Nat.reduceSub, List.replicate_succ, List.replicate_zero, List.cons_append, List.nil_append]
    repeat' (first | ((first | apply Ba | (apply Bb; (· rfl); (· rfl)) | (apply Bc; (· exact nxE)) | (apply Bd; (· rfl); (· rfl); (· exact nxE))); (· first | exact Ok.slen rfl rfl | exact Eo rfl rfl (hR) (Sd Sn) | exact Ok.pe)) | ((first | apply Ca | (apply Cb; (· exact nxE))); (· first | exact Eo rfl rfl (hR) (Sd Sn) | exact Ok.e0)) | refine Sx ?_ | (refine Sy (fun h => ?_) (fun h => ?_) <;> try (exfalso; omega; done)) | refine Sz (fun h => ?_) (fun h => ?_))
    all_goals
      refine Yb ?_
      (apply Le.headZ (hs := []) [] rfl)
      all_goals (try dsimp only [srcs])
      (case' hfr => (repeat' (first | refine La ?_ ?_ | exact Lc | refine Lo ?_ | refine ⟨⟨_, rfl, ?_⟩, ?_⟩ | refine Lx ?_)))
      all_goals (first | exact Ld | exact trivial | (rfl))
  subst hr
  have hW := isWritable_ac [f] (by simp)
  rw [wrA_one] at hW
  cases hw : wrF f with
  | false =>
    rw [hw] at hW
    have e1 : apT s fs [] f = [] := if_pos (.inr (.inl hw))
    have e2 : apC fs [] f = 2 := by rw [apC, if_neg (fun h => h rfl), if_pos hw]
    rw [e1, e2]
    obtain ⟨fe, fn, ft⟩ := f
    simp only [List.length_nil] at hlen
    generalize trT 1 fs = tx at *
    refine AC.of_body 0 Tryz.func28 rfl (fun l h => absurd rfl h) (fun C hC => ?_)
    have hD : ∀ l, ¬ C.D0 l := fun l h => (hC l).1 h rfl
    simp only [startFr, Tryz.ntmps28, List.length_cons, List.length_nil, Nat.reduceAdd, Nat.reduceSub, List.replicate_succ, List.replicate_zero, List.cons_append, List.nil_append]
    repeat' (first | ((first | apply Ba | (apply Bb; (· rfl); (· rfl)) | (apply Bc; (· exact nxE)) | (apply Bd; (· rfl); (· rfl); (· exact nxE))); (· first | exact Ez rfl rfl (hW) (Sw Sn) | exact Ok.slen rfl rfl | exact Eo rfl rfl (hR) (Sd Sn) | exact Ok.pe)) | ((first | apply Ca | (apply Cb; (· exact nxE))); (· first | exact Eo rfl rfl (hR) (Sd Sn) | exact Ok.e0)) | refine Sx ?_ | (refine Sy (fun h => ?_) (fun h => ?_) <;> try (exfalso; omega; done)) | refine Sz (fun h => ?_) (fun h => ?_))
    all_goals
      refine Yb ?_
      (apply Le.headZ (hs := []) [] rfl)
      all_goals (try dsimp only [srcs])
      (case' hfr => (repeat' (first | refine La ?_ ?_ | exact Lc | refine Lo ?_ | refine ⟨⟨_, rfl, ?_⟩, ?_⟩ | refine Lx ?_)))
      all_goals (first | exact Ld | exact trivial | (rfl))
  | true =>
    rw [hw] at hW
    by_cases h5 : fs.length = 500
    · have e1 : apT s fs [] f = [] := if_pos (.inr (.inr h5))
      have e2 : apC fs [] f = 3 := by rw [apC, if_neg (fun h => h rfl), if_neg (by rw [hw]; decide), if_pos h5]
      rw [e1, e2]
      obtain ⟨fe, fn, ft⟩ := f
      simp only [List.length_nil] at hlen
      generalize trT 1 fs = tx at *
      refine AC.of_body 0 Tryz.func28 rfl (fun l h => absurd rfl h) (fun C hC => ?_)
      have hD : ∀ l, ¬ C.D0 l := fun l h => (hC l).1 h rfl
      simp only [startFr, Tryz.ntmps28, List.length_cons, List.length_nil, Nat.reduceAdd, Nat.reduceSub, List.replicate_succ, List.replicate_zero, List.cons_append, List.nil_append]
      repeat' (first | ((first | apply Ba | (apply Bb; (· rfl); (· rfl)) | (apply Bc; (· exact nxE)) | (apply Bd; (· rfl); (· rfl); (· exact nxE))); (· first | exact Ez rfl rfl (hW) (Sw Sn) | exact Ok.slen rfl rfl | exact Eo rfl rfl (hR) (Sd Sn) | exact Ok.pe)) | ((first | apply Ca | (apply Cb; (· exact nxE))); (· first | exact Eo rfl rfl (hR) (Sd Sn) | exact Ok.e0)) | refine Sx ?_ | (refine Sy (fun h => ?_) (fun h => ?_) <;> try (exfalso; omega; done)) | refine Sz (fun h => ?_) (fun h => ?_))
      all_goals
        refine Yb ?_
        (apply Le.headZ (hs := []) [] rfl)
        all_goals (try dsimp only [srcs])
        (case' hfr => (repeat' (first | refine La ?_ ?_ | exact Lc | refine Lo ?_ | refine ⟨⟨_, rfl, ?_⟩, ?_⟩ | refine Lx ?_)))
        all_goals (first | exact Ld | exact trivial | (rfl))
    · have e1 : apT s fs [] f = s ++ trN (chA 1 fs) f := if_neg (by rw [hw]; rintro (h | h | h); exact h rfl; cases h; exact h5 h)
      have e2 : apC fs [] f = 0 := by rw [apC, if_neg (fun h => h rfl), if_neg (by rw [hw]; decide), if_neg h5]
      have e3 : trT 1 (fs ++ [f]) = s ++ trN (chA 1 fs) f := by rw [trT_snoc, h.txt, List.append_nil]
      rw [e1, e2, ← e3]
      have hT : AC Tryz.prog 38 [.d (.sl 3 (fs.map Fi.row ++ [f.row]))] H0 (.tup [Str (trT 1 (fs ++ [f])), I (chA 1 (fs ++ [f]))]) H0 := by
        have := traceText_ac (fs ++ [f]) (by rw [List.all_append, h.wr]; simp [hw]) (by simp; omega)
        rwa [FL, List.map_append] at this
      have hol : (fs.map Fi.row).length = fs.length := FL_len
      have hol2 : (fs.map Fi.row ++ [f.row]).length = fs.length + 1 := by simp
      have hbd := chA_bd (c := 1) (by decide) (by decide) h.wr
      have hNl := trN_len hbd.1 hw
      have hTl : (trT 1 (fs ++ [f])).length ≤ 1048700 := by rw [e3, List.length_append]; omega
      obtain ⟨fe, fn, ft⟩ := f
      simp only [List.length_nil] at hlen
      generalize trT 1 (fs ++ _) = tx2 at *
      generalize chA 1 (fs ++ _) = ch2 at *
      generalize trT 1 fs = tx at *
      refine AC.of_body 0 Tryz.func28 rfl (fun l h => absurd rfl h) (fun C hC => ?_)
      have hD : ∀ l, ¬ C.D0 l := fun l h => (hC l).1 h rfl
      simp only [startFr, Tryz.ntmps28, List.length_cons, List.length_nil, Nat.reduceAdd, Nat.reduceSub, List.replicate_succ, List.replicate_zero, List.cons_append, List.nil_append]
      repeat' (first | ((first | apply Ba | (apply Bb; (· rfl); (· rfl)) | (apply Bc; (· exact nxE)) | (apply Bd; (· rfl); (· rfl); (· exact nxE))); (· first | exact Ez rfl rfl (hW) (Sw Sn) | exact Ez rfl rfl (hT) (Sw (hn := by assumption) Sn) | exact Ok.slen rfl rfl | exact Eo rfl rfl (hR) (Sd Sn) | exact Ok.append1 (row := Fi.row ⟨fe, fn, ft⟩) rfl rfl (by decide) rfl rfl hol rfl rfl rfl (by rfl) (by omega) (by omega) | exact Ok.pe)) | ((first | apply Ca | (apply Cb; (· exact nxE))); (· first | exact Eo rfl rfl (hR) (Sd Sn) | exact Ok.append1 (row := Fi.row ⟨fe, fn, ft⟩) rfl rfl (by decide) rfl rfl hol rfl rfl rfl (by rfl) (by omega) (by omega) | exact Ok.e0)) | refine Sx ?_ | (refine Sy (fun h => ?_) (fun h => ?_) <;> try (exfalso; omega; done)) | refine Sz (fun h => ?_) (fun h => ?_))
      all_goals
        refine Yb ?_
        (apply Le.headZ (hs := []) [] rfl)
        all_goals (try dsimp only [srcs])
        (case' hfr => (repeat' (first | refine La ?_ ?_ | exact Lc | refine Lo ?_ | refine ⟨⟨_, rfl, ?_⟩, ?_⟩ | refine Lx ?_)))
        all_goals (first | exact Ld | exact trivial | (rfl))
end Go.Proofs.YtofakjlamoigcaaGreatDoor
end

section
namespace Go.Proofs.YtofakjlamoigcaaGreatDoor
set_option linter.unusedSimpArgs false
set_option linter.unusedVariables false
open Go Go.RowKit
attribute [local irreducible] AL AD AW OpOk Le AC thenQ blockQ EndQ

end Go.Proofs.YtofakjlamoigcaaGreatDoor
end

section
namespace Go.Proofs.YtofakjlamoigcaaGreatDoor
set_option linter.unusedSimpArgs false
set_option linter.unusedVariables false
open Go Go.RowKit
attribute [local irreducible] AL AD AW OpOk Le AC thenQ blockQ EndQ

/-- What RecoverTrace answers: the firings, and what is wrong. -/
def rtL (s : List UInt8) (fs : List Fi) : List Fi := if 20000 < s.length then [] else fs
def rtC (s : List UInt8) : Int := if 20000 < s.length then 3 else 0
theorem l28Recover_frz [Mode] (s : List UInt8) (fs : List Fi) (r : List UInt8) (h : RecOf s fs r) (hs : s.length ≤ 1000000) : AC Tryz.prog 44 [Str s] H0 (.tup [FL fs, I ((trT 1 fs).length : Nat)]) H0 :=
  (l28Recover_ac s fs r h (by omega)).frz (ARs.tup (.cons (AR.whole rfl trivial FL_len) (.cons (.dd _) .nil)))
theorem sRecoverTrace_ac [Mode] (s : List UInt8) (fs : List Fi) (r : List UInt8) (h : RecOf s fs r) (hs : s.length ≤ 1048576) : AC Tryz.prog 14 [Str s] H0 (.tup [FL (rtL s fs), I (rtC s)]) H0 := by
  by_cases hb : 20000 < s.length
  · rw [rtL, rtC, if_pos hb, if_pos hb]
    refine AC.of_body 0 Tryz.func14 rfl (fun l h => absurd rfl h) (fun C hC => ?_)
    have hD : ∀ l, ¬ C.D0 l := fun l h => (hC l).1 h rfl
    simp only [startFr, Tryz.ntmps14, List.length_cons, List.length_nil, Nat.reduceAdd, Nat.reduceSub, List.replicate_succ, List.replicate_zero, List.cons_append, List.nil_append]
    repeat' (first | ((first | apply Ba | (apply Bb; (· rfl); (· rfl)) | (apply Bc; (· exact nxE)) | (apply Bd; (· rfl); (· rfl); (· exact nxE))); (· first | exact Ok.slen rfl rfl | exact Ok.pe)) | ((first | apply Ca | (apply Cb; (· exact nxE))); (· first | exact Ok.e0)) | refine Sx ?_ | (refine Sy (fun h => ?_) (fun h => ?_) <;> try (exfalso; omega; done)) | refine Sz (fun h => ?_) (fun h => ?_))
    refine Yb ?_
    (apply Le.headZ (hs := []) [] rfl)
    all_goals (try dsimp only [srcs])
    (case' hfr => (repeat' (first | refine La ?_ ?_ | exact Lc | refine Lo ?_ | refine ⟨⟨_, rfl, ?_⟩, ?_⟩ | refine Lx ?_)))
    all_goals (first | exact Ld | exact trivial | (rfl))
  · rw [rtL, rtC, if_neg hb, if_neg hb]
    have hR := l28Recover_frz s fs r h (by omega)
    refine AC.of_body 0 Tryz.func14 rfl (fun l h => absurd rfl h) (fun C hC => ?_)
    have hD : ∀ l, ¬ C.D0 l := fun l h => (hC l).1 h rfl
    simp only [startFr, Tryz.ntmps14, List.length_cons, List.length_nil, Nat.reduceAdd, Nat.reduceSub, List.replicate_succ, List.replicate_zero, List.cons_append, List.nil_append]
    repeat' (first | ((first | apply Ba | (apply Bb; (· rfl); (· rfl)) | (apply Bc; (· exact nxE)) | (apply Bd; (· rfl); (· rfl); (· exact nxE))); (· first | exact Kz rfl rfl (hR) (Ad An) | exact Ok.slen rfl rfl | exact Ok.pe)) | ((first | apply Ca | (apply Cb; (· exact nxE))); (· first | exact Ok.e0)) | refine Sx ?_ | (refine Sy (fun h => ?_) (fun h => ?_) <;> try (exfalso; omega; done)) | refine Sz (fun h => ?_) (fun h => ?_))
    refine Yb ?_
    (apply Le.headZ (hs := []) [] rfl)
    all_goals (try dsimp only [srcs])
    (case' hfr => (repeat' (first | refine La ?_ ?_ | exact Lc | refine Lo ?_ | refine ⟨⟨_, rfl, ?_⟩, ?_⟩ | refine Lx ?_)))
    all_goals (first | exact Ld | exact trivial | (rfl))
theorem iRecoverTrace_big [Mode] [HasTab] [HasErr] [HasLen] (s : List UInt8) (hb : 20000 < s.length) (hs : s.length ≤ 1048576) : AC Tryz.prog 13 [Str s] H0 (.tup [FL [], I 3]) H0 := by
  refine AC.of_body 0 Tryz.func13 rfl (fun l h => absurd rfl h) (fun C hC => ?_)
  have hD : ∀ l, ¬ C.D0 l := fun l h => (hC l).1 h rfl
  simp only [startFr, Tryz.ntmps13, List.length_cons, List.length_nil, Nat.reduceAdd, Nat.reduceSub, List.replicate_succ, List.replicate_zero, List.cons_append, List.nil_append]
  repeat' (first | ((first | apply Ba | (apply Bb; (· rfl); (· rfl)) | (apply Bc; (· exact nxE)) | (apply Bd; (· rfl); (· rfl); (· exact nxE))); (· first | exact Ok.slen rfl rfl | exact Ok.pe)) | ((first | apply Ca | (apply Cb; (· exact nxE))); (· first | exact Ok.e0)) | refine Sx ?_ | (refine Sy (fun h => ?_) (fun h => ?_) <;> try (exfalso; omega; done)) | refine Sz (fun h => ?_) (fun h => ?_))
  refine Yb ?_
  (apply Le.headZ (hs := []) [] rfl)
  all_goals (try dsimp only [srcs])
  (case' hfr => (repeat' (first | refine La ?_ ?_ | exact Lc | refine Lo ?_ | refine ⟨⟨_, rfl, ?_⟩, ?_⟩ | refine Lx ?_)))
  all_goals (first | exact Ld | exact trivial | (rfl))
theorem iRecoverTrace_ac [Mode] [HasTab] [HasErr] [HasLen] (s : List UInt8) (fs : List Fi) (r : List UInt8) (h : RecOf s fs r) (hs : s.length ≤ 20000) : AC Tryz.prog 13 [Str s] H0 (.tup [own1 3 fs.length, I 0]) (hp1 (FO fs)) := by
  have hR := recoverTrace_ac s fs r h (by omega)
  have hol : (fs.map Fi.row).length = fs.length := FL_len
  refine AC.of_body 0 Tryz.func13 rfl (fun l h => absurd rfl h) (fun C hC => ?_)
  have hD : ∀ l, ¬ C.D0 l := fun l h => (hC l).1 h rfl
  simp only [startFr, Tryz.ntmps13, List.length_cons, List.length_nil, Nat.reduceAdd, Nat.reduceSub, List.replicate_succ, List.replicate_zero, List.cons_append, List.nil_append]
  repeat' (first | ((first | apply Ba | (apply Bb; (· rfl); (· rfl)) | (apply Bc; (· exact nxE)) | (apply Bd; (· rfl); (· rfl); (· exact nxE))); (· first | exact Ok.slen rfl rfl | exact Eo rfl rfl (hR) (Sd Sn) | exact Ok.pe)) | ((first | apply Ca | (apply Cb; (· exact nxE))); (· first | exact Eo rfl rfl (hR) (Sd Sn) | exact Ok.e0)) | refine Sx ?_ | (refine Sy (fun h => ?_) (fun h => ?_) <;> try (exfalso; omega; done)) | refine Sz (fun h => ?_) (fun h => ?_))
  all_goals
    refine Yb ?_
    (apply Le.head [(⟨0, []⟩, _, _)])
    (case' hfr | hob => (repeat' (first | refine La ?_ ?_ | exact Lc | refine Lo ?_ | refine ⟨⟨_, rfl, ?_⟩, ?_⟩ | refine Lx ?_)))
    all_goals (first | exact Ld | (rfl))
theorem iRecoverTrace_frz [Mode] [HasTab] [HasErr] [HasLen] (s : List UInt8) (fs : List Fi) (r : List UInt8) (h : RecOf s fs r) (hs : s.length ≤ 1048576) : AC Tryz.prog 13 [Str s] H0 (.tup [FL (rtL s fs), I (rtC s)]) H0 := by
  by_cases hb : 20000 < s.length
  · rw [rtL, rtC, if_pos hb, if_pos hb]
    exact iRecoverTrace_big s hb hs
  · rw [rtL, rtC, if_neg hb, if_neg hb]
    exact (iRecoverTrace_ac s fs r h (by omega)).frz (ARs.tup (.cons (AR.whole rfl trivial FL_len) (.cons (.dd _) .nil)))
end Go.Proofs.YtofakjlamoigcaaGreatDoor
end

section
namespace Go.Proofs.YtofakjlamoigcaaGreatDoor
set_option linter.unusedSimpArgs false
set_option linter.unusedVariables false
open Go Go.RowKit
attribute [local irreducible] AL AD AW OpOk Le AC thenQ blockQ EndQ

/-- The two runs agree at a place. -/
def agr (fs gs : List Fi) (k : Nat) : Prop := ∃ f g, fs[k]? = some f ∧ gs[k]? = some g ∧ f.e = g.e ∧ f.t = g.t
/-- The first place where they do not, told by what it is. -/
structure FdOf (fs gs : List Fi) (m : Nat) : Prop where
  le : m ≤ max fs.length gs.length
  same : ∀ k, k < m → agr fs gs k
  diff : m < max fs.length gs.length → ¬agr fs gs m
theorem fd_from [Mode] (fs gs : List Fi) : ∀ d k : Nat, max fs.length gs.length - k = d → k ≤ max fs.length gs.length → (∀ j, j < k → agr fs gs j) → ∃ m, FdOf fs gs m
  | 0, k, hd, hk, h => ⟨k, hk, h, fun hl => by omega⟩
  | d + 1, k, hd, hk, h => by
    by_cases ha : agr fs gs k
    · exact fd_from fs gs d (k + 1) (by omega) (by omega) fun j hj => by
        rcases Nat.lt_or_ge j k with h1 | h1
        · exact h j h1
        · obtain rfl : j = k := by omega
          exact ha
    · exact ⟨k, hk, h, fun _ => ha⟩
theorem fd_ex [Mode] (fs gs : List Fi) : ∃ m, FdOf fs gs m := fd_from fs gs _ 0 rfl (Nat.zero_le _) (fun j hj => by omega)
/-- The answer: that place, or -1. -/
def fdN (fs gs : List Fi) (m : Nat) : Int := if m < max fs.length gs.length then (m : Int) else -1
theorem FdOf.cases [Mode] {fs gs : List Fi} {m : Nat} (h : FdOf fs gs m) (hm : m < max fs.length gs.length) :
    (fs.length ≤ m) ∨ (m < fs.length ∧ gs.length ≤ m) ∨ ∃ f g, fs[m]? = some f ∧ gs[m]? = some g ∧ m < fs.length ∧ m < gs.length ∧ (f.e ≠ g.e ∨ (f.e = g.e ∧ f.t ≠ g.t)) := by
  rcases Nat.lt_or_ge m fs.length with h1 | h1
  · rcases Nat.lt_or_ge m gs.length with h2 | h2
    · refine .inr (.inr ⟨fs[m], gs[m], List.getElem?_eq_getElem h1, List.getElem?_eq_getElem h2, h1, h2, ?_⟩)
      by_cases he : fs[m].e = gs[m].e
      · exact .inr ⟨he, fun ht => h.diff hm ⟨_, _, List.getElem?_eq_getElem h1, List.getElem?_eq_getElem h2, he, ht⟩⟩
      · exact .inl he
    · exact .inr (.inl ⟨h1, h2⟩)
  · exact .inl h1
set_option maxHeartbeats 2000000 in
theorem sFirstDifference_ok [Mode] (s s' : List UInt8) (fs gs : List Fi) (r r' : List UInt8) (m : Nat) (hf : RecOf s fs r) (hg : RecOf s' gs r') (hm : FdOf fs gs m) (hs : s.length ≤ 20000) (hs' : s'.length ≤ 20000) : AC Tryz.prog 33 [Str s, Str s'] H0 (.tup [I (fdN fs gs m), I 0]) H0 := by
  have h1 := l28Recover_frz s fs r hf (by omega)
  have h2 := l28Recover_frz s' gs r' hg (by omega)
  have l1 := hf.len
  have l2 := hg.len
  have k1 : (fs.map Fi.row).length = fs.length := FL_len
  have k2 : (gs.map Fi.row).length = gs.length := FL_len
  have hle := hm.le
  refine AC.of_body 0 Tryz.func33 rfl (fun l h => absurd rfl h) (fun C hC => ?_)
  have hD : ∀ l, ¬ C.D0 l := fun l h => (hC l).1 h rfl
  simp only [startFr, Tryz.ntmps33, List.length_cons, List.length_nil, Nat.reduceAdd, Nat.reduceSub, List.replicate_succ, List.replicate_zero, List.cons_append, List.nil_append]
  repeat' (first | ((first | apply Ba | (apply Bb; (· rfl); (· rfl)) | (apply Bc; (· exact nxE)) | (apply Bd; (· rfl); (· rfl); (· exact nxE))); (· first | exact Kz rfl rfl (h1) (Ad An) | exact Kz rfl rfl (h2) (Ad An) | exact Ok.slen rfl rfl | exact Ok.pe)) | ((first | apply Ca | (apply Cb; (· exact nxE))); (· first | exact Ok.e0)) | refine Sx ?_ | (refine Sy (fun h => ?_) (fun h => ?_) <;> try (exfalso; omega; done)) | refine Sz (fun h => ?_) (fun h => ?_))
  refine AW.loop (X := {k : Nat // k ≤ m}) (fun k => ⟨[Str s, Str s', Oo, Oo, Oo, Oo, FL fs, I ((trT 1 fs).length : Nat), FL gs, I ((trT 1 gs).length : Nat), I (k.1 : Nat), Oo, Oo, Oo, Oo, Oo, Oo, Oo, Oo, Oo, Oo, Oo, Oo, Oo, Oo, Oo, Oo, Oo, Oo, Oo, Oo, Oo, Oo, Oo, Oo, Oo, Oo, Oo, Oo, Oo, Oo, Oo, Oo, Oo, Oo, Oo, Oo, Oo, Oo, Oo, Oo, Oo, Oo, Oo, Oo, Oo, Oo, Oo, Oo, Oo, Oo, Oo, Oo, Oo, Oo, Oo, Oo, Oo, Oo, Oo, Oo, Oo, Oo, Oo, Oo, Oo, Oo, Oo], heapL [], 900⟩) (fun k => m - k.1) ⟨0, Nat.zero_le _⟩ ?_ (fun k => ?_)
  ·
    (apply Le.headZ [] rfl)
    all_goals (try dsimp only [srcs])
    (case' hfr | hob => (repeat' (first | refine La ?_ ?_ | exact Lc | refine Lo ?_ | refine ⟨⟨_, rfl, ?_⟩, ?_⟩ | refine Lx ?_)))
    all_goals (first | (rfl) | exact Ld)
  obtain ⟨k, hk⟩ := k
  simp only
  by_cases hlt : k < m
  · obtain ⟨f, g, hf1, hg1, he, ht⟩ := hm.same k hlt
    have hrow : (fs.map Fi.row)[((k : Nat) : Int).toNat]? = some [DI f.e, DI f.n, DI f.t] := row_get hf1
    have hrow2 : (gs.map Fi.row)[((k : Nat) : Int).toNat]? = some [DI g.e, DI g.n, DI g.t] := row_get hg1
    have c1 := (List.getElem?_eq_some_iff.1 hf1).1
    have c2 := (List.getElem?_eq_some_iff.1 hg1).1
    repeat' (first | ((first | apply Ba | (apply Bb; (· rfl); (· rfl)) | (apply Bc; (· exact nxE)) | (apply Bd; (· rfl); (· rfl); (· exact nxE))); (· first | exact Ok.lenD rfl rfl k1 | exact Ok.lenD rfl rfl k2 | exact Ok.slen rfl rfl | exact Ok.pe)) | ((first | apply Ca | (apply Cb; (· exact nxE))); (· first | exact Ok.e0)) | refine Sx ?_ | (refine Sy (fun h => ?_) (fun h => ?_) <;> try (exfalso; omega; done)) | refine Sz (fun h => ?_) (fun h => ?_))
    refine ⟨⟨k + 1, by omega⟩, ?_, by simp only; omega⟩
    (apply Le.headZ [] rfl)
    all_goals (try dsimp only [srcs])
    (case' hfr | hob => (repeat' (first | refine La ?_ ?_ | exact Lc | refine Lo ?_ | refine ⟨⟨_, rfl, ?_⟩, ?_⟩ | refine Lx ?_)))
    all_goals (first | (rfl) | exact Ld)
  · obtain rfl : k = m := by omega
    by_cases hmx : k < max fs.length gs.length
    · have e1 : fdN fs gs k = k := if_pos hmx
      rw [e1]
      rcases hm.cases hmx with c | ⟨c1, c2⟩ | ⟨f, g, hf1, hg1, c1, c2, c3⟩
      ·
        repeat' (first | ((first | apply Ba | (apply Bb; (· rfl); (· rfl)) | (apply Bc; (· exact nxE)) | (apply Bd; (· rfl); (· rfl); (· exact nxE))); (· first | exact Ok.lenD rfl rfl k1 | exact Ok.lenD rfl rfl k2 | exact Ok.slen rfl rfl | exact Ok.pe)) | ((first | apply Ca | (apply Cb; (· exact nxE))); (· first | exact Ok.e0)) | refine Sx ?_ | (refine Sy (fun h => ?_) (fun h => ?_) <;> try (exfalso; omega; done)) | refine Sz (fun h => ?_) (fun h => ?_))
        all_goals
          refine Yb ?_
          (apply Le.headZ (hs := []) [] rfl)
          all_goals (try dsimp only [srcs])
          (case' hfr => (repeat' (first | refine La ?_ ?_ | exact Lc | refine Lo ?_ | refine ⟨⟨_, rfl, ?_⟩, ?_⟩ | refine Lx ?_)))
          all_goals (first | exact Ld | exact trivial | (rfl))
      ·
        repeat' (first | ((first | apply Ba | (apply Bb; (· rfl); (· rfl)) | (apply Bc; (· exact nxE)) | (apply Bd; (· rfl); (· rfl); (· exact nxE))); (· first | exact Ok.lenD rfl rfl k1 | exact Ok.lenD rfl rfl k2 | exact Ok.slen rfl rfl | exact Ok.pe)) | ((first | apply Ca | (apply Cb; (· exact nxE))); (· first | exact Ok.e0)) | refine Sx ?_ | (refine Sy (fun h => ?_) (fun h => ?_) <;> try (exfalso; omega; done)) | refine Sz (fun h => ?_) (fun h => ?_))
        all_goals
          refine Yb ?_
          (apply Le.headZ (hs := []) [] rfl)
          all_goals (try dsimp only [srcs])
          (case' hfr => (repeat' (first | refine La ?_ ?_ | exact Lc | refine Lo ?_ | refine ⟨⟨_, rfl, ?_⟩, ?_⟩ | refine Lx ?_)))
          all_goals (first | exact Ld | exact trivial | (rfl))
      · have hrow : (fs.map Fi.row)[((k : Nat) : Int).toNat]? = some [DI f.e, DI f.n, DI f.t] := row_get hf1
        have hrow2 : (gs.map Fi.row)[((k : Nat) : Int).toNat]? = some [DI g.e, DI g.n, DI g.t] := row_get hg1
        rcases c3 with c3 | ⟨c3, c4⟩
        ·
          repeat' (first | ((first | apply Ba | (apply Bb; (· rfl); (· rfl)) | (apply Bc; (· exact nxE)) | (apply Bd; (· rfl); (· rfl); (· exact nxE))); (· first | exact Ok.lenD rfl rfl k1 | exact Ok.lenD rfl rfl k2 | exact Ok.slen rfl rfl | exact Ok.pe)) | ((first | apply Ca | (apply Cb; (· exact nxE))); (· first | exact Ok.e0)) | refine Sx ?_ | (refine Sy (fun h => ?_) (fun h => ?_) <;> try (exfalso; omega; done)) | refine Sz (fun h => ?_) (fun h => ?_))
          all_goals
            refine Yb ?_
            (apply Le.headZ (hs := []) [] rfl)
            all_goals (try dsimp only [srcs])
            (case' hfr => (repeat' (first | refine La ?_ ?_ | exact Lc | refine Lo ?_ | refine ⟨⟨_, rfl, ?_⟩, ?_⟩ | refine Lx ?_)))
            all_goals (first | exact Ld | exact trivial | (rfl))
        ·
          repeat' (first | ((first | apply Ba | (apply Bb; (· rfl); (· rfl)) | (apply Bc; (· exact nxE)) | (apply Bd; (· rfl); (· rfl); (· exact nxE))); (· first | exact Ok.lenD rfl rfl k1 | exact Ok.lenD rfl rfl k2 | exact Ok.slen rfl rfl | exact Ok.pe)) | ((first | apply Ca | (apply Cb; (· exact nxE))); (· first | exact Ok.e0)) | refine Sx ?_ | (refine Sy (fun h => ?_) (fun h => ?_) <;> try (exfalso; omega; done)) | refine Sz (fun h => ?_) (fun h => ?_))
          all_goals
            refine Yb ?_
            (apply Le.headZ (hs := []) [] rfl)
            all_goals (try dsimp only [srcs])
            (case' hfr => (repeat' (first | refine La ?_ ?_ | exact Lc | refine Lo ?_ | refine ⟨⟨_, rfl, ?_⟩, ?_⟩ | refine Lx ?_)))
            all_goals (first | exact Ld | exact trivial | (rfl))
    · have e1 : fdN fs gs k = -1 := if_neg hmx
      rw [e1]
      repeat' (first | ((first | apply Ba | (apply Bb; (· rfl); (· rfl)) | (apply Bc; (· exact nxE)) | (apply Bd; (· rfl); (· rfl); (· exact nxE))); (· first | exact Ok.lenD rfl rfl k1 | exact Ok.lenD rfl rfl k2 | exact Ok.slen rfl rfl | exact Ok.pe)) | ((first | apply Ca | (apply Cb; (· exact nxE))); (· first | exact Ok.e0)) | refine Sx ?_ | (refine Sy (fun h => ?_) (fun h => ?_) <;> try (exfalso; omega; done)) | refine Sz (fun h => ?_) (fun h => ?_))
      all_goals
        refine Yb ?_
        (apply Le.headZ (hs := []) [] rfl)
        all_goals (try dsimp only [srcs])
        (case' hfr => (repeat' (first | refine La ?_ ?_ | exact Lc | refine Lo ?_ | refine ⟨⟨_, rfl, ?_⟩, ?_⟩ | refine Lx ?_)))
        all_goals (first | exact Ld | exact trivial | (rfl))
end Go.Proofs.YtofakjlamoigcaaGreatDoor
end

section
namespace Go.Proofs.YtofakjlamoigcaaGreatDoor
set_option linter.unusedSimpArgs false
set_option linter.unusedVariables false
open Go Go.RowKit

/-- The firings with their numbers told anew. -/
def rnm (fs : List Fi) : List Fi := (List.range fs.length).map fun k => ⟨((fs[k]?).getD fiZ).e, (cnt (fs.take k) ((fs[k]?).getD fiZ).e : Int) + 1, ((fs[k]?).getD fiZ).t⟩
theorem rnm_len [Mode] (fs : List Fi) : (rnm fs).length = fs.length := by simp [rnm]
theorem rnm_get [Mode] {fs : List Fi} {k : Nat} {f : Fi} (h : fs[k]? = some f) : (rnm fs)[k]? = some ⟨f.e, (cnt (fs.take k) f.e : Int) + 1, f.t⟩ := by
  have hk := (List.getElem?_eq_some_iff.1 h).1
  rw [rnm, List.getElem?_map, List.getElem?_range hk, Option.map_some, h]; rfl
theorem rnm_snoc [Mode] (fs : List Fi) (f : Fi) : rnm (fs ++ [f]) = rnm fs ++ [⟨f.e, (cnt fs f.e : Int) + 1, f.t⟩] := by
  apply List.ext_getElem?
  intro i
  by_cases hi : i < fs.length
  · rw [List.getElem?_append_left (by rw [rnm_len]; exact hi)]
    have h1 : (fs ++ [f])[i]? = some fs[i] := by rw [List.getElem?_append_left hi]; exact List.getElem?_eq_getElem hi
    rw [rnm_get h1, rnm_get (List.getElem?_eq_getElem hi), List.take_append_of_le_length (by omega)]
  · by_cases he : i = fs.length
    · subst he
      have h1 : (fs ++ [f])[fs.length]? = some f := by simp
      rw [rnm_get h1, List.getElem?_append_right (by rw [rnm_len]; exact Nat.le_refl _), rnm_len, List.take_left]
      simp
    · rw [List.getElem?_eq_none (by rw [rnm_len]; simp; omega), List.getElem?_eq_none (by simp [rnm_len]; omega)]
theorem cnt_congr [Mode] {fs gs : List Fi} (e : Int) (h : fs.map (·.e) = gs.map (·.e)) : cnt fs e = cnt gs e := by
  have : ∀ l : List Fi, cnt l e = (l.map (·.e)).countP fun x => decide (x = e) := fun l => by
    rw [cnt, List.countP_map]; rfl
  rw [this, this, h]
theorem rnm_e [Mode] (fs : List Fi) : (rnm fs).map (·.e) = fs.map (·.e) := by
  apply List.ext_getElem?
  intro i
  by_cases hi : i < fs.length
  · rw [List.getElem?_map, List.getElem?_map, rnm_get (List.getElem?_eq_getElem hi), List.getElem?_eq_getElem hi]; rfl
  · rw [List.getElem?_eq_none (by simp [rnm_len]; omega), List.getElem?_eq_none (by simp; omega)]
theorem rnm_num [Mode] (fs : List Fi) (k : Nat) (f : Fi) (h : (rnm fs)[k]? = some f) : f.n = cnt ((rnm fs).take k) f.e + 1 := by
  have hk : k < fs.length := by have := (List.getElem?_eq_some_iff.1 h).1; rwa [rnm_len] at this
  rw [rnm_get (List.getElem?_eq_getElem hk)] at h
  cases h
  have hc : cnt ((rnm fs).take k) fs[k].e = cnt (fs.take k) fs[k].e := cnt_congr _ (by rw [List.map_take, List.map_take, rnm_e])
  simp only [hc]
theorem rnm_trT [Mode] : ∀ (fs : List Fi) (c : Int), trT c (rnm fs) = trT c fs ∧ chA c (rnm fs) = chA c fs := fun fs => by
  suffices key : ∀ (m : Nat) (fs : List Fi), fs.length = m → ∀ c, trT c (rnm fs) = trT c fs ∧ chA c (rnm fs) = chA c fs from key _ fs rfl
  intro m
  induction m with
  | zero =>
    intro fs hl c
    obtain rfl := List.length_eq_zero_iff.1 hl
    exact ⟨rfl, rfl⟩
  | succ m ih =>
    intro fs hl c
    obtain ⟨gs, f, rfl⟩ : ∃ gs f, fs = gs ++ [f] := ⟨fs.dropLast, fs.getLast (by intro e; rw [e] at hl; cases hl), (List.dropLast_concat_getLast _).symm⟩
    obtain ⟨h1, h2⟩ := ih gs (by simpa using hl) c
    obtain ⟨fe, fn, ft⟩ := f
    rw [rnm_snoc, trT_snoc, trT_snoc, chA_snoc, chA_snoc, h1, h2]
    exact ⟨rfl, rfl⟩
theorem rnm_wr [Mode] {fs : List Fi} (h : fs.all wrF = true) : (rnm fs).all wrF = true := List.all_eq_true.2 fun g hg => by
  obtain ⟨k, hk⟩ := List.mem_iff_getElem?.1 hg
  have hkl : k < fs.length := by have := (List.getElem?_eq_some_iff.1 hk).1; rwa [rnm_len] at this
  rw [rnm_get (List.getElem?_eq_getElem hkl)] at hk
  cases hk
  exact List.all_eq_true.1 h fs[k] (List.getElem_mem hkl)
/-- Lines are short. -/
theorem trN_len15 [Mode] {c : Int} {f : Fi} (h0 : 0 ≤ c) (hf : wrF f = true) : (trN c f).length ≤ 20 := by
  obtain ⟨⟨h1, h2⟩, h3, h4⟩ := wrF_iff.1 hf
  have hb := nxI_bd h0 hf
  have l1 := dec_len_le 0 f.e.toNat (by omega)
  have l2 := dec_len_le 6 f.t.toNat (by omega)
  have l3 := dec_len_le 3 (nxI c f).toNat (by omega)
  simp only [trN, trL, List.length_append, List.length_cons, List.length_nil]
  omega
theorem trT_len15 [Mode] : ∀ {c : Int} {fs : List Fi}, 0 ≤ c → fs.all wrF = true → (trT c fs).length ≤ 20 * fs.length
  | c, [], _, _ => by simp [trT]
  | c, f :: fs, h0, hf => by
    rw [List.all_cons, Bool.and_eq_true] at hf
    have h1 := trN_len15 h0 hf.1
    have h2 := trT_len15 (nxI_bd h0 hf.1).1 hf.2
    rw [trT, List.length_append, List.length_cons]
    omega
/-- How many lines end in a text. -/
def nls (l : List UInt8) : Nat := l.countP fun c => decide (c = 10)
theorem nls_snoc [Mode] (l : List UInt8) (c : UInt8) : nls (l ++ [c]) = nls l + if c = 10 then 1 else 0 := by
  simp only [nls, List.countP_append, List.countP_cons, List.countP_nil, Nat.zero_add]
  by_cases h : c = 10 <;> simp [h]
theorem nls_no [Mode] {l : List UInt8} (h : (10 : UInt8) ∉ l) : nls l = 0 := by
  rw [nls, List.countP_eq_zero]
  intro a ha
  simp only [decide_eq_true_eq]
  exact fun e => h (e ▸ ha)
theorem nls_line [Mode] (c : Int) (f : Fi) : nls (trN c f) = 1 := by rw [trN, nls_snoc, nls_no (trL_no10 c f), if_pos rfl]
/-- A trace cut anywhere: some whole lines, and a rest without a line's end. -/
theorem cut_trace [Mode] : ∀ (fs : List Fi) (c : Int) (q : Nat), ∃ L r, L ≤ fs.length ∧ (trT c fs).take q = trT c (fs.take L) ++ r ∧ (10 : UInt8) ∉ r ∧ nls ((trT c fs).take q) = L
  | [], c, q => ⟨0, [], Nat.le_refl _, by simp [trT], by simp, by simp [trT, nls]⟩
  | f :: fs, c, q => by
    rw [trT]
    by_cases hq : q < (trN c f).length
    · have hl : (trN c f).length = (trL c f).length + 1 := by simp [trN]
      have hr : (10 : UInt8) ∉ (trL c f).take q := fun h => trL_no10 c f (List.mem_of_mem_take h)
      refine ⟨0, (trL c f).take q, Nat.zero_le _, ?_, hr, ?_⟩
      · rw [List.take_append_of_le_length (by omega), trN, List.take_append_of_le_length (by omega)]; rfl
      · rw [List.take_append_of_le_length (by omega), trN, List.take_append_of_le_length (by omega), nls_no hr]
    · obtain ⟨L, r, h1, h2, h3, h4⟩ := cut_trace fs (nxI c f) (q - (trN c f).length)
      refine ⟨L + 1, r, by rw [List.length_cons]; omega, ?_, h3, ?_⟩
      · rw [List.take_append, List.take_of_length_le (by omega), h2, List.take_succ_cons, trT, List.append_assoc]
      · have : nls (trN c f ++ (trT (nxI c f) fs).take (q - (trN c f).length)) = nls (trN c f) + nls ((trT (nxI c f) fs).take (q - (trN c f).length)) := List.countP_append
        rw [List.take_append, List.take_of_length_le (by omega), this, nls_line, h4]; omega
theorem take_rnm [Mode] (fs : List Fi) (L : Nat) : rnm (fs.take L) = (rnm fs).take L := by
  apply List.ext_getElem?
  intro i
  rw [List.getElem?_take]
  by_cases hi : i < fs.length
  · by_cases hL : i < L
    · rw [if_pos hL]
      have h1 : (fs.take L)[i]? = some fs[i] := by rw [List.getElem?_take, if_pos hL]; exact List.getElem?_eq_getElem hi
      rw [rnm_get h1, rnm_get (List.getElem?_eq_getElem hi), List.take_take, Nat.min_eq_left (by omega)]
    · rw [if_neg hL, List.getElem?_eq_none (by rw [rnm_len, List.length_take]; omega)]
  · rw [List.getElem?_eq_none (by rw [rnm_len, List.length_take]; omega)]
    split
    · rw [List.getElem?_eq_none (by rw [rnm_len]; omega)]
    · rfl
/-- A rest without a line's end is no line. -/
theorem no_line [Mode] {r : List UInt8} (h : (10 : UInt8) ∉ r) (c : Int) (f : Fi) (b : List UInt8) : r ≠ trN c f ++ b := fun e => h (by rw [e]; simp [trN])
/-- What is recovered from a trace, and from one that is cut. -/
theorem rec_trace [Mode] {fs : List Fi} (hw : wrA fs = true) : RecOf (trT 1 fs) (rnm fs) [] := by
  obtain ⟨h1, h2⟩ := wrA_iff.1 hw
  exact ⟨by rw [rnm_len]; exact h2, rnm_wr h1, rnm_num fs, by rw [(rnm_trT fs 1).1, List.append_nil], fun _ f _ b => no_line (by simp) _ f b⟩
theorem rec_cut [Mode] {fs : List Fi} (hw : wrA fs = true) (q : Nat) : ∃ r, nls ((trT 1 fs).take q) ≤ fs.length ∧ RecOf ((trT 1 fs).take q) ((rnm fs).take (nls ((trT 1 fs).take q))) r := by
  obtain ⟨h1, h2⟩ := wrA_iff.1 hw
  obtain ⟨L, r, g1, g2, g3, g4⟩ := cut_trace fs 1 q
  rw [g4, ← take_rnm]
  exact ⟨r, g1, by rw [rnm_len, List.length_take]; omega, rnm_wr (wrA_all h1), rnm_num _, by rw [(rnm_trT _ 1).1]; exact g2, fun _ f _ b => no_line g3 _ f b⟩
theorem trace_short [Mode] {fs : List Fi} (hw : wrA fs = true) : (trT 1 fs).length ≤ 10000 := by
  obtain ⟨h1, h2⟩ := wrA_iff.1 hw
  have := trT_len15 (c := 1) (by decide) h1
  omega
/-- A trace with one more line. -/
theorem rec_app [Mode] {s : List UInt8} {fs : List Fi} {f : Fi} (h : RecOf s fs []) (hf : wrF f = true) (hl : fs.length ≠ 500) : RecOf (s ++ trN (chA 1 fs) f) (fs ++ [⟨f.e, (cnt fs f.e : Int) + 1, f.t⟩]) [] := by
  obtain ⟨fe, fn, ft⟩ := f
  have hl5 := h.len
  refine ⟨by simp; omega, ?_, fun k g hk => ?_, ?_, fun _ g _ b => no_line (by simp) _ g b⟩
  · rw [List.all_append, h.wr, Bool.true_and]
    show (wrF _ && true) = true
    rw [Bool.and_true]; exact hf
  · rw [List.getElem?_append] at hk
    split at hk
    · rename_i hlt
      rw [List.take_append_of_le_length (by omega)]
      exact h.num k g hk
    · rename_i hge
      have hk0 : k - fs.length = 0 := by
        have := (List.getElem?_eq_some_iff.1 hk).1
        simp at this; omega
      rw [hk0] at hk
      simp only [List.getElem?_cons_zero, Option.some.injEq] at hk
      subst hk
      have : k = fs.length := by omega
      subst this
      simp
  · rw [trT_snoc, List.append_nil, h.txt, List.append_nil]; rfl
/-! The first difference. -/
theorem FdOf.symm [Mode] {fs gs : List Fi} {m : Nat} (h : FdOf fs gs m) : FdOf gs fs m :=
  ⟨by have := h.le; omega, fun k hk => let ⟨f, g, h1, h2, h3, h4⟩ := h.same k hk; ⟨g, f, h2, h1, h3.symm, h4.symm⟩, fun hm ⟨g, f, h1, h2, h3, h4⟩ => h.diff (by omega) ⟨f, g, h2, h1, h3.symm, h4.symm⟩⟩
theorem fdN_symm [Mode] (fs gs : List Fi) (m : Nat) : fdN gs fs m = fdN fs gs m := by unfold fdN; rw [Nat.max_comm]
theorem fd_self [Mode] (fs : List Fi) : FdOf fs fs fs.length :=
  ⟨by omega, fun k hk => ⟨fs[k], fs[k], List.getElem?_eq_getElem hk, List.getElem?_eq_getElem hk, rfl, rfl⟩, fun h => by omega⟩
theorem fdN_self [Mode] (fs : List Fi) : fdN fs fs fs.length = -1 := if_neg (by omega)
end Go.Proofs.YtofakjlamoigcaaGreatDoor
end

section
namespace Go.Proofs.YtofakjlamoigcaaGreatDoor
set_option linter.unusedSimpArgs false
set_option linter.unusedVariables false
open Go Go.RowKit
attribute [local irreducible] AL AD AW OpOk Le AC thenQ blockQ EndQ

def ttT (fs : List Fi) : List UInt8 := if wrA fs = true then trT 1 fs else []
set_option maxHeartbeats 1000000 in
theorem sTraceText_ac [Mode] (fs : List Fi) (hn : fs.length ≤ 100000000) : AC Tryz.prog 9 [FL fs] H0 (.tup [Str (ttT fs), I (wrC fs)]) H0 := by
  have hA := l28All_ac fs hn
  cases hw : wrA fs with
  | false =>
    rw [hw] at hA
    have e1 : ttT fs = [] := by simp [ttT, hw]
    have e2 : wrC fs = 2 := by simp [wrC, hw]
    rw [e1, e2]
    refine AC.of_body 0 Tryz.func9 rfl (fun l h => absurd rfl h) (fun C hC => ?_)
    have hD : ∀ l, ¬ C.D0 l := fun l h => (hC l).1 h rfl
    simp only [startFr, Tryz.ntmps9, List.length_cons, List.length_nil, Nat.reduceAdd, Nat.reduceSub, List.replicate_succ, List.replicate_zero, List.cons_append, List.nil_append]
    repeat' (first | ((first | apply Ba | (apply Bb; (· rfl); (· rfl)) | (apply Bc; (· exact nxE)) | (apply Bd; (· rfl); (· rfl); (· exact nxE))); (· first | exact Kz rfl rfl (hA) (Ad An) | exact Ok.seqS rfl rfl rfl | exact Ok.sneS rfl rfl rfl | exact Ok.slen rfl rfl | exact Ok.sjoin rfl rfl rfl (by simp only [List.length_append, List.length_cons, List.length_nil]; omega) | exact Ok.pe)) | ((first | apply Ca | (apply Cb; (· exact nxE))); (· first | exact Ok.e0)) | refine Sx ?_ | (refine Sy (fun h => ?_) (fun h => ?_) <;> try (exfalso; omega; done)) | refine Sz (fun h => ?_) (fun h => ?_))
    refine Yb ?_
    (apply Le.headZ (hs := []) [] rfl)
    all_goals (try dsimp only [srcs])
    (case' hfr => (repeat' (first | refine La ?_ ?_ | exact Lc | refine Lo ?_ | refine ⟨⟨_, rfl, ?_⟩, ?_⟩ | refine Lx ?_)))
    all_goals (first | exact Ld | exact trivial | (rfl))
  | true =>
    rw [hw] at hA
    have e1 : ttT fs = trT 1 fs := by simp [ttT, hw]
    have e2 : wrC fs = 0 := by simp [wrC, hw]
    rw [e1, e2]
    obtain ⟨hall, hl⟩ := wrA_iff.1 hw
    refine AC.of_body 0 Tryz.func9 rfl (fun l h => absurd rfl h) (fun C hC => ?_)
    have hD : ∀ l, ¬ C.D0 l := fun l h => (hC l).1 h rfl
    simp only [startFr, Tryz.ntmps9, List.length_cons, List.length_nil, Nat.reduceAdd, Nat.reduceSub, List.replicate_succ, List.replicate_zero, List.cons_append, List.nil_append]
    repeat' (first | ((first | apply Ba | (apply Bb; (· rfl); (· rfl)) | (apply Bc; (· exact nxE)) | (apply Bd; (· rfl); (· rfl); (· exact nxE))); (· first | exact Kz rfl rfl (hA) (Ad An) | exact Ok.seqS rfl rfl rfl | exact Ok.sneS rfl rfl rfl | exact Ok.slen rfl rfl | exact Ok.sjoin rfl rfl rfl (by simp only [List.length_append, List.length_cons, List.length_nil]; omega) | exact Ok.pe)) | ((first | apply Ca | (apply Cb; (· exact nxE))); (· first | exact Ok.e0)) | refine Sx ?_ | (refine Sy (fun h => ?_) (fun h => ?_) <;> try (exfalso; omega; done)) | refine Sz (fun h => ?_) (fun h => ?_))
    refine AW.loop (X := {k : Nat // k ≤ fs.length}) (fun k => ⟨[FL fs, Oo, Oo, Oo, I (chA 1 (fs.take (k.1 : Nat))), .own 1 ⟨0, []⟩ 0 (trT 1 (fs.take (k.1 : Nat))).length, I (k.1 : Nat), Oo, Oo, Oo, Oo, Oo, Oo, Oo, Oo, Oo, Oo, Oo, Oo, Oo, Oo, Oo, Oo, Oo, Oo, Oo, Oo, Oo, Oo, Oo, Oo, Oo, Oo, Oo], heapL [(⟨0, []⟩, ⟨0, []⟩, dobj 1 (byR (trT 1 (fs.take k.1))))], 900⟩) (fun k => fs.length - k.1) ⟨0, Nat.zero_le _⟩ ?_ (fun k => ?_)
    ·
      (apply Le.headZ [_] rfl)
      all_goals (try dsimp only [srcs])
      (case' hfr | hob => (repeat' (first | refine La ?_ ?_ | exact Lc | refine Lo ?_ | refine ⟨⟨_, rfl, ?_⟩, ?_⟩ | refine Lx ?_)))
      all_goals (first | (rfl) | exact Ld)
    obtain ⟨k, hk⟩ := k
    simp only
    by_cases hlt : k < fs.length
    · obtain ⟨f, hf⟩ : ∃ f, fs[k]? = some f := ⟨fs[k], List.getElem?_eq_getElem hlt⟩
      have hrow : (fs.map Fi.row)[((k : Nat) : Int).toNat]? = some [DI f.e, DI f.n, DI f.t] := row_get hf
      have hwk : (fs.take k).all wrF = true := List.all_eq_true.2 fun x hx => List.all_eq_true.1 hall x (List.mem_of_mem_take hx)
      have hfw := List.all_eq_true.1 hall f (List.mem_of_getElem? hf)
      have hbd := chA_bd (c := 1) (by decide) (by decide) hwk
      have hT := trT_len (c := 1) (by decide) hwk
      have hTL := List.length_take_le k fs
      have htk : fs.take (k + 1) = fs.take k ++ [f] := by rw [List.take_add_one, hf]; rfl
      have hs1 : trT 1 (fs.take (k + 1)) = trT 1 (fs.take k) ++ trN (chA 1 (fs.take k)) f := by rw [htk, trT_snoc]
      have hs2 : chA 1 (fs.take (k + 1)) = nxI (chA 1 (fs.take k)) f := by rw [htk, chA_snoc]
      have hN := l28Next_ac (chA 1 (fs.take k)) f hbd.1 hbd.2 hfw
      have hLn := l28Line_ac (chA 1 (fs.take k)) f hbd.1 hbd.2 hfw
      have hlen := trN_len hbd.1 hfw
      have hlen2 : (trN (chA 1 (fs.take k)) f).length = (trL (chA 1 (fs.take k)) f).length + 1 := by simp [trN]
      have hs3 : trN (chA 1 (fs.take k)) f = trL (chA 1 (fs.take k)) f ++ [10] := rfl
      generalize chA 1 (fs.take k) = ch at *
      generalize trT 1 (fs.take k) = tx at *
      generalize trN ch f = ln at *
      generalize trL ch f = l0 at *
      repeat' (first | ((first | apply Ba | (apply Bb; (· rfl); (· rfl)) | (apply Bc; (· exact nxE)) | (apply Bd; (· rfl); (· rfl); (· exact nxE))); (· first | exact Kz rfl rfl (hN) (Ad (Aa (Ad (Ad (Ad An))) An)) | exact Kz rfl rfl (hLn) (Aa (Ad (Ad (Ad An))) (Ad An)) | exact Ok.seqS rfl rfl rfl | exact Ok.sneS rfl rfl rfl | exact Ok.slen rfl rfl | exact Ok.sjoin rfl rfl rfl (by simp only [List.length_append, List.length_cons, List.length_nil]; omega) | exact Ok.appS (a := l0 ++ [10]) (r := tx) rfl rfl rfl rfl rfl rfl (by simp only [List.length_append, List.length_cons, List.length_nil]; omega) (by simp only [List.length_append, List.length_cons, List.length_nil]; omega) | exact Ok.pe)) | ((first | apply Ca | (apply Cb; (· exact nxE))); (· first | exact Ok.appS (a := l0 ++ [10]) (r := tx) rfl rfl rfl rfl rfl rfl (by simp only [List.length_append, List.length_cons, List.length_nil]; omega) (by simp only [List.length_append, List.length_cons, List.length_nil]; omega) | exact Ok.e0)) | refine Sx ?_ | (refine Sy (fun h => ?_) (fun h => ?_) <;> try (exfalso; omega; done)) | refine Sz (fun h => ?_) (fun h => ?_))
      refine ⟨⟨k + 1, by omega⟩, ?_, by simp only; omega⟩
      (apply Le.headZ [_] rfl)
      all_goals (try dsimp only [srcs])
      (case' hfr | hob => (repeat' (first | refine La ?_ ?_ | exact Lc | refine Lo ?_ | refine ⟨⟨_, rfl, ?_⟩, ?_⟩ | refine Lx ?_)))
      all_goals (first | ((first | (rw [hs2]; done) | (rw [hs1, hs3]; done) | (rw [hs1, hs3, List.length_append]; done) | (rw [hs1, hs3, List.length_append]; simp; done))) | exact Ld)
    ·
      obtain rfl : k = fs.length := by omega
      rw [List.take_length]
      repeat' (first | ((first | apply Ba | (apply Bb; (· rfl); (· rfl)) | (apply Bc; (· exact nxE)) | (apply Bd; (· rfl); (· rfl); (· exact nxE))); (· first | exact Ok.strOf rfl rfl rfl rfl Tryz.underlying5 | exact Ok.seqS rfl rfl rfl | exact Ok.sneS rfl rfl rfl | exact Ok.slen rfl rfl | exact Ok.sjoin rfl rfl rfl (by simp only [List.length_append, List.length_cons, List.length_nil]; omega) | exact Ok.pe)) | ((first | apply Ca | (apply Cb; (· exact nxE))); (· first | exact Ok.e0)) | refine Sx ?_ | (refine Sy (fun h => ?_) (fun h => ?_) <;> try (exfalso; omega; done)) | refine Sz (fun h => ?_) (fun h => ?_))
      refine Yb ?_
      (apply Le.headZ (hs := []) [] rfl)
      all_goals (try dsimp only [srcs])
      (case' hfr => (repeat' (first | refine La ?_ ?_ | exact Lc | refine Lo ?_ | refine ⟨⟨_, rfl, ?_⟩, ?_⟩ | refine Lx ?_)))
      all_goals (first | exact Ld | exact trivial | (rfl))
theorem iChainAfter_ac [Mode] [HasTab] (fs : List Fi) (hn : fs.length ≤ 100000000) : AC Tryz.prog 10 [FL fs] H0 (.tup [I (caC fs), I (wrC fs)]) H0 := by
  have hA := isWritable_ac fs hn
  cases hw : wrA fs with
  | false =>
    rw [hw] at hA
    have e1 : caC fs = 0 := by simp [caC, hw]
    have e2 : wrC fs = 2 := by simp [wrC, hw]
    rw [e1, e2]
    refine AC.of_body 0 Tryz.func10 rfl (fun l h => absurd rfl h) (fun C hC => ?_)
    have hD : ∀ l, ¬ C.D0 l := fun l h => (hC l).1 h rfl
    simp only [startFr, Tryz.ntmps10, List.length_cons, List.length_nil, Nat.reduceAdd, Nat.reduceSub, List.replicate_succ, List.replicate_zero, List.cons_append, List.nil_append]
    repeat' (first | ((first | apply Ba | (apply Bb; (· rfl); (· rfl)) | (apply Bc; (· exact nxE)) | (apply Bd; (· rfl); (· rfl); (· exact nxE))); (· first | exact Kz rfl rfl (hA) (Ad An) | exact Ok.seqS rfl rfl rfl | exact Ok.sneS rfl rfl rfl | exact Ok.slen rfl rfl | exact Ok.sjoin rfl rfl rfl (by simp only [List.length_append, List.length_cons, List.length_nil]; omega) | exact Ok.pe)) | ((first | apply Ca | (apply Cb; (· exact nxE))); (· first | exact Ok.e0)) | refine Sx ?_ | (refine Sy (fun h => ?_) (fun h => ?_) <;> try (exfalso; omega; done)) | refine Sz (fun h => ?_) (fun h => ?_))
    refine Yb ?_
    (apply Le.headZ (hs := []) [] rfl)
    all_goals (try dsimp only [srcs])
    (case' hfr => (repeat' (first | refine La ?_ ?_ | exact Lc | refine Lo ?_ | refine ⟨⟨_, rfl, ?_⟩, ?_⟩ | refine Lx ?_)))
    all_goals (first | exact Ld | exact trivial | (rfl))
  | true =>
    rw [hw] at hA
    have e1 : caC fs = chA 1 fs := by simp [caC, hw]
    have e2 : wrC fs = 0 := by simp [wrC, hw]
    rw [e1, e2]
    have hT := traceText_ac fs (wrA_iff.1 hw).1 (wrA_iff.1 hw).2
    refine AC.of_body 0 Tryz.func10 rfl (fun l h => absurd rfl h) (fun C hC => ?_)
    have hD : ∀ l, ¬ C.D0 l := fun l h => (hC l).1 h rfl
    simp only [startFr, Tryz.ntmps10, List.length_cons, List.length_nil, Nat.reduceAdd, Nat.reduceSub, List.replicate_succ, List.replicate_zero, List.cons_append, List.nil_append]
    repeat' (first | ((first | apply Ba | (apply Bb; (· rfl); (· rfl)) | (apply Bc; (· exact nxE)) | (apply Bd; (· rfl); (· rfl); (· exact nxE))); (· first | exact Kz rfl rfl (hA) (Ad An) | exact Kz rfl rfl (hT) (Ad An) | exact Ok.seqS rfl rfl rfl | exact Ok.sneS rfl rfl rfl | exact Ok.slen rfl rfl | exact Ok.sjoin rfl rfl rfl (by simp only [List.length_append, List.length_cons, List.length_nil]; omega) | exact Ok.pe)) | ((first | apply Ca | (apply Cb; (· exact nxE))); (· first | exact Ok.e0)) | refine Sx ?_ | (refine Sy (fun h => ?_) (fun h => ?_) <;> try (exfalso; omega; done)) | refine Sz (fun h => ?_) (fun h => ?_))
    refine Yb ?_
    (apply Le.headZ (hs := []) [] rfl)
    all_goals (try dsimp only [srcs])
    (case' hfr => (repeat' (first | refine La ?_ ?_ | exact Lc | refine Lo ?_ | refine ⟨⟨_, rfl, ?_⟩, ?_⟩ | refine Lx ?_)))
    all_goals (first | exact Ld | exact trivial | (rfl))
theorem iTraceText_ac [Mode] [HasTab] (fs : List Fi) (hn : fs.length ≤ 100000000) : AC Tryz.prog 8 [FL fs] H0 (.tup [Str (ttT fs), I (wrC fs)]) H0 := by
  have hA := isWritable_ac fs hn
  cases hw : wrA fs with
  | false =>
    rw [hw] at hA
    have e1 : ttT fs = [] := by simp [ttT, hw]
    have e2 : wrC fs = 2 := by simp [wrC, hw]
    rw [e1, e2]
    refine AC.of_body 0 Tryz.func8 rfl (fun l h => absurd rfl h) (fun C hC => ?_)
    have hD : ∀ l, ¬ C.D0 l := fun l h => (hC l).1 h rfl
    simp only [startFr, Tryz.ntmps8, List.length_cons, List.length_nil, Nat.reduceAdd, Nat.reduceSub, List.replicate_succ, List.replicate_zero, List.cons_append, List.nil_append]
    repeat' (first | ((first | apply Ba | (apply Bb; (· rfl); (· rfl)) | (apply Bc; (· exact nxE)) | (apply Bd; (· rfl); (· rfl); (· exact nxE))); (· first | exact Kz rfl rfl (hA) (Ad An) | exact Ok.seqS rfl rfl rfl | exact Ok.sneS rfl rfl rfl | exact Ok.slen rfl rfl | exact Ok.sjoin rfl rfl rfl (by simp only [List.length_append, List.length_cons, List.length_nil]; omega) | exact Ok.pe)) | ((first | apply Ca | (apply Cb; (· exact nxE))); (· first | exact Ok.e0)) | refine Sx ?_ | (refine Sy (fun h => ?_) (fun h => ?_) <;> try (exfalso; omega; done)) | refine Sz (fun h => ?_) (fun h => ?_))
    refine Yb ?_
    (apply Le.headZ (hs := []) [] rfl)
    all_goals (try dsimp only [srcs])
    (case' hfr => (repeat' (first | refine La ?_ ?_ | exact Lc | refine Lo ?_ | refine ⟨⟨_, rfl, ?_⟩, ?_⟩ | refine Lx ?_)))
    all_goals (first | exact Ld | exact trivial | (rfl))
  | true =>
    rw [hw] at hA
    have e1 : ttT fs = trT 1 fs := by simp [ttT, hw]
    have e2 : wrC fs = 0 := by simp [wrC, hw]
    rw [e1, e2]
    have hT := traceText_ac fs (wrA_iff.1 hw).1 (wrA_iff.1 hw).2
    refine AC.of_body 0 Tryz.func8 rfl (fun l h => absurd rfl h) (fun C hC => ?_)
    have hD : ∀ l, ¬ C.D0 l := fun l h => (hC l).1 h rfl
    simp only [startFr, Tryz.ntmps8, List.length_cons, List.length_nil, Nat.reduceAdd, Nat.reduceSub, List.replicate_succ, List.replicate_zero, List.cons_append, List.nil_append]
    repeat' (first | ((first | apply Ba | (apply Bb; (· rfl); (· rfl)) | (apply Bc; (· exact nxE)) | (apply Bd; (· rfl); (· rfl); (· exact nxE))); (· first | exact Kz rfl rfl (hA) (Ad An) | exact Kz rfl rfl (hT) (Ad An) | exact Ok.seqS rfl rfl rfl | exact Ok.sneS rfl rfl rfl | exact Ok.slen rfl rfl | exact Ok.sjoin rfl rfl rfl (by simp only [List.length_append, List.length_cons, List.length_nil]; omega) | exact Ok.pe)) | ((first | apply Ca | (apply Cb; (· exact nxE))); (· first | exact Ok.e0)) | refine Sx ?_ | (refine Sy (fun h => ?_) (fun h => ?_) <;> try (exfalso; omega; done)) | refine Sz (fun h => ?_) (fun h => ?_))
    refine Yb ?_
    (apply Le.headZ (hs := []) [] rfl)
    all_goals (try dsimp only [srcs])
    (case' hfr => (repeat' (first | refine La ?_ ?_ | exact Lc | refine Lo ?_ | refine ⟨⟨_, rfl, ?_⟩, ?_⟩ | refine Lx ?_)))
    all_goals (first | exact Ld | exact trivial | (rfl))
/-! The laws' helpers. -/
end Go.Proofs.YtofakjlamoigcaaGreatDoor
end
