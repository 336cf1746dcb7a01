/-
  Walks in the abstract reading, part 14.
-/
import Derived.Test.YtpgcmpbamlnkkaaGreatKeU13
import Derived.Test.YtpgcmpbamlnkkaaGreatKeU11
import Derived.Test.YtpgcmpbamlnkkaaGreatKeU1
import Derived.Laws.Bits64b
section
namespace Go.Proofs.YtpgcmpbamlnkkaaGreat
set_option linter.unusedSimpArgs false
set_option linter.unusedVariables false
open Go Go.RowKit
attribute [local irreducible] AL AD AW OpOk Le AC thenQ blockQ EndQ

def allM (t : List (List Int)) : Bool := t.all fun r => r.all isVal
theorem isMat_sq {t : List (List Int)} {n : Nat} (h : Sq t n) (h1 : 1 ≤ n) (h2 : n ≤ 10) : isMat t = allM t := by
  rw [isMat_all]
  have hc : colN t = n := by
    unfold colN
    cases t with
    | nil => have := h.l; simp at this; omega
    | cons a q => exact h.r a (by simp)
  rw [hc, decide_eq_true (by have := h.l; omega), Bool.true_and]
  unfold allM
  rw [Bool.eq_iff_iff, List.all_eq_true, List.all_eq_true]
  constructor
  · intro hh r hr
    have := hh r hr
    unfold okM isVec at this
    simp only [Bool.and_eq_true] at this
    exact this.1.2
  · intro hh r hr
    have := hh r hr
    unfold okM isVec
    rw [this, wi_iff.2 (by have := h.r r hr; omega), h.r r hr]
    simp
theorem ckFn_ac (r : List Int) (hr : r.length ≤ 100000000) : AC Tryz.prog 187 [IL r] H0 (Bo (!(r.all isVal))) H0 := by
  have hA := areValues_ac r hr
  refine AC.of_body 0 Tryz.func187 rfl (fun l h => absurd rfl h) (fun C hC => ?_)
  have hD : ∀ l, ¬ C.D0 l := fun l h => (hC l).1 h rfl
  simp only [startFr, Tryz.ntmps187, List.length_cons, List.length_nil, Nat.reduceAdd, Nat.reduceSub, List.replicate_succ, List.replicate_zero, List.cons_append, List.nil_append]
  repeat' (first | ((first | apply Ba | (apply Bb; (· rfl); (· rfl)) | (apply Bc; (· exact nxE)) | (apply Bd; (· rfl); (· rfl); (· exact nxE))); (· first | exact Kz rfl rfl (hA) (Ad An) | exact Ok.pe)) | ((first | apply Ca | (apply Cb; (· exact nxE))); (· first | exact Ok.e0)) | refine Sx ?_ | (refine Sy (fun h => ?_) (fun h => ?_) <;> try (exfalso; omega; done)) | refine Sz (fun h => ?_) (fun h => ?_))
  refine Ya ?_
  (apply Le.headZ (hs := []) [] rfl)
  all_goals (try dsimp only [srcs])
  (case' hfr => (repeat' (first | refine La ?_ ?_ | exact Lc | refine Lo ?_ | refine ⟨⟨_, rfl, ?_⟩, ?_⟩ | refine Lx ?_)))
  all_goals (first | exact Ld | exact trivial | (rfl))
theorem checkedMatrix_ac (t : List (List Int)) (ht : t.length ≤ 100000000) (hr : ∀ r ∈ t, r.length ≤ 100000000) : AC Tryz.prog 110 [TL t] H0 (.tup [TL (if allM t = true then t else []), I (if allM t = true then 0 else 3)]) H0 := by
  have hQ : AC Tryz.prog 186 [TL t, .clo (.func 187) [] []] H0 (Bo (t.any fun r => !(r.all isVal))) H0 := containsFuncT_ac t ht 187 [] [] (by simp) (by simp) (by intro p hp; simp at hp) (by simp) 0 (by simp) (fun r => !(r.all isVal)) (fun r h => ckFn_ac r (hr r h))
  rw [show (t.any fun r => !(r.all isVal)) = !(allM t) by unfold allM; rw [List.all_eq_not_any_not, Bool.not_not]] at hQ
  cases ha : allM t
  · rw [ha] at hQ
    simp only [Bool.false_eq_true, if_false]
    refine AC.of_body 0 Tryz.func110 rfl (fun l h => absurd rfl h) (fun C hC => ?_)
    have hD : ∀ l, ¬ C.D0 l := fun l h => (hC l).1 h rfl
    simp only [startFr, Tryz.ntmps110, List.length_cons, List.length_nil, Nat.reduceAdd, Nat.reduceSub, List.replicate_succ, List.replicate_zero, List.cons_append, List.nil_append]
    repeat' (first | ((first | apply Ba | (apply Bb; (· rfl); (· rfl)) | (apply Bc; (· exact nxE)) | (apply Bd; (· rfl); (· rfl); (· exact nxE))); (· first | exact Ez rfl rfl hQ (Sd (Ce Sn)) | exact Ok.pe)) | ((first | apply Ca | (apply Cb; (· exact nxE))); (· first | exact Ok.e0)) | refine Sx ?_ | (refine Sy (fun h => ?_) (fun h => ?_) <;> try (exfalso; omega; done)) | refine Sz (fun h => ?_) (fun h => ?_))
    refine Yb ?_
    (apply Le.headZ (hs := []) [] rfl)
    all_goals (try dsimp only [srcs])
    (case' hfr => (repeat' (first | refine La ?_ ?_ | exact Lc | refine Lo ?_ | refine ⟨⟨_, rfl, ?_⟩, ?_⟩ | refine Lx ?_)))
    all_goals (first | exact Ld | exact trivial | (rfl))
  · rw [ha] at hQ
    simp only [if_true]
    refine AC.of_body 0 Tryz.func110 rfl (fun l h => absurd rfl h) (fun C hC => ?_)
    have hD : ∀ l, ¬ C.D0 l := fun l h => (hC l).1 h rfl
    simp only [startFr, Tryz.ntmps110, List.length_cons, List.length_nil, Nat.reduceAdd, Nat.reduceSub, List.replicate_succ, List.replicate_zero, List.cons_append, List.nil_append]
    repeat' (first | ((first | apply Ba | (apply Bb; (· rfl); (· rfl)) | (apply Bc; (· exact nxE)) | (apply Bd; (· rfl); (· rfl); (· exact nxE))); (· first | exact Ez rfl rfl hQ (Sd (Ce Sn)) | exact Ok.pe)) | ((first | apply Ca | (apply Cb; (· exact nxE))); (· first | exact Ok.e0)) | refine Sx ?_ | (refine Sy (fun h => ?_) (fun h => ?_) <;> try (exfalso; omega; done)) | refine Sz (fun h => ?_) (fun h => ?_))
    refine Yb ?_
    (apply Le.headZ (hs := []) [] rfl)
    all_goals (try dsimp only [srcs])
    (case' hfr => (repeat' (first | refine La ?_ ?_ | exact Lc | refine Lo ?_ | refine ⟨⟨_, rfl, ?_⟩, ?_⟩ | refine Lx ?_)))
    all_goals (first | exact Ld | exact trivial | (rfl))
theorem l03Result_ac (t : List (List Int)) (n : Nat) (h : Sq t n) (h1 : 1 ≤ n) (h2 : n ≤ 10) : AC Tryz.prog 114 [TL t] H0 (.tup [TL (if allM t = true then t else []), I (if allM t = true then 0 else 3)]) H0 := by
  have hQ := sIsMatrix_ac t (by have := h.l; omega) (fun r hr => by have := h.r r hr; omega)
  rw [isMat_sq h h1 h2] at hQ
  cases ha : allM t
  · rw [ha] at hQ
    simp only [Bool.false_eq_true, if_false]
    refine AC.of_body 0 Tryz.func114 rfl (fun l h => absurd rfl h) (fun C hC => ?_)
    have hD : ∀ l, ¬ C.D0 l := fun l h => (hC l).1 h rfl
    simp only [startFr, Tryz.ntmps114, List.length_cons, List.length_nil, Nat.reduceAdd, Nat.reduceSub, List.replicate_succ, List.replicate_zero, List.cons_append, List.nil_append]
    repeat' (first | ((first | apply Ba | (apply Bb; (· rfl); (· rfl)) | (apply Bc; (· exact nxE)) | (apply Bd; (· rfl); (· rfl); (· exact nxE))); (· first | exact Kz rfl rfl (hQ) (Ad An) | exact Ok.pe)) | ((first | apply Ca | (apply Cb; (· exact nxE))); (· first | exact Ok.e0)) | refine Sx ?_ | (refine Sy (fun h => ?_) (fun h => ?_) <;> try (exfalso; omega; done)) | refine Sz (fun h => ?_) (fun h => ?_))
    refine Yb ?_
    (apply Le.headZ (hs := []) [] rfl)
    all_goals (try dsimp only [srcs])
    (case' hfr => (repeat' (first | refine La ?_ ?_ | exact Lc | refine Lo ?_ | refine ⟨⟨_, rfl, ?_⟩, ?_⟩ | refine Lx ?_)))
    all_goals (first | exact Ld | exact trivial | (rfl))
  · rw [ha] at hQ
    simp only [if_true]
    refine AC.of_body 0 Tryz.func114 rfl (fun l h => absurd rfl h) (fun C hC => ?_)
    have hD : ∀ l, ¬ C.D0 l := fun l h => (hC l).1 h rfl
    simp only [startFr, Tryz.ntmps114, List.length_cons, List.length_nil, Nat.reduceAdd, Nat.reduceSub, List.replicate_succ, List.replicate_zero, List.cons_append, List.nil_append]
    repeat' (first | ((first | apply Ba | (apply Bb; (· rfl); (· rfl)) | (apply Bc; (· exact nxE)) | (apply Bd; (· rfl); (· rfl); (· exact nxE))); (· first | exact Kz rfl rfl (hQ) (Ad An) | exact Ok.pe)) | ((first | apply Ca | (apply Cb; (· exact nxE))); (· first | exact Ok.e0)) | refine Sx ?_ | (refine Sy (fun h => ?_) (fun h => ?_) <;> try (exfalso; omega; done)) | refine Sz (fun h => ?_) (fun h => ?_))
    refine Yb ?_
    (apply Le.headZ (hs := []) [] rfl)
    all_goals (try dsimp only [srcs])
    (case' hfr => (repeat' (first | refine La ?_ ?_ | exact Lc | refine Lo ?_ | refine ⟨⟨_, rfl, ?_⟩, ?_⟩ | refine Lx ?_)))
    all_goals (first | exact Ld | exact trivial | (rfl))
def stC (t : List (List Int)) (q : Int) : Int := if isSq t = true then (if wi q 1 1000000 = true then (if allM (shT t t.length 0 q) = true then 0 else 3) else 2) else 1
def stX (t : List (List Int)) (q : Int) : List (List Int) := if isSq t = true then (if wi q 1 1000000 = true then (if allM (shT t t.length 0 q) = true then shT t t.length 0 q else []) else []) else []
theorem shT_sq10 {t : List (List Int)} (h : MatOk t t.length) {q : Int} : (shT t t.length 0 q).length = t.length ∧ ∀ r ∈ shT t t.length 0 q, r.length ≤ 100000000 := ⟨shT_sq.l, fun r hr => by have := shT_sq.r r hr; have := h.le; omega⟩
theorem iStretchMatrix_ac (t : List (List Int)) (q : Int) (ht : t.length ≤ 100000000) (hr : ∀ r ∈ t, r.length ≤ 100000000) : AC Tryz.prog 38 [TL t, I q] H0 (.tup [TL (stX t q), I (stC t q)]) H0 := by
  have hQ := iIsSquare_ac t ht hr
  have hW := within_ac q 1 1000000
  unfold stX stC
  cases hs : isSq t
  · rw [hs] at hQ
    simp only [Bool.false_eq_true, if_false]
    refine AC.of_body 0 Tryz.func38 rfl (fun l h => absurd rfl h) (fun C hC => ?_)
    have hD : ∀ l, ¬ C.D0 l := fun l h => (hC l).1 h rfl
    simp only [startFr, Tryz.ntmps38, List.length_cons, List.length_nil, Nat.reduceAdd, Nat.reduceSub, List.replicate_succ, List.replicate_zero, List.cons_append, List.nil_append]
    repeat' (first | ((first | apply Ba | (apply Bb; (· rfl); (· rfl)) | (apply Bc; (· exact nxE)) | (apply Bd; (· rfl); (· rfl); (· exact nxE))); (· first | exact Kz rfl rfl (hQ) (Ad An) | exact Ok.pe)) | ((first | apply Ca | (apply Cb; (· exact nxE))); (· first | exact Ok.e0)) | refine Sx ?_ | (refine Sy (fun h => ?_) (fun h => ?_) <;> try (exfalso; omega; done)) | refine Sz (fun h => ?_) (fun h => ?_))
    refine Yb ?_
    (apply Le.headZ (hs := []) [] rfl)
    all_goals (try dsimp only [srcs])
    (case' hfr => (repeat' (first | refine La ?_ ?_ | exact Lc | refine Lo ?_ | refine ⟨⟨_, rfl, ?_⟩, ?_⟩ | refine Lx ?_)))
    all_goals (first | exact Ld | exact trivial | (rfl))
  rw [hs] at hQ
  have hM := isSq_ok hs
  cases hw : wi q 1 1000000
  · rw [hw] at hW
    simp only [Bool.false_eq_true, if_false, if_true]
    refine AC.of_body 0 Tryz.func38 rfl (fun l h => absurd rfl h) (fun C hC => ?_)
    have hD : ∀ l, ¬ C.D0 l := fun l h => (hC l).1 h rfl
    simp only [startFr, Tryz.ntmps38, List.length_cons, List.length_nil, Nat.reduceAdd, Nat.reduceSub, List.replicate_succ, List.replicate_zero, List.cons_append, List.nil_append]
    repeat' (first | ((first | apply Ba | (apply Bb; (· rfl); (· rfl)) | (apply Bc; (· exact nxE)) | (apply Bd; (· rfl); (· rfl); (· exact nxE))); (· first | exact Kz rfl rfl (hQ) (Ad An) | exact Kz rfl rfl (hW) (Ad (Ad (Ad An))) | exact Ok.pe)) | ((first | apply Ca | (apply Cb; (· exact nxE))); (· first | exact Ok.e0)) | refine Sx ?_ | (refine Sy (fun h => ?_) (fun h => ?_) <;> try (exfalso; omega; done)) | refine Sz (fun h => ?_) (fun h => ?_))
    refine Yb ?_
    (apply Le.headZ (hs := []) [] rfl)
    all_goals (try dsimp only [srcs])
    (case' hfr => (repeat' (first | refine La ?_ ?_ | exact Lc | refine Lo ?_ | refine ⟨⟨_, rfl, ?_⟩, ?_⟩ | refine Lx ?_)))
    all_goals (first | exact Ld | exact trivial | (rfl))
  rw [hw] at hW
  have hwi := wi_iff.1 hw
  have hS := (stretched_ac t t.length hM q (by omega)).frzT (by rw [TR_len]; exact shT_sq.l)
  have h10 := shT_sq10 hM (q := q)
  have hCk := checkedMatrix_ac (shT t t.length 0 q) (by have := hM.le; omega) h10.2
  simp only [if_true]
  generalize shT t t.length 0 q = s at *
  refine AC.of_body 0 Tryz.func38 rfl (fun l h => absurd rfl h) (fun C hC => ?_)
  have hD : ∀ l, ¬ C.D0 l := fun l h => (hC l).1 h rfl
  simp only [startFr, Tryz.ntmps38, List.length_cons, List.length_nil, Nat.reduceAdd, Nat.reduceSub, List.replicate_succ, List.replicate_zero, List.cons_append, List.nil_append]
  repeat' (first | ((first | apply Ba | (apply Bb; (· rfl); (· rfl)) | (apply Bc; (· exact nxE)) | (apply Bd; (· rfl); (· rfl); (· exact nxE))); (· first | exact Kz rfl rfl (hQ) (Ad An) | exact Kz rfl rfl (hW) (Ad (Ad (Ad An))) | exact Kz rfl rfl (hS) (Ad (Ad An)) | exact Kz rfl rfl (hCk) (Ad An) | exact Ok.pe)) | ((first | apply Ca | (apply Cb; (· exact nxE))); (· first | exact Ok.e0)) | refine Sx ?_ | (refine Sy (fun h => ?_) (fun h => ?_) <;> try (exfalso; omega; done)) | refine Sz (fun h => ?_) (fun h => ?_))

  refine Yb ?_
  (apply Le.headZ (hs := []) [] rfl)
  all_goals (try dsimp only [srcs])
  (case' hfr => (repeat' (first | refine La ?_ ?_ | exact Lc | refine Lo ?_ | refine ⟨⟨_, rfl, ?_⟩, ?_⟩ | refine Lx ?_)))
  all_goals (first | exact Ld | exact trivial | (rfl))
theorem sStretchMatrix_ac (t : List (List Int)) (q : Int) (ht : t.length ≤ 100000000) (hr : ∀ r ∈ t, r.length ≤ 100000000) : AC Tryz.prog 39 [TL t, I q] H0 (.tup [TL (stX t q), I (stC t q)]) H0 := by
  have hQ := l02Square_ac t ht hr
  have hW := l01In_ac q 1 1000000
  unfold stX stC
  cases hs : isSq t
  · rw [hs] at hQ
    simp only [Bool.false_eq_true, if_false]
    refine AC.of_body 0 Tryz.func39 rfl (fun l h => absurd rfl h) (fun C hC => ?_)
    have hD : ∀ l, ¬ C.D0 l := fun l h => (hC l).1 h rfl
    simp only [startFr, Tryz.ntmps39, List.length_cons, List.length_nil, Nat.reduceAdd, Nat.reduceSub, List.replicate_succ, List.replicate_zero, List.cons_append, List.nil_append]
    repeat' (first | ((first | apply Ba | (apply Bb; (· rfl); (· rfl)) | (apply Bc; (· exact nxE)) | (apply Bd; (· rfl); (· rfl); (· exact nxE))); (· first | exact Kz rfl rfl (hQ) (Ad An) | exact Ok.pe)) | ((first | apply Ca | (apply Cb; (· exact nxE))); (· first | exact Ok.e0)) | refine Sx ?_ | (refine Sy (fun h => ?_) (fun h => ?_) <;> try (exfalso; omega; done)) | refine Sz (fun h => ?_) (fun h => ?_))
    refine Yb ?_
    (apply Le.headZ (hs := []) [] rfl)
    all_goals (try dsimp only [srcs])
    (case' hfr => (repeat' (first | refine La ?_ ?_ | exact Lc | refine Lo ?_ | refine ⟨⟨_, rfl, ?_⟩, ?_⟩ | refine Lx ?_)))
    all_goals (first | exact Ld | exact trivial | (rfl))
  rw [hs] at hQ
  have hM := isSq_ok hs
  cases hw : wi q 1 1000000
  · rw [hw] at hW
    simp only [Bool.false_eq_true, if_false, if_true]
    refine AC.of_body 0 Tryz.func39 rfl (fun l h => absurd rfl h) (fun C hC => ?_)
    have hD : ∀ l, ¬ C.D0 l := fun l h => (hC l).1 h rfl
    simp only [startFr, Tryz.ntmps39, List.length_cons, List.length_nil, Nat.reduceAdd, Nat.reduceSub, List.replicate_succ, List.replicate_zero, List.cons_append, List.nil_append]
    repeat' (first | ((first | apply Ba | (apply Bb; (· rfl); (· rfl)) | (apply Bc; (· exact nxE)) | (apply Bd; (· rfl); (· rfl); (· exact nxE))); (· first | exact Kz rfl rfl (hQ) (Ad An) | exact Kz rfl rfl (hW) (Ad (Ad (Ad An))) | exact Ok.pe)) | ((first | apply Ca | (apply Cb; (· exact nxE))); (· first | exact Ok.e0)) | refine Sx ?_ | (refine Sy (fun h => ?_) (fun h => ?_) <;> try (exfalso; omega; done)) | refine Sz (fun h => ?_) (fun h => ?_))
    refine Yb ?_
    (apply Le.headZ (hs := []) [] rfl)
    all_goals (try dsimp only [srcs])
    (case' hfr => (repeat' (first | refine La ?_ ?_ | exact Lc | refine Lo ?_ | refine ⟨⟨_, rfl, ?_⟩, ?_⟩ | refine Lx ?_)))
    all_goals (first | exact Ld | exact trivial | (rfl))
  rw [hw] at hW
  have hwi := wi_iff.1 hw
  have hS := l05Stretch_ac t t.length hM q (by omega)
  have hCk := l03Result_ac (shT t t.length 0 q) t.length shT_sq hM.pos hM.le
  simp only [if_true]
  generalize shT t t.length 0 q = s at *
  refine AC.of_body 0 Tryz.func39 rfl (fun l h => absurd rfl h) (fun C hC => ?_)
  have hD : ∀ l, ¬ C.D0 l := fun l h => (hC l).1 h rfl
  simp only [startFr, Tryz.ntmps39, List.length_cons, List.length_nil, Nat.reduceAdd, Nat.reduceSub, List.replicate_succ, List.replicate_zero, List.cons_append, List.nil_append]
  repeat' (first | ((first | apply Ba | (apply Bb; (· rfl); (· rfl)) | (apply Bc; (· exact nxE)) | (apply Bd; (· rfl); (· rfl); (· exact nxE))); (· first | exact Kz rfl rfl (hQ) (Ad An) | exact Kz rfl rfl (hW) (Ad (Ad (Ad An))) | exact Kz rfl rfl (hS) (Ad (Ad An)) | exact Kz rfl rfl (hCk) (Ad An) | exact Ok.pe)) | ((first | apply Ca | (apply Cb; (· exact nxE))); (· first | exact Ok.e0)) | refine Sx ?_ | (refine Sy (fun h => ?_) (fun h => ?_) <;> try (exfalso; omega; done)) | refine Sz (fun h => ?_) (fun h => ?_))
  refine Yb ?_
  (apply Le.headZ (hs := []) [] rfl)
  all_goals (try dsimp only [srcs])
  (case' hfr => (repeat' (first | refine La ?_ ?_ | exact Lc | refine Lo ?_ | refine ⟨⟨_, rfl, ?_⟩, ?_⟩ | refine Lx ?_)))
  all_goals (first | exact Ld | exact trivial | (rfl))
/-- A vector shifted by a number. -/
noncomputable def shV (x : List Int) (g : Int) : List Int := rowF x.length fun i => timesB (x.getD i 0) g
theorem shV_len {x : List Int} {g : Int} : (shV x g).length = x.length := rowF_len
set_option maxHeartbeats 1000000 in
theorem shiftedVector_ac (x : List Int) (g : Int) (hx : x.length ≤ 10) (hg : -1000000 ≤ g ∧ g ≤ 1000000) (hb : ∀ j, j < x.length → x.getD j 0 = BOT ∨ (-1000000 ≤ x.getD j 0 ∧ x.getD j 0 ≤ 1000000)) : AC Tryz.prog 122 [IL x, I g] H0 (own1 1 x.length) (hp1 (IO (shV x g))) := by
  have hz := mgF_0 (n := x.length) (f := fun i => timesB (x.getD i 0) g)
  have hxl : (IR x).length = x.length := IR_len
  unfold shV
  refine AC.of_body 0 Tryz.func122 rfl (fun l h => absurd rfl h) (fun C hC => ?_)
  have hD : ∀ l, ¬ C.D0 l := fun l h => (hC l).1 h rfl
  simp only [startFr, Tryz.ntmps122, List.length_cons, List.length_nil, Nat.reduceAdd, Nat.reduceSub, List.replicate_succ, List.replicate_zero, List.cons_append, List.nil_append]
  repeat' (first | ((first | apply Ba | (apply Bb; (· rfl); (· rfl)) | (apply Bc; (· exact nxE)) | (apply Bd; (· rfl); (· rfl); (· exact nxE))); (· first | exact Ok.lenD rfl rfl hxl | exact Ok.pe)) | ((first | apply Ca | (apply Cb; (· exact nxE))); (· first | exact Ok.e0)) | refine Sx ?_ | (refine Sy (fun h => ?_) (fun h => ?_) <;> try (exfalso; omega; done)) | refine Sz (fun h => ?_) (fun h => ?_))
  refine AW.loop (X := {k : Nat // k ≤ x.length}) (fun k => ⟨[Oo, I g, Oo, Oo, Oo, .own 1 ⟨0, []⟩ 0 x.length, Oo, Oo, Oo, Oo, Oo, IL x, I x.length, I (k.1 : Nat), Oo, Oo, Oo, Oo, Oo, Oo, Oo, Oo, Oo, Oo, Oo, Oo], heapL [(⟨0, []⟩, ⟨0, []⟩, IO (rowF x.length (mixR (fun i => timesB (x.getD i 0) g) (fun _ => 0) k.1)))], 900⟩) (fun k => x.length - k.1) ⟨0, Nat.zero_le _⟩ ?_ (fun k => ?_)
  ·
    (apply Le.headZ [_] rfl)
    all_goals (try dsimp only [srcs])
    (case' hfr | hob => (repeat' (first | refine La ?_ ?_ | exact Lc | refine Lo ?_ | refine ⟨⟨_, rfl, ?_⟩, ?_⟩ | refine Lx ?_)))
    all_goals (first | ((first | exact hz | (rw [hz]; done))) | exact Ld)
  obtain ⟨i, hi⟩ := k
  simp only
  by_cases hlt : i < x.length
  ·
    have hxi := getD_cell (rfl : x.length = x.length) hlt
    have hbi := hb i hlt
    have hT := times_ac (x.getD i 0) g (fun h1 _ => by have := hbi.resolve_left h1; omega)
    have hci := IRF_get (g := mixR (fun i => timesB (x.getD i 0) g) (fun _ => 0) i) hlt
    have hs1 : (IR (rowF x.length (mixR (fun i => timesB (x.getD i 0) g) (fun _ => 0) i))).set i [DI (timesB (x.getD i 0) g)] = IR (rowF x.length (mixR (fun i => timesB (x.getD i 0) g) (fun _ => 0) (i + 1))) := by rw [IR_set, ← mixR_set]
    repeat' (first | ((first | apply Ba | (apply Bb; (· rfl); (· rfl)) | (apply Bc; (· exact nxE)) | (apply Bd; (· rfl); (· rfl); (· exact nxE))); (· first | exact Kz rfl rfl (hT) (Ad (Ad An)) | exact Ok.st1 rfl rfl rfl (by simp [rowF_len]; omega) (by rw [hci]; rfl) rfl rfl hs1 | exact Ok.pe)) | ((first | apply Ca | (apply Cb; (· exact nxE))); (· first | exact Ok.st1 rfl rfl rfl (by simp [rowF_len]; omega) (by rw [hci]; rfl) rfl rfl hs1 | exact Ok.e0)) | refine Sx ?_ | (refine Sy (fun h => ?_) (fun h => ?_) <;> try (exfalso; omega; done)) | refine Sz (fun h => ?_) (fun h => ?_))
    refine ⟨⟨i + 1, by omega⟩, ?_, by simp only; omega⟩
    (apply Le.headZ [_] rfl)
    all_goals (try dsimp only [srcs])
    (case' hfr | hob => (repeat' (first | refine La ?_ ?_ | exact Lc | refine Lo ?_ | refine ⟨⟨_, rfl, ?_⟩, ?_⟩ | refine Lx ?_)))
    all_goals (first | (rfl) | exact Ld)
  ·
    obtain rfl : i = x.length := by omega
    rw [mixR_all]
    repeat' (first | ((first | apply Ba | (apply Bb; (· rfl); (· rfl)) | (apply Bc; (· exact nxE)) | (apply Bd; (· rfl); (· rfl); (· exact nxE))); (· first | exact Ok.pe)) | ((first | apply Ca | (apply Cb; (· exact nxE))); (· first | exact Ok.e0)) | refine Sx ?_ | (refine Sy (fun h => ?_) (fun h => ?_) <;> try (exfalso; omega; done)) | refine Sz (fun h => ?_) (fun h => ?_))
    refine Ya ?_
    (apply Le.head [(⟨0, []⟩, _, _)])
    (case' hfr | hob => (repeat' (first | refine La ?_ ?_ | exact Lc | refine Lo ?_ | refine ⟨⟨_, rfl, ?_⟩, ?_⟩ | refine Lx ?_)))
    all_goals (first | exact Ld | (rfl))
noncomputable def svC (x : List Int) (g : Int) : Int := if isVec x = true then (if wi g (-1000000) 1000000 = true then (if (shV x g).all isVal = true then 0 else 3) else 2) else 1
noncomputable def svX (x : List Int) (g : Int) : List Int := if svC x g = 0 then shV x g else []
theorem checkedVector_ac (x : List Int) (hx : x.length ≤ 100000000) : AC Tryz.prog 61 [IL x] H0 (.tup [IL (if x.all isVal = true then x else []), I (if x.all isVal = true then 0 else 3)]) H0 := by
  have hA := areValues_ac x hx
  cases ha : x.all isVal
  · rw [ha] at hA
    simp only [Bool.false_eq_true, if_false]
    refine AC.of_body 0 Tryz.func61 rfl (fun l h => absurd rfl h) (fun C hC => ?_)
    have hD : ∀ l, ¬ C.D0 l := fun l h => (hC l).1 h rfl
    simp only [startFr, Tryz.ntmps61, List.length_cons, List.length_nil, Nat.reduceAdd, Nat.reduceSub, List.replicate_succ, List.replicate_zero, List.cons_append, List.nil_append]
    repeat' (first | ((first | apply Ba | (apply Bb; (· rfl); (· rfl)) | (apply Bc; (· exact nxE)) | (apply Bd; (· rfl); (· rfl); (· exact nxE))); (· first | exact Kz rfl rfl (hA) (Ad An) | exact Ok.pe)) | ((first | apply Ca | (apply Cb; (· exact nxE))); (· first | exact Ok.e0)) | refine Sx ?_ | (refine Sy (fun h => ?_) (fun h => ?_) <;> try (exfalso; omega; done)) | refine Sz (fun h => ?_) (fun h => ?_))
    refine Yb ?_
    (apply Le.headZ (hs := []) [] rfl)
    all_goals (try dsimp only [srcs])
    (case' hfr => (repeat' (first | refine La ?_ ?_ | exact Lc | refine Lo ?_ | refine ⟨⟨_, rfl, ?_⟩, ?_⟩ | refine Lx ?_)))
    all_goals (first | exact Ld | exact trivial | (rfl))
  · rw [ha] at hA
    simp only [if_true]
    refine AC.of_body 0 Tryz.func61 rfl (fun l h => absurd rfl h) (fun C hC => ?_)
    have hD : ∀ l, ¬ C.D0 l := fun l h => (hC l).1 h rfl
    simp only [startFr, Tryz.ntmps61, List.length_cons, List.length_nil, Nat.reduceAdd, Nat.reduceSub, List.replicate_succ, List.replicate_zero, List.cons_append, List.nil_append]
    repeat' (first | ((first | apply Ba | (apply Bb; (· rfl); (· rfl)) | (apply Bc; (· exact nxE)) | (apply Bd; (· rfl); (· rfl); (· exact nxE))); (· first | exact Kz rfl rfl (hA) (Ad An) | exact Ok.pe)) | ((first | apply Ca | (apply Cb; (· exact nxE))); (· first | exact Ok.e0)) | refine Sx ?_ | (refine Sy (fun h => ?_) (fun h => ?_) <;> try (exfalso; omega; done)) | refine Sz (fun h => ?_) (fun h => ?_))
    refine Yb ?_
    (apply Le.headZ (hs := []) [] rfl)
    all_goals (try dsimp only [srcs])
    (case' hfr => (repeat' (first | refine La ?_ ?_ | exact Lc | refine Lo ?_ | refine ⟨⟨_, rfl, ?_⟩, ?_⟩ | refine Lx ?_)))
    all_goals (first | exact Ld | exact trivial | (rfl))
theorem iShiftVector_ac (x : List Int) (g : Int) (hx : x.length ≤ 100000000) : AC Tryz.prog 45 [IL x, I g] H0 (.tup [IL (svX x g), I (svC x g)]) H0 := by
  have hV := iIsVector_ac x hx
  have hF := isFinite_ac g
  unfold svX svC
  cases hv : isVec x
  · rw [hv] at hV
    simp only [Bool.false_eq_true, if_false, show ((1 : Int) = 0) = False by simp]
    refine AC.of_body 0 Tryz.func45 rfl (fun l h => absurd rfl h) (fun C hC => ?_)
    have hD : ∀ l, ¬ C.D0 l := fun l h => (hC l).1 h rfl
    simp only [startFr, Tryz.ntmps45, List.length_cons, List.length_nil, Nat.reduceAdd, Nat.reduceSub, List.replicate_succ, List.replicate_zero, List.cons_append, List.nil_append]
    repeat' (first | ((first | apply Ba | (apply Bb; (· rfl); (· rfl)) | (apply Bc; (· exact nxE)) | (apply Bd; (· rfl); (· rfl); (· exact nxE))); (· first | exact Kz rfl rfl (hV) (Ad An) | exact Ok.pe)) | ((first | apply Ca | (apply Cb; (· exact nxE))); (· first | exact Ok.e0)) | refine Sx ?_ | (refine Sy (fun h => ?_) (fun h => ?_) <;> try (exfalso; omega; done)) | refine Sz (fun h => ?_) (fun h => ?_))
    refine Yb ?_
    (apply Le.headZ (hs := []) [] rfl)
    all_goals (try dsimp only [srcs])
    (case' hfr => (repeat' (first | refine La ?_ ?_ | exact Lc | refine Lo ?_ | refine ⟨⟨_, rfl, ?_⟩, ?_⟩ | refine Lx ?_)))
    all_goals (first | exact Ld | exact trivial | (rfl))
  rw [hv] at hV
  cases hw : wi g (-1000000) 1000000
  · rw [hw] at hF
    simp only [Bool.false_eq_true, if_false, if_true, show ((2 : Int) = 0) = False by simp]
    refine AC.of_body 0 Tryz.func45 rfl (fun l h => absurd rfl h) (fun C hC => ?_)
    have hD : ∀ l, ¬ C.D0 l := fun l h => (hC l).1 h rfl
    simp only [startFr, Tryz.ntmps45, List.length_cons, List.length_nil, Nat.reduceAdd, Nat.reduceSub, List.replicate_succ, List.replicate_zero, List.cons_append, List.nil_append]
    repeat' (first | ((first | apply Ba | (apply Bb; (· rfl); (· rfl)) | (apply Bc; (· exact nxE)) | (apply Bd; (· rfl); (· rfl); (· exact nxE))); (· first | exact Kz rfl rfl (hV) (Ad An) | exact Kz rfl rfl (hF) (Ad An) | exact Ok.pe)) | ((first | apply Ca | (apply Cb; (· exact nxE))); (· first | exact Ok.e0)) | refine Sx ?_ | (refine Sy (fun h => ?_) (fun h => ?_) <;> try (exfalso; omega; done)) | refine Sz (fun h => ?_) (fun h => ?_))
    refine Yb ?_
    (apply Le.headZ (hs := []) [] rfl)
    all_goals (try dsimp only [srcs])
    (case' hfr => (repeat' (first | refine La ?_ ?_ | exact Lc | refine Lo ?_ | refine ⟨⟨_, rfl, ?_⟩, ?_⟩ | refine Lx ?_)))
    all_goals (first | exact Ld | exact trivial | (rfl))
  rw [hw] at hF
  obtain ⟨hva, h1, h2⟩ := isVec_vals hv
  have hS := (shiftedVector_ac x g h2 (wi_iff.1 hw) (fun j hj => by
    rw [List.all_eq_true] at hva
    have := isVal_iff.1 (hva (x.getD j 0) (by rw [List.getD_eq_getElem?_getD, List.getElem?_eq_getElem hj]; exact List.getElem_mem hj))
    exact this)).frz (AR.whole (l := ⟨0, []⟩) rfl trivial (by rw [IR_len, shV_len]))
  have hCk := checkedVector_ac (shV x g) (by rw [shV_len]; omega)
  simp only [if_true]
  have e : (if (if (shV x g).all isVal = true then (0 : Int) else 3) = 0 then shV x g else []) = (if (shV x g).all isVal = true then shV x g else []) := by
    cases (shV x g).all isVal <;> simp
  rw [e]
  generalize shV x g = y at *
  refine AC.of_body 0 Tryz.func45 rfl (fun l h => absurd rfl h) (fun C hC => ?_)
  have hD : ∀ l, ¬ C.D0 l := fun l h => (hC l).1 h rfl
  simp only [startFr, Tryz.ntmps45, List.length_cons, List.length_nil, Nat.reduceAdd, Nat.reduceSub, List.replicate_succ, List.replicate_zero, List.cons_append, List.nil_append]
  repeat' (first | ((first | apply Ba | (apply Bb; (· rfl); (· rfl)) | (apply Bc; (· exact nxE)) | (apply Bd; (· rfl); (· rfl); (· exact nxE))); (· first | exact Kz rfl rfl (hV) (Ad An) | exact Kz rfl rfl (hF) (Ad An) | exact Kz rfl rfl (hS) (Ad (Ad An)) | exact Kz rfl rfl (hCk) (Ad An) | exact Ok.pe)) | ((first | apply Ca | (apply Cb; (· exact nxE))); (· first | exact Ok.e0)) | refine Sx ?_ | (refine Sy (fun h => ?_) (fun h => ?_) <;> try (exfalso; omega; done)) | refine Sz (fun h => ?_) (fun h => ?_))
  refine Yb ?_
  (apply Le.headZ (hs := []) [] rfl)
  all_goals (try dsimp only [srcs])
  (case' hfr => (repeat' (first | refine La ?_ ?_ | exact Lc | refine Lo ?_ | refine ⟨⟨_, rfl, ?_⟩, ?_⟩ | refine Lx ?_)))
  all_goals (first | exact Ld | exact trivial | (rfl))
end Go.Proofs.YtpgcmpbamlnkkaaGreat
end

section
namespace Go.Proofs.YtpgcmpbamlnkkaaGreat
set_option linter.unusedSimpArgs false
set_option linter.unusedVariables false
open Go Go.RowKit
attribute [local irreducible] AL AD AW OpOk Le AC thenQ blockQ EndQ

theorem ev_ok {t : List (List Int)} (h : evC t = 0) : cmC t = 0 ∧ (evL t).all isVal = true ∧ evX t = evL t ∧ evR t = kmR (entN t) t.length := by
  have h' := h
  unfold evC at h'
  have hz : cmC t = 0 := by
    by_cases hz : cmC t = 0
    · exact hz
    · rw [if_neg hz] at h'; exact h'
  rw [if_pos hz] at h'
  refine ⟨hz, ?_, by unfold evX; rw [if_pos h], by unfold evR; rw [if_pos h]⟩
  by_cases ha : (evL t).all isVal = true
  · exact ha
  · rw [if_neg ha] at h'; exact absurd h' (by decide)
set_option maxHeartbeats 2000000 in
theorem sEigenVectorO_ac (t : List (List Int)) (ht : t.length ≤ 100000000) (hr : ∀ r ∈ t, r.length ≤ 100000000) (h : evC t = 0) : AC Tryz.prog 35 [TL t] H0 (.tup [own1 1 (evX t).length, .agg [I (evR t).1, I (evR t).2], I 0]) (hp1 (IO (evX t))) := by
  have hCm := sCycleMean_ac t ht hr
  obtain ⟨hz, hall, eX, eR⟩ := ev_ok h
  rw [eX, eR]
  obtain ⟨hs, hc, _, hm, _⟩ := cm_ok hz
  have hMt := isSq_ok hs
  obtain ⟨f, r, e1, hcy, e2⟩ := best_ne hMt.b hMt.le hc
  obtain ⟨h1, h2, h3, h4⟩ := kmR_ok hMt.b hMt.le hc
  have hst := starM_k hMt hc
  have hB := l04Best_yes t t.length hMt hc
  have e3 : bkF t t.length (kmR (entN t) t.length) (-1) = f :: r := e1
  have hSh := (l04Shift_ac t t.length hMt (kmR (entN t) t.length).1 (kmR (entN t) t.length).2 h3 h4).frzT (by rw [TR_len]; exact shT_sq.l)
  have hSt := (l03Star_ac (shT t t.length (kmR (entN t) t.length).1 (kmR (entN t) t.length).2) t.length hst).frzT2 (by rw [TR_len, tabF_len])
  have hTu := l02Turn_ac (starF (entN (shT t t.length (kmR (entN t) t.length).1 (kmR (entN t) t.length).2)) t.length) t.length hMt.pos (by have := hMt.le; omega)
  have hrow : (TR (tabF t.length t.length (tuF (starF (entN (shT t t.length (kmR (entN t) t.length).1 (kmR (entN t) t.length).2)) t.length))))[((f : Nat) : Int).toNat]? = some (IR (evL t)) := by
    unfold evL
    rw [e3]
    exact TRF_get hcy.lt
  have hel : (evL t).length = t.length := coL_len
  have hV := l02Vector_ac (evL t) (by have := hMt.le; omega)
  rw [isVec_all hel hMt.pos hMt.le, hall] at hV
  rw [e3] at hB
  rw [hz, hm] at hCm
  have hf0 : (IR (cN (f :: r)))[(0 : Int).toNat]? = some [DI (f : Nat)] := rfl
  have hrl : (IR (evL t)).length = t.length := by rw [IR_len, hel]
  rw [hel]
  have hfl := hcy.lt
  clear hst h1 h2 h3 h4 e1 e2 e3 hcy hMt hm eX eR h hz hall
  generalize tuF (starF (entN (shT t t.length (kmR (entN t) t.length).1 (kmR (entN t) t.length).2)) t.length) = tu at *
  generalize starF (entN (shT t t.length (kmR (entN t) t.length).1 (kmR (entN t) t.length).2)) t.length = s at *
  generalize shT t t.length (kmR (entN t) t.length).1 (kmR (entN t) t.length).2 = b at *
  generalize kmR (entN t) t.length = m at *
  generalize f :: r = c at *
  generalize evL t = x at *
  refine AC.of_body 0 Tryz.func35 rfl (fun l h => absurd rfl h) (fun C hC => ?_)
  have hD : ∀ l, ¬ C.D0 l := fun l h => (hC l).1 h rfl
  simp only [startFr, Tryz.ntmps35, List.length_cons, List.length_nil, Nat.reduceAdd, Nat.reduceSub, List.replicate_succ, List.replicate_zero, List.cons_append, List.nil_append]
  repeat' (first | ((first | apply Ba | (apply Bb; (· rfl); (· rfl)) | (apply Bc; (· exact nxE)) | (apply Bd; (· rfl); (· rfl); (· exact nxE))); (· first | exact Kz rfl rfl (hCm) (Ad An) | exact Kz rfl rfl (hB) (Ad An) | exact Kz rfl rfl (hSh) (Ad (Aa (Ad (Ad An)) An)) | exact Kz rfl rfl (hSt) (Ad An) | exact Ok.ldTn rfl rfl rfl hrow hrl | exact Ez rfl rfl hV (CA.w (congrArg (Option.map (dobj 1)) hrow) hrl Sn) | exact Tb rfl rfl (hTu) (Sd Sn) | exact Ok.pe)) | ((first | apply Ca | (apply Cb; (· exact nxE))); (· first | exact Tb rfl rfl (hTu) (Sd Sn) | exact Ok.e0)) | refine Sx ?_ | (refine Sy (fun h => ?_) (fun h => ?_) <;> try (exfalso; omega; done)) | refine Sz (fun h => ?_) (fun h => ?_))
  refine Yc ?_
  (apply Le.head [(⟨0, []⟩, Loc.at ⟨30, [0]⟩ f, IO x)])
  (case' hfr | hob => (repeat' (first | refine La ?_ ?_ | exact Lc | refine Lo ?_ | refine ⟨⟨_, rfl, ?_⟩, ?_⟩ | refine Lx ?_)))
  all_goals (first | exact Ld | (first | exact ⟨⟨_, congrArg (Option.map (dobj 1)) hrow, ObA.data⟩, trivial⟩ | trace_state))
end Go.Proofs.YtpgcmpbamlnkkaaGreat
end

section
namespace Go.Proofs.YtpgcmpbamlnkkaaGreat
set_option linter.unusedSimpArgs false
set_option linter.unusedVariables false
open Go Go.RowKit
attribute [local irreducible] AL AD AW OpOk Le AC thenQ blockQ EndQ

theorem ev_bnd {t : List (List Int)} (h : evC t = 0) : ((-1000000 ≤ (evR t).1 ∧ (evR t).1 ≤ 1000000) ∧ (0 < (evR t).2 ∧ (evR t).2 ≤ 10)) ∧ ((evX t).length = t.length ∧ 1 ≤ t.length ∧ ∀ v ∈ evX t, v = BOT ∨ (-1000000 ≤ v ∧ v ≤ 1000000)) := by
  obtain ⟨hz, hall, eX, eR⟩ := ev_ok h
  obtain ⟨hs, hc, hi, _, _⟩ := cm_ok hz
  have hMt := isSq_ok hs
  obtain ⟨_, _, _, h4⟩ := kmR_ok hMt.b hMt.le hc
  rw [eX, eR]
  refine ⟨⟨?_, h4⟩, coL_len, hMt.pos, fun v hv => isVal_iff.1 (List.all_eq_true.1 hall v hv)⟩
  unfold isRt at hi
  exact wi_iff.1 hi
set_option maxHeartbeats 8000000 in
theorem l05DrawVector_ex (code : List Int) (hc : CodeOk code) (s : Src) (hs : SrcOk code s) : ∃ (T : List (List Int)) (r : Int × Int) (x : List Int) (s' : Src), TabOk T ∧ T.length ≤ 6 ∧ DrR r ∧ x.length ≤ 1000 ∧ SrcOk code s' ∧ AC Tryz.prog 107 [Bx 3 0] (srcH code s) (.tup [TL T, .agg [I r.1, I r.2], IL x]) (srcH code s') := by
  obtain ⟨T, s1, hT, hT6, h1, D1⟩ := l04Draw_ex code hc s hs
  have htl := hT.l
  have hlT : (mRows 1 (TR T)).length = T.length := mTR_len
  have hTr : ∀ r ∈ T, r.length ≤ 100000000 := fun r h => by have := hT.r r h; omega
  by_cases he : evC T = 0
  case neg =>
    have hP := sEigenVector_ac T (by omega) hTr
    obtain ⟨r, s2, hr, h2, D2⟩ := l01DrawRatio_ex code hc s1 h1
    obtain ⟨x, s3, hx, h3, D3⟩ := l02DrawVector_ex code hc s2 h2 T.length (by omega)
    refine ⟨T, r, x, s3, hT, hT6, hr, by omega, h3, ?_⟩
    obtain ⟨p, q⟩ := r
    simp only at D2 ⊢
    generalize evX T = y at *
    generalize evR T = m at *
    generalize evC T = c at *
    show AC _ _ _ (heapL [(⟨0, []⟩, ⟨0, []⟩, srcO code s)]) _ _
    refine AC.of_body 1 Tryz.func107 rfl (fun l h => by simp [heapL, upd] at h; simp [h]) (fun C hC => ?_)
    simp only [startFr, Tryz.ntmps107, List.length_cons, List.length_nil, Nat.reduceAdd, Nat.reduceSub, List.replicate_succ, List.replicate_zero, List.cons_append, List.nil_append]
    have hD : ∀ l, C.D0 l → l = ⟨0, []⟩ := fun l h => by have := (hC l).1 h; simp [heapL, upd] at this; exact this
    repeat' (first | ((first | apply Ba | (apply Bb; (· rfl); (· rfl)) | (apply Bc; (· exact nxE)) | (apply Bd; (· rfl); (· rfl); (· exact nxE))); (· first | exact Kz rfl rfl (hP) (Ad An) | exact Ok.lenD rfl rfl hlT | exact Zx (args := []) D1 rfl rfl rfl rfl .nil (fun _ => by simp [rn]) | exact Zx (args := []) D2 rfl rfl rfl rfl .nil (fun _ => by simp [rn]) | exact Zx (args := [I T.length]) D3 rfl rfl rfl rfl (.cons (.dd _) .nil) (fun _ => by simp [rn]) | exact Ok.pe)) | ((first | apply Ca | (apply Cb; (· exact nxE))); (· first | exact Zx (args := []) D1 rfl rfl rfl rfl .nil (fun _ => by simp [rn]) | exact Zx (args := []) D2 rfl rfl rfl rfl .nil (fun _ => by simp [rn]) | exact Zx (args := [I T.length]) D3 rfl rfl rfl rfl (.cons (.dd _) .nil) (fun _ => by simp [rn]) | exact Ok.e0)) | refine Sx ?_ | (refine Sy (fun h => ?_) (fun h => ?_) <;> try (exfalso; omega; done)) | refine Sz (fun h => ?_) (fun h => ?_))
    all_goals
      refine Yc ?_
      (apply Le.headZ (hs := [(⟨0, []⟩, ⟨0, []⟩, _)]) [⟨0, []⟩] rfl)
      all_goals (try dsimp only [srcs])
      (case' hfr | hob => (repeat' (first | refine La ?_ ?_ | exact Lc | refine Lo ?_ | refine ⟨⟨_, rfl, ?_⟩, ?_⟩ | refine Lx ?_)))
      all_goals (first | exact Ld | exact trivial | (rfl))
  have hP := sEigenVectorO_ac T (by omega) hTr he
  obtain ⟨⟨⟨m1, m2⟩, m3, m4⟩, hxl, hT1, hxb⟩ := ev_bnd he
  obtain ⟨a, s2, a1, a2, h2, q2, N2⟩ := next_ex hc h1 6
  generalize evX T = x at *
  generalize evR T = m at *
  obtain ⟨p, q⟩ := m
  simp only at m1 m2 m3 m4 hP
  have hxr : (IR x).length = x.length := IR_len
  by_cases ha : a = 0
  · obtain ⟨r, s3, hr, h3, D2⟩ := l01DrawRatio_ex code hc s2 h2
    obtain ⟨y, s4, hy, h4, D3⟩ := l02DrawVector_ex code hc s3 h3 T.length (by omega)
    refine ⟨T, r, y, s4, hT, hT6, hr, by omega, h4, ?_⟩
    obtain ⟨p', q'⟩ := r
    simp only at D2 ⊢
    show AC _ _ _ (heapL [(⟨0, []⟩, ⟨0, []⟩, srcO code s)]) _ _
    refine AC.of_body 1 Tryz.func107 rfl (fun l h => by simp [heapL, upd] at h; simp [h]) (fun C hC => ?_)
    simp only [startFr, Tryz.ntmps107, List.length_cons, List.length_nil, Nat.reduceAdd, Nat.reduceSub, List.replicate_succ, List.replicate_zero, List.cons_append, List.nil_append]
    have hD : ∀ l, C.D0 l → l = ⟨0, []⟩ := fun l h => by have := (hC l).1 h; simp [heapL, upd] at this; exact this
    repeat' (first | ((first | apply Ba | (apply Bb; (· rfl); (· rfl)) | (apply Bc; (· exact nxE)) | (apply Bd; (· rfl); (· rfl); (· exact nxE))); (· first | exact Ok.lenD rfl rfl hlT | exact Zx (args := []) D1 rfl rfl rfl rfl .nil (fun _ => by simp [rn]) | exact Zx (args := []) D2 rfl rfl rfl rfl .nil (fun _ => by simp [rn]) | exact Eo rfl rfl (hP) (Sd Sn) | exact Nx N2 rfl rfl rfl rfl rfl | exact Zx (args := [I T.length]) D3 rfl rfl rfl rfl (.cons (.dd _) .nil) (fun _ => by simp [rn]) | exact Ok.pe)) | ((first | apply Ca | (apply Cb; (· exact nxE))); (· first | exact Zx (args := []) D1 rfl rfl rfl rfl .nil (fun _ => by simp [rn]) | exact Zx (args := []) D2 rfl rfl rfl rfl .nil (fun _ => by simp [rn]) | exact Eo rfl rfl (hP) (Sd Sn) | exact Nx N2 rfl rfl rfl rfl rfl | exact Zx (args := [I T.length]) D3 rfl rfl rfl rfl (.cons (.dd _) .nil) (fun _ => by simp [rn]) | exact Ok.e0)) | refine Sx ?_ | (refine Sy (fun h => ?_) (fun h => ?_) <;> try (exfalso; omega; done)) | refine Sz (fun h => ?_) (fun h => ?_))
    all_goals
      refine Yc ?_
      (apply Le.headZ (hs := [(⟨0, []⟩, ⟨0, []⟩, _)]) [⟨0, []⟩] rfl)
      all_goals (try dsimp only [srcs])
      (case' hfr | hob => (repeat' (first | refine La ?_ ?_ | exact Lc | refine Lo ?_ | refine ⟨⟨_, rfl, ?_⟩, ?_⟩ | refine Lx ?_)))
      all_goals (first | exact Ld | exact trivial | (rfl))
  obtain ⟨b, s3, b1, b2, h3, q3, N3⟩ := next_ex hc h2 x.length
  obtain ⟨c, s4, c1, c2, h4, q4, N4⟩ := next_ex hc h3 5
  obtain ⟨k, rfl⟩ : ∃ k : Nat, b = k := ⟨b.toNat, by omega⟩
  have hk : k < x.length := by omega
  have hv := hxb _ (List.getElem_mem hk)
  have hcell : (IR x)[k]? = some [DI x[k]] := by simp [hk]
  by_cases hc0 : c = 0
  · obtain ⟨v, s5, _, h5, p5, q5, K5⟩ := pick_ex hc h4 [x[k] + 1, x[k] - 1, -1000000000000000] 3 rfl
    refine ⟨T, (p, q), x.set k v, s5, hT, hT6, ⟨by simp only; omega, by simp only; omega, fun _ => m4⟩, by rw [List.length_set]; omega, h5, ?_⟩
    have hset : (IR x).set k [DI v] = IR (x.set k v) := by simp [List.map_set]
    unfold BOT at hv
    generalize x[k] = e at *
    simp only
    show AC _ _ _ (heapL [(⟨0, []⟩, ⟨0, []⟩, srcO code s)]) _ _
    refine AC.of_body 1 Tryz.func107 rfl (fun l h => by simp [heapL, upd] at h; simp [h]) (fun C hC => ?_)
    simp only [startFr, Tryz.ntmps107, List.length_cons, List.length_nil, Nat.reduceAdd, Nat.reduceSub, List.replicate_succ, List.replicate_zero, List.cons_append, List.nil_append]
    have hD : ∀ l, C.D0 l → l = ⟨0, []⟩ := fun l h => by have := (hC l).1 h; simp [heapL, upd] at this; exact this
    repeat' (first | ((first | apply Ba | (apply Bb; (· rfl); (· rfl)) | (apply Bc; (· exact nxE)) | (apply Bd; (· rfl); (· rfl); (· exact nxE))); (· first | exact Ok.ld1 rfl rfl rfl hcell | exact Zx (args := []) D1 rfl rfl rfl rfl .nil (fun _ => by simp [rn]) | exact Eo rfl rfl (hP) (Sd Sn) | exact Nx N2 rfl rfl rfl rfl rfl | exact Nx N3 rfl rfl rfl rfl rfl | exact Nx N4 rfl rfl rfl rfl rfl | exact Kx K5 rfl rfl rfl rfl rfl rfl (by decide) | exact Ok.bs3 rfl rfl rfl rfl rfl | exact Ok.st1 rfl rfl rfl (by rw [hxr]; omega) (by rw [hcell]; rfl) rfl rfl hset | exact Ok.pe)) | ((first | apply Ca | (apply Cb; (· exact nxE))); (· first | exact Zx (args := []) D1 rfl rfl rfl rfl .nil (fun _ => by simp [rn]) | exact Eo rfl rfl (hP) (Sd Sn) | exact Nx N2 rfl rfl rfl rfl rfl | exact Nx N3 rfl rfl rfl rfl rfl | exact Nx N4 rfl rfl rfl rfl rfl | exact Kx K5 rfl rfl rfl rfl rfl rfl (by decide) | exact Ok.bs3 rfl rfl rfl rfl rfl | exact Ok.st1 rfl rfl rfl (by rw [hxr]; omega) (by rw [hcell]; rfl) rfl rfl hset | exact Ok.e0)) | refine Sx ?_ | (refine Sy (fun h => ?_) (fun h => ?_) <;> try (exfalso; omega; done)) | refine Sz (fun h => ?_) (fun h => ?_))
    all_goals
      refine Yc ?_
      (apply Le.headZ (hs := [(⟨0, []⟩, ⟨0, []⟩, _)]) [⟨0, []⟩] rfl)
      all_goals (try dsimp only [srcs])
      (case' hfr | hob => (repeat' (first | refine La ?_ ?_ | refine ARs.agg ?_ | refine ARs.tup ?_ | (exact AR.whole rfl (by simp) (by simp)) | refine La ?_ ?_ | exact Lc | refine Lo ?_ | refine ⟨⟨_, rfl, ?_⟩, ?_⟩ | refine Lx ?_)))
      all_goals (first | exact Ld | exact trivial | (exact AR.whole rfl (by simp) (by simp)))
  by_cases hc1 : c = 1
  · obtain ⟨g, s5, g1, g2, h5, q5, N5⟩ := next_ex hc h4 9
    refine ⟨T, (p, q), shV x (g - 4), s5, hT, hT6, ⟨by simp only; omega, by simp only; omega, fun _ => m4⟩, by rw [shV_len]; omega, h5, ?_⟩
    unfold shV
    have hx0 : IR x = IR (rowF x.length (mixR (fun i => timesB (x.getD i 0) (g - 4)) (fun i => x.getD i 0) 0)) := by
      rw [mixR_0]
      simp only [List.getD_eq_getElem?_getD]
      rw [rowF_self rfl]
    simp only
    show AC _ _ _ (heapL [(⟨0, []⟩, ⟨0, []⟩, srcO code s)]) _ _
    refine AC.of_body 1 Tryz.func107 rfl (fun l h => by simp [heapL, upd] at h; simp [h]) (fun C hC => ?_)
    simp only [startFr, Tryz.ntmps107, List.length_cons, List.length_nil, Nat.reduceAdd, Nat.reduceSub, List.replicate_succ, List.replicate_zero, List.cons_append, List.nil_append]
    have hD : ∀ l, C.D0 l → l = ⟨0, []⟩ := fun l h => by have := (hC l).1 h; simp [heapL, upd] at this; exact this
    repeat' (first | ((first | apply Ba | (apply Bb; (· rfl); (· rfl)) | (apply Bc; (· exact nxE)) | (apply Bd; (· rfl); (· rfl); (· exact nxE))); (· first | exact Zx (args := []) D1 rfl rfl rfl rfl .nil (fun _ => by simp [rn]) | exact Eo rfl rfl (hP) (Sd Sn) | exact Nx N2 rfl rfl rfl rfl rfl | exact Nx N3 rfl rfl rfl rfl rfl | exact Nx N4 rfl rfl rfl rfl rfl | exact Nx N5 rfl rfl rfl rfl rfl | exact Ok.pe)) | ((first | apply Ca | (apply Cb; (· exact nxE))); (· first | exact Zx (args := []) D1 rfl rfl rfl rfl .nil (fun _ => by simp [rn]) | exact Eo rfl rfl (hP) (Sd Sn) | exact Nx N2 rfl rfl rfl rfl rfl | exact Nx N3 rfl rfl rfl rfl rfl | exact Nx N4 rfl rfl rfl rfl rfl | exact Nx N5 rfl rfl rfl rfl rfl | exact Ok.e0)) | refine Sx ?_ | (refine Sy (fun h => ?_) (fun h => ?_) <;> try (exfalso; omega; done)) | refine Sz (fun h => ?_) (fun h => ?_))
    refine AW.loop (X := {k : Nat // k ≤ x.length}) (fun k => ⟨[Bx 3 0, Oo, Oo, Bx 2 1, Oo, TL T, .own 1 ⟨2, []⟩ 0 x.length, Bx 2 3, Oo, Oo, I (g - 4), I (k.1 : Nat), Oo, Oo, Oo, Oo, Oo, Oo, Oo, Oo, Oo, Oo, Oo, Oo, Oo, Oo, Oo, Oo, Oo, Oo, Oo, Oo, Oo, Oo, Oo, Oo, Oo, Oo, Oo, Oo, Oo, Oo, Oo, Oo, Oo, Oo, Oo, Oo, Oo, Oo, Oo, Oo, Oo, Oo, Oo, Oo, Oo, Oo, Oo, Oo, Oo, Oo, Oo, Oo, Oo, Oo, Oo, Oo, Oo, Oo, Oo, Oo, Oo, Oo, Oo, Oo, Oo, Oo, Oo, Oo, Oo, Oo, Oo, Oo, Oo, Oo, Oo, Oo, Oo], heapL [(⟨0, []⟩, ⟨0, []⟩, srcO code s5), (⟨1, []⟩, ⟨1, []⟩, ⟨2, [[I 0, I 0]]⟩), (⟨2, []⟩, ⟨2, []⟩, IO (rowF x.length (mixR (fun i => timesB (x.getD i 0) (g - 4)) (fun i => x.getD i 0) k.1))), (⟨3, []⟩, ⟨3, []⟩, ⟨2, [[I p, I q]]⟩)], 900⟩) (fun k => x.length - k.1) ⟨0, Nat.zero_le _⟩ ?_ (fun k => ?_)
    ·
      (apply Le.headZ [_, _, _, _] rfl)
      all_goals (try dsimp only [srcs])
      (case' hfr | hob => (repeat' (first | refine La ?_ ?_ | exact Lc | refine Lo ?_ | refine ⟨⟨_, rfl, ?_⟩, ?_⟩ | refine Lx ?_)))
      all_goals (first | ((rw [← hx0]; done)) | exact Ld)
    obtain ⟨i, hi⟩ := k
    simp only
    by_cases hlt : i < x.length
    ·
      have hbi : x.getD i 0 = BOT ∨ (-1000000 ≤ x.getD i 0 ∧ x.getD i 0 ≤ 1000000) := hxb _ (by rw [List.getD_eq_getElem?_getD, List.getElem?_eq_getElem hlt]; exact List.getElem_mem hlt)
      have hT := l01Times_ac (x.getD i 0) (g - 4) (fun h1 _ => by have := hbi.resolve_left h1; omega)
      have hci := IRF_get (g := mixR (fun i => timesB (x.getD i 0) (g - 4)) (fun i => x.getD i 0) i) hlt
      rw [show mixR (fun i => timesB (x.getD i 0) (g - 4)) (fun i => x.getD i 0) i i = x.getD i 0 by simp [mixR]] at hci
      have hs1 : (IR (rowF x.length (mixR (fun i => timesB (x.getD i 0) (g - 4)) (fun i => x.getD i 0) i))).set i [DI (timesB (x.getD i 0) (g - 4))] = IR (rowF x.length (mixR (fun i => timesB (x.getD i 0) (g - 4)) (fun i => x.getD i 0) (i + 1))) := by rw [IR_set, ← mixR_set]
      repeat' (first | ((first | apply Ba | (apply Bb; (· rfl); (· rfl)) | (apply Bc; (· exact nxE)) | (apply Bd; (· rfl); (· rfl); (· exact nxE))); (· first | exact Ok.ld1 rfl rfl rfl hci | exact Kz rfl rfl (hT) (Ad (Ad An)) | exact Ok.st1 rfl rfl rfl (by simp [rowF_len]; omega) (by rw [hci]; rfl) rfl rfl hs1 | exact Ok.pe)) | ((first | apply Ca | (apply Cb; (· exact nxE))); (· first | exact Ok.st1 rfl rfl rfl (by simp [rowF_len]; omega) (by rw [hci]; rfl) rfl rfl hs1 | exact Ok.e0)) | refine Sx ?_ | (refine Sy (fun h => ?_) (fun h => ?_) <;> try (exfalso; omega; done)) | refine Sz (fun h => ?_) (fun h => ?_))
      refine ⟨⟨i + 1, by omega⟩, ?_, by simp only; omega⟩
      (apply Le.headZ [_, _, _, _] rfl)
      all_goals (try dsimp only [srcs])
      (case' hfr | hob => (repeat' (first | refine La ?_ ?_ | exact Lc | refine Lo ?_ | refine ⟨⟨_, rfl, ?_⟩, ?_⟩ | refine Lx ?_)))
      all_goals (first | (rfl) | exact Ld)
    ·
      obtain rfl : i = x.length := by omega
      rw [mixR_all]
      repeat' (first | ((first | apply Ba | (apply Bb; (· rfl); (· rfl)) | (apply Bc; (· exact nxE)) | (apply Bd; (· rfl); (· rfl); (· exact nxE))); (· first | exact Ok.pe)) | ((first | apply Ca | (apply Cb; (· exact nxE))); (· first | exact Ok.e0)) | refine Sx ?_ | (refine Sy (fun h => ?_) (fun h => ?_) <;> try (exfalso; omega; done)) | refine Sz (fun h => ?_) (fun h => ?_))
      refine Yc ?_
      (apply Le.headZ (hs := [(⟨0, []⟩, ⟨0, []⟩, _)]) [⟨0, []⟩] rfl)
      all_goals (try dsimp only [srcs])
      (case' hfr | hob => (repeat' (first | refine La ?_ ?_ | refine ARs.agg ?_ | refine ARs.tup ?_ | (exact AR.whole rfl (by simp) (by simp [rowF_len])) | refine La ?_ ?_ | exact Lc | refine Lo ?_ | refine ⟨⟨_, rfl, ?_⟩, ?_⟩ | refine Lx ?_)))
      all_goals (first | exact Ld | exact trivial | (exact AR.whole rfl (by simp) (by simp [rowF_len])))
  by_cases hc2 : c = 2
  · refine ⟨T, (p + 1, q), x, s4, hT, hT6, ⟨by simp only; omega, by simp only; omega, fun _ => m4⟩, by omega, h4, ?_⟩
    simp only
    show AC _ _ _ (heapL [(⟨0, []⟩, ⟨0, []⟩, srcO code s)]) _ _
    refine AC.of_body 1 Tryz.func107 rfl (fun l h => by simp [heapL, upd] at h; simp [h]) (fun C hC => ?_)
    simp only [startFr, Tryz.ntmps107, List.length_cons, List.length_nil, Nat.reduceAdd, Nat.reduceSub, List.replicate_succ, List.replicate_zero, List.cons_append, List.nil_append]
    have hD : ∀ l, C.D0 l → l = ⟨0, []⟩ := fun l h => by have := (hC l).1 h; simp [heapL, upd] at this; exact this
    repeat' (first | ((first | apply Ba | (apply Bb; (· rfl); (· rfl)) | (apply Bc; (· exact nxE)) | (apply Bd; (· rfl); (· rfl); (· exact nxE))); (· first | exact Zx (args := []) D1 rfl rfl rfl rfl .nil (fun _ => by simp [rn]) | exact Eo rfl rfl (hP) (Sd Sn) | exact Nx N2 rfl rfl rfl rfl rfl | exact Nx N3 rfl rfl rfl rfl rfl | exact Nx N4 rfl rfl rfl rfl rfl | exact Ok.pe)) | ((first | apply Ca | (apply Cb; (· exact nxE))); (· first | exact Zx (args := []) D1 rfl rfl rfl rfl .nil (fun _ => by simp [rn]) | exact Eo rfl rfl (hP) (Sd Sn) | exact Nx N2 rfl rfl rfl rfl rfl | exact Nx N3 rfl rfl rfl rfl rfl | exact Nx N4 rfl rfl rfl rfl rfl | exact Ok.e0)) | refine Sx ?_ | (refine Sy (fun h => ?_) (fun h => ?_) <;> try (exfalso; omega; done)) | refine Sz (fun h => ?_) (fun h => ?_))
    all_goals
      refine Yc ?_
      (apply Le.headZ (hs := [(⟨0, []⟩, ⟨0, []⟩, _)]) [⟨0, []⟩] rfl)
      all_goals (try dsimp only [srcs])
      (case' hfr | hob => (repeat' (first | refine La ?_ ?_ | refine ARs.agg ?_ | refine ARs.tup ?_ | (exact AR.whole rfl (by simp) (by simp)) | refine La ?_ ?_ | exact Lc | refine Lo ?_ | refine ⟨⟨_, rfl, ?_⟩, ?_⟩ | refine Lx ?_)))
      all_goals (first | exact Ld | exact trivial | (exact AR.whole rfl (by simp) (by simp)))
  · refine ⟨T, (p, q), x, s4, hT, hT6, ⟨by simp only; omega, by simp only; omega, fun _ => m4⟩, by omega, h4, ?_⟩
    simp only
    show AC _ _ _ (heapL [(⟨0, []⟩, ⟨0, []⟩, srcO code s)]) _ _
    refine AC.of_body 1 Tryz.func107 rfl (fun l h => by simp [heapL, upd] at h; simp [h]) (fun C hC => ?_)
    simp only [startFr, Tryz.ntmps107, List.length_cons, List.length_nil, Nat.reduceAdd, Nat.reduceSub, List.replicate_succ, List.replicate_zero, List.cons_append, List.nil_append]
    have hD : ∀ l, C.D0 l → l = ⟨0, []⟩ := fun l h => by have := (hC l).1 h; simp [heapL, upd] at this; exact this
    repeat' (first | ((first | apply Ba | (apply Bb; (· rfl); (· rfl)) | (apply Bc; (· exact nxE)) | (apply Bd; (· rfl); (· rfl); (· exact nxE))); (· first | exact Zx (args := []) D1 rfl rfl rfl rfl .nil (fun _ => by simp [rn]) | exact Eo rfl rfl (hP) (Sd Sn) | exact Nx N2 rfl rfl rfl rfl rfl | exact Nx N3 rfl rfl rfl rfl rfl | exact Nx N4 rfl rfl rfl rfl rfl | exact Ok.pe)) | ((first | apply Ca | (apply Cb; (· exact nxE))); (· first | exact Zx (args := []) D1 rfl rfl rfl rfl .nil (fun _ => by simp [rn]) | exact Eo rfl rfl (hP) (Sd Sn) | exact Nx N2 rfl rfl rfl rfl rfl | exact Nx N3 rfl rfl rfl rfl rfl | exact Nx N4 rfl rfl rfl rfl rfl | exact Ok.e0)) | refine Sx ?_ | (refine Sy (fun h => ?_) (fun h => ?_) <;> try (exfalso; omega; done)) | refine Sz (fun h => ?_) (fun h => ?_))
    all_goals
      refine Yc ?_
      (apply Le.headZ (hs := [(⟨0, []⟩, ⟨0, []⟩, _)]) [⟨0, []⟩] rfl)
      all_goals (try dsimp only [srcs])
      (case' hfr | hob => (repeat' (first | refine La ?_ ?_ | refine ARs.agg ?_ | refine ARs.tup ?_ | (exact AR.whole rfl (by simp) (by simp)) | refine La ?_ ?_ | exact Lc | refine Lo ?_ | refine ⟨⟨_, rfl, ?_⟩, ?_⟩ | refine Lx ?_)))
      all_goals (first | exact Ld | exact trivial | (exact AR.whole rfl (by simp) (by simp)))
theorem drawIsEigenVector_ex (code : List Int) (hc : CodeOk code) : ∃ (T : List (List Int)) (r : Int × Int) (x : List Int), TabOk T ∧ T.length ≤ 6 ∧ DrR r ∧ x.length ≤ 1000 ∧ AC Tryz.prog 36 [.d (BD code)] H0 (.tup [TL T, .agg [I r.1, I r.2], IL x]) H0 := by
  have hF := l01From_ac code hc
  obtain ⟨T, r, x, s1, hT, hT6, hr, hx, h1, D1⟩ := l05DrawVector_ex code hc _ (src0_ok hc)
  refine ⟨T, r, x, hT, hT6, hr, hx, ?_⟩
  obtain ⟨p, q⟩ := r
  simp only at D1 ⊢
  refine AC.of_body 0 Tryz.func36 rfl (fun l h => absurd rfl h) (fun C hC => ?_)
  have hD : ∀ l, ¬ C.D0 l := fun l h => (hC l).1 h rfl
  simp only [startFr, Tryz.ntmps36, List.length_cons, List.length_nil, Nat.reduceAdd, Nat.reduceSub, List.replicate_succ, List.replicate_zero, List.cons_append, List.nil_append]
  repeat' (first | ((first | apply Ba | (apply Bb; (· rfl); (· rfl)) | (apply Bc; (· exact nxE)) | (apply Bd; (· rfl); (· rfl); (· exact nxE))); (· first | exact Fx hF rfl rfl rfl | exact Zl (args := []) D1 rfl rfl rfl rfl .nil (fun _ => by simp [rn]) | exact Ok.pe)) | ((first | apply Ca | (apply Cb; (· exact nxE))); (· first | exact Fx hF rfl rfl rfl | exact Zl (args := []) D1 rfl rfl rfl rfl .nil (fun _ => by simp [rn]) | exact Ok.e0)) | refine Sx ?_ | (refine Sy (fun h => ?_) (fun h => ?_) <;> try (exfalso; omega; done)) | refine Sz (fun h => ?_) (fun h => ?_))
  refine Yc ?_
  (apply Le.headZ (hs := []) [] rfl)
  all_goals (try dsimp only [srcs])
  (case' hfr => (repeat' (first | refine La ?_ ?_ | exact Lc | refine Lo ?_ | refine ⟨⟨_, rfl, ?_⟩, ?_⟩ | refine Lx ?_)))
  all_goals (first | exact Ld | exact trivial | (rfl))
theorem drawEigenVector_ex (code : List Int) (hc : CodeOk code) : ∃ T : List (List Int), TabOk T ∧ AC Tryz.prog 33 [.d (BD code)] H0 (TL T) H0 := by
  have hF := l01From_ac code hc
  obtain ⟨T, s1, hT, _, h1, D1⟩ := l04Draw_ex code hc _ (src0_ok hc)
  refine ⟨T, hT, ?_⟩
  refine AC.of_body 0 Tryz.func33 rfl (fun l h => absurd rfl h) (fun C hC => ?_)
  have hD : ∀ l, ¬ C.D0 l := fun l h => (hC l).1 h rfl
  simp only [startFr, Tryz.ntmps33, List.length_cons, List.length_nil, Nat.reduceAdd, Nat.reduceSub, List.replicate_succ, List.replicate_zero, List.cons_append, List.nil_append]
  repeat' (first | ((first | apply Ba | (apply Bb; (· rfl); (· rfl)) | (apply Bc; (· exact nxE)) | (apply Bd; (· rfl); (· rfl); (· exact nxE))); (· first | exact Fx hF rfl rfl rfl | exact Zl (args := []) D1 rfl rfl rfl rfl .nil (fun _ => by simp [rn]) | exact Ok.pe)) | ((first | apply Ca | (apply Cb; (· exact nxE))); (· first | exact Fx hF rfl rfl rfl | exact Zl (args := []) D1 rfl rfl rfl rfl .nil (fun _ => by simp [rn]) | exact Ok.e0)) | refine Sx ?_ | (refine Sy (fun h => ?_) (fun h => ?_) <;> try (exfalso; omega; done)) | refine Sz (fun h => ?_) (fun h => ?_))
  refine Ya ?_
  (apply Le.headZ (hs := []) [] rfl)
  all_goals (try dsimp only [srcs])
  (case' hfr => (repeat' (first | refine La ?_ ?_ | exact Lc | refine Lo ?_ | refine ⟨⟨_, rfl, ?_⟩, ?_⟩ | refine Lx ?_)))
  all_goals (first | exact Ld | exact trivial | (rfl))
theorem drawStretchMatrix_ex (code : List Int) (hc : CodeOk code) : ∃ (T : List (List Int)) (e : Int), TabOk T ∧ AC Tryz.prog 37 [.d (BD code)] H0 (.tup [TL T, I e]) H0 := by
  have hF := l01From_ac code hc
  obtain ⟨T, s1, hT, _, h1, D1⟩ := l04Draw_ex code hc _ (src0_ok hc)
  obtain ⟨a, s2, a1, a2, h2, q2, N2⟩ := next_ex hc h1 12
  by_cases ha : a = 0
  · obtain ⟨x, s3, _, h3, p3, q3, K3⟩ := pick_ex hc h2 [0, 1, 1000000, 1000001] 4 rfl
    refine ⟨T, x, hT, ?_⟩
    refine AC.of_body 0 Tryz.func37 rfl (fun l h => absurd rfl h) (fun C hC => ?_)
    have hD : ∀ l, ¬ C.D0 l := fun l h => (hC l).1 h rfl
    simp only [startFr, Tryz.ntmps37, List.length_cons, List.length_nil, Nat.reduceAdd, Nat.reduceSub, List.replicate_succ, List.replicate_zero, List.cons_append, List.nil_append]
    repeat' (first | ((first | apply Ba | (apply Bb; (· rfl); (· rfl)) | (apply Bc; (· exact nxE)) | (apply Bd; (· rfl); (· rfl); (· exact nxE))); (· first | exact Fx hF rfl rfl rfl | exact Zl (args := []) D1 rfl rfl rfl rfl .nil (fun _ => by simp [rn]) | exact Nl N2 rfl rfl rfl rfl rfl | exact Kl K3 rfl rfl rfl rfl rfl rfl (by decide) | exact Ok.bs4 rfl rfl rfl rfl rfl rfl | exact Ok.pe)) | ((first | apply Ca | (apply Cb; (· exact nxE))); (· first | exact Fx hF rfl rfl rfl | exact Zl (args := []) D1 rfl rfl rfl rfl .nil (fun _ => by simp [rn]) | exact Nl N2 rfl rfl rfl rfl rfl | exact Kl K3 rfl rfl rfl rfl rfl rfl (by decide) | exact Ok.bs4 rfl rfl rfl rfl rfl rfl | exact Ok.e0)) | refine Sx ?_ | (refine Sy (fun h => ?_) (fun h => ?_) <;> try (exfalso; omega; done)) | refine Sz (fun h => ?_) (fun h => ?_))
    refine Yb ?_
    (apply Le.headZ (hs := []) [] rfl)
    all_goals (try dsimp only [srcs])
    (case' hfr => (repeat' (first | refine La ?_ ?_ | exact Lc | refine Lo ?_ | refine ⟨⟨_, rfl, ?_⟩, ?_⟩ | refine Lx ?_)))
    all_goals (first | exact Ld | exact trivial | (rfl))
  · obtain ⟨x, s3, x1, x2, h3, q3, N3⟩ := next_ex hc h2 9
    refine ⟨T, 1 + x, hT, ?_⟩
    refine AC.of_body 0 Tryz.func37 rfl (fun l h => absurd rfl h) (fun C hC => ?_)
    have hD : ∀ l, ¬ C.D0 l := fun l h => (hC l).1 h rfl
    simp only [startFr, Tryz.ntmps37, List.length_cons, List.length_nil, Nat.reduceAdd, Nat.reduceSub, List.replicate_succ, List.replicate_zero, List.cons_append, List.nil_append]
    repeat' (first | ((first | apply Ba | (apply Bb; (· rfl); (· rfl)) | (apply Bc; (· exact nxE)) | (apply Bd; (· rfl); (· rfl); (· exact nxE))); (· first | exact Fx hF rfl rfl rfl | exact Zl (args := []) D1 rfl rfl rfl rfl .nil (fun _ => by simp [rn]) | exact Nl N2 rfl rfl rfl rfl rfl | exact Nl N3 rfl rfl rfl rfl rfl | exact Ok.pe)) | ((first | apply Ca | (apply Cb; (· exact nxE))); (· first | exact Fx hF rfl rfl rfl | exact Zl (args := []) D1 rfl rfl rfl rfl .nil (fun _ => by simp [rn]) | exact Nl N2 rfl rfl rfl rfl rfl | exact Nl N3 rfl rfl rfl rfl rfl | exact Ok.e0)) | refine Sx ?_ | (refine Sy (fun h => ?_) (fun h => ?_) <;> try (exfalso; omega; done)) | refine Sz (fun h => ?_) (fun h => ?_))
    refine Yb ?_
    (apply Le.headZ (hs := []) [] rfl)
    all_goals (try dsimp only [srcs])
    (case' hfr => (repeat' (first | refine La ?_ ?_ | exact Lc | refine Lo ?_ | refine ⟨⟨_, rfl, ?_⟩, ?_⟩ | refine Lx ?_)))
    all_goals (first | exact Ld | exact trivial | (rfl))
end Go.Proofs.YtpgcmpbamlnkkaaGreat
end

section
namespace Go.Proofs.YtpgcmpbamlnkkaaGreat
set_option linter.unusedSimpArgs false
set_option linter.unusedVariables false
open Go Go.RowKit
attribute [local irreducible] AL AD AW OpOk Le AC thenQ blockQ EndQ

abbrev U (n : Int) : AV := .d (.v (.int .u64 n))
theorem wrapU (n : Int) : IntKind.u64.wrap n = n % 18446744073709551616 := by simp [IntKind.wrap, IntKind.bits, IntKind.signed]
theorem wrapU_in (n : Int) : 0 ≤ IntKind.u64.wrap n ∧ IntKind.u64.wrap n < 18446744073709551616 := by rw [wrapU]; omega
/-- Some bits of a number. -/
def diB (h : Int) : Int := bits .and .u64 (h / 8589934592) 16777215
theorem diB_in {h : Int} (h1 : 0 ≤ h) (h2 : h < 18446744073709551616) : 0 ≤ diB h ∧ diB h ≤ 16777215 := by
  unfold diB
  obtain ⟨u, hu⟩ : ∃ u : Nat, h / 8589934592 = u := ⟨(h / 8589934592).toNat, by omega⟩
  rw [hu, show (16777215 : Int) = ((16777215 : Nat) : Int) from rfl, bits_and_u64_nat u 16777215 (by omega) (by decide)]
  have := Nat.and_le_right (n := u) (m := 16777215)
  omega
section
variable {P : Program} {o : Oper} {A : Operand → AV} {H : Heap} {new : Nat} {t t' : TypeId} {x y : Operand} {a : Int} {kd : IntKind}
theorem Ok.shr33 (ho : o.op = .binOp .shr t x y t') (hx : A x = U a) (hy : A y = .d (.v (.int kd 33))) : OpOk P o A [] H new (U (a / 8589934592)) [] := OpOk.bin ho hx hy rfl fun w => by
  have := shift_shr_any (k := .u64) (yk := kd) a 33 (by decide)
  simp only [binOp_shr, this]
  rfl
theorem Ok.and24 (ho : o.op = .binOp .and t x y t') (hx : A x = U (a / 8589934592)) (hy : A y = U 16777215) : OpOk P o A [] H new (U (diB a)) [] := OpOk.bin ho hx hy rfl fun w => by
  simp only [binOp_and, intBits_and]
  rfl
end
abbrev diO (code : List Int) (i h : Int) : AObj := dobj 3 [[BD code, DI i, .v (.int .u64 h)]]
set_option maxHeartbeats 4000000 in
theorem below_ex (code : List Int) (hc : CodeOk code) (h : Int) (n : Int) (hn : 0 < n) : ∃ (q : Int) (i h' : Int), 0 ≤ q ∧ q < n ∧ AC Tryz.prog 47 [Bx 3 0, I n] (hp1 (diO code 0 h)) (I q) (hp1 (diO code i h')) := by
  have hl : (BR code).length = code.length := List.length_map _
  have h6 := hc.len
  obtain ⟨g, hg⟩ : ∃ g, g = IntKind.u64.wrap (IntKind.u64.wrap (h * 6364136223846793005) + 1442695040888963407) := ⟨_, rfl⟩
  have hgi := wrapU_in (IntKind.u64.wrap (h * 6364136223846793005) + 1442695040888963407)
  rw [← hg] at hgi
  have hdi := diB_in hgi.1 hgi.2
  have hadd : ∀ {P : Program} {o : Oper} {A : Operand → AV} {H : Heap} {new : Nat} {t t' : TypeId} {x y : Operand}, o.op = .binOp .add t x y t' → A x = U (IntKind.u64.wrap (h * 6364136223846793005)) → A y = U 1442695040888963407 → OpOk P o A [] H new (U g) [] := fun ho hx hy => by rw [hg]; exact Ok.addW ho hx hy
  cases hcd : code[0]? with
  | none =>
    have h0 : code.length = 0 := by simpa using hcd
    refine ⟨(diB g).tmod n, 0, g, (tmod_in hdi.1 hn).1, (tmod_in hdi.1 hn).2, ?_⟩
    show AC _ _ _ (heapL [(⟨0, []⟩, ⟨0, []⟩, ⟨3, [[.d (BD code), I 0, U h]]⟩)]) _ _
    refine AC.of_body 1 Tryz.func47 rfl (fun l h => by simp [heapL, upd] at h; simp [h]) (fun C hC => ?_)
    simp only [startFr, Tryz.ntmps47, List.length_cons, List.length_nil, Nat.reduceAdd, Nat.reduceSub, List.replicate_succ, List.replicate_zero, List.cons_append, List.nil_append]
    have hD : ∀ l, C.D0 l → l = ⟨0, []⟩ := fun l h => by have := (hC l).1 h; simp [heapL, upd] at this; exact this
    repeat' (first | ((first | apply Ba | (apply Bb; (· rfl); (· rfl)) | (apply Bc; (· exact nxE)) | (apply Bd; (· rfl); (· rfl); (· exact nxE))); (· first | exact OpOk.nilCheck rfl rfl | exact hadd rfl rfl rfl | exact Ok.mulW rfl rfl rfl | exact Ok.shr33 rfl rfl rfl | exact Ok.and24 rfl rfl rfl | exact Ok.convII rfl rfl Tryz.underlying2 (by rw [Tryz.underlying77]; rfl) (wrap64_id (by omega) (by omega)) | exact Ok.rem rfl rfl rfl (by omega) | exact Ok.pe)) | ((first | apply Ca | (apply Cb; (· exact nxE))); (· first | exact Ok.e0)) | refine Sx ?_ | (refine Sy (fun h => ?_) (fun h => ?_) <;> try (exfalso; omega; done)) | refine Sz (fun h => ?_) (fun h => ?_))
    (refine end1p (by first | exact .inl rfl | exact .inr rfl) rfl (by first | exact rT rfl | exact rCA rfl rfl rfl rfl (by simp) | exact rCC rfl rfl rfl rfl rfl) ?_ (Le.head ([(⟨0, []⟩, ⟨0, []⟩, ⟨3, [[.d (BD code), I 0, U g]]⟩)]) (by first | exact fun l h => absurd h (hD l) | (intro l h; rcases hD l h with rfl; simp [tauL]) | (intro l h; rcases hD l h with rfl | rfl <;> simp [tauL]; done) | (intro l h; rcases hD l h with rfl | rfl | rfl <;> simp [tauL])) ?_ ?_ (by simp) (by simp) (by simp [AllP]) (n' := 1000)); (· rfl)) <;> (repeat' (first | exact trivial | exact ARs.nil | refine ARs.cons ?_ ?_ | exact AR.dead _ | exact AR.dd _ | exact AR.i (by (try dsimp only); omega) | exact AR.ptr _ _ _ _ (by simp [heapL, upd]) | exact AR.own _ _ _ _ (by simp [heapL, upd]) | refine AR.ownE _ _ _ ?_ (by simp [heapL, upd]) | refine ⟨⟨_, rfl, ?_⟩, ?_⟩ | exact ObA.data | refine ObA.box ?_ | refine ObA.frE ?_ | refine ObA.dataE ?_ | refine ARs.agg ?_ | refine ARs.tup ?_ | exact AR.clo' ARs.nil ARs.nil | exact AR.clo' ARs.nil (hca _ _)))
  | some b =>
    obtain ⟨hp, hb0⟩ := List.getElem?_eq_some_iff.1 hcd
    have hbb := hc.b b (List.mem_of_getElem? hcd)
    have hrow : (BR code)[(0 : Int).toNat]? = some [D.v (.int .u8 b)] := by simp [hcd]
    refine ⟨(diB g + b).tmod n, 1, g, (tmod_in (by omega) hn).1, (tmod_in (by omega) hn).2, ?_⟩
    show AC _ _ _ (heapL [(⟨0, []⟩, ⟨0, []⟩, ⟨3, [[.d (BD code), I 0, U h]]⟩)]) _ _
    refine AC.of_body 1 Tryz.func47 rfl (fun l h => by simp [heapL, upd] at h; simp [h]) (fun C hC => ?_)
    simp only [startFr, Tryz.ntmps47, List.length_cons, List.length_nil, Nat.reduceAdd, Nat.reduceSub, List.replicate_succ, List.replicate_zero, List.cons_append, List.nil_append]
    have hD : ∀ l, C.D0 l → l = ⟨0, []⟩ := fun l h => by have := (hC l).1 h; simp [heapL, upd] at this; exact this
    repeat' (first | ((first | apply Ba | (apply Bb; (· rfl); (· rfl)) | (apply Bc; (· exact nxE)) | (apply Bd; (· rfl); (· rfl); (· exact nxE))); (· first | exact OpOk.nilCheck rfl rfl | exact hadd rfl rfl rfl | exact Ok.mulW rfl rfl rfl | exact Ok.shr33 rfl rfl rfl | exact Ok.and24 rfl rfl rfl | exact Ok.convII rfl rfl Tryz.underlying2 (by rw [Tryz.underlying77]; rfl) (wrap64_id (by omega) (by omega)) | exact Ok.convII rfl rfl Tryz.underlying2 (by rw [Tryz.underlying5]; rfl) (wrap64_id (by omega) (by omega)) | exact Ok.rem rfl rfl rfl (by omega) | exact Ok.pe)) | ((first | apply Ca | (apply Cb; (· exact nxE))); (· first | exact Ok.e0)) | refine Sx ?_ | (refine Sy (fun h => ?_) (fun h => ?_) <;> try (exfalso; omega; done)) | refine Sz (fun h => ?_) (fun h => ?_))
    (refine end1p (by first | exact .inl rfl | exact .inr rfl) rfl (by first | exact rT rfl | exact rCA rfl rfl rfl rfl (by simp) | exact rCC rfl rfl rfl rfl rfl) ?_ (Le.head ([(⟨0, []⟩, ⟨0, []⟩, ⟨3, [[.d (BD code), I (0 + 1), U g]]⟩)]) (by first | exact fun l h => absurd h (hD l) | (intro l h; rcases hD l h with rfl; simp [tauL]) | (intro l h; rcases hD l h with rfl | rfl <;> simp [tauL]; done) | (intro l h; rcases hD l h with rfl | rfl | rfl <;> simp [tauL])) ?_ ?_ (by simp) (by simp) (by simp [AllP]) (n' := 1000)); (· rfl)) <;> (repeat' (first | exact trivial | exact ARs.nil | refine ARs.cons ?_ ?_ | exact AR.dead _ | exact AR.dd _ | exact AR.i (by (try dsimp only); omega) | exact AR.ptr _ _ _ _ (by simp [heapL, upd]) | exact AR.own _ _ _ _ (by simp [heapL, upd]) | refine AR.ownE _ _ _ ?_ (by simp [heapL, upd]) | refine ⟨⟨_, rfl, ?_⟩, ?_⟩ | exact ObA.data | refine ObA.box ?_ | refine ObA.frE ?_ | refine ObA.dataE ?_ | refine ARs.agg ?_ | refine ARs.tup ?_ | exact AR.clo' ARs.nil ARs.nil | exact AR.clo' ARs.nil (hca _ _)))
section
variable {P : Program} {o : Oper} {A : Operand → AV} {H : Heap} {new : Nat}
/-- The dice are made. -/
theorem Fo {fo x y : Operand} {ts : Array TypeId} {f : FuncId} {c : D} {s : AV} {rows : List (List D)} (hc : AC P f [.d c, s] H0 (Bx 3 0) (hp1 (dobj 3 rows))) (ho : o.op = .call { callee := .value fo, args := #[x, y], argTypes := ts }) [FnBody P f] (hfo : A fo = .clo (.func f) [] [])
    (hx : A x = .d c) (hs : ∃ d, s = .d d) (hy : A y = s) : OpOk P o A [] H new (.ptr 3 ⟨new, [0]⟩ 0 0) [.one ⟨new, [0]⟩ (some (dobj 3 rows))] := by
  obtain ⟨d, rfl⟩ := hs
  exact OpOk.call1n (xs := [x, y]) [] ho hfo hc (.inl rfl) (fun g => rnO_dobj _ _ _) (by
    show ARs _ _ _ _ _ [A x, A y]
    rw [hx, hy]; exact .cons (AR.dd _) (.cons (AR.dd _) .nil)) (by rw [rn])
/-- They are thrown. -/
theorem Ol {fo x y : Operand} {ts : Array TypeId} {f : FuncId} {l : Loc} {rows rows' : List (List D)} {n a : Int} (hc : AC P f [Bx 3 0, I n] (hp1 (dobj 3 rows)) (I a) (hp1 (dobj 3 rows'))) (ho : o.op = .call { callee := .value fo, args := #[x, y], argTypes := ts }) [FnBody P f] (hfo : A fo = .clo (.func f) [] [])
    (hx : A x = .ptr 3 l 0 0) (hy : A y = I n) (hl : H l = some (dobj 3 rows)) : OpOk P o A [l] H new (I a) [.one l (some (dobj 3 rows'))] :=
  OpOk.callM (xs := [x, y]) ho hfo hc hl rfl (by
    show ARs _ _ _ _ _ [A x, A y]
    rw [hx, hy]; exact .cons (AR.ptr 3 ⟨0, []⟩ 0 0 rfl) (.cons (.dd _) .nil))
end
end Go.Proofs.YtpgcmpbamlnkkaaGreat
end
