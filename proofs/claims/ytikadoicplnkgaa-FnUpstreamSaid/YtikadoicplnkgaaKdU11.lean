/-
  Walks in the abstract reading, part 11.
-/
import Derived.Test.YtikadoicplnkgaaKdE49
import Derived.Test.YtikadoicplnkgaaKdU6
import Derived.Test.YtikadoicplnkgaaKdA3
import Derived.Test.YtikadoicplnkgaaKdU5
import Derived.Test.YtikadoicplnkgaaKdU3
import Derived.Test.YtikadoicplnkgaaKdU7
import Derived.Test.YtikadoicplnkgaaKdU8
section
namespace Go.Proofs.Ytikadoicplnkgaa
set_option linter.unusedSimpArgs false
set_option linter.unusedVariables false
open Go Go.RowKit
attribute [local irreducible] AL AD AW OpOk Le AC thenQ blockQ EndQ

def isRt (r : Int × Int) : Bool := wi r.1 (-1000000) 1000000
structure RtZ (r : Int × Int) : Prop where
  n : -1000000000000 ≤ r.1 ∧ r.1 ≤ 1000000000000
  d : 1 ≤ r.2 ∧ r.2 ≤ 1000000
  g : Nat.gcd r.1.natAbs r.2.toNat = 1
set_option maxHeartbeats 1000000 in
theorem sIsRatioZ_ac (r : Int × Int) (h : RtZ r) : AC Try.prog 92 [.agg [I r.1, I r.2]] H0 (Bo (isRt r)) H0 := by
  obtain ⟨⟨h1, h2⟩, ⟨h3, h4⟩, h5⟩ := h
  obtain ⟨a, b⟩ := r
  simp only at h1 h2 h3 h4 h5 ⊢
  obtain ⟨v, rfl⟩ : ∃ v : Nat, b = v := ⟨b.toNat, by omega⟩
  rw [Int.toNat_natCast] at h5
  have hF := l01Finite_ac a
  have hI := l01In_ac v 1 1000000
  have hG := l01DivisorZ_ac a v (by omega) (by omega)
  rw [h5] at hG
  rw [show wi (v : Int) 1 1000000 = true from wi_iff.2 (by omega)] at hI
  unfold isRt
  simp only
  cases hw : wi a (-1000000) 1000000
  · rw [hw] at hF
    refine AC.of_body 0 Try.func92 rfl (fun l h => absurd rfl h) (fun C hC => ?_)
    have hD : ∀ l, ¬ C.D0 l := fun l h => (hC l).1 h rfl
    simp only [startFr, Try.ntmps92, List.length_cons, List.length_nil, Nat.reduceAdd, Nat.reduceSub, List.replicate_succ, List.replicate_zero, List.cons_append, List.nil_append]
    repeat' (first | ((first | apply Ba | (apply Bb; (· rfl); (· rfl)) | (apply Bc; (· exact nxE)) | (apply Bd; (· rfl); (· rfl); (· exact nxE))); (· first | exact Kz rfl rfl (hF) (Ad An) | exact Kz rfl rfl (hI) (Ad (Ad (Ad An))) | exact Kz rfl rfl (hG) (Ad (Ad An)) | exact Ok.pe)) | ((first | apply Ca | (apply Cb; (· exact nxE))); (· first | exact Ok.e0)) | refine Sx ?_ | (refine Sy (fun h => ?_) (fun h => ?_) <;> try (exfalso; omega; done)) | refine Sz (fun h => ?_) (fun h => ?_))
    refine Ya ?_
    (apply Le.headZ (hs := []) [] rfl)
    all_goals (try dsimp only [srcs])
    (case' hfr => (repeat' (first | refine La ?_ ?_ | exact Lc | refine Lo ?_ | refine ⟨⟨_, rfl, ?_⟩, ?_⟩ | refine Lx ?_)))
    all_goals (first | exact Ld | exact trivial | (rfl))
  · rw [hw] at hF
    refine AC.of_body 0 Try.func92 rfl (fun l h => absurd rfl h) (fun C hC => ?_)
    have hD : ∀ l, ¬ C.D0 l := fun l h => (hC l).1 h rfl
    simp only [startFr, Try.ntmps92, List.length_cons, List.length_nil, Nat.reduceAdd, Nat.reduceSub, List.replicate_succ, List.replicate_zero, List.cons_append, List.nil_append]
    repeat' (first | ((first | apply Ba | (apply Bb; (· rfl); (· rfl)) | (apply Bc; (· exact nxE)) | (apply Bd; (· rfl); (· rfl); (· exact nxE))); (· first | exact Kz rfl rfl (hF) (Ad An) | exact Kz rfl rfl (hI) (Ad (Ad (Ad An))) | exact Kz rfl rfl (hG) (Ad (Ad An)) | exact Ok.pe)) | ((first | apply Ca | (apply Cb; (· exact nxE))); (· first | exact Ok.e0)) | refine Sx ?_ | (refine Sy (fun h => ?_) (fun h => ?_) <;> try (exfalso; omega; done)) | refine Sz (fun h => ?_) (fun h => ?_))
    refine Ya ?_
    (apply Le.headZ (hs := []) [] rfl)
    all_goals (try dsimp only [srcs])
    (case' hfr => (repeat' (first | refine La ?_ ?_ | exact Lc | refine Lo ?_ | refine ⟨⟨_, rfl, ?_⟩, ?_⟩ | refine Lx ?_)))
    all_goals (first | exact Ld | exact trivial | (rfl))
set_option maxHeartbeats 1000000 in
theorem iIsRatioZ_ac (r : Int × Int) (h : RtZ r) : AC Try.prog 83 [.agg [I r.1, I r.2]] H0 (Bo (isRt r)) H0 := by
  obtain ⟨⟨h1, h2⟩, ⟨h3, h4⟩, h5⟩ := h
  obtain ⟨a, b⟩ := r
  simp only at h1 h2 h3 h4 h5 ⊢
  obtain ⟨v, rfl⟩ : ∃ v : Nat, b = v := ⟨b.toNat, by omega⟩
  rw [Int.toNat_natCast] at h5
  have hF := isFinite_ac a
  have hI := within_ac v 1 1000000
  have hA := absOfZ_ac a (by omega)
  have hG := divisorOf_ac a.natAbs v (by omega) (by omega)
  rw [h5] at hG
  rw [show wi (v : Int) 1 1000000 = true from wi_iff.2 (by omega)] at hI
  unfold isRt
  simp only
  cases hw : wi a (-1000000) 1000000
  · rw [hw] at hF
    refine AC.of_body 0 Try.func83 rfl (fun l h => absurd rfl h) (fun C hC => ?_)
    have hD : ∀ l, ¬ C.D0 l := fun l h => (hC l).1 h rfl
    simp only [startFr, Try.ntmps83, List.length_cons, List.length_nil, Nat.reduceAdd, Nat.reduceSub, List.replicate_succ, List.replicate_zero, List.cons_append, List.nil_append]
    repeat' (first | ((first | apply Ba | (apply Bb; (· rfl); (· rfl)) | (apply Bc; (· exact nxE)) | (apply Bd; (· rfl); (· rfl); (· exact nxE))); (· first | exact Kz rfl rfl (hF) (Ad An) | exact Kz rfl rfl (hI) (Ad (Ad (Ad An))) | exact Kz rfl rfl (hA) (Ad An) | exact Kz rfl rfl (hG) (Ad (Ad An)) | exact Ok.pe)) | ((first | apply Ca | (apply Cb; (· exact nxE))); (· first | exact Ok.e0)) | refine Sx ?_ | (refine Sy (fun h => ?_) (fun h => ?_) <;> try (exfalso; omega; done)) | refine Sz (fun h => ?_) (fun h => ?_))
    refine Ya ?_
    (apply Le.headZ (hs := []) [] rfl)
    all_goals (try dsimp only [srcs])
    (case' hfr => (repeat' (first | refine La ?_ ?_ | exact Lc | refine Lo ?_ | refine ⟨⟨_, rfl, ?_⟩, ?_⟩ | refine Lx ?_)))
    all_goals (first | exact Ld | exact trivial | (rfl))
  · rw [hw] at hF
    refine AC.of_body 0 Try.func83 rfl (fun l h => absurd rfl h) (fun C hC => ?_)
    have hD : ∀ l, ¬ C.D0 l := fun l h => (hC l).1 h rfl
    simp only [startFr, Try.ntmps83, List.length_cons, List.length_nil, Nat.reduceAdd, Nat.reduceSub, List.replicate_succ, List.replicate_zero, List.cons_append, List.nil_append]
    repeat' (first | ((first | apply Ba | (apply Bb; (· rfl); (· rfl)) | (apply Bc; (· exact nxE)) | (apply Bd; (· rfl); (· rfl); (· exact nxE))); (· first | exact Kz rfl rfl (hF) (Ad An) | exact Kz rfl rfl (hI) (Ad (Ad (Ad An))) | exact Kz rfl rfl (hA) (Ad An) | exact Kz rfl rfl (hG) (Ad (Ad An)) | exact Ok.pe)) | ((first | apply Ca | (apply Cb; (· exact nxE))); (· first | exact Ok.e0)) | refine Sx ?_ | (refine Sy (fun h => ?_) (fun h => ?_) <;> try (exfalso; omega; done)) | refine Sz (fun h => ?_) (fun h => ?_))
    refine Ya ?_
    (apply Le.headZ (hs := []) [] rfl)
    all_goals (try dsimp only [srcs])
    (case' hfr => (repeat' (first | refine La ?_ ?_ | exact Lc | refine Lo ?_ | refine ⟨⟨_, rfl, ?_⟩, ?_⟩ | refine Lx ?_)))
    all_goals (first | exact Ld | exact trivial | (rfl))
def rtR (r : Int × Int) : Int × Int := if isRt r = true then r else (0, 0)
def rtC (r : Int × Int) : Int := if isRt r = true then 0 else 3
theorem l04Result_ac (r : Int × Int) (h : RtZ r) : AC Try.prog 151 [.agg [I r.1, I r.2]] H0 (.tup [.agg [I (rtR r).1, I (rtR r).2], I (rtC r)]) H0 := by
  have hI := sIsRatioZ_ac r h
  unfold rtR rtC
  cases hr : isRt r
  · rw [hr] at hI
    refine AC.of_body 0 Try.func151 rfl (fun l h => absurd rfl h) (fun C hC => ?_)
    have hD : ∀ l, ¬ C.D0 l := fun l h => (hC l).1 h rfl
    simp only [startFr, Try.ntmps151, List.length_cons, List.length_nil, Nat.reduceAdd, Nat.reduceSub, List.replicate_succ, List.replicate_zero, List.cons_append, List.nil_append]
    repeat' (first | ((first | apply Ba | (apply Bb; (· rfl); (· rfl)) | (apply Bc; (· exact nxE)) | (apply Bd; (· rfl); (· rfl); (· exact nxE))); (· first | exact Kz rfl rfl (hI) (Aa (Ad (Ad An)) An) | exact Ok.pe)) | ((first | apply Ca | (apply Cb; (· exact nxE))); (· first | exact Ok.e0)) | refine Sx ?_ | (refine Sy (fun h => ?_) (fun h => ?_) <;> try (exfalso; omega; done)) | refine Sz (fun h => ?_) (fun h => ?_))
    refine Yb ?_
    (apply Le.headZ (hs := []) [] rfl)
    all_goals (try dsimp only [srcs])
    (case' hfr => (repeat' (first | refine La ?_ ?_ | exact Lc | refine Lo ?_ | refine ⟨⟨_, rfl, ?_⟩, ?_⟩ | refine Lx ?_)))
    all_goals (first | exact Ld | exact trivial | (rfl))
  · rw [hr] at hI
    refine AC.of_body 0 Try.func151 rfl (fun l h => absurd rfl h) (fun C hC => ?_)
    have hD : ∀ l, ¬ C.D0 l := fun l h => (hC l).1 h rfl
    simp only [startFr, Try.ntmps151, List.length_cons, List.length_nil, Nat.reduceAdd, Nat.reduceSub, List.replicate_succ, List.replicate_zero, List.cons_append, List.nil_append]
    repeat' (first | ((first | apply Ba | (apply Bb; (· rfl); (· rfl)) | (apply Bc; (· exact nxE)) | (apply Bd; (· rfl); (· rfl); (· exact nxE))); (· first | exact Kz rfl rfl (hI) (Aa (Ad (Ad An)) An) | exact Ok.pe)) | ((first | apply Ca | (apply Cb; (· exact nxE))); (· first | exact Ok.e0)) | refine Sx ?_ | (refine Sy (fun h => ?_) (fun h => ?_) <;> try (exfalso; omega; done)) | refine Sz (fun h => ?_) (fun h => ?_))
    refine Yb ?_
    (apply Le.headZ (hs := []) [] rfl)
    all_goals (try dsimp only [srcs])
    (case' hfr => (repeat' (first | refine La ?_ ?_ | exact Lc | refine Lo ?_ | refine ⟨⟨_, rfl, ?_⟩, ?_⟩ | refine Lx ?_)))
    all_goals (first | exact Ld | exact trivial | (rfl))
theorem checkedRatio_ac (r : Int × Int) (h : RtZ r) : AC Try.prog 102 [.agg [I r.1, I r.2]] H0 (.tup [.agg [I (rtR r).1, I (rtR r).2], I (rtC r)]) H0 := by
  have hI := iIsRatioZ_ac r h
  unfold rtR rtC
  cases hr : isRt r
  · rw [hr] at hI
    refine AC.of_body 0 Try.func102 rfl (fun l h => absurd rfl h) (fun C hC => ?_)
    have hD : ∀ l, ¬ C.D0 l := fun l h => (hC l).1 h rfl
    simp only [startFr, Try.ntmps102, List.length_cons, List.length_nil, Nat.reduceAdd, Nat.reduceSub, List.replicate_succ, List.replicate_zero, List.cons_append, List.nil_append]
    repeat' (first | ((first | apply Ba | (apply Bb; (· rfl); (· rfl)) | (apply Bc; (· exact nxE)) | (apply Bd; (· rfl); (· rfl); (· exact nxE))); (· first | exact Kz rfl rfl (hI) (Aa (Ad (Ad An)) An) | exact Ok.pe)) | ((first | apply Ca | (apply Cb; (· exact nxE))); (· first | exact Ok.e0)) | refine Sx ?_ | (refine Sy (fun h => ?_) (fun h => ?_) <;> try (exfalso; omega; done)) | refine Sz (fun h => ?_) (fun h => ?_))
    refine Yb ?_
    (apply Le.headZ (hs := []) [] rfl)
    all_goals (try dsimp only [srcs])
    (case' hfr => (repeat' (first | refine La ?_ ?_ | exact Lc | refine Lo ?_ | refine ⟨⟨_, rfl, ?_⟩, ?_⟩ | refine Lx ?_)))
    all_goals (first | exact Ld | exact trivial | (rfl))
  · rw [hr] at hI
    refine AC.of_body 0 Try.func102 rfl (fun l h => absurd rfl h) (fun C hC => ?_)
    have hD : ∀ l, ¬ C.D0 l := fun l h => (hC l).1 h rfl
    simp only [startFr, Try.ntmps102, List.length_cons, List.length_nil, Nat.reduceAdd, Nat.reduceSub, List.replicate_succ, List.replicate_zero, List.cons_append, List.nil_append]
    repeat' (first | ((first | apply Ba | (apply Bb; (· rfl); (· rfl)) | (apply Bc; (· exact nxE)) | (apply Bd; (· rfl); (· rfl); (· exact nxE))); (· first | exact Kz rfl rfl (hI) (Aa (Ad (Ad An)) An) | exact Ok.pe)) | ((first | apply Ca | (apply Cb; (· exact nxE))); (· first | exact Ok.e0)) | refine Sx ?_ | (refine Sy (fun h => ?_) (fun h => ?_) <;> try (exfalso; omega; done)) | refine Sz (fun h => ?_) (fun h => ?_))
    refine Yb ?_
    (apply Le.headZ (hs := []) [] rfl)
    all_goals (try dsimp only [srcs])
    (case' hfr => (repeat' (first | refine La ?_ ?_ | exact Lc | refine Lo ?_ | refine ⟨⟨_, rfl, ?_⟩, ?_⟩ | refine Lx ?_)))
    all_goals (first | exact Ld | exact trivial | (rfl))
theorem kmR_rt {t : List (List Int)} {n : Nat} (h : MatOk t n) (hc : hasK (entN t) n) : RtZ (kmR (entN t) n) := by
  obtain ⟨_, h2, h3, h4⟩ := kmR_ok h.b h.le hc
  refine ⟨by omega, by omega, ?_⟩
  rw [show Int.gcd (kmR (entN t) n).1 (kmR (entN t) n).2 = Nat.gcd (kmR (entN t) n).1.natAbs (kmR (entN t) n).2.natAbs from rfl] at h2
  rw [show (kmR (entN t) n).2.toNat = (kmR (entN t) n).2.natAbs by omega]
  exact h2
noncomputable def cmC (t : List (List Int)) : Int := if bmC t = 0 then rtC (kmR (entN t) t.length) else bmC t
noncomputable def cmR (t : List (List Int)) : Int × Int := if bmC t = 0 then rtR (kmR (entN t) t.length) else (0, 0)
theorem bmC_cases (t : List (List Int)) : (bmC t = 1 ∧ isSq t = false) ∨ (isSq t = true ∧ hasK (entN t) t.length ∧ bmC t = 0) ∨ (isSq t = true ∧ ¬ hasK (entN t) t.length ∧ bmC t = 4) := by
  unfold bmC
  by_cases hs : isSq t = true
  · rw [if_pos hs]
    by_cases hc : hasK (entN t) t.length
    · rw [if_pos hc]; exact .inr (.inl ⟨hs, hc, rfl⟩)
    · rw [if_neg hc]; exact .inr (.inr ⟨hs, hc, rfl⟩)
  · rw [if_neg hs]; exact .inl ⟨rfl, by simpa using hs⟩
set_option maxHeartbeats 1000000 in
theorem sCycleMean_ac (t : List (List Int)) (ht : t.length ≤ 100000000) (hr : ∀ r ∈ t, r.length ≤ 100000000) : AC Try.prog 76 [TL t] H0 (.tup [.agg [I (cmR t).1, I (cmR t).2], I (cmC t)]) H0 := by
  have hQ := l02Square_ac t ht hr
  unfold cmR cmC
  rcases bmC_cases t with ⟨e, hs⟩ | ⟨hs, hc, e⟩ | ⟨hs, hc, e⟩
  · rw [e, if_neg (by decide), if_neg (by decide)]
    rw [hs] at hQ
    refine AC.of_body 0 Try.func76 rfl (fun l h => absurd rfl h) (fun C hC => ?_)
    have hD : ∀ l, ¬ C.D0 l := fun l h => (hC l).1 h rfl
    simp only [startFr, Try.ntmps76, List.length_cons, List.length_nil, Nat.reduceAdd, Nat.reduceSub, List.replicate_succ, List.replicate_zero, List.cons_append, List.nil_append]
    repeat' (first | ((first | apply Ba | (apply Bb; (· rfl); (· rfl)) | (apply Bc; (· exact nxE)) | (apply Bd; (· rfl); (· rfl); (· exact nxE))); (· first | exact Kz rfl rfl (hQ) (Ad An) | exact Ok.pe)) | ((first | apply Ca | (apply Cb; (· exact nxE))); (· first | exact Ok.e0)) | refine Sx ?_ | (refine Sy (fun h => ?_) (fun h => ?_) <;> try (exfalso; omega; done)) | refine Sz (fun h => ?_) (fun h => ?_))
    refine Yb ?_
    (apply Le.headZ (hs := []) [] rfl)
    all_goals (try dsimp only [srcs])
    (case' hfr => (repeat' (first | refine La ?_ ?_ | exact Lc | refine Lo ?_ | refine ⟨⟨_, rfl, ?_⟩, ?_⟩ | refine Lx ?_)))
    all_goals (first | exact Ld | exact trivial | (rfl))
  · rw [e, if_pos rfl, if_pos rfl]
    rw [hs] at hQ
    have hMt := isSq_ok hs
    have hB := l04Best_yes t t.length hMt hc
    obtain ⟨f, r, e1, hcy, e2⟩ := best_ne hMt.b hMt.le hc
    have hMe := l04Mean_ac t t.length hMt f r hcy
    have hRe := l04Result_ac _ (kmR_rt hMt hc)
    rw [e2] at hMe
    rw [show bkF t t.length (kmR (entN t) t.length) (-1) = f :: r from e1] at hB
    clear e2 e1
    generalize kmR (entN t) t.length = m at *
    generalize rtR m = m1 at *
    generalize rtC m = m2 at *
    generalize f :: r = c at *
    refine AC.of_body 0 Try.func76 rfl (fun l h => absurd rfl h) (fun C hC => ?_)
    have hD : ∀ l, ¬ C.D0 l := fun l h => (hC l).1 h rfl
    simp only [startFr, Try.ntmps76, List.length_cons, List.length_nil, Nat.reduceAdd, Nat.reduceSub, List.replicate_succ, List.replicate_zero, List.cons_append, List.nil_append]
    repeat' (first | ((first | apply Ba | (apply Bb; (· rfl); (· rfl)) | (apply Bc; (· exact nxE)) | (apply Bd; (· rfl); (· rfl); (· exact nxE))); (· first | exact Kz rfl rfl (hQ) (Ad An) | exact Kz rfl rfl (hB) (Ad An) | exact Kz rfl rfl (hMe) (Ad (Ad An)) | exact Kz rfl rfl (hRe) (Aa (Ad (Ad An)) An) | exact Ok.pe)) | ((first | apply Ca | (apply Cb; (· exact nxE))); (· first | exact Ok.e0)) | refine Sx ?_ | (refine Sy (fun h => ?_) (fun h => ?_) <;> try (exfalso; omega; done)) | refine Sz (fun h => ?_) (fun h => ?_))
    refine Yb ?_
    (apply Le.headZ (hs := []) [] rfl)
    all_goals (try dsimp only [srcs])
    (case' hfr => (repeat' (first | refine La ?_ ?_ | exact Lc | refine Lo ?_ | refine ⟨⟨_, rfl, ?_⟩, ?_⟩ | refine Lx ?_)))
    all_goals (first | exact Ld | exact trivial | (rfl))
  · rw [e, if_neg (by decide), if_neg (by decide)]
    rw [hs] at hQ
    have hB := l04Best_no t t.length (isSq_ok hs) hc
    refine AC.of_body 0 Try.func76 rfl (fun l h => absurd rfl h) (fun C hC => ?_)
    have hD : ∀ l, ¬ C.D0 l := fun l h => (hC l).1 h rfl
    simp only [startFr, Try.ntmps76, List.length_cons, List.length_nil, Nat.reduceAdd, Nat.reduceSub, List.replicate_succ, List.replicate_zero, List.cons_append, List.nil_append]
    repeat' (first | ((first | apply Ba | (apply Bb; (· rfl); (· rfl)) | (apply Bc; (· exact nxE)) | (apply Bd; (· rfl); (· rfl); (· exact nxE))); (· first | exact Kz rfl rfl (hQ) (Ad An) | exact Kz rfl rfl (hB) (Ad An) | exact Ok.pe)) | ((first | apply Ca | (apply Cb; (· exact nxE))); (· first | exact Ok.e0)) | refine Sx ?_ | (refine Sy (fun h => ?_) (fun h => ?_) <;> try (exfalso; omega; done)) | refine Sz (fun h => ?_) (fun h => ?_))
    refine Yb ?_
    (apply Le.headZ (hs := []) [] rfl)
    all_goals (try dsimp only [srcs])
    (case' hfr => (repeat' (first | refine La ?_ ?_ | exact Lc | refine Lo ?_ | refine ⟨⟨_, rfl, ?_⟩, ?_⟩ | refine Lx ?_)))
    all_goals (first | exact Ld | exact trivial | (rfl))
set_option maxHeartbeats 1000000 in
theorem iCycleMean_ac (t : List (List Int)) (ht : t.length ≤ 100000000) (hr : ∀ r ∈ t, r.length ≤ 100000000) : AC Try.prog 38 [TL t] H0 (.tup [.agg [I (cmR t).1, I (cmR t).2], I (cmC t)]) H0 := by
  have hQ := iIsSquare_ac t ht hr
  unfold cmR cmC
  rcases bmC_cases t with ⟨e, hs⟩ | ⟨hs, hc, e⟩ | ⟨hs, hc, e⟩
  · rw [e, if_neg (by decide), if_neg (by decide)]
    rw [hs] at hQ
    refine AC.of_body 0 Try.func38 rfl (fun l h => absurd rfl h) (fun C hC => ?_)
    have hD : ∀ l, ¬ C.D0 l := fun l h => (hC l).1 h rfl
    simp only [startFr, Try.ntmps38, List.length_cons, List.length_nil, Nat.reduceAdd, Nat.reduceSub, List.replicate_succ, List.replicate_zero, List.cons_append, List.nil_append]
    repeat' (first | ((first | apply Ba | (apply Bb; (· rfl); (· rfl)) | (apply Bc; (· exact nxE)) | (apply Bd; (· rfl); (· rfl); (· exact nxE))); (· first | exact Kz rfl rfl (hQ) (Ad An) | exact Ok.pe)) | ((first | apply Ca | (apply Cb; (· exact nxE))); (· first | exact Ok.e0)) | refine Sx ?_ | (refine Sy (fun h => ?_) (fun h => ?_) <;> try (exfalso; omega; done)) | refine Sz (fun h => ?_) (fun h => ?_))
    refine Yb ?_
    (apply Le.headZ (hs := []) [] rfl)
    all_goals (try dsimp only [srcs])
    (case' hfr => (repeat' (first | refine La ?_ ?_ | exact Lc | refine Lo ?_ | refine ⟨⟨_, rfl, ?_⟩, ?_⟩ | refine Lx ?_)))
    all_goals (first | exact Ld | exact trivial | (rfl))
  · rw [e, if_pos rfl, if_pos rfl]
    rw [hs] at hQ
    have hMt := isSq_ok hs
    have hB := cycleMean_ac t t.length hMt
    rw [kmR_get hMt hc] at hB
    simp only [Option.getD, Option.isSome] at hB
    have hRe := checkedRatio_ac _ (kmR_rt hMt hc)
    generalize kmR (entN t) t.length = m at *
    generalize rtR m = m1 at *
    generalize rtC m = m2 at *
    refine AC.of_body 0 Try.func38 rfl (fun l h => absurd rfl h) (fun C hC => ?_)
    have hD : ∀ l, ¬ C.D0 l := fun l h => (hC l).1 h rfl
    simp only [startFr, Try.ntmps38, List.length_cons, List.length_nil, Nat.reduceAdd, Nat.reduceSub, List.replicate_succ, List.replicate_zero, List.cons_append, List.nil_append]
    repeat' (first | ((first | apply Ba | (apply Bb; (· rfl); (· rfl)) | (apply Bc; (· exact nxE)) | (apply Bd; (· rfl); (· rfl); (· exact nxE))); (· first | exact Kz rfl rfl (hQ) (Ad An) | exact Kz rfl rfl (hB) (Ad An) | exact Kz rfl rfl (hRe) (Aa (Ad (Ad An)) An) | exact Ok.pe)) | ((first | apply Ca | (apply Cb; (· exact nxE))); (· first | exact Ok.e0)) | refine Sx ?_ | (refine Sy (fun h => ?_) (fun h => ?_) <;> try (exfalso; omega; done)) | refine Sz (fun h => ?_) (fun h => ?_))
    refine Yb ?_
    (apply Le.headZ (hs := []) [] rfl)
    all_goals (try dsimp only [srcs])
    (case' hfr => (repeat' (first | refine La ?_ ?_ | exact Lc | refine Lo ?_ | refine ⟨⟨_, rfl, ?_⟩, ?_⟩ | refine Lx ?_)))
    all_goals (first | exact Ld | exact trivial | (rfl))
  · rw [e, if_neg (by decide), if_neg (by decide)]
    rw [hs] at hQ
    have hMt := isSq_ok hs
    have hB := cycleMean_ac t t.length hMt
    rw [karp_no hMt.b hMt.le hc] at hB
    simp only [Option.getD, Option.isSome] at hB
    refine AC.of_body 0 Try.func38 rfl (fun l h => absurd rfl h) (fun C hC => ?_)
    have hD : ∀ l, ¬ C.D0 l := fun l h => (hC l).1 h rfl
    simp only [startFr, Try.ntmps38, List.length_cons, List.length_nil, Nat.reduceAdd, Nat.reduceSub, List.replicate_succ, List.replicate_zero, List.cons_append, List.nil_append]
    repeat' (first | ((first | apply Ba | (apply Bb; (· rfl); (· rfl)) | (apply Bc; (· exact nxE)) | (apply Bd; (· rfl); (· rfl); (· exact nxE))); (· first | exact Kz rfl rfl (hQ) (Ad An) | exact Kz rfl rfl (hB) (Ad An) | exact Ok.pe)) | ((first | apply Ca | (apply Cb; (· exact nxE))); (· first | exact Ok.e0)) | refine Sx ?_ | (refine Sy (fun h => ?_) (fun h => ?_) <;> try (exfalso; omega; done)) | refine Sz (fun h => ?_) (fun h => ?_))
    refine Yb ?_
    (apply Le.headZ (hs := []) [] rfl)
    all_goals (try dsimp only [srcs])
    (case' hfr => (repeat' (first | refine La ?_ ?_ | exact Lc | refine Lo ?_ | refine ⟨⟨_, rfl, ?_⟩, ?_⟩ | refine Lx ?_)))
    all_goals (first | exact Ld | exact trivial | (rfl))
/-! ### Turned matrices -/
end Go.Proofs.Ytikadoicplnkgaa
end

section
namespace Go.Proofs.Ytikadoicplnkgaa
set_option linter.unusedSimpArgs false
set_option linter.unusedVariables false
open Go Go.RowKit
attribute [local irreducible] AL AD AW OpOk Le AC thenQ blockQ EndQ

/-! ### Rows of truth values -/
abbrev DB (b : Bool) : D := .v (.bool b)
def brF (n : Nat) (g : Nat → Bool) : List (List D) := (List.range n).map fun j => [DB (g j)]
def btF (m n : Nat) (F : Nat → Nat → Bool) : List (List (List D)) := (List.range m).map fun i => brF n (F i)
theorem brF_len {n : Nat} {g : Nat → Bool} : (brF n g).length = n := by simp [brF]
theorem btF_len {m n : Nat} {F : Nat → Nat → Bool} : (btF m n F).length = m := by simp [btF]
theorem brF_get {n j : Nat} {g : Nat → Bool} (h : j < n) : (brF n g)[j]? = some [DB (g j)] := by simp [brF, h]
theorem btF_get {m n i : Nat} {F : Nat → Nat → Bool} (h : i < m) : (btF m n F)[i]? = some (brF n (F i)) := by simp [btF, h]
theorem btF_succ {m n : Nat} {F : Nat → Nat → Bool} : btF (m + 1) n F = btF m n F ++ [brF n (F m)] := by simp [btF, List.range_succ]
theorem brF_set {n i : Nat} {g g' : Nat → Bool} {b : Bool} (h : ∀ j, g' j = if j = i then b else g j) : (brF n g).set i [DB b] = brF n g' := by
  apply List.ext_getElem?
  intro j
  by_cases hj : j < n
  · rw [brF_get hj, List.getElem?_set, h j]
    by_cases e : i = j
    · subst e; simp [brF, hj]
    · rw [if_neg e, if_neg (fun h => e h.symm), brF_get hj]
  · rw [List.getElem?_eq_none (by simp [brF]; omega), List.getElem?_eq_none (by rw [brF_len]; omega)]
theorem brF_0 {n : Nat} : List.replicate n [DB false] = brF n (fun _ => false) := by
  apply List.ext_getElem?
  intro j
  by_cases hj : j < n
  · rw [brF_get hj, List.getElem?_replicate, if_pos hj]
  · rw [List.getElem?_eq_none (by simp; omega), List.getElem?_eq_none (by rw [brF_len]; omega)]
/-! ### The search -/
section
variable (a : Nat → Nat → Int)
def rcS (i k : Nat) (g : Nat → Bool) : Nat → Bool := if g k = true ∧ a i k ≠ BOT then (fun j => if j = i then true else g j) else g
def rcJ (i : Nat) : Nat → (Nat → Bool) → Nat → Bool
  | 0, g => g
  | k + 1, g => rcS a i k (rcJ i k g)
def rcI (n : Nat) : Nat → (Nat → Bool) → Nat → Bool
  | 0, g => g
  | i + 1, g => rcJ a i n (rcI n i g)
def rcV (n : Nat) : Nat → (Nat → Bool) → Nat → Bool
  | 0, g => g
  | m + 1, g => rcI a n n (rcV n m g)
def rchF (n v : Nat) : Nat → Bool := rcV a n n (fun j => decide (j = v))
variable {a}
theorem rcS_mono {i k j : Nat} {g : Nat → Bool} (h : g j = true) : rcS a i k g j = true := by
  unfold rcS; split
  · simp only; split
    · rfl
    · exact h
  · exact h
theorem rcJ_mono {i j : Nat} {g : Nat → Bool} (h : g j = true) : ∀ k, rcJ a i k g j = true
  | 0 => h
  | k + 1 => rcS_mono (rcJ_mono h k)
theorem rcI_mono {n j : Nat} {g : Nat → Bool} (h : g j = true) : ∀ k, rcI a n k g j = true
  | 0 => h
  | k + 1 => rcJ_mono (rcI_mono h k) n
theorem rcV_mono {n j : Nat} {g : Nat → Bool} (h : g j = true) : ∀ k, rcV a n k g j = true
  | 0 => h
  | k + 1 => rcI_mono (rcV_mono h k) n
theorem rcJ_hit {i k : Nat} {g : Nat → Bool} (h : g k = true) (hw : a i k ≠ BOT) : ∀ m, k < m → rcJ a i m g i = true
  | m + 1, hk => by
    by_cases e : k = m
    · subst e
      simp only [rcJ, rcS]
      rw [if_pos ⟨rcJ_mono h k, hw⟩]
      simp
    · exact rcS_mono (rcJ_hit h hw m (by omega))
theorem rcI_hit {n i k : Nat} {g : Nat → Bool} (h : g k = true) (hk : k < n) (hw : a i k ≠ BOT) : ∀ m, i < m → rcI a n m g i = true
  | m + 1, hi => by
    by_cases e : i = m
    · subst e; exact rcJ_hit (rcI_mono h i) hw n hk
    · exact rcJ_mono (rcI_hit h hk hw m (by omega)) n
section
variable {n : Nat} {R : Nat → Prop} (hR : ∀ i k, i < n → k < n → R k → a i k ≠ BOT → R i)
include hR
theorem rcS_snd {i k : Nat} (hi : i < n) (hk : k < n) {g : Nat → Bool} (h : ∀ j, j < n → g j = true → R j) : ∀ j, j < n → rcS a i k g j = true → R j := fun j hj hg => by
  unfold rcS at hg
  split at hg
  · rename_i hc
    simp only at hg
    split at hg
    · rename_i e; subst e; exact hR _ _ hi hk (h k hk hc.1) hc.2
    · exact h j hj hg
  · exact h j hj hg
theorem rcJ_snd {i : Nat} (hi : i < n) {g : Nat → Bool} (h : ∀ j, j < n → g j = true → R j) : ∀ k, k ≤ n → ∀ j, j < n → rcJ a i k g j = true → R j
  | 0, _ => h
  | k + 1, hk => rcS_snd hR hi (by omega) (rcJ_snd hi h k (by omega))
theorem rcI_snd {g : Nat → Bool} (h : ∀ j, j < n → g j = true → R j) : ∀ i, i ≤ n → ∀ j, j < n → rcI a n i g j = true → R j
  | 0, _ => h
  | i + 1, hi => rcJ_snd hR (by omega) (rcI_snd h i (by omega)) n (Nat.le_refl _)
theorem rcV_snd {g : Nat → Bool} (h : ∀ j, j < n → g j = true → R j) : ∀ m, ∀ j, j < n → rcV a n m g j = true → R j
  | 0 => h
  | m + 1 => rcI_snd hR (rcV_snd h m) n (Nat.le_refl _)
end
end
theorem btM_get {m n i : Nat} {F : Nat → Nat → Bool} (h : i < m) : (mRows 1 (btF m n F))[((i : Nat) : Int).toNat]? = some [.sl 1 (brF n (F i))] := by simp [mRows, btF_get h]
set_option maxHeartbeats 8000000 in
theorem l05Reach_ac (T : List (List Int)) (n : Nat) (hT : Sq T n) (hn : n ≤ 1000) : AC Try.prog 104 [TL T] H0 (own1 1 n) (hpM 1 (btF n n (rchF (entN T) n))) := by
  have htl : (mRows 1 (TR T)).length = n := by simp [hT.l]
  have hsg : ∀ i j, i < n → j < n → ∃ r, (mRows 1 (TR T))[((i : Nat) : Int).toNat]? = some [.sl 1 (IR r)] ∧ (IR r)[((j : Nat) : Int).toNat]? = some [DI (entN T i j)] ∧ (IR r).length = n := fun i j hi hj => by
    obtain ⟨r, h1, h2, h3⟩ := hT.get hi hj
    exact ⟨r, TR_get h1, IR_get h2, by rw [IR_len, h3]⟩
  generalize entN T = a at *
  refine AC.of_body 0 Try.func104 rfl (fun l h => absurd rfl h) (fun C hC => ?_)
  have hD : ∀ l, ¬ C.D0 l := fun l h => (hC l).1 h rfl
  simp only [startFr, Try.ntmps104, List.length_cons, List.length_nil, Nat.reduceAdd, Nat.reduceSub, List.replicate_succ, List.replicate_zero, List.cons_append, List.nil_append]
  repeat' (first | ((first | apply Ba | (apply Bb; (· rfl); (· rfl)) | (apply Bc; (· exact nxE)) | (apply Bd; (· rfl); (· rfl); (· exact nxE))); (· first | exact Ok.lenD rfl rfl htl | exact Ok.pe)) | ((first | apply Ca | (apply Cb; (· exact nxE))); (· first | exact Ok.e0)) | refine Sx ?_ | (refine Sy (fun h => ?_) (fun h => ?_) <;> try (exfalso; omega; done)) | refine Sz (fun h => ?_) (fun h => ?_))
  refine AW.loop (X := {k : Nat // k ≤ n}) (fun k => ⟨[TL T, Oo, Oo, I n, .own 1 ⟨1, []⟩ 0 (k.1 : Nat), I (k.1 : Nat), Oo, Oo, Oo, Oo, Oo, Oo, Oo, Oo, Oo, Oo, Oo, Oo, Oo, Oo, Oo, Oo, Oo, Oo, Oo, Oo, Oo, Oo, Oo, Oo, Oo, Oo, Oo, Oo, Oo, Oo, Oo, Oo, Oo, Oo, Oo, Oo, Oo, Oo, Oo, Oo, Oo, Oo, Oo, Oo, Oo, Oo, Oo, Oo, Oo, Oo, Oo, Oo, Oo, Oo], heapX [] [mi1 ⟨1, []⟩ (btF k.1 n (rchF a n))], 900⟩) (fun k => n - k.1) ⟨0, Nat.zero_le _⟩ ?_ (fun k => ?_)
  ·
    (apply Le.headG [] [{ l := ⟨1, []⟩, k := 1, R := btF 0 n (rchF a n), src := ⟨4, []⟩, base := ⟨4, []⟩ }] (fun _ => False))
    (case' hlen => rfl)
    (case' hms => rfl)
    all_goals (try dsimp only [srcs])
    (case' hfr | hob => (repeat' (first | refine La ?_ ?_ | exact Lc | refine Lo ?_ | refine ⟨⟨_, rfl, ?_⟩, ?_⟩ | refine Lx ?_)))
    (case' hok => first | exact ⟨MI.ok_same rfl (fun i x hx => by simp [btF] at hx), trivial⟩ | exact trivial)
    (case' hN => rfl)
    (case' hS => rfl)
    all_goals (first | exact Ld | (rfl))
  obtain ⟨v, hv⟩ := k
  simp only
  by_cases hlt : v < n
  · have hrow0 : (List.replicate n [DB false]).set v [DB true] = brF n (fun j => decide (j = v)) := by rw [brF_0]; exact brF_set (fun j => by by_cases e : j = v <;> simp [e])
    have hF : rchF a n v = rcV a n n (fun j => decide (j = v)) := rfl
    generalize hg0 : (fun j => decide (j = v)) = g0 at hrow0 hF
    repeat' (first | ((first | apply Ba | (apply Bb; (· rfl); (· rfl)) | (apply Bc; (· exact nxE)) | (apply Bd; (· rfl); (· rfl); (· exact nxE))); (· first | exact Ok.st1 rfl rfl rfl (by rw [List.length_replicate]; exact hlt) (by simp [hlt]; rfl) rfl rfl hrow0 | exact Ok.pe)) | ((first | apply Ca | (apply Cb; (· exact nxE))); (· first | exact Ok.st1 rfl rfl rfl (by rw [List.length_replicate]; exact hlt) (by simp [hlt]; rfl) rfl rfl hrow0 | exact Ok.e0)) | refine Sx ?_ | (refine Sy (fun h => ?_) (fun h => ?_) <;> try (exfalso; omega; done)) | refine Sz (fun h => ?_) (fun h => ?_))
    refine AW.loop (X := {k : Nat // k ≤ n}) (fun k => ⟨[TL T, Oo, Oo, I n, .own 1 ⟨1, []⟩ 0 v, I v, .own 1 ⟨2, []⟩ 0 n, I (k.1 : Nat), Oo, Oo, Oo, Oo, Oo, Oo, Oo, Oo, Oo, Oo, Oo, Oo, Oo, Oo, Oo, Oo, Oo, Oo, Oo, Oo, Oo, Oo, Oo, Oo, Oo, Oo, Oo, Oo, Oo, Oo, Oo, Oo, Oo, Oo, Oo, Oo, Oo, Oo, Oo, Oo, Oo, Oo, Oo, Oo, Oo, Oo, Oo, Oo, Oo, Oo, Oo, Oo], heapX [(⟨2, []⟩, ⟨2, []⟩, dobj 1 (brF n (rcV a n k.1 g0)))] [mi1 ⟨1, []⟩ (btF v n (rchF a n))], 900⟩) (fun k => n - k.1) ⟨0, Nat.zero_le _⟩ ?_ (fun k => ?_)
    ·
      (apply Le.headG [_] [mi1 ⟨1, []⟩ (btF v n (rchF a n))] (fun _ => False))
      (case' hlen => rfl)
      (case' hms => rfl)
      all_goals (try dsimp only [srcs])
      (case' hfr | hob => (repeat' (first | refine La ?_ ?_ | exact Lc | refine Lo ?_ | refine ⟨⟨_, rfl, ?_⟩, ?_⟩ | refine Lx ?_)))
      (case' hok => first | exact ⟨MI.ok_same rfl (Cg), trivial⟩ | exact trivial)
      (case' hN => rfl)
      (case' hS => rfl)
      all_goals (first | exact Ld | (rfl))
    obtain ⟨m, hm⟩ := k
    simp only
    by_cases hlt1 : m < n
    · have hst1 : rcV a n (m + 1) g0 = rcI a n n (rcV a n m g0) := rfl
      generalize rcV a n m g0 = g1 at hst1 ⊢
      repeat' (first | ((first | apply Ba | (apply Bb; (· rfl); (· rfl)) | (apply Bc; (· exact nxE)) | (apply Bd; (· rfl); (· rfl); (· exact nxE))); (· first | exact Ok.pe)) | ((first | apply Ca | (apply Cb; (· exact nxE))); (· first | exact Ok.e0)) | refine Sx ?_ | (refine Sy (fun h => ?_) (fun h => ?_) <;> try (exfalso; omega; done)) | refine Sz (fun h => ?_) (fun h => ?_))
      refine AW.loop (X := {k : Nat // k ≤ n}) (fun k => ⟨[TL T, Oo, Oo, I n, .own 1 ⟨1, []⟩ 0 v, I v, .own 1 ⟨2, []⟩ 0 n, I m, I (k.1 : Nat), Oo, Oo, Oo, Oo, Oo, Oo, Oo, Oo, Oo, Oo, Oo, Oo, Oo, Oo, Oo, Oo, Oo, Oo, Oo, Oo, Oo, Oo, Oo, Oo, Oo, Oo, Oo, Oo, Oo, Oo, Oo, Oo, Oo, Oo, Oo, Oo, Oo, Oo, Oo, Oo, Oo, Oo, Oo, Oo, Oo, Oo, Oo, Oo, Oo, Oo, Oo], heapX [(⟨2, []⟩, ⟨2, []⟩, dobj 1 (brF n (rcI a n k.1 g1)))] [mi1 ⟨1, []⟩ (btF v n (rchF a n))], 900⟩) (fun k => n - k.1) ⟨0, Nat.zero_le _⟩ ?_ (fun k => ?_)
      ·
        (apply Le.headG [_] [mi1 ⟨1, []⟩ (btF v n (rchF a n))] (fun _ => False))
        (case' hlen => rfl)
        (case' hms => rfl)
        all_goals (try dsimp only [srcs])
        (case' hfr | hob => (repeat' (first | refine La ?_ ?_ | exact Lc | refine Lo ?_ | refine ⟨⟨_, rfl, ?_⟩, ?_⟩ | refine Lx ?_)))
        (case' hok => first | exact ⟨MI.ok_same rfl (Cg), trivial⟩ | exact trivial)
        (case' hN => rfl)
        (case' hS => rfl)
        all_goals (first | exact Ld | (rfl))
      obtain ⟨i, hi⟩ := k
      simp only
      by_cases hlt2 : i < n
      · have hst2 : rcI a n (i + 1) g1 = rcJ a i n (rcI a n i g1) := rfl
        generalize rcI a n i g1 = g2 at hst2 ⊢
        repeat' (first | ((first | apply Ba | (apply Bb; (· rfl); (· rfl)) | (apply Bc; (· exact nxE)) | (apply Bd; (· rfl); (· rfl); (· exact nxE))); (· first | exact Ok.pe)) | ((first | apply Ca | (apply Cb; (· exact nxE))); (· first | exact Ok.e0)) | refine Sx ?_ | (refine Sy (fun h => ?_) (fun h => ?_) <;> try (exfalso; omega; done)) | refine Sz (fun h => ?_) (fun h => ?_))
        refine AW.loop (X := {k : Nat // k ≤ n}) (fun k => ⟨[TL T, Oo, Oo, I n, .own 1 ⟨1, []⟩ 0 v, I v, .own 1 ⟨2, []⟩ 0 n, I m, I i, I (k.1 : Nat), Oo, Oo, Oo, Oo, Oo, Oo, Oo, Oo, Oo, Oo, Oo, Oo, Oo, Oo, Oo, Oo, Oo, Oo, Oo, Oo, Oo, Oo, Oo, Oo, Oo, Oo, Oo, Oo, Oo, Oo, Oo, Oo, Oo, Oo, Oo, Oo, Oo, Oo, Oo, Oo, Oo, Oo, Oo, Oo, Oo, Oo, Oo, Oo, Oo, Oo], heapX [(⟨2, []⟩, ⟨2, []⟩, dobj 1 (brF n (rcJ a i k.1 g2)))] [mi1 ⟨1, []⟩ (btF v n (rchF a n))], 900⟩) (fun k => n - k.1) ⟨0, Nat.zero_le _⟩ ?_ (fun k => ?_)
        ·
          (apply Le.headG [_] [mi1 ⟨1, []⟩ (btF v n (rchF a n))] (fun _ => False))
          (case' hlen => rfl)
          (case' hms => rfl)
          all_goals (try dsimp only [srcs])
          (case' hfr | hob => (repeat' (first | refine La ?_ ?_ | exact Lc | refine Lo ?_ | refine ⟨⟨_, rfl, ?_⟩, ?_⟩ | refine Lx ?_)))
          (case' hok => first | exact ⟨MI.ok_same rfl (Cg), trivial⟩ | exact trivial)
          (case' hN => rfl)
          (case' hS => rfl)
          all_goals (first | exact Ld | (rfl))
        obtain ⟨j, hj⟩ := k
        simp only
        by_cases hlt3 : j < n
        · obtain ⟨r, h1, h2, h3⟩ := hsg i j hlt2 hlt3
          have hst3 : rcJ a i (j + 1) g2 = if rcJ a i j g2 j = true ∧ a i j ≠ BOT then (fun b => if b = i then true else rcJ a i j g2 b) else rcJ a i j g2 := rfl
          generalize rcJ a i j g2 = g3 at hst3 ⊢
          generalize a i j = x at h2 hst3
          have hbl : (brF n g3).length = n := brF_len
          have hbj := brF_get (g := g3) hlt3
          have hbi := brF_get (g := g3) hlt2
          have hset : (brF n g3).set i [DB true] = brF n (fun b => if b = i then true else g3 b) := brF_set (fun _ => rfl)
          generalize g3 j = y at hbj hst3
          repeat' (first | ((first | apply Ba | (apply Bb; (· rfl); (· rfl)) | (apply Bc; (· exact nxE)) | (apply Bd; (· rfl); (· rfl); (· exact nxE))); (· first | exact Ok.ld1 rfl rfl rfl hbj | exact Ok.st1 rfl rfl rfl (by rw [hbl]; exact hlt2) (by rw [hbi]; rfl) rfl rfl hset | exact Ok.pe)) | ((first | apply Ca | (apply Cb; (· exact nxE))); (· first | exact Ok.st1 rfl rfl rfl (by rw [hbl]; exact hlt2) (by rw [hbi]; rfl) rfl rfl hset | exact Ok.e0)) | refine Sx ?_ | (refine Sy (fun h => ?_) (fun h => ?_) <;> try (exfalso; omega; done)) | refine Sz (fun h => ?_) (fun h => ?_))
          all_goals
            first | rw [if_pos ⟨by assumption, by assumption⟩] at hst3 | rw [if_neg (by simp_all [BOT])] at hst3
            refine ⟨⟨j + 1, by omega⟩, ?_, by simp only; omega⟩
            simp only [hst3]
            (apply Le.headG [_] [mi1 ⟨1, []⟩ (btF v n (rchF a n))] (fun _ => False))
            (case' hlen => rfl)
            (case' hms => rfl)
            all_goals (try dsimp only [srcs])
            (case' hfr | hob => (repeat' (first | refine La ?_ ?_ | exact Lc | refine Lo ?_ | refine ⟨⟨_, rfl, ?_⟩, ?_⟩ | refine Lx ?_)))
            (case' hok => first | exact ⟨MI.ok_same rfl (Cg), trivial⟩ | exact trivial)
            (case' hN => rfl)
            (case' hS => rfl)
            all_goals (first | exact Ld | (rfl))
        · obtain rfl : j = n := by omega
          rw [← hst2]
          repeat' (first | ((first | apply Ba | (apply Bb; (· rfl); (· rfl)) | (apply Bc; (· exact nxE)) | (apply Bd; (· rfl); (· rfl); (· exact nxE))); (· first | exact Ok.pe)) | ((first | apply Ca | (apply Cb; (· exact nxE))); (· first | exact Ok.e0)) | refine Sx ?_ | (refine Sy (fun h => ?_) (fun h => ?_) <;> try (exfalso; omega; done)) | refine Sz (fun h => ?_) (fun h => ?_))
          refine ⟨⟨i + 1, by omega⟩, ?_, by simp only; omega⟩
          (apply Le.headG [_] [mi1 ⟨1, []⟩ (btF v j (rchF a j))] (fun _ => False))
          (case' hlen => rfl)
          (case' hms => rfl)
          all_goals (try dsimp only [srcs])
          (case' hfr | hob => (repeat' (first | refine La ?_ ?_ | exact Lc | refine Lo ?_ | refine ⟨⟨_, rfl, ?_⟩, ?_⟩ | refine Lx ?_)))
          (case' hok => first | exact ⟨MI.ok_same rfl (Cg), trivial⟩ | exact trivial)
          (case' hN => rfl)
          (case' hS => rfl)
          all_goals (first | exact Ld | (rfl))
      · obtain rfl : i = n := by omega
        rw [← hst1]
        repeat' (first | ((first | apply Ba | (apply Bb; (· rfl); (· rfl)) | (apply Bc; (· exact nxE)) | (apply Bd; (· rfl); (· rfl); (· exact nxE))); (· first | exact Ok.pe)) | ((first | apply Ca | (apply Cb; (· exact nxE))); (· first | exact Ok.e0)) | refine Sx ?_ | (refine Sy (fun h => ?_) (fun h => ?_) <;> try (exfalso; omega; done)) | refine Sz (fun h => ?_) (fun h => ?_))
        refine ⟨⟨m + 1, by omega⟩, ?_, by simp only; omega⟩
        (apply Le.headG [_] [mi1 ⟨1, []⟩ (btF v i (rchF a i))] (fun _ => False))
        (case' hlen => rfl)
        (case' hms => rfl)
        all_goals (try dsimp only [srcs])
        (case' hfr | hob => (repeat' (first | refine La ?_ ?_ | exact Lc | refine Lo ?_ | refine ⟨⟨_, rfl, ?_⟩, ?_⟩ | refine Lx ?_)))
        (case' hok => first | exact ⟨MI.ok_same rfl (Cg), trivial⟩ | exact trivial)
        (case' hN => rfl)
        (case' hS => rfl)
        all_goals (first | exact Ld | (rfl))
    · obtain rfl : m = n := by omega
      rw [← hF]
      have hbl : (brF m (rchF a m v)).length = m := brF_len
      have hol : (btF v m (rchF a m)).length = v := btF_len
      repeat' (first | ((first | apply Ba | (apply Bb; (· rfl); (· rfl)) | (apply Bc; (· exact nxE)) | (apply Bd; (· rfl); (· rfl); (· exact nxE))); (· first | exact Ok.appendT rfl rfl (by decide) rfl rfl rfl (by simp [outer_len, btF_len]; done) rfl rfl (by rfl) (by omega) (by omega) rfl | exact Ok.pe)) | ((first | apply Ca | (apply Cb; (· exact nxE))); (· first | exact Ok.appendT rfl rfl (by decide) rfl rfl rfl (by simp [outer_len, btF_len]; done) rfl rfl (by rfl) (by omega) (by omega) rfl | exact Ok.e0)) | refine Sx ?_ | (refine Sy (fun h => ?_) (fun h => ?_) <;> try (exfalso; omega; done)) | refine Sz (fun h => ?_) (fun h => ?_))
      refine ⟨⟨v + 1, by omega⟩, ?_, by simp only; omega⟩
      (apply Le.headG [] [{ l := ⟨1, []⟩, k := 1, R := btF (v + 1) m (rchF a m), src := ⟨906, []⟩, base := ⟨1, []⟩, cut := v, ext := some ⟨2, []⟩ }] (fun _ => False))
      (case' hlen => rfl)
      (case' hms => rfl)
      all_goals (try dsimp only [srcs])
      (case' hfr | hob => (repeat' (first | refine La ?_ ?_ | exact Lc | refine Lo ?_ | refine ⟨⟨_, rfl, ?_⟩, ?_⟩ | refine Lx ?_)))
      (case' hok => first | exact ⟨MI.ok_app btF_succ btF_len hbl rfl (Cg) rfl, trivial⟩ | exact trivial)
      (case' hN => rfl)
      (case' hS => rfl)
      all_goals (first | exact Ld | ((simp [AllP, btF]; done)))
  · obtain rfl : v = n := by omega
    repeat' (first | ((first | apply Ba | (apply Bb; (· rfl); (· rfl)) | (apply Bc; (· exact nxE)) | (apply Bd; (· rfl); (· rfl); (· exact nxE))); (· first | exact Ok.pe)) | ((first | apply Ca | (apply Cb; (· exact nxE))); (· first | exact Ok.e0)) | refine Sx ?_ | (refine Sy (fun h => ?_) (fun h => ?_) <;> try (exfalso; omega; done)) | refine Sz (fun h => ?_) (fun h => ?_))
    refine Ya ?_
    (apply Le.headG [] [{ l := ⟨0, []⟩, k := 1, R := btF v v (rchF a v), src := ⟨1, []⟩, base := ⟨1, []⟩ }] (fun _ => False))
    (case' hlen => rfl)
    (case' hms => rfl)
    all_goals (try dsimp only [srcs])
    (case' hfr | hob => (repeat' (first | refine La ?_ ?_ | exact Lc | refine Lo ?_ | refine ⟨⟨_, rfl, ?_⟩, ?_⟩ | refine Lx ?_)))
    (case' hok => first | exact ⟨MI.ok_same rfl (Cg), trivial⟩ | exact trivial)
    (case' hN => rfl)
    (case' hS => rfl)
    all_goals (first | exact Ld | (rfl))
end Go.Proofs.Ytikadoicplnkgaa
end

section
namespace Go.Proofs.Ytikadoicplnkgaa
set_option linter.unusedSimpArgs false
set_option linter.unusedVariables false
open Go Go.RowKit

def RchP (W : Nat → Nat → Int) (n u e : Nat) : Prop := ∃ l : List Nat, (∀ x ∈ l, x < n) ∧ kP W u l ∧ kE u l = e
section
variable {W : Nat → Nat → Int} {n : Nat}
theorem RchP.refl {u : Nat} : RchP W n u u := ⟨[], by simp, trivial, rfl⟩
theorem RchP.one {u v : Nat} (hv : v < n) (h : W v u ≠ BOT) : RchP W n u v := ⟨[v], by simpa using hv, ⟨h, trivial⟩, rfl⟩
theorem RchP.trans {u v w : Nat} (h : RchP W n u v) (h' : RchP W n v w) : RchP W n u w := by
  obtain ⟨a, a1, a2, rfl⟩ := h
  obtain ⟨b, b1, b2, rfl⟩ := h'
  exact ⟨a ++ b, fun x hx => (List.mem_append.1 hx).elim (a1 x) (b1 x), (kP_app a b u).2 ⟨a2, b2⟩, kE_app a b u⟩
theorem RchP.short {u e : Nat} (hu : u < n) : ∀ (m : Nat) (l : List Nat), l.length ≤ m → (∀ x ∈ l, x < n) → kP W u l → kE u l = e → ∃ l : List Nat, l.length < n ∧ (∀ x ∈ l, x < n) ∧ kP W u l ∧ kE u l = e := by
  intro m
  induction m with
  | zero =>
    intro l hl h1 h2 h3
    have : l = [] := List.length_eq_zero_iff.1 (by omega)
    subst this
    exact ⟨[], by simp; omega, h1, h2, h3⟩
  | succ m ih =>
    intro l hl h1 h2 h3
    by_cases hn : l.length < n
    · exact ⟨l, hn, h1, h2, h3⟩
    · obtain ⟨a, b, c, rfl, hb, hk⟩ := kround hu h1 (by omega)
      have hbl := List.length_pos_iff.2 hb
      have p1 := (kP_app a (b ++ c) u).1 h2
      have p2 := (kP_app b c (kE u a)).1 p1.2
      rw [hk] at p2
      refine ih (a ++ c) (by simp at hl ⊢; omega) (fun x hx => h1 x (by simp at hx ⊢; rcases hx with hx | hx <;> simp [hx])) ((kP_app a c u).2 ⟨p1.1, p2.2⟩) ?_
      rw [kE_app] at h3 ⊢
      rw [kE_app, hk] at h3
      exact h3
theorem rcV_hitP {v : Nat} {g : Nat → Bool} (hv : v < n) (h : g v = true) : ∀ (m : Nat) (l : List Nat), l.length ≤ m → (∀ x ∈ l, x < n) → kP W v l → rcV W n m g (kE v l) = true := by
  intro m
  induction m with
  | zero =>
    intro l hl _ _
    have : l = [] := List.length_eq_zero_iff.1 (by omega)
    subst this
    exact h
  | succ m ih =>
    intro l hl h1 h2
    by_cases h0 : l = []
    · subst h0; exact rcV_mono h (m + 1)
    · obtain ⟨c, x, rfl⟩ := snoc_of h0
      have hx := h1 x (by simp)
      have hc : ∀ y ∈ c, y < n := fun y hy => h1 y (by simp [hy])
      have p := (kP_app c [x] v).1 h2
      have hi := ih c (by simp at hl; omega) hc p.1
      rw [kE_app]
      exact rcI_hit hi (kE_lt hv hc) p.2.1 n hx
theorem rch_iff {u e : Nat} (hu : u < n) (he : e < n) : rchF W n u e = true ↔ RchP W n u e := by
  constructor
  · intro h
    exact rcV_snd (R := fun j => RchP W n u j) (fun i k hi hk hr hw => hr.trans (.one hi hw)) (fun j _ hj => by rw [of_decide_eq_true hj]; exact .refl) n e he h
  · rintro ⟨l, h1, h2, h3⟩
    obtain ⟨l, k1, k2, k3, rfl⟩ := RchP.short hu l.length l (Nat.le_refl _) h1 h2 h3
    exact rcV_hitP hu (by simp) n l (by omega) k2 k3
/-! ### By middle nodes -/
def wsE (W : Nat → Nat → Int) (u v : Nat) : Bool := decide (u = v) || decide (W v u ≠ BOT)
def wsB (W : Nat → Nat → Int) : Nat → Nat → Nat → Bool
  | 0 => wsE W
  | k + 1 => fun u v => wsB W k u v || (wsB W k u k && wsB W k k v)
theorem wsB_snd : ∀ k, k ≤ n → ∀ u v, u < n → v < n → wsB W k u v = true → RchP W n u v
  | 0, _, u, v, hu, hv, h => by
    simp only [wsB, wsE, Bool.or_eq_true, decide_eq_true_eq] at h
    rcases h with rfl | h
    · exact .refl
    · exact .one hv h
  | k + 1, hk, u, v, hu, hv, h => by
    simp only [wsB, Bool.or_eq_true, Bool.and_eq_true] at h
    rcases h with h | ⟨h1, h2⟩
    · exact wsB_snd k (by omega) u v hu hv h
    · exact (wsB_snd k (by omega) u k hu (by omega) h1).trans (wsB_snd k (by omega) k v (by omega) hv h2)
theorem wsB_mono {u v : Nat} (h : wsE W u v = true) : ∀ k, wsB W k u v = true
  | 0 => h
  | k + 1 => by simp only [wsB, Bool.or_eq_true]; exact .inl (wsB_mono h k)
theorem wsB_trans : ∀ k m, m < k → ∀ u v, wsB W k u m = true → wsB W k m v = true → wsB W k u v = true
  | k + 1, m, hm, u, v, h1, h2 => by
    simp only [wsB, Bool.or_eq_true, Bool.and_eq_true] at h1 h2 ⊢
    by_cases e : m = k
    · subst e
      exact .inr ⟨h1.elim id (fun h => h.1), h2.elim id (fun h => h.2)⟩
    · have ih := fun u v => wsB_trans k m (by omega) u v
      rcases h1 with h1 | ⟨h1, h3⟩ <;> rcases h2 with h2 | ⟨h2, h4⟩
      · exact .inl (ih u v h1 h2)
      · exact .inr ⟨ih u k h1 h2, h4⟩
      · exact .inr ⟨h1, ih k v h3 h2⟩
      · exact .inr ⟨h1, h4⟩
theorem wsB_hit : ∀ (l : List Nat) (u : Nat), (∀ x ∈ l, x < n) → kP W u l → wsB W n u (kE u l) = true
  | [], u, _, _ => wsB_mono (by simp [wsE, kE]) n
  | v :: l, u, h1, h2 => by
    have ih := wsB_hit l v (fun x hx => h1 x (by simp [hx])) h2.2
    exact wsB_trans n v (h1 v (by simp)) u _ (wsB_mono (by simp [wsE, h2.1]) n) ih
theorem wsB_rch {u v : Nat} (hu : u < n) (hv : v < n) : wsB W n u v = rchF W n u v := by
  rw [Bool.eq_iff_iff, rch_iff hu hv]
  constructor
  · exact wsB_snd n (Nat.le_refl _) u v hu hv
  · rintro ⟨l, h1, h2, rfl⟩
    exact wsB_hit l u h1 h2
/-- What is read in place is what was there before the round. -/
theorem wsB_col {k u : Nat} : wsB W (k + 1) u k = wsB W k u k := by
  simp only [wsB]; cases wsB W k u k <;> simp
theorem wsB_row {k v : Nat} : wsB W (k + 1) k v = wsB W k k v := by
  simp only [wsB]; cases wsB W k k v <;> simp
/-! ### The matrix of the nodes that reach one -/
def upF (F : Nat → Nat → Bool) (W : Nat → Nat → Int) (e : Nat) : Nat → Nat → Int := fun i j => if F i e = true ∧ F j e = true then W i j else BOT
theorem upF_ne {F : Nat → Nat → Bool} {e i j : Nat} (h : upF F W e i j ≠ BOT) : W i j ≠ BOT ∧ upF F W e i j = W i j := by
  unfold upF at h ⊢
  split at h
  · rename_i hc; rw [if_pos hc]; exact ⟨h, rfl⟩
  · exact absurd rfl h
theorem upF_p {F : Nat → Nat → Bool} {e : Nat} : ∀ {l : List Nat} {u : Nat}, kP (upF F W e) u l → kP W u l ∧ kW (upF F W e) u l = kW W u l
  | [], _, _ => ⟨trivial, rfl⟩
  | v :: l, u, h => by
    obtain ⟨h1, h2⟩ := upF_ne h.1
    obtain ⟨h3, h4⟩ := upF_p h.2
    exact ⟨⟨h1, h3⟩, by simp only [kW, h2, h4]⟩
theorem upF_of {F : Nat → Nat → Bool} {e : Nat} (hF : ∀ u, u < n → RchP W n u e → F u e = true) : ∀ {l : List Nat} {u : Nat}, u < n → (∀ x ∈ l, x < n) → kP W u l → kE u l = e → kP (upF F W e) u l ∧ kW (upF F W e) u l = kW W u l
  | [], _, _, _, _, _ => ⟨trivial, rfl⟩
  | v :: l, u, hu, hl, h, he => by
    have hv := hl v (by simp)
    have hl' : ∀ x ∈ l, x < n := fun x hx => hl x (by simp [hx])
    obtain ⟨h3, h4⟩ := upF_of hF hv hl' h.2 he
    have e1 : upF F W e v u = W v u := by
      unfold upF
      rw [if_pos ⟨hF v hv ⟨l, hl', h.2, he⟩, hF u hu ⟨v :: l, hl, h, he⟩⟩]
    exact ⟨⟨by rw [e1]; exact h.1, h3⟩, by simp only [kW, e1, h4]⟩
theorem kMean_le2 {U : Nat → Nat → Int} {p q p' q' : Int} (h : KMean U n p q) (h' : KMean W n p' q') (hU : ∀ u l, kP U u l → kP W u l ∧ kW U u l = kW W u l) : q' * p ≤ q * p' := by
  obtain ⟨u, l, u1, u2, u3, u4, u5, u6⟩ := h.eq
  obtain ⟨v4, v5⟩ := hU u l u4
  have h2 := h'.le u l u1 u2 v4 u5
  unfold kV at u6 h2
  rw [v5] at u6
  have hl : (0 : Int) < l.length := by have := List.length_pos_iff.2 u3; omega
  generalize kW W u l = w at *
  generalize (l.length : Int) = m at *
  have a1 : q * (q' * w) ≤ q * (p' * m) := Int.mul_le_mul_of_nonneg_left (by omega) (by have := h.pos; omega)
  have a2 : q * (q' * w) = (q' * p) * m := by
    rw [Int.mul_left_comm, show q * w = p * m by omega, Int.mul_assoc]
  rw [a2, ← Int.mul_assoc] at a1
  exact Int.le_of_mul_le_mul_right a1 hl
/-- A cycle with the greatest mean, through a node: it is upstream of this node. -/
theorem up_top {F : Nat → Nat → Bool} {p q : Int} {f : Nat} {l : List Nat} (h : KMean W n p q) (hF : ∀ u, u < n → RchP W n u f → F u f = true) (hf : f < n) (hl : ∀ x ∈ l, x < n) (h0 : l ≠ []) (hp : kP W f l) (he : kE f l = f) (hk : kV W p q f l = 0) : KMean (upF F W f) n p q := by
  obtain ⟨h3, h4⟩ := upF_of hF hf hl hp he
  refine ⟨h.pos, fun u l' hu hl' hp' he' => ?_, f, l, hf, hl, h0, h3, he, by unfold kV at hk ⊢; rw [h4]; exact hk⟩
  obtain ⟨k1, k2⟩ := upF_p hp'
  have := h.le u l' hu hl' k1 he'
  unfold kV at this ⊢
  rw [k2]; exact this
end
end Go.Proofs.Ytikadoicplnkgaa
end
