/-
  Walks in the abstract reading, part 11.
-/
import Derived.Test.YtikadoicplnkgaaKcE49
import Derived.Test.YtikadoicplnkgaaKcU5
import Derived.Test.YtikadoicplnkgaaKcA3
import Derived.Test.YtikadoicplnkgaaKcA2
import Derived.Test.YtikadoicplnkgaaKcU1
import Derived.Test.YtikadoicplnkgaaKcU6
import Derived.Test.YtikadoicplnkgaaKcU7
import Derived.Test.YtikadoicplnkgaaKcU10
section
namespace Go.Proofs.Ytikadoicplnkgaa
set_option linter.unusedSimpArgs false
set_option linter.unusedVariables false
open Go Go.RowKit
attribute [local irreducible] AL AD AW OpOk Le AC thenQ blockQ EndQ

def isRt (r : Int × Int) : Bool := wi r.1 (-1000000) 1000000
structure RtZ (r : Int × Int) : Prop where
  n : -1000000000000 ≤ r.1 ∧ r.1 ≤ 1000000000000
  d : 1 ≤ r.2 ∧ r.2 ≤ 1000000
  g : Nat.gcd r.1.natAbs r.2.toNat = 1
set_option maxHeartbeats 1000000 in
theorem sIsRatioZ_ac (r : Int × Int) (h : RtZ r) : AC Try.prog 92 [.agg [I r.1, I r.2]] H0 (Bo (isRt r)) H0 := by
  obtain ⟨⟨h1, h2⟩, ⟨h3, h4⟩, h5⟩ := h
  obtain ⟨a, b⟩ := r
  simp only at h1 h2 h3 h4 h5 ⊢
  obtain ⟨v, rfl⟩ : ∃ v : Nat, b = v := ⟨b.toNat, by omega⟩
  rw [Int.toNat_natCast] at h5
  have hF := l01Finite_ac a
  have hI := l01In_ac v 1 1000000
  have hG := l01DivisorZ_ac a v (by omega) (by omega)
  rw [h5] at hG
  rw [show wi (v : Int) 1 1000000 = true from wi_iff.2 (by omega)] at hI
  unfold isRt
  simp only
  cases hw : wi a (-1000000) 1000000
  · rw [hw] at hF
    refine AC.of_body 0 Try.func92 rfl (fun l h => absurd rfl h) (fun C hC => ?_)
    have hD : ∀ l, ¬ C.D0 l := fun l h => (hC l).1 h rfl
    simp only [startFr, Try.ntmps92, List.length_cons, List.length_nil, Nat.reduceAdd, Nat.reduceSub, List.replicate_succ, List.replicate_zero, List.cons_append, List.nil_append]
    repeat' (first | ((first | apply Ba | (apply Bb; (· rfl); (· rfl)) | (apply Bc; (· exact nxE)) | (apply Bd; (· rfl); (· rfl); (· exact nxE))); (· first | exact Kz rfl rfl (hF) (Ad An) | exact Kz rfl rfl (hI) (Ad (Ad (Ad An))) | exact Kz rfl rfl (hG) (Ad (Ad An)) | exact Ok.pe)) | ((first | apply Ca | (apply Cb; (· exact nxE))); (· first | exact Ok.e0)) | refine Sx ?_ | (refine Sy (fun h => ?_) (fun h => ?_) <;> try (exfalso; omega; done)) | refine Sz (fun h => ?_) (fun h => ?_))
    refine Ya ?_
    (apply Le.headZ (hs := []) [] rfl)
    all_goals (try dsimp only [srcs])
    (case' hfr => (repeat' (first | refine La ?_ ?_ | exact Lc | refine Lo ?_ | refine ⟨⟨_, rfl, ?_⟩, ?_⟩ | refine Lx ?_)))
    all_goals (first | exact Ld | exact trivial | (rfl))
  · rw [hw] at hF
    refine AC.of_body 0 Try.func92 rfl (fun l h => absurd rfl h) (fun C hC => ?_)
    have hD : ∀ l, ¬ C.D0 l := fun l h => (hC l).1 h rfl
    simp only [startFr, Try.ntmps92, List.length_cons, List.length_nil, Nat.reduceAdd, Nat.reduceSub, List.replicate_succ, List.replicate_zero, List.cons_append, List.nil_append]
    repeat' (first | ((first | apply Ba | (apply Bb; (· rfl); (· rfl)) | (apply Bc; (· exact nxE)) | (apply Bd; (· rfl); (· rfl); (· exact nxE))); (· first | exact Kz rfl rfl (hF) (Ad An) | exact Kz rfl rfl (hI) (Ad (Ad (Ad An))) | exact Kz rfl rfl (hG) (Ad (Ad An)) | exact Ok.pe)) | ((first | apply Ca | (apply Cb; (· exact nxE))); (· first | exact Ok.e0)) | refine Sx ?_ | (refine Sy (fun h => ?_) (fun h => ?_) <;> try (exfalso; omega; done)) | refine Sz (fun h => ?_) (fun h => ?_))
    refine Ya ?_
    (apply Le.headZ (hs := []) [] rfl)
    all_goals (try dsimp only [srcs])
    (case' hfr => (repeat' (first | refine La ?_ ?_ | exact Lc | refine Lo ?_ | refine ⟨⟨_, rfl, ?_⟩, ?_⟩ | refine Lx ?_)))
    all_goals (first | exact Ld | exact trivial | (rfl))
set_option maxHeartbeats 1000000 in
theorem iIsRatioZ_ac (r : Int × Int) (h : RtZ r) : AC Try.prog 83 [.agg [I r.1, I r.2]] H0 (Bo (isRt r)) H0 := by
  obtain ⟨⟨h1, h2⟩, ⟨h3, h4⟩, h5⟩ := h
  obtain ⟨a, b⟩ := r
  simp only at h1 h2 h3 h4 h5 ⊢
  obtain ⟨v, rfl⟩ : ∃ v : Nat, b = v := ⟨b.toNat, by omega⟩
  rw [Int.toNat_natCast] at h5
  have hF := isFinite_ac a
  have hI := within_ac v 1 1000000
  have hA := absOfZ_ac a (by omega)
  have hG := divisorOf_ac a.natAbs v (by omega) (by omega)
  rw [h5] at hG
  rw [show wi (v : Int) 1 1000000 = true from wi_iff.2 (by omega)] at hI
  unfold isRt
  simp only
  cases hw : wi a (-1000000) 1000000
  · rw [hw] at hF
    refine AC.of_body 0 Try.func83 rfl (fun l h => absurd rfl h) (fun C hC => ?_)
    have hD : ∀ l, ¬ C.D0 l := fun l h => (hC l).1 h rfl
    simp only [startFr, Try.ntmps83, List.length_cons, List.length_nil, Nat.reduceAdd, Nat.reduceSub, List.replicate_succ, List.replicate_zero, List.cons_append, List.nil_append]
    repeat' (first | ((first | apply Ba | (apply Bb; (· rfl); (· rfl)) | (apply Bc; (· exact nxE)) | (apply Bd; (· rfl); (· rfl); (· exact nxE))); (· first | exact Kz rfl rfl (hF) (Ad An) | exact Kz rfl rfl (hI) (Ad (Ad (Ad An))) | exact Kz rfl rfl (hA) (Ad An) | exact Kz rfl rfl (hG) (Ad (Ad An)) | exact Ok.pe)) | ((first | apply Ca | (apply Cb; (· exact nxE))); (· first | exact Ok.e0)) | refine Sx ?_ | (refine Sy (fun h => ?_) (fun h => ?_) <;> try (exfalso; omega; done)) | refine Sz (fun h => ?_) (fun h => ?_))
    refine Ya ?_
    (apply Le.headZ (hs := []) [] rfl)
    all_goals (try dsimp only [srcs])
    (case' hfr => (repeat' (first | refine La ?_ ?_ | exact Lc | refine Lo ?_ | refine ⟨⟨_, rfl, ?_⟩, ?_⟩ | refine Lx ?_)))
    all_goals (first | exact Ld | exact trivial | (rfl))
  · rw [hw] at hF
    refine AC.of_body 0 Try.func83 rfl (fun l h => absurd rfl h) (fun C hC => ?_)
    have hD : ∀ l, ¬ C.D0 l := fun l h => (hC l).1 h rfl
    simp only [startFr, Try.ntmps83, List.length_cons, List.length_nil, Nat.reduceAdd, Nat.reduceSub, List.replicate_succ, List.replicate_zero, List.cons_append, List.nil_append]
    repeat' (first | ((first | apply Ba | (apply Bb; (· rfl); (· rfl)) | (apply Bc; (· exact nxE)) | (apply Bd; (· rfl); (· rfl); (· exact nxE))); (· first | exact Kz rfl rfl (hF) (Ad An) | exact Kz rfl rfl (hI) (Ad (Ad (Ad An))) | exact Kz rfl rfl (hA) (Ad An) | exact Kz rfl rfl (hG) (Ad (Ad An)) | exact Ok.pe)) | ((first | apply Ca | (apply Cb; (· exact nxE))); (· first | exact Ok.e0)) | refine Sx ?_ | (refine Sy (fun h => ?_) (fun h => ?_) <;> try (exfalso; omega; done)) | refine Sz (fun h => ?_) (fun h => ?_))
    refine Ya ?_
    (apply Le.headZ (hs := []) [] rfl)
    all_goals (try dsimp only [srcs])
    (case' hfr => (repeat' (first | refine La ?_ ?_ | exact Lc | refine Lo ?_ | refine ⟨⟨_, rfl, ?_⟩, ?_⟩ | refine Lx ?_)))
    all_goals (first | exact Ld | exact trivial | (rfl))
def rtR (r : Int × Int) : Int × Int := if isRt r = true then r else (0, 0)
def rtC (r : Int × Int) : Int := if isRt r = true then 0 else 3
theorem l04Result_ac (r : Int × Int) (h : RtZ r) : AC Try.prog 151 [.agg [I r.1, I r.2]] H0 (.tup [.agg [I (rtR r).1, I (rtR r).2], I (rtC r)]) H0 := by
  have hI := sIsRatioZ_ac r h
  unfold rtR rtC
  cases hr : isRt r
  · rw [hr] at hI
    refine AC.of_body 0 Try.func151 rfl (fun l h => absurd rfl h) (fun C hC => ?_)
    have hD : ∀ l, ¬ C.D0 l := fun l h => (hC l).1 h rfl
    simp only [startFr, Try.ntmps151, List.length_cons, List.length_nil, Nat.reduceAdd, Nat.reduceSub, List.replicate_succ, List.replicate_zero, List.cons_append, List.nil_append]
    repeat' (first | ((first | apply Ba | (apply Bb; (· rfl); (· rfl)) | (apply Bc; (· exact nxE)) | (apply Bd; (· rfl); (· rfl); (· exact nxE))); (· first | exact Kz rfl rfl (hI) (Aa (Ad (Ad An)) An) | exact Ok.pe)) | ((first | apply Ca | (apply Cb; (· exact nxE))); (· first | exact Ok.e0)) | refine Sx ?_ | (refine Sy (fun h => ?_) (fun h => ?_) <;> try (exfalso; omega; done)) | refine Sz (fun h => ?_) (fun h => ?_))
    refine Yb ?_
    (apply Le.headZ (hs := []) [] rfl)
    all_goals (try dsimp only [srcs])
    (case' hfr => (repeat' (first | refine La ?_ ?_ | exact Lc | refine Lo ?_ | refine ⟨⟨_, rfl, ?_⟩, ?_⟩ | refine Lx ?_)))
    all_goals (first | exact Ld | exact trivial | (rfl))
  · rw [hr] at hI
    refine AC.of_body 0 Try.func151 rfl (fun l h => absurd rfl h) (fun C hC => ?_)
    have hD : ∀ l, ¬ C.D0 l := fun l h => (hC l).1 h rfl
    simp only [startFr, Try.ntmps151, List.length_cons, List.length_nil, Nat.reduceAdd, Nat.reduceSub, List.replicate_succ, List.replicate_zero, List.cons_append, List.nil_append]
    repeat' (first | ((first | apply Ba | (apply Bb; (· rfl); (· rfl)) | (apply Bc; (· exact nxE)) | (apply Bd; (· rfl); (· rfl); (· exact nxE))); (· first | exact Kz rfl rfl (hI) (Aa (Ad (Ad An)) An) | exact Ok.pe)) | ((first | apply Ca | (apply Cb; (· exact nxE))); (· first | exact Ok.e0)) | refine Sx ?_ | (refine Sy (fun h => ?_) (fun h => ?_) <;> try (exfalso; omega; done)) | refine Sz (fun h => ?_) (fun h => ?_))
    refine Yb ?_
    (apply Le.headZ (hs := []) [] rfl)
    all_goals (try dsimp only [srcs])
    (case' hfr => (repeat' (first | refine La ?_ ?_ | exact Lc | refine Lo ?_ | refine ⟨⟨_, rfl, ?_⟩, ?_⟩ | refine Lx ?_)))
    all_goals (first | exact Ld | exact trivial | (rfl))
theorem checkedRatio_ac (r : Int × Int) (h : RtZ r) : AC Try.prog 102 [.agg [I r.1, I r.2]] H0 (.tup [.agg [I (rtR r).1, I (rtR r).2], I (rtC r)]) H0 := by
  have hI := iIsRatioZ_ac r h
  unfold rtR rtC
  cases hr : isRt r
  · rw [hr] at hI
    refine AC.of_body 0 Try.func102 rfl (fun l h => absurd rfl h) (fun C hC => ?_)
    have hD : ∀ l, ¬ C.D0 l := fun l h => (hC l).1 h rfl
    simp only [startFr, Try.ntmps102, List.length_cons, List.length_nil, Nat.reduceAdd, Nat.reduceSub, List.replicate_succ, List.replicate_zero, List.cons_append, List.nil_append]
    repeat' (first | ((first | apply Ba | (apply Bb; (· rfl); (· rfl)) | (apply Bc; (· exact nxE)) | (apply Bd; (· rfl); (· rfl); (· exact nxE))); (· first | exact Kz rfl rfl (hI) (Aa (Ad (Ad An)) An) | exact Ok.pe)) | ((first | apply Ca | (apply Cb; (· exact nxE))); (· first | exact Ok.e0)) | refine Sx ?_ | (refine Sy (fun h => ?_) (fun h => ?_) <;> try (exfalso; omega; done)) | refine Sz (fun h => ?_) (fun h => ?_))
    refine Yb ?_
    (apply Le.headZ (hs := []) [] rfl)
    all_goals (try dsimp only [srcs])
    (case' hfr => (repeat' (first | refine La ?_ ?_ | exact Lc | refine Lo ?_ | refine ⟨⟨_, rfl, ?_⟩, ?_⟩ | refine Lx ?_)))
    all_goals (first | exact Ld | exact trivial | (rfl))
  · rw [hr] at hI
    refine AC.of_body 0 Try.func102 rfl (fun l h => absurd rfl h) (fun C hC => ?_)
    have hD : ∀ l, ¬ C.D0 l := fun l h => (hC l).1 h rfl
    simp only [startFr, Try.ntmps102, List.length_cons, List.length_nil, Nat.reduceAdd, Nat.reduceSub, List.replicate_succ, List.replicate_zero, List.cons_append, List.nil_append]
    repeat' (first | ((first | apply Ba | (apply Bb; (· rfl); (· rfl)) | (apply Bc; (· exact nxE)) | (apply Bd; (· rfl); (· rfl); (· exact nxE))); (· first | exact Kz rfl rfl (hI) (Aa (Ad (Ad An)) An) | exact Ok.pe)) | ((first | apply Ca | (apply Cb; (· exact nxE))); (· first | exact Ok.e0)) | refine Sx ?_ | (refine Sy (fun h => ?_) (fun h => ?_) <;> try (exfalso; omega; done)) | refine Sz (fun h => ?_) (fun h => ?_))
    refine Yb ?_
    (apply Le.headZ (hs := []) [] rfl)
    all_goals (try dsimp only [srcs])
    (case' hfr => (repeat' (first | refine La ?_ ?_ | exact Lc | refine Lo ?_ | refine ⟨⟨_, rfl, ?_⟩, ?_⟩ | refine Lx ?_)))
    all_goals (first | exact Ld | exact trivial | (rfl))
theorem kmR_rt {t : List (List Int)} {n : Nat} (h : MatOk t n) (hc : hasK (entN t) n) : RtZ (kmR (entN t) n) := by
  obtain ⟨_, h2, h3, h4⟩ := kmR_ok h.b h.le hc
  refine ⟨by omega, by omega, ?_⟩
  rw [show Int.gcd (kmR (entN t) n).1 (kmR (entN t) n).2 = Nat.gcd (kmR (entN t) n).1.natAbs (kmR (entN t) n).2.natAbs from rfl] at h2
  rw [show (kmR (entN t) n).2.toNat = (kmR (entN t) n).2.natAbs by omega]
  exact h2
noncomputable def cmC (t : List (List Int)) : Int := if bmC t = 0 then rtC (kmR (entN t) t.length) else bmC t
noncomputable def cmR (t : List (List Int)) : Int × Int := if bmC t = 0 then rtR (kmR (entN t) t.length) else (0, 0)
theorem bmC_cases (t : List (List Int)) : (bmC t = 1 ∧ isSq t = false) ∨ (isSq t = true ∧ hasK (entN t) t.length ∧ bmC t = 0) ∨ (isSq t = true ∧ ¬ hasK (entN t) t.length ∧ bmC t = 4) := by
  unfold bmC
  by_cases hs : isSq t = true
  · rw [if_pos hs]
    by_cases hc : hasK (entN t) t.length
    · rw [if_pos hc]; exact .inr (.inl ⟨hs, hc, rfl⟩)
    · rw [if_neg hc]; exact .inr (.inr ⟨hs, hc, rfl⟩)
  · rw [if_neg hs]; exact .inl ⟨rfl, by simpa using hs⟩
set_option maxHeartbeats 1000000 in
theorem sCycleMean_ac (t : List (List Int)) (ht : t.length ≤ 100000000) (hr : ∀ r ∈ t, r.length ≤ 100000000) : AC Try.prog 76 [TL t] H0 (.tup [.agg [I (cmR t).1, I (cmR t).2], I (cmC t)]) H0 := by
  have hQ := l02Square_ac t ht hr
  unfold cmR cmC
  rcases bmC_cases t with ⟨e, hs⟩ | ⟨hs, hc, e⟩ | ⟨hs, hc, e⟩
  · rw [e, if_neg (by decide), if_neg (by decide)]
    rw [hs] at hQ
    refine AC.of_body 0 Try.func76 rfl (fun l h => absurd rfl h) (fun C hC => ?_)
    have hD : ∀ l, ¬ C.D0 l := fun l h => (hC l).1 h rfl
    simp only [startFr, Try.ntmps76, List.length_cons, List.length_nil, Nat.reduceAdd, Nat.reduceSub, List.replicate_succ, List.replicate_zero, List.cons_append, List.nil_append]
    repeat' (first | ((first | apply Ba | (apply Bb; (· rfl); (· rfl)) | (apply Bc; (· exact nxE)) | (apply Bd; (· rfl); (· rfl); (· exact nxE))); (· first | exact Kz rfl rfl (hQ) (Ad An) | exact Ok.pe)) | ((first | apply Ca | (apply Cb; (· exact nxE))); (· first | exact Ok.e0)) | refine Sx ?_ | (refine Sy (fun h => ?_) (fun h => ?_) <;> try (exfalso; omega; done)) | refine Sz (fun h => ?_) (fun h => ?_))
    refine Yb ?_
    (apply Le.headZ (hs := []) [] rfl)
    all_goals (try dsimp only [srcs])
    (case' hfr => (repeat' (first | refine La ?_ ?_ | exact Lc | refine Lo ?_ | refine ⟨⟨_, rfl, ?_⟩, ?_⟩ | refine Lx ?_)))
    all_goals (first | exact Ld | exact trivial | (rfl))
  · rw [e, if_pos rfl, if_pos rfl]
    rw [hs] at hQ
    have hMt := isSq_ok hs
    have hB := l04Best_yes t t.length hMt hc
    obtain ⟨f, r, e1, hcy, e2⟩ := best_ne hMt.b hMt.le hc
    have hMe := l04Mean_ac t t.length hMt f r hcy
    have hRe := l04Result_ac _ (kmR_rt hMt hc)
    rw [e2] at hMe
    rw [show bkF t t.length (kmR (entN t) t.length) (-1) = f :: r from e1] at hB
    clear e2 e1
    generalize kmR (entN t) t.length = m at *
    generalize rtR m = m1 at *
    generalize rtC m = m2 at *
    generalize f :: r = c at *
    refine AC.of_body 0 Try.func76 rfl (fun l h => absurd rfl h) (fun C hC => ?_)
    have hD : ∀ l, ¬ C.D0 l := fun l h => (hC l).1 h rfl
    simp only [startFr, Try.ntmps76, List.length_cons, List.length_nil, Nat.reduceAdd, Nat.reduceSub, List.replicate_succ, List.replicate_zero, List.cons_append, List.nil_append]
    repeat' (first | ((first | apply Ba | (apply Bb; (· rfl); (· rfl)) | (apply Bc; (· exact nxE)) | (apply Bd; (· rfl); (· rfl); (· exact nxE))); (· first | exact Kz rfl rfl (hQ) (Ad An) | exact Kz rfl rfl (hB) (Ad An) | exact Kz rfl rfl (hMe) (Ad (Ad An)) | exact Kz rfl rfl (hRe) (Aa (Ad (Ad An)) An) | exact Ok.pe)) | ((first | apply Ca | (apply Cb; (· exact nxE))); (· first | exact Ok.e0)) | refine Sx ?_ | (refine Sy (fun h => ?_) (fun h => ?_) <;> try (exfalso; omega; done)) | refine Sz (fun h => ?_) (fun h => ?_))
    refine Yb ?_
    (apply Le.headZ (hs := []) [] rfl)
    all_goals (try dsimp only [srcs])
    (case' hfr => (repeat' (first | refine La ?_ ?_ | exact Lc | refine Lo ?_ | refine ⟨⟨_, rfl, ?_⟩, ?_⟩ | refine Lx ?_)))
    all_goals (first | exact Ld | exact trivial | (rfl))
  · rw [e, if_neg (by decide), if_neg (by decide)]
    rw [hs] at hQ
    have hB := l04Best_no t t.length (isSq_ok hs) hc
    refine AC.of_body 0 Try.func76 rfl (fun l h => absurd rfl h) (fun C hC => ?_)
    have hD : ∀ l, ¬ C.D0 l := fun l h => (hC l).1 h rfl
    simp only [startFr, Try.ntmps76, List.length_cons, List.length_nil, Nat.reduceAdd, Nat.reduceSub, List.replicate_succ, List.replicate_zero, List.cons_append, List.nil_append]
    repeat' (first | ((first | apply Ba | (apply Bb; (· rfl); (· rfl)) | (apply Bc; (· exact nxE)) | (apply Bd; (· rfl); (· rfl); (· exact nxE))); (· first | exact Kz rfl rfl (hQ) (Ad An) | exact Kz rfl rfl (hB) (Ad An) | exact Ok.pe)) | ((first | apply Ca | (apply Cb; (· exact nxE))); (· first | exact Ok.e0)) | refine Sx ?_ | (refine Sy (fun h => ?_) (fun h => ?_) <;> try (exfalso; omega; done)) | refine Sz (fun h => ?_) (fun h => ?_))
    refine Yb ?_
    (apply Le.headZ (hs := []) [] rfl)
    all_goals (try dsimp only [srcs])
    (case' hfr => (repeat' (first | refine La ?_ ?_ | exact Lc | refine Lo ?_ | refine ⟨⟨_, rfl, ?_⟩, ?_⟩ | refine Lx ?_)))
    all_goals (first | exact Ld | exact trivial | (rfl))
set_option maxHeartbeats 1000000 in
theorem iCycleMean_ac (t : List (List Int)) (ht : t.length ≤ 100000000) (hr : ∀ r ∈ t, r.length ≤ 100000000) : AC Try.prog 38 [TL t] H0 (.tup [.agg [I (cmR t).1, I (cmR t).2], I (cmC t)]) H0 := by
  have hQ := iIsSquare_ac t ht hr
  unfold cmR cmC
  rcases bmC_cases t with ⟨e, hs⟩ | ⟨hs, hc, e⟩ | ⟨hs, hc, e⟩
  · rw [e, if_neg (by decide), if_neg (by decide)]
    rw [hs] at hQ
    refine AC.of_body 0 Try.func38 rfl (fun l h => absurd rfl h) (fun C hC => ?_)
    have hD : ∀ l, ¬ C.D0 l := fun l h => (hC l).1 h rfl
    simp only [startFr, Try.ntmps38, List.length_cons, List.length_nil, Nat.reduceAdd, Nat.reduceSub, List.replicate_succ, List.replicate_zero, List.cons_append, List.nil_append]
    repeat' (first | ((first | apply Ba | (apply Bb; (· rfl); (· rfl)) | (apply Bc; (· exact nxE)) | (apply Bd; (· rfl); (· rfl); (· exact nxE))); (· first | exact Kz rfl rfl (hQ) (Ad An) | exact Ok.pe)) | ((first | apply Ca | (apply Cb; (· exact nxE))); (· first | exact Ok.e0)) | refine Sx ?_ | (refine Sy (fun h => ?_) (fun h => ?_) <;> try (exfalso; omega; done)) | refine Sz (fun h => ?_) (fun h => ?_))
    refine Yb ?_
    (apply Le.headZ (hs := []) [] rfl)
    all_goals (try dsimp only [srcs])
    (case' hfr => (repeat' (first | refine La ?_ ?_ | exact Lc | refine Lo ?_ | refine ⟨⟨_, rfl, ?_⟩, ?_⟩ | refine Lx ?_)))
    all_goals (first | exact Ld | exact trivial | (rfl))
  · rw [e, if_pos rfl, if_pos rfl]
    rw [hs] at hQ
    have hMt := isSq_ok hs
    have hB := cycleMean_ac t t.length hMt
    rw [kmR_get hMt hc] at hB
    simp only [Option.getD, Option.isSome] at hB
    have hRe := checkedRatio_ac _ (kmR_rt hMt hc)
    generalize kmR (entN t) t.length = m at *
    generalize rtR m = m1 at *
    generalize rtC m = m2 at *
    refine AC.of_body 0 Try.func38 rfl (fun l h => absurd rfl h) (fun C hC => ?_)
    have hD : ∀ l, ¬ C.D0 l := fun l h => (hC l).1 h rfl
    simp only [startFr, Try.ntmps38, List.length_cons, List.length_nil, Nat.reduceAdd, Nat.reduceSub, List.replicate_succ, List.replicate_zero, List.cons_append, List.nil_append]
    repeat' (first | ((first | apply Ba | (apply Bb; (· rfl); (· rfl)) | (apply Bc; (· exact nxE)) | (apply Bd; (· rfl); (· rfl); (· exact nxE))); (· first | exact Kz rfl rfl (hQ) (Ad An) | exact Kz rfl rfl (hB) (Ad An) | exact Kz rfl rfl (hRe) (Aa (Ad (Ad An)) An) | exact Ok.pe)) | ((first | apply Ca | (apply Cb; (· exact nxE))); (· first | exact Ok.e0)) | refine Sx ?_ | (refine Sy (fun h => ?_) (fun h => ?_) <;> try (exfalso; omega; done)) | refine Sz (fun h => ?_) (fun h => ?_))
    refine Yb ?_
    (apply Le.headZ (hs := []) [] rfl)
    all_goals (try dsimp only [srcs])
    (case' hfr => (repeat' (first | refine La ?_ ?_ | exact Lc | refine Lo ?_ | refine ⟨⟨_, rfl, ?_⟩, ?_⟩ | refine Lx ?_)))
    all_goals (first | exact Ld | exact trivial | (rfl))
  · rw [e, if_neg (by decide), if_neg (by decide)]
    rw [hs] at hQ
    have hMt := isSq_ok hs
    have hB := cycleMean_ac t t.length hMt
    rw [karp_no hMt.b hMt.le hc] at hB
    simp only [Option.getD, Option.isSome] at hB
    refine AC.of_body 0 Try.func38 rfl (fun l h => absurd rfl h) (fun C hC => ?_)
    have hD : ∀ l, ¬ C.D0 l := fun l h => (hC l).1 h rfl
    simp only [startFr, Try.ntmps38, List.length_cons, List.length_nil, Nat.reduceAdd, Nat.reduceSub, List.replicate_succ, List.replicate_zero, List.cons_append, List.nil_append]
    repeat' (first | ((first | apply Ba | (apply Bb; (· rfl); (· rfl)) | (apply Bc; (· exact nxE)) | (apply Bd; (· rfl); (· rfl); (· exact nxE))); (· first | exact Kz rfl rfl (hQ) (Ad An) | exact Kz rfl rfl (hB) (Ad An) | exact Ok.pe)) | ((first | apply Ca | (apply Cb; (· exact nxE))); (· first | exact Ok.e0)) | refine Sx ?_ | (refine Sy (fun h => ?_) (fun h => ?_) <;> try (exfalso; omega; done)) | refine Sz (fun h => ?_) (fun h => ?_))
    refine Yb ?_
    (apply Le.headZ (hs := []) [] rfl)
    all_goals (try dsimp only [srcs])
    (case' hfr => (repeat' (first | refine La ?_ ?_ | exact Lc | refine Lo ?_ | refine ⟨⟨_, rfl, ?_⟩, ?_⟩ | refine Lx ?_)))
    all_goals (first | exact Ld | exact trivial | (rfl))
/-! ### Turned matrices -/
abbrev tuF (f : Nat → Nat → Int) : Nat → Nat → Int := fun a b => f b a
def trF (f : Nat → Nat → Int) (i j : Nat) : Nat → Nat → Int := fun a b => if b < i ∨ (b = i ∧ a < j) then f b a else BOT
theorem trF_0 {f : Nat → Nat → Int} {n : Nat} : tabF n n (trF f 0 0) = botT n n := by
  rw [← botF_tab]
  exact tabF_congr fun a b _ _ => by simp [trF]
theorem trF_set {f : Nat → Nat → Int} {i j a b : Nat} : trF f i (j + 1) a b = if a = j ∧ b = i then f i j else trF f i j a b := by
  unfold trF
  by_cases e : a = j ∧ b = i
  · obtain ⟨rfl, rfl⟩ := e
    rw [if_pos (.inr ⟨rfl, by omega⟩), if_pos ⟨rfl, rfl⟩]
  · rw [if_neg e]
    by_cases h : b < i ∨ (b = i ∧ a < j)
    · rw [if_pos h, if_pos (by omega)]
    · rw [if_neg h, if_neg (by omega)]
theorem trF_row {f : Nat → Nat → Int} {n i : Nat} : tabF n n (trF f i n) = tabF n n (trF f (i + 1) 0) := tabF_congr fun a b ha _ => by
  unfold trF
  by_cases h : b < i ∨ (b = i ∧ a < n)
  · rw [if_pos h, if_pos (by omega)]
  · rw [if_neg h, if_neg (by omega)]
theorem trF_all {f : Nat → Nat → Int} {n : Nat} : tabF n n (trF f n 0) = tabF n n (tuF f) := tabF_congr fun a b _ hb => by unfold trF; rw [if_pos (.inl hb)]
set_option maxHeartbeats 4000000 in
theorem l02Turn_ac (f : Nat → Nat → Int) (n : Nat) (h0 : 0 < n) (hn : n ≤ 1000) : AC Try.prog 79 [TL (tabF n n f)] H0 (own1 1 n) (hpM 1 (TR (tabF n n (tuF f)))) := by
  have hB := l02Bottom_ac n n (by omega) (by omega)
  have hlen : (mRows 1 (TR (tabF n n f))).length = n := by rw [mTR_len, tabF_len]
  have hR0 : (mRows 1 (TR (tabF n n f)))[(0 : Int).toNat]? = some [.sl 1 (IR (rowF n (f 0)))] := TR_get (tabF_get h0)
  have hR0l : (IR (rowF n (f 0))).length = n := by rw [IR_len, rowF_len]
  refine AC.of_body 0 Try.func79 rfl (fun l h => absurd rfl h) (fun C hC => ?_)
  have hD : ∀ l, ¬ C.D0 l := fun l h => (hC l).1 h rfl
  simp only [startFr, Try.ntmps79, List.length_cons, List.length_nil, Nat.reduceAdd, Nat.reduceSub, List.replicate_succ, List.replicate_zero, List.cons_append, List.nil_append]
  repeat' (first | ((first | apply Ba | (apply Bb; (· rfl); (· rfl)) | (apply Bc; (· exact nxE)) | (apply Bd; (· rfl); (· rfl); (· exact nxE))); (· first | exact Ok.lenD rfl rfl hlen | exact Ok.lenD rfl rfl hR0l | exact Tb rfl rfl (hB) (Sd (Sd Sn)) | exact Ok.pe)) | ((first | apply Ca | (apply Cb; (· exact nxE))); (· first | exact Tb rfl rfl (hB) (Sd (Sd Sn)) | exact Ok.e0)) | refine Sx ?_ | (refine Sy (fun h => ?_) (fun h => ?_) <;> try (exfalso; omega; done)) | refine Sz (fun h => ?_) (fun h => ?_))
  refine AW.loop (X := {k : Nat // k ≤ n}) (fun k => ⟨[TL (tabF n n f), Oo, Oo, .own 1 ⟨1, []⟩ 0 n, I (k.1 : Nat), Oo, Oo, Oo, Oo, Oo, Oo, Oo, Oo, Oo, Oo, Oo, Oo, Oo, Oo, Oo, Oo, Oo, Oo, Oo, Oo, Oo, Oo, Oo, Oo, Oo, Oo, Oo, Oo, Oo, Oo, Oo, Oo, Oo, Oo, Oo, Oo, Oo], heapX [] [mi1 ⟨1, []⟩ (TR (tabF n n (trF f k.1 0)))], 900⟩) (fun k => n - k.1) ⟨0, Nat.zero_le _⟩ ?_ (fun k => ?_)
  ·
    (apply Le.headG [] [{ l := ⟨1, []⟩, k := 1, R := TR (tabF n n (trF f 0 0)), src := ⟨7, [0]⟩, base := ⟨7, [0]⟩ }] (fun _ => False))
    (case' hlen => rfl)
    (case' hms => rfl)
    all_goals (try dsimp only [srcs])
    (case' hfr | hob => (repeat' (first | refine La ?_ ?_ | exact Lc | refine Lo ?_ | refine ⟨⟨_, rfl, ?_⟩, ?_⟩ | refine Lx ?_)))
    (case' hok => first | exact ⟨by rw [trF_0]; exact MI.ok_same rfl (Cg), trivial⟩ | exact trivial)
    (case' hN => rfl)
    (case' hS => rfl)
    all_goals (first | exact Ld | (rfl))
  obtain ⟨i, hi⟩ := k
  simp only
  by_cases hlt : i < n
  ·
    have hRi : (mRows 1 (TR (tabF n n f)))[((i : Nat) : Int).toNat]? = some [.sl 1 (IR (rowF n (f i)))] := TR_get (tabF_get hlt)
    have hRil : (IR (rowF n (f i))).length = n := by rw [IR_len, rowF_len]
    repeat' (first | ((first | apply Ba | (apply Bb; (· rfl); (· rfl)) | (apply Bc; (· exact nxE)) | (apply Bd; (· rfl); (· rfl); (· exact nxE))); (· first | exact Ok.lenD rfl rfl hlen | exact Ok.pe)) | ((first | apply Ca | (apply Cb; (· exact nxE))); (· first | exact Ok.e0)) | refine Sx ?_ | (refine Sy (fun h => ?_) (fun h => ?_) <;> try (exfalso; omega; done)) | refine Sz (fun h => ?_) (fun h => ?_))
    refine AW.loop (X := {k : Nat // k ≤ n}) (fun k => ⟨[TL (tabF n n f), Oo, Oo, .own 1 ⟨1, []⟩ 0 n, I i, I (k.1 : Nat), Oo, Oo, Oo, Oo, Oo, Oo, Oo, Oo, Oo, Oo, Oo, Oo, Oo, Oo, Oo, Oo, Oo, Oo, Oo, Oo, Oo, Oo, Oo, Oo, Oo, Oo, Oo, Oo, Oo, Oo, Oo, Oo, Oo, Oo, Oo, Oo], heapX [] [mi1 ⟨1, []⟩ (TR (tabF n n (trF f i k.1)))], 900⟩) (fun k => n - k.1) ⟨0, Nat.zero_le _⟩ ?_ (fun k => ?_)
    ·
      (apply Le.headG [] [{ l := ⟨1, []⟩, k := 1, R := TR (tabF n n (trF f i 0)), src := ⟨1, []⟩, base := ⟨1, []⟩ }] (fun _ => False))
      (case' hlen => rfl)
      (case' hms => rfl)
      all_goals (try dsimp only [srcs])
      (case' hfr | hob => (repeat' (first | refine La ?_ ?_ | exact Lc | refine Lo ?_ | refine ⟨⟨_, rfl, ?_⟩, ?_⟩ | refine Lx ?_)))
      (case' hok => first | exact ⟨MI.ok_same rfl (Cg), trivial⟩ | exact trivial)
      (case' hN => rfl)
      (case' hS => rfl)
      all_goals (first | exact Ld | (rfl))
    obtain ⟨j, hj⟩ := k
    simp only
    by_cases hlt2 : j < n
    ·
      have hRf : (IR (rowF n (f i)))[((j : Nat) : Int).toNat]? = some [DI (f i j)] := IRF_get hlt2
      have hrw := TRF_get (n := n) (f := trF f i j) hlt2
      have hlr : (IR (rowF n (trF f i j j))).length = n := by rw [IR_len, rowF_len]
      repeat' (first | ((first | apply Ba | (apply Bb; (· rfl); (· rfl)) | (apply Bc; (· exact nxE)) | (apply Bd; (· rfl); (· rfl); (· exact nxE))); (· first | exact Ok.lenD rfl rfl hlen | exact Ok.lenD rfl rfl hRil | exact Ok.ldTn rfl rfl rfl hrw hlr | exact Ok.st1 rfl rfl (congrArg (Option.map (dobj 1)) hrw) (by simp [rowF_len]; omega) (by rw [IRF_get hlt]; rfl) rfl rfl IR_set | exact Ok.pe)) | ((first | apply Ca | (apply Cb; (· exact nxE))); (· first | exact Ok.st1 rfl rfl (congrArg (Option.map (dobj 1)) hrw) (by simp [rowF_len]; omega) (by rw [IRF_get hlt]; rfl) rfl rfl IR_set | exact Ok.e0)) | refine Sx ?_ | (refine Sy (fun h => ?_) (fun h => ?_) <;> try (exfalso; omega; done)) | refine Sz (fun h => ?_) (fun h => ?_))
      refine ⟨⟨j + 1, by omega⟩, ?_, by simp only; omega⟩
      (apply Le.headG [] [{ l := ⟨1, []⟩, k := 1, R := TR (tabF n n (trF f i (j + 1))), src := ⟨1, []⟩, base := ⟨1, []⟩ }] (fun _ => False))
      (case' hlen => rfl)
      (case' hms => rfl)
      all_goals (try dsimp only [srcs])
      (case' hfr | hob => (repeat' (first | refine La ?_ ?_ | exact Lc | refine Lo ?_ | refine ⟨⟨_, rfl, ?_⟩, ?_⟩ | refine Lx ?_)))
      (case' hok => first | exact ⟨MI.ok_row (tabF_set (fun a b _ _ => trF_set)) hrw (by simp) rfl (Cg), trivial⟩ | exact trivial)
      (case' hN => rfl)
      (case' hS => rfl)
      all_goals (first | exact Ld | (rfl))
    ·
      obtain rfl : j = n := by omega
      rw [trF_row]
      repeat' (first | ((first | apply Ba | (apply Bb; (· rfl); (· rfl)) | (apply Bc; (· exact nxE)) | (apply Bd; (· rfl); (· rfl); (· exact nxE))); (· first | exact Ok.lenD rfl rfl hlen | exact Ok.lenD rfl rfl hRil | exact Ok.pe)) | ((first | apply Ca | (apply Cb; (· exact nxE))); (· first | exact Ok.e0)) | refine Sx ?_ | (refine Sy (fun h => ?_) (fun h => ?_) <;> try (exfalso; omega; done)) | refine Sz (fun h => ?_) (fun h => ?_))
      refine ⟨⟨i + 1, by omega⟩, ?_, by simp only; omega⟩
      (apply Le.headG [] [{ l := ⟨1, []⟩, k := 1, R := TR (tabF j j (trF f (i + 1) 0)), src := ⟨1, []⟩, base := ⟨1, []⟩ }] (fun _ => False))
      (case' hlen => rfl)
      (case' hms => rfl)
      all_goals (try dsimp only [srcs])
      (case' hfr | hob => (repeat' (first | refine La ?_ ?_ | exact Lc | refine Lo ?_ | refine ⟨⟨_, rfl, ?_⟩, ?_⟩ | refine Lx ?_)))
      (case' hok => first | exact ⟨MI.ok_same rfl (Cg), trivial⟩ | exact trivial)
      (case' hN => rfl)
      (case' hS => rfl)
      all_goals (first | exact Ld | (rfl))
  ·
    obtain rfl : i = n := by omega
    rw [trF_all]
    repeat' (first | ((first | apply Ba | (apply Bb; (· rfl); (· rfl)) | (apply Bc; (· exact nxE)) | (apply Bd; (· rfl); (· rfl); (· exact nxE))); (· first | exact Ok.lenD rfl rfl hlen | exact Ok.pe)) | ((first | apply Ca | (apply Cb; (· exact nxE))); (· first | exact Ok.e0)) | refine Sx ?_ | (refine Sy (fun h => ?_) (fun h => ?_) <;> try (exfalso; omega; done)) | refine Sz (fun h => ?_) (fun h => ?_))
    refine Ya ?_
    (apply Le.headG [] [{ l := ⟨0, []⟩, k := 1, R := TR (tabF i i (tuF f)), src := ⟨1, []⟩, base := ⟨1, []⟩ }] (fun _ => False))
    (case' hlen => rfl)
    (case' hms => rfl)
    all_goals (try dsimp only [srcs])
    (case' hfr | hob => (repeat' (first | refine La ?_ ?_ | exact Lc | refine Lo ?_ | refine ⟨⟨_, rfl, ?_⟩, ?_⟩ | refine Lx ?_)))
    (case' hok => first | exact ⟨MI.ok_same rfl (Cg), trivial⟩ | exact trivial)
    (case' hN => rfl)
    (case' hS => rfl)
    all_goals (first | exact Ld | (rfl))
theorem tuFn_ac (f : Nat → Nat → Int) (n : Nat) (i j : Nat) (hi : i < n) (hj : j < n) : AC Try.prog 194 [I i, I j, Bx 1 0] (heapL (hs1 (TD (tabF n n f)))) (I (tuF f i j)) (heapL (hs1 (TD (tabF n n f)))) := by
  have hRi : (mRows 1 (TR (tabF n n f)))[((j : Nat) : Int).toNat]? = some [.sl 1 (IR (rowF n (f j)))] := TR_get (tabF_get hj)
  have hRf : (IR (rowF n (f j)))[((i : Nat) : Int).toNat]? = some [DI (f j i)] := IRF_get hi
  have hRil : (IR (rowF n (f j))).length = n := by rw [IR_len, rowF_len]
  have hlen : (mRows 1 (TR (tabF n n f))).length = n := by rw [mTR_len, tabF_len]
  refine AC.of_body 1 Try.func194 rfl (fun l h => by simp [heapL, upd] at h; simp [h]) (fun C hC => ?_)
  simp only [startFr, Try.ntmps194, List.length_cons, List.length_nil, Nat.reduceAdd, Nat.reduceSub, List.replicate_succ, List.replicate_zero, List.cons_append, List.nil_append]
  have hD : ∀ l, C.D0 l → l = ⟨0, []⟩ := fun l h => by have := (hC l).1 h; simp [heapL, upd] at this; exact this
  repeat' (first | ((first | apply Ba | (apply Bb; (· rfl); (· rfl)) | (apply Bc; (· exact nxE)) | (apply Bd; (· rfl); (· rfl); (· exact nxE))); (· first | exact Ok.pe)) | ((first | apply Ca | (apply Cb; (· exact nxE))); (· first | exact Ok.e0)) | refine Sx ?_ | (refine Sy (fun h => ?_) (fun h => ?_) <;> try (exfalso; omega; done)) | refine Sz (fun h => ?_) (fun h => ?_))
  (refine end1p (by first | exact .inl rfl | exact .inr rfl) rfl (by first | exact rT rfl | exact rCA rfl rfl rfl rfl (by simp) | exact rCC rfl rfl rfl rfl rfl) ?_ (Le.head ([(⟨0, []⟩, ⟨0, []⟩, ⟨1, [[TL (tabF n n f)]]⟩)]) (by first | exact fun l h => absurd h (hD l) | (intro l h; rcases hD l h with rfl; simp [tauL]) | (intro l h; rcases hD l h with rfl | rfl <;> simp [tauL]; done) | (intro l h; rcases hD l h with rfl | rfl | rfl <;> simp [tauL])) ?_ ?_ (by simp) (by simp) (by simp [AllP]) (n' := 1000)); (· rfl)) <;> (repeat' (first | exact trivial | exact ARs.nil | refine ARs.cons ?_ ?_ | exact AR.dead _ | exact AR.dd _ | exact AR.i (by (try dsimp only); omega) | exact AR.ptr _ _ _ _ (by simp [heapL, upd]) | exact AR.own _ _ _ _ (by simp [heapL, upd]) | refine AR.ownE _ _ _ ?_ (by simp [heapL, upd]) | refine ⟨⟨_, rfl, ?_⟩, ?_⟩ | exact ObA.data | refine ObA.box ?_ | refine ObA.frE ?_ | refine ObA.dataE ?_ | refine ARs.agg ?_ | refine ARs.tup ?_ | exact AR.clo' ARs.nil ARs.nil | exact AR.clo' ARs.nil (hca _ _)))
set_option maxHeartbeats 2000000 in
theorem mbyTu_ac (m n : Nat) (q : Nat) (hmq : m = q) (hnq : n = q) (f : Nat → Nat → Int) (hm : m ≤ 1000) (hn : n ≤ 1000) : AC Try.prog 100 [I m, I n, .clo (.func 194) [] [Bx 1 0]] (heapL [(⟨0, []⟩, ⟨0, []⟩, ⟨1, [[TL (tabF q q f)]]⟩)]) (.own 1 ⟨1, []⟩ 0 m) (heapX [(⟨0, []⟩, ⟨0, []⟩, ⟨1, [[TL (tabF q q f)]]⟩)] [mi1 ⟨1, []⟩ (TR (tabF m n (tuF f)))]) := by
  refine AC.of_body 1 Try.func100 rfl (fun l h => by simp [heapL, upd] at h; (repeat' split at h) <;> simp_all) (fun C hC => ?_)
  simp only [startFr, Try.ntmps100, List.length_cons, List.length_nil, Nat.reduceAdd, Nat.reduceSub, List.replicate_succ, List.replicate_zero, List.cons_append, List.nil_append]
  have hD : ∀ l, C.D0 l → l = ⟨0, []⟩ := fun l h => by have := (hC l).1 h; simp [heapL, upd] at this; (repeat' split at this) <;> simp_all
  repeat' (first | ((first | apply Ba | (apply Bb; (· rfl); (· rfl)) | (apply Bc; (· exact nxE)) | (apply Bd; (· rfl); (· rfl); (· exact nxE))); (· first | exact Ok.pe)) | ((first | apply Ca | (apply Cb; (· exact nxE))); (· first | exact Ok.e0)) | refine Sx ?_ | (refine Sy (fun h => ?_) (fun h => ?_) <;> try (exfalso; omega; done)) | refine Sz (fun h => ?_) (fun h => ?_))
  refine AW.loop (X := {k : Nat // k ≤ m}) (fun k => ⟨[Oo, I n, .clo (.func 194) [] [Bx 1 0], Oo, Oo, Oo, Oo, .own 1 ⟨1, []⟩ 0 m, Oo, Oo, Oo, Oo, Oo, I m, I (k.1 : Nat), Oo, Oo, Oo, Oo, Oo, Oo, Oo, Oo, Oo, Oo, Oo, Oo, Oo, Oo, Oo, Oo, Oo, Oo, Oo, Oo, Oo, Oo, Oo, Oo, Oo, Oo, Oo, Oo], heapX [(⟨0, []⟩, ⟨0, []⟩, ⟨1, [[TL (tabF q q f)]]⟩)] [{ l := ⟨1, []⟩, k := 1, R := TR (tabF k.1 n (mixF (tuF f) zz k.1 0)), nils := m - k.1, src := ⟨1, []⟩, base := ⟨1, []⟩ }], 900⟩) (fun k => m - k.1) ⟨0, Nat.zero_le _⟩ ?_ (fun k => ?_)
  ·
    (apply Le.headG [_] [{ l := ⟨1, []⟩, k := 1, R := [], nils := m, src := ⟨3, []⟩, base := ⟨3, []⟩ }] (fun _ => False))
    (case' hlen => rfl)
    (case' hms => rfl)
    all_goals (try dsimp only [srcs])
    (case' hfr | hob => (repeat' (first | refine La ?_ ?_ | exact Lc | refine Lo ?_ | refine ⟨⟨_, rfl, ?_⟩, ?_⟩ | refine Lx ?_)))
    (case' hok => first | exact ⟨MI.ok_make rfl, trivial⟩ | exact trivial)
    (case' hN => rfl)
    (case' hS => rfl)
    all_goals (first | exact Ld | (rfl))
  obtain ⟨i, hi⟩ := k
  simp only
  by_cases hlt : i < m
  ·
    have hti : (TR (tabF i n (mixF (tuF f) zz i 0))).length = i := by rw [TR_len, tabF_len]
    rw [show m - i = (m - (i + 1)) + 1 by omega]
    repeat' (first | ((first | apply Ba | (apply Bb; (· rfl); (· rfl)) | (apply Bc; (· exact nxE)) | (apply Bd; (· rfl); (· rfl); (· exact nxE))); (· first | exact OpOk.loadCell rfl rfl rfl rfl (set_at (by simp only [outer_len]; rw [hti]; omega)) rfl | exact Ok.stT rfl rfl rfl (by dsimp only; rw [hti]; omega) rfl | exact Ok.pe)) | ((first | apply Ca | (apply Cb; (· exact nxE))); (· first | exact Ok.stT rfl rfl rfl (by dsimp only; rw [hti]; omega) rfl | exact Ok.e0)) | refine Sx ?_ | (refine Sy (fun h => ?_) (fun h => ?_) <;> try (exfalso; omega; done)) | refine Sz (fun h => ?_) (fun h => ?_))
    refine AW.loop (X := {k : Nat // k ≤ n}) (fun k => ⟨[Oo, I n, .clo (.func 194) [] [Bx 1 0], Oo, Oo, Oo, Oo, .own 1 ⟨1, []⟩ 0 m, I i, Oo, Oo, Oo, Oo, I m, I i, Oo, Oo, Oo, Oo, Oo, Oo, Oo, Oo, Oo, Oo, Oo, I n, I (k.1 : Nat), Oo, Oo, Oo, Oo, Oo, Oo, Oo, Oo, Oo, Oo, Oo, Oo, Oo, Oo, Oo], heapX [(⟨0, []⟩, ⟨0, []⟩, ⟨1, [[TL (tabF q q f)]]⟩)] [{ l := ⟨1, []⟩, k := 1, R := TR (tabF (i + 1) n (mixF (tuF f) zz i k.1)), nils := m - (i + 1), src := ⟨1, []⟩, base := ⟨1, []⟩ }], 900⟩) (fun k => n - k.1) ⟨0, Nat.zero_le _⟩ ?_ (fun k => ?_)
    ·
      (apply Le.headG [_] [{ l := ⟨1, []⟩, k := 1, R := TR (tabF (i + 1) n (mixF (tuF f) zz i 0)), nils := m - (i + 1), src := ⟨1, []⟩, base := ⟨1, []⟩, cut := i, ext := some ⟨906, []⟩ }] (fun _ => False))
      (case' hlen => rfl)
      (case' hms => rfl)
      all_goals (try dsimp only [srcs])
      (case' hfr | hob => (repeat' (first | refine La ?_ ?_ | exact Lc | refine Lo ?_ | refine ⟨⟨_, rfl, ?_⟩, ?_⟩ | refine Lx ?_)))
      (case' hok => first | exact ⟨MI.ok_fill (r := List.replicate n [DI 0]) zz_snoc hti (by simp) rfl (Cg) rfl, trivial⟩ | exact trivial)
      (case' hN => rfl)
      (case' hS => rfl)
      all_goals (first | exact Ld | ((first | (simp [AllP, TR_len, tabF_len]; done) | (simp [AllP, TR_len, tabF_len]; omega))))
    obtain ⟨j, hj⟩ := k
    simp only
    by_cases hlt2 : j < n
    ·
      have hrw := TRF_get (n := n) (f := (mixF (tuF f) zz i j)) (show i < i + 1 by omega)
      have hlr : (IR (rowF n ((mixF (tuF f) zz i j) i))).length = n := by rw [IR_len, rowF_len]
      repeat' (first | ((first | apply Ba | (apply Bb; (· rfl); (· rfl)) | (apply Bc; (· exact nxE)) | (apply Bd; (· rfl); (· rfl); (· exact nxE))); (· first | exact Ok.ldTn rfl rfl rfl hrw hlr | exact OpOk.callS ([(⟨0, []⟩, ⟨0, []⟩, ⟨1, [[TL (tabF q q f)]]⟩)]) rfl rfl (tuFn_ac f q i j (by omega) (by omega)) (by intro p hp; simp only [List.mem_cons, List.not_mem_nil, or_false] at hp; rcases hp with rfl <;> rfl) hs1_ok (.d _) (.cons (.dd _) (.cons (.dd _) (.cons (AR.ptr _ _ _ _ (by simp)) .nil))) | exact Ok.st1 rfl rfl (congrArg (Option.map (dobj 1)) hrw) (by simp [rowF_len]; omega) (by rw [IRF_get hlt2]; rfl) rfl rfl IR_set | exact Ok.pe)) | ((first | apply Ca | (apply Cb; (· exact nxE))); (· first | exact Ok.st1 rfl rfl (congrArg (Option.map (dobj 1)) hrw) (by simp [rowF_len]; omega) (by rw [IRF_get hlt2]; rfl) rfl rfl IR_set | exact Ok.e0)) | refine Sx ?_ | (refine Sy (fun h => ?_) (fun h => ?_) <;> try (exfalso; omega; done)) | refine Sz (fun h => ?_) (fun h => ?_))
      refine ⟨⟨j + 1, by omega⟩, ?_, by simp only; omega⟩
      (apply Le.headG [_] [{ l := ⟨1, []⟩, k := 1, R := TR (tabF (i + 1) n (mixF (tuF f) zz i (j + 1))), nils := m - (i + 1), src := ⟨1, []⟩, base := ⟨1, []⟩ }] (fun _ => False))
      (case' hlen => rfl)
      (case' hms => rfl)
      all_goals (try dsimp only [srcs])
      (case' hfr | hob => (repeat' (first | refine La ?_ ?_ | exact Lc | refine Lo ?_ | refine ⟨⟨_, rfl, ?_⟩, ?_⟩ | refine Lx ?_)))
      (case' hok => first | exact ⟨MI.ok_row (tabF_set (fun a b _ _ => mixF_set)) hrw (by simp) rfl (Cg), trivial⟩ | exact trivial)
      (case' hN => rfl)
      (case' hS => rfl)
      all_goals (first | exact Ld | (rfl))
    ·
      have hjn : j = n := by omega
      subst hjn
      rw [mixF_row]
      repeat' (first | ((first | apply Ba | (apply Bb; (· rfl); (· rfl)) | (apply Bc; (· exact nxE)) | (apply Bd; (· rfl); (· rfl); (· exact nxE))); (· first | exact Ok.pe)) | ((first | apply Ca | (apply Cb; (· exact nxE))); (· first | exact Ok.e0)) | refine Sx ?_ | (refine Sy (fun h => ?_) (fun h => ?_) <;> try (exfalso; omega; done)) | refine Sz (fun h => ?_) (fun h => ?_))
      refine ⟨⟨i + 1, by omega⟩, ?_, by simp only; omega⟩
      (apply Le.headG [_] [{ l := ⟨1, []⟩, k := 1, R := TR (tabF (i + 1) j (mixF (tuF f) zz (i + 1) 0)), nils := m - (i + 1), src := ⟨1, []⟩, base := ⟨1, []⟩ }] (fun _ => False))
      (case' hlen => rfl)
      (case' hms => rfl)
      all_goals (try dsimp only [srcs])
      (case' hfr | hob => (repeat' (first | refine La ?_ ?_ | exact Lc | refine Lo ?_ | refine ⟨⟨_, rfl, ?_⟩, ?_⟩ | refine Lx ?_)))
      (case' hok => first | exact ⟨MI.ok_same rfl (Cg), trivial⟩ | exact trivial)
      (case' hN => rfl)
      (case' hS => rfl)
      all_goals (first | exact Ld | (rfl))
  ·
    have him : i = m := by omega
    subst him
    rw [Nat.sub_self, mixF_all]
    repeat' (first | ((first | apply Ba | (apply Bb; (· rfl); (· rfl)) | (apply Bc; (· exact nxE)) | (apply Bd; (· rfl); (· rfl); (· exact nxE))); (· first | exact Ok.pe)) | ((first | apply Ca | (apply Cb; (· exact nxE))); (· first | exact Ok.e0)) | refine Sx ?_ | (refine Sy (fun h => ?_) (fun h => ?_) <;> try (exfalso; omega; done)) | refine Sz (fun h => ?_) (fun h => ?_))
    refine Ya ?_
    (apply Le.headG [⟨0, []⟩] [mi1 ⟨1, []⟩ (TR (tabF i n (tuF f)))] (fun _ => False))
    (case' hlen => rfl)
    (case' hms => rfl)
    all_goals (try dsimp only [srcs])
    (case' hfr | hob => (repeat' (first | refine La ?_ ?_ | exact Lc | refine Lo ?_ | refine ⟨⟨_, rfl, ?_⟩, ?_⟩ | refine Lx ?_)))
    (case' hok => first | exact ⟨MI.ok_same rfl (Cg), trivial⟩ | exact trivial)
    (case' hN => rfl)
    (case' hS => rfl)
    all_goals (first | exact Ld | (rfl))
set_option maxHeartbeats 1000000 in
theorem transposed_ac (f : Nat → Nat → Int) (n : Nat) (h0 : 0 < n) (hn : n ≤ 1000) : AC Try.prog 157 [TL (tabF n n f)] H0 (own1 1 n) (hpM 1 (TR (tabF n n (tuF f)))) := by
  have hlen : (mRows 1 (TR (tabF n n f))).length = n := by rw [mTR_len, tabF_len]
  have hR0 : (mRows 1 (TR (tabF n n f)))[(0 : Int).toNat]? = some [.sl 1 (IR (rowF n (f 0)))] := TR_get (tabF_get h0)
  have hR0l : (IR (rowF n (f 0))).length = n := by rw [IR_len, rowF_len]
  have hF := mbyTu_ac n n n rfl rfl f hn hn
  refine AC.of_body 0 Try.func157 rfl (fun l h => absurd rfl h) (fun C hC => ?_)
  have hD : ∀ l, ¬ C.D0 l := fun l h => (hC l).1 h rfl
  simp only [startFr, Try.ntmps157, List.length_cons, List.length_nil, Nat.reduceAdd, Nat.reduceSub, List.replicate_succ, List.replicate_zero, List.cons_append, List.nil_append]
  repeat' (first | ((first | apply Ba | (apply Bb; (· rfl); (· rfl)) | (apply Bc; (· exact nxE)) | (apply Bd; (· rfl); (· rfl); (· exact nxE))); (· first | exact Ok.lenD rfl rfl hlen | exact Ok.lenD rfl rfl hR0l | exact OpOk.callSX (hs1 (TD (tabF n n f))) [mi1 ⟨1, []⟩ (TR (tabF n n (tuF f)))] rfl rfl hF (by intro p hp; simp only [List.mem_cons, List.not_mem_nil, or_false] at hp; rcases hp with rfl; rfl) hs1_ok (by simp [Loc.cov]) (.cons (.dd _) (.cons (.dd _) (.cons (AR.clo' .nil (.cons (AR.ptr _ _ _ _ (by simp)) .nil)) .nil))) (by simp [rn, emb]; rfl) | exact Ok.pe)) | ((first | apply Ca | (apply Cb; (· exact nxE))); (· first | exact OpOk.callSX (hs1 (TD (tabF n n f))) [mi1 ⟨1, []⟩ (TR (tabF n n (tuF f)))] rfl rfl hF (by intro p hp; simp only [List.mem_cons, List.not_mem_nil, or_false] at hp; rcases hp with rfl; rfl) hs1_ok (by simp [Loc.cov]) (.cons (.dd _) (.cons (.dd _) (.cons (AR.clo' .nil (.cons (AR.ptr _ _ _ _ (by simp)) .nil)) .nil))) (by simp [rn, emb]; rfl) | exact Ok.e0)) | refine Sx ?_ | (refine Sy (fun h => ?_) (fun h => ?_) <;> try (exfalso; omega; done)) | refine Sz (fun h => ?_) (fun h => ?_))
  refine Ya ?_
  (apply Le.headG [] [{ l := ⟨0, []⟩, k := 1, R := TR (tabF n n (tuF f)), src := ⟨9, [1]⟩, base := ⟨9, [1]⟩ }] (fun _ => False))
  (case' hlen => rfl)
  (case' hms => rfl)
  all_goals (try dsimp only [srcs])
  (case' hfr | hob => (repeat' (first | refine La ?_ ?_ | exact Lc | refine Lo ?_ | refine ⟨⟨_, rfl, ?_⟩, ?_⟩ | refine Lx ?_)))
  (case' hok => first | exact ⟨MI.ok_same rfl (Cg), trivial⟩ | exact trivial)
  (case' hN => rfl)
  (case' hS => rfl)
  all_goals (first | exact Ld | (rfl))
/-- The column of the star that belongs to a node. -/
noncomputable def coL (t : List (List Int)) (n : Nat) (r : Int × Int) (v : Nat) : List Int := rowF n (tuF (starF (entN (shT t n r.1 r.2)) n) v)
set_option maxHeartbeats 2000000 in
theorem starColumn_ac (t : List (List Int)) (n : Nat) (hM : MatOk t n) (p q : Int) (hp : -10000000 ≤ p ∧ p ≤ 10000000) (hq : 0 < q ∧ q ≤ 10) (hst : StarM (shT t n p q) n) (v : Nat) (hv : v < n) : AC Try.prog 81 [TL t, .agg [I p, I q], I v] H0 (own1 1 (coL t n (p, q) v).length) (hp1 (IO (coL t n (p, q) v))) := by
  have hn := hM.le
  have h0 := hM.pos
  have hSh := (shifted_ac t n hM p q hp hq).frzT (by rw [TR_len]; exact shT_sq.l)
  have hSt := (starOf_ac (shT t n p q) n hst).frzT2 (by rw [TR_len, tabF_len])
  unfold coL
  simp only
  rw [rowF_len]
  generalize shT t n p q = b at *
  generalize starF (entN b) n = s at *
  have hTu := transposed_ac s n (by omega) (by omega)
  have hrv : (TR (tabF n n (tuF s)))[v]? = some (IR (rowF n (tuF s v))) := TRF_get hv
  have hrl : (IR (rowF n (tuF s v))).length = n := by rw [IR_len, rowF_len]
  refine AC.of_body 0 Try.func81 rfl (fun l h => absurd rfl h) (fun C hC => ?_)
  have hD : ∀ l, ¬ C.D0 l := fun l h => (hC l).1 h rfl
  simp only [startFr, Try.ntmps81, List.length_cons, List.length_nil, Nat.reduceAdd, Nat.reduceSub, List.replicate_succ, List.replicate_zero, List.cons_append, List.nil_append]
  repeat' (first | ((first | apply Ba | (apply Bb; (· rfl); (· rfl)) | (apply Bc; (· exact nxE)) | (apply Bd; (· rfl); (· rfl); (· exact nxE))); (· first | exact Kz rfl rfl (hSh) (Ad (Aa (Ad (Ad An)) An)) | exact Kz rfl rfl (hSt) (Ad An) | exact Ok.ldTn rfl rfl rfl hrv hrl | exact Tb rfl rfl (hTu) (Sd Sn) | exact Ok.pe)) | ((first | apply Ca | (apply Cb; (· exact nxE))); (· first | exact Tb rfl rfl (hTu) (Sd Sn) | exact Ok.e0)) | refine Sx ?_ | (refine Sy (fun h => ?_) (fun h => ?_) <;> try (exfalso; omega; done)) | refine Sz (fun h => ?_) (fun h => ?_))
  refine Ya ?_
  (apply Le.head [(⟨0, []⟩, Loc.at ⟨12, [0]⟩ v, IO (rowF n (tuF s v)))])
  (case' hfr | hob => (repeat' (first | refine La ?_ ?_ | exact Lc | refine Lo ?_ | refine ⟨⟨_, rfl, ?_⟩, ?_⟩ | refine Lx ?_)))
  all_goals (first | exact Ld | (exact ⟨⟨_, congrArg (Option.map (dobj 1)) hrv, ObA.data⟩, trivial⟩))
end Go.Proofs.Ytikadoicplnkgaa
end

section
namespace Go.Proofs.Ytikadoicplnkgaa
set_option linter.unusedSimpArgs false
set_option linter.unusedVariables false
open Go Go.RowKit
attribute [local irreducible] AL AD AW OpOk Le AC thenQ blockQ EndQ

theorem cm_ok {t : List (List Int)} (h : cmC t = 0) : isSq t = true ∧ hasK (entN t) t.length ∧ isRt (kmR (entN t) t.length) = true ∧ cmR t = kmR (entN t) t.length ∧ bmC t = 0 := by
  unfold cmC at h
  unfold cmR
  rcases bmC_cases t with ⟨e, hs⟩ | ⟨hs, hc, e⟩ | ⟨hs, hc, e⟩
  · rw [e, if_neg (by decide)] at h; exact absurd h (by decide)
  · rw [e, if_pos rfl] at h ⊢
    unfold rtC at h
    unfold rtR
    by_cases hi : isRt (kmR (entN t) t.length) = true
    · rw [if_pos hi]; exact ⟨hs, hc, hi, rfl, rfl⟩
    · rw [if_neg hi] at h; exact absurd h (by decide)
  · rw [e, if_neg (by decide)] at h; exact absurd h (by decide)
theorem cm_no {t : List (List Int)} (h : cmC t ≠ 0) : cmR t = (0, 0) := by
  unfold cmC at h
  unfold cmR
  rcases bmC_cases t with ⟨e, hs⟩ | ⟨hs, hc, e⟩ | ⟨hs, hc, e⟩
  · rw [e, if_neg (by decide)]
  · rw [e, if_pos rfl] at h ⊢
    unfold rtC at h
    unfold rtR
    by_cases hi : isRt (kmR (entN t) t.length) = true
    · rw [if_pos hi] at h; exact absurd rfl h
    · rw [if_neg hi]
  · rw [e, if_neg (by decide)]
/-- The eigenvector. -/
noncomputable def evL (t : List (List Int)) : List Int := coL t t.length (kmR (entN t) t.length) (hdN (bkF t t.length (kmR (entN t) t.length) (-1)))
noncomputable def evC (t : List (List Int)) : Int := if cmC t = 0 then (if (evL t).all isVal = true then 0 else 3) else cmC t
noncomputable def evR (t : List (List Int)) : Int × Int := if evC t = 0 then kmR (entN t) t.length else (0, 0)
noncomputable def evX (t : List (List Int)) : List Int := if evC t = 0 then evL t else []
theorem coL_len {t : List (List Int)} {n : Nat} {r : Int × Int} {v : Nat} : (coL t n r v).length = n := rowF_len
theorem isVec_all {x : List Int} {n : Nat} (h : x.length = n) (h1 : 1 ≤ n) (h2 : n ≤ 10) : isVec x = x.all isVal := by
  unfold isVec
  rw [wi_iff.2 (by omega), Bool.true_and]
set_option maxHeartbeats 2000000 in
theorem sEigenVector_ac (t : List (List Int)) (ht : t.length ≤ 100000000) (hr : ∀ r ∈ t, r.length ≤ 100000000) : AC Try.prog 21 [TL t] H0 (.tup [IL (evX t), .agg [I (evR t).1, I (evR t).2], I (evC t)]) H0 := by
  have hCm := sCycleMean_ac t ht hr
  unfold evX evR
  by_cases hz : cmC t = 0
  case neg =>
    have e : evC t = cmC t := by unfold evC; rw [if_neg hz]
    rw [e, if_neg hz, if_neg hz]
    rw [cm_no hz] at hCm
    generalize cmC t = c at *
    refine AC.of_body 0 Try.func21 rfl (fun l h => absurd rfl h) (fun C hC => ?_)
    have hD : ∀ l, ¬ C.D0 l := fun l h => (hC l).1 h rfl
    simp only [startFr, Try.ntmps21, List.length_cons, List.length_nil, Nat.reduceAdd, Nat.reduceSub, List.replicate_succ, List.replicate_zero, List.cons_append, List.nil_append]
    repeat' (first | ((first | apply Ba | (apply Bb; (· rfl); (· rfl)) | (apply Bc; (· exact nxE)) | (apply Bd; (· rfl); (· rfl); (· exact nxE))); (· first | exact Kz rfl rfl (hCm) (Ad An) | exact Ok.pe)) | ((first | apply Ca | (apply Cb; (· exact nxE))); (· first | exact Ok.e0)) | refine Sx ?_ | (refine Sy (fun h => ?_) (fun h => ?_) <;> try (exfalso; omega; done)) | refine Sz (fun h => ?_) (fun h => ?_))
    refine Yc ?_
    (apply Le.headZ (hs := []) [] rfl)
    all_goals (try dsimp only [srcs])
    (case' hfr => (repeat' (first | refine La ?_ ?_ | exact Lc | refine Lo ?_ | refine ⟨⟨_, rfl, ?_⟩, ?_⟩ | refine Lx ?_)))
    all_goals (first | exact Ld | exact trivial | (rfl))
  obtain ⟨hs, hc, _, hm, _⟩ := cm_ok hz
  have hMt := isSq_ok hs
  obtain ⟨f, r, e1, hcy, e2⟩ := best_ne hMt.b hMt.le hc
  obtain ⟨h1, h2, h3, h4⟩ := kmR_ok hMt.b hMt.le hc
  have hst := starM_k hMt hc
  have hB := l04Best_yes t t.length hMt hc
  have e3 : bkF t t.length (kmR (entN t) t.length) (-1) = f :: r := e1
  have hSh := (l04Shift_ac t t.length hMt (kmR (entN t) t.length).1 (kmR (entN t) t.length).2 h3 h4).frzT (by rw [TR_len]; exact shT_sq.l)
  have hSt := (l03Star_ac (shT t t.length (kmR (entN t) t.length).1 (kmR (entN t) t.length).2) t.length hst).frzT2 (by rw [TR_len, tabF_len])
  have hTu := (l02Turn_ac (starF (entN (shT t t.length (kmR (entN t) t.length).1 (kmR (entN t) t.length).2)) t.length) t.length hMt.pos (by have := hMt.le; omega)).frzT (by rw [TR_len, tabF_len])
  have hrow : (mRows 1 (TR (tabF t.length t.length (tuF (starF (entN (shT t t.length (kmR (entN t) t.length).1 (kmR (entN t) t.length).2)) t.length)))))[((f : Nat) : Int).toNat]? = some [.sl 1 (IR (evL t))] := by
    unfold evL
    rw [e3]
    exact TR_get (tabF_get hcy.lt)
  have hel : (evL t).length = t.length := coL_len
  have hV := l02Vector_ac (evL t) (by omega)
  rw [isVec_all hel hMt.pos hMt.le] at hV
  have hec : evC t = if (evL t).all isVal = true then 0 else 3 := by unfold evC; rw [if_pos hz]
  rw [e3] at hB
  rw [hz, hm] at hCm
  rw [hec]
  have hf0 : (IR (cN (f :: r)))[(0 : Int).toNat]? = some [DI (f : Nat)] := rfl
  have htl2 : (mRows 1 (TR (tabF t.length t.length (tuF (starF (entN (shT t t.length (kmR (entN t) t.length).1 (kmR (entN t) t.length).2)) t.length))))).length = t.length := by rw [mTR_len, tabF_len]
  clear hst h1 h2 h3 h4 e1 e2 hcy hMt hm hec
  generalize tuF (starF (entN (shT t t.length (kmR (entN t) t.length).1 (kmR (entN t) t.length).2)) t.length) = tu at *
  generalize starF (entN (shT t t.length (kmR (entN t) t.length).1 (kmR (entN t) t.length).2)) t.length = s at *
  generalize shT t t.length (kmR (entN t) t.length).1 (kmR (entN t) t.length).2 = b at *
  generalize kmR (entN t) t.length = m at *
  generalize f :: r = c at *
  cases hall : (evL t).all isVal
  · rw [hall] at hV
    simp only [Bool.false_eq_true, if_false, show ((3 : Int) = 0) = False by simp]
    generalize evL t = x at *
    refine AC.of_body 0 Try.func21 rfl (fun l h => absurd rfl h) (fun C hC => ?_)
    have hD : ∀ l, ¬ C.D0 l := fun l h => (hC l).1 h rfl
    simp only [startFr, Try.ntmps21, List.length_cons, List.length_nil, Nat.reduceAdd, Nat.reduceSub, List.replicate_succ, List.replicate_zero, List.cons_append, List.nil_append]
    repeat' (first | ((first | apply Ba | (apply Bb; (· rfl); (· rfl)) | (apply Bc; (· exact nxE)) | (apply Bd; (· rfl); (· rfl); (· exact nxE))); (· first | exact Kz rfl rfl (hCm) (Ad An) | exact Kz rfl rfl (hB) (Ad An) | exact Kz rfl rfl (hSh) (Ad (Aa (Ad (Ad An)) An)) | exact Kz rfl rfl (hSt) (Ad An) | exact Kz rfl rfl (hTu) (Ad An) | exact Kz rfl rfl (hV) (Ad An) | exact Ok.pe)) | ((first | apply Ca | (apply Cb; (· exact nxE))); (· first | exact Ok.e0)) | refine Sx ?_ | (refine Sy (fun h => ?_) (fun h => ?_) <;> try (exfalso; omega; done)) | refine Sz (fun h => ?_) (fun h => ?_))
    refine Yc ?_
    (apply Le.headZ (hs := []) [] rfl)
    all_goals (try dsimp only [srcs])
    (case' hfr => (repeat' (first | refine La ?_ ?_ | exact Lc | refine Lo ?_ | refine ⟨⟨_, rfl, ?_⟩, ?_⟩ | refine Lx ?_)))
    all_goals (first | exact Ld | exact trivial | (rfl))
  · rw [hall] at hV
    simp only [if_true]
    generalize evL t = x at *
    refine AC.of_body 0 Try.func21 rfl (fun l h => absurd rfl h) (fun C hC => ?_)
    have hD : ∀ l, ¬ C.D0 l := fun l h => (hC l).1 h rfl
    simp only [startFr, Try.ntmps21, List.length_cons, List.length_nil, Nat.reduceAdd, Nat.reduceSub, List.replicate_succ, List.replicate_zero, List.cons_append, List.nil_append]
    repeat' (first | ((first | apply Ba | (apply Bb; (· rfl); (· rfl)) | (apply Bc; (· exact nxE)) | (apply Bd; (· rfl); (· rfl); (· exact nxE))); (· first | exact Kz rfl rfl (hCm) (Ad An) | exact Kz rfl rfl (hB) (Ad An) | exact Kz rfl rfl (hSh) (Ad (Aa (Ad (Ad An)) An)) | exact Kz rfl rfl (hSt) (Ad An) | exact Kz rfl rfl (hTu) (Ad An) | exact Kz rfl rfl (hV) (Ad An) | exact Ok.pe)) | ((first | apply Ca | (apply Cb; (· exact nxE))); (· first | exact Ok.e0)) | refine Sx ?_ | (refine Sy (fun h => ?_) (fun h => ?_) <;> try (exfalso; omega; done)) | refine Sz (fun h => ?_) (fun h => ?_))
    refine Yc ?_
    (apply Le.headZ (hs := []) [] rfl)
    all_goals (try dsimp only [srcs])
    (case' hfr => (repeat' (first | refine La ?_ ?_ | exact Lc | refine Lo ?_ | refine ⟨⟨_, rfl, ?_⟩, ?_⟩ | refine Lx ?_)))
    all_goals (first | exact Ld | exact trivial | (rfl))
set_option maxHeartbeats 2000000 in
theorem iEigenVector_ac (t : List (List Int)) (ht : t.length ≤ 100000000) (hr : ∀ r ∈ t, r.length ≤ 100000000) : AC Try.prog 22 [TL t] H0 (.tup [own1 1 (evX t).length, .agg [I (evR t).1, I (evR t).2], I (evC t)]) (hp1 (IO (evX t))) := by
  have hQ := iIsSquare_ac t ht hr
  unfold evX evR
  rcases bmC_cases t with ⟨e, hs⟩ | ⟨hs, hc, e⟩ | ⟨hs, hc, e⟩
  · have ec : evC t = 1 := by
      have e2 : cmC t = 1 := by unfold cmC; rw [e, if_neg (by decide)]
      unfold evC; rw [e2, if_neg (by decide)]
    rw [ec, if_neg (by decide), if_neg (by decide)]
    rw [hs] at hQ
    refine AC.of_body 0 Try.func22 rfl (fun l h => absurd rfl h) (fun C hC => ?_)
    have hD : ∀ l, ¬ C.D0 l := fun l h => (hC l).1 h rfl
    simp only [startFr, Try.ntmps22, List.length_cons, List.length_nil, Nat.reduceAdd, Nat.reduceSub, List.replicate_succ, List.replicate_zero, List.cons_append, List.nil_append]
    repeat' (first | ((first | apply Ba | (apply Bb; (· rfl); (· rfl)) | (apply Bc; (· exact nxE)) | (apply Bd; (· rfl); (· rfl); (· exact nxE))); (· first | exact Kz rfl rfl (hQ) (Ad An) | exact Ok.pe)) | ((first | apply Ca | (apply Cb; (· exact nxE))); (· first | exact Ok.e0)) | refine Sx ?_ | (refine Sy (fun h => ?_) (fun h => ?_) <;> try (exfalso; omega; done)) | refine Sz (fun h => ?_) (fun h => ?_))
    exact end3nilS (ds := [DI 0, DI 0]) (.inl rfl) rfl (rT rfl) (by first | exact rT rfl | exact rCA rfl rfl rfl rfl (by simp) | exact rCC rfl rfl rfl rfl rfl) (by rfl) (rT rfl) hD
  · rw [hs] at hQ
    have hMt := isSq_ok hs
    have hCm := cycleMean_ac t t.length hMt
    rw [kmR_get hMt hc] at hCm
    simp only [Option.getD, Option.isSome] at hCm
    obtain ⟨f, r, e1, hcy, e2⟩ := best_ne hMt.b hMt.le hc
    obtain ⟨h1, h2, h3, h4⟩ := kmR_ok hMt.b hMt.le hc
    have hB := bestCycle_ac t t.length hMt hc
    have e3 : bkF t t.length (kmR (entN t) t.length) (-1) = f :: r := e1
    have hSc := starColumn_ac t t.length hMt (kmR (entN t) t.length).1 (kmR (entN t) t.length).2 h3 h4 (starM_k hMt hc) f hcy.lt
    have hev : coL t t.length ((kmR (entN t) t.length).1, (kmR (entN t) t.length).2) f = evL t := by unfold evL; rw [e3]; rfl
    rw [hev] at hSc
    have hel : (evL t).length = t.length := coL_len
    have hA := areValues_ac (evL t) (by omega)
    have hRt := iIsRatioZ_ac _ (kmR_rt hMt hc)
    have hec : evC t = if isRt (kmR (entN t) t.length) = true then (if (evL t).all isVal = true then 0 else 3) else 3 := by
      unfold evC cmC rtC
      rw [e, if_pos rfl]
      by_cases hi : isRt (kmR (entN t) t.length) = true
      · rw [if_pos hi, if_pos rfl, if_pos hi]
      · rw [if_neg hi, if_neg (by decide), if_neg hi]
    rw [e3, show (f :: r).length = (cN (f :: r)).length by simp] at hB
    rw [hec]
    have hf0 : (IR (cN (f :: r)))[(0 : Int).toNat]? = some [DI (f : Nat)] := rfl
    have hfl : 0 < (cN (f :: r)).length := by simp
    clear h1 h2 h3 h4 e1 e2 e3 hcy hMt hec hev
    generalize kmR (entN t) t.length = m at *
    generalize cN (f :: r) = c at *
    have k3 : ((3 : Int) = 0) = False := by simp
    have kt : (true = true) = True := by simp
    cases hall : (evL t).all isVal
    · rw [hall] at hA
      simp only [Bool.false_eq_true, if_false, ite_self, k3]
      generalize evL t = x at *
      refine AC.of_body 0 Try.func22 rfl (fun l h => absurd rfl h) (fun C hC => ?_)
      have hD : ∀ l, ¬ C.D0 l := fun l h => (hC l).1 h rfl
      simp only [startFr, Try.ntmps22, List.length_cons, List.length_nil, Nat.reduceAdd, Nat.reduceSub, List.replicate_succ, List.replicate_zero, List.cons_append, List.nil_append]
      repeat' (first | ((first | apply Ba | (apply Bb; (· rfl); (· rfl)) | (apply Bc; (· exact nxE)) | (apply Bd; (· rfl); (· rfl); (· exact nxE))); (· first | exact Kz rfl rfl (hQ) (Ad An) | exact Kz rfl rfl (hCm) (Ad An) | exact Ez rfl rfl (hA) (Sw Sn) | exact Ok.ld1 rfl rfl rfl hf0 | exact Eo rfl rfl (hB) (Sd (Sa (Sd (Sd Sn)) Sn)) | exact Eo rfl rfl (hSc) (Sd (Sa (Sd (Sd Sn)) (Sd Sn))) | exact Ok.pe)) | ((first | apply Ca | (apply Cb; (· exact nxE))); (· first | exact Eo rfl rfl (hB) (Sd (Sa (Sd (Sd Sn)) Sn)) | exact Eo rfl rfl (hSc) (Sd (Sa (Sd (Sd Sn)) (Sd Sn))) | exact Ok.e0)) | refine Sx ?_ | (refine Sy (fun h => ?_) (fun h => ?_) <;> try (exfalso; omega; done)) | refine Sz (fun h => ?_) (fun h => ?_))
      exact end3nilS (ds := [DI 0, DI 0]) (.inl rfl) rfl (rT rfl) (by first | exact rT rfl | exact rCA rfl rfl rfl rfl (by simp) | exact rCC rfl rfl rfl rfl rfl) (by rfl) (rT rfl) hD
    · rw [hall] at hA
      cases hi : isRt m
      · rw [hi] at hRt
        simp only [Bool.false_eq_true, if_false, k3]
        generalize evL t = x at *
        refine AC.of_body 0 Try.func22 rfl (fun l h => absurd rfl h) (fun C hC => ?_)
        have hD : ∀ l, ¬ C.D0 l := fun l h => (hC l).1 h rfl
        simp only [startFr, Try.ntmps22, List.length_cons, List.length_nil, Nat.reduceAdd, Nat.reduceSub, List.replicate_succ, List.replicate_zero, List.cons_append, List.nil_append]
        repeat' (first | ((first | apply Ba | (apply Bb; (· rfl); (· rfl)) | (apply Bc; (· exact nxE)) | (apply Bd; (· rfl); (· rfl); (· exact nxE))); (· first | exact Kz rfl rfl (hQ) (Ad An) | exact Kz rfl rfl (hCm) (Ad An) | exact Ez rfl rfl (hA) (Sw Sn) | exact Ok.ld1 rfl rfl rfl hf0 | exact Kz rfl rfl (hRt) (Aa (Ad (Ad An)) An) | exact Eo rfl rfl (hB) (Sd (Sa (Sd (Sd Sn)) Sn)) | exact Eo rfl rfl (hSc) (Sd (Sa (Sd (Sd Sn)) (Sd Sn))) | exact Ok.pe)) | ((first | apply Ca | (apply Cb; (· exact nxE))); (· first | exact Eo rfl rfl (hB) (Sd (Sa (Sd (Sd Sn)) Sn)) | exact Eo rfl rfl (hSc) (Sd (Sa (Sd (Sd Sn)) (Sd Sn))) | exact Ok.e0)) | refine Sx ?_ | (refine Sy (fun h => ?_) (fun h => ?_) <;> try (exfalso; omega; done)) | refine Sz (fun h => ?_) (fun h => ?_))
        exact end3nilS (ds := [DI 0, DI 0]) (.inl rfl) rfl (rT rfl) (by first | exact rT rfl | exact rCA rfl rfl rfl rfl (by simp) | exact rCC rfl rfl rfl rfl rfl) (by rfl) (rT rfl) hD
      · rw [hi] at hRt
        simp only [kt, if_true, eq_self]
        generalize evL t = x at *
        refine AC.of_body 0 Try.func22 rfl (fun l h => absurd rfl h) (fun C hC => ?_)
        have hD : ∀ l, ¬ C.D0 l := fun l h => (hC l).1 h rfl
        simp only [startFr, Try.ntmps22, List.length_cons, List.length_nil, Nat.reduceAdd, Nat.reduceSub, List.replicate_succ, List.replicate_zero, List.cons_append, List.nil_append]
        repeat' (first | ((first | apply Ba | (apply Bb; (· rfl); (· rfl)) | (apply Bc; (· exact nxE)) | (apply Bd; (· rfl); (· rfl); (· exact nxE))); (· first | exact Kz rfl rfl (hQ) (Ad An) | exact Kz rfl rfl (hCm) (Ad An) | exact Ez rfl rfl (hA) (Sw Sn) | exact Ok.ld1 rfl rfl rfl hf0 | exact Kz rfl rfl (hRt) (Aa (Ad (Ad An)) An) | exact Eo rfl rfl (hB) (Sd (Sa (Sd (Sd Sn)) Sn)) | exact Eo rfl rfl (hSc) (Sd (Sa (Sd (Sd Sn)) (Sd Sn))) | exact Ok.pe)) | ((first | apply Ca | (apply Cb; (· exact nxE))); (· first | exact Eo rfl rfl (hB) (Sd (Sa (Sd (Sd Sn)) Sn)) | exact Eo rfl rfl (hSc) (Sd (Sa (Sd (Sd Sn)) (Sd Sn))) | exact Ok.e0)) | refine Sx ?_ | (refine Sy (fun h => ?_) (fun h => ?_) <;> try (exfalso; omega; done)) | refine Sz (fun h => ?_) (fun h => ?_))
        refine Yc ?_
        (apply Le.head [(⟨0, []⟩, _, _)])
        (case' hfr | hob => (repeat' (first | refine La ?_ ?_ | exact Lc | refine Lo ?_ | refine ⟨⟨_, rfl, ?_⟩, ?_⟩ | refine Lx ?_)))
        all_goals (first | exact Ld | (rfl))
  · have ec : evC t = 4 := by
      have e2 : cmC t = 4 := by unfold cmC; rw [e, if_neg (by decide)]
      unfold evC; rw [e2, if_neg (by decide)]
    rw [ec, if_neg (by decide), if_neg (by decide)]
    rw [hs] at hQ
    have hMt := isSq_ok hs
    have hCm := cycleMean_ac t t.length hMt
    rw [karp_no hMt.b hMt.le hc] at hCm
    simp only [Option.getD, Option.isSome] at hCm
    refine AC.of_body 0 Try.func22 rfl (fun l h => absurd rfl h) (fun C hC => ?_)
    have hD : ∀ l, ¬ C.D0 l := fun l h => (hC l).1 h rfl
    simp only [startFr, Try.ntmps22, List.length_cons, List.length_nil, Nat.reduceAdd, Nat.reduceSub, List.replicate_succ, List.replicate_zero, List.cons_append, List.nil_append]
    repeat' (first | ((first | apply Ba | (apply Bb; (· rfl); (· rfl)) | (apply Bc; (· exact nxE)) | (apply Bd; (· rfl); (· rfl); (· exact nxE))); (· first | exact Kz rfl rfl (hQ) (Ad An) | exact Kz rfl rfl (hCm) (Ad An) | exact Ok.pe)) | ((first | apply Ca | (apply Cb; (· exact nxE))); (· first | exact Ok.e0)) | refine Sx ?_ | (refine Sy (fun h => ?_) (fun h => ?_) <;> try (exfalso; omega; done)) | refine Sz (fun h => ?_) (fun h => ?_))
    exact end3nilS (ds := [DI 0, DI 0]) (.inl rfl) rfl (rT rfl) (by first | exact rT rfl | exact rCA rfl rfl rfl rfl (by simp) | exact rCC rfl rfl rfl rfl rfl) (by rfl) (rT rfl) hD
theorem evX_len {t : List (List Int)} : (evX t).length ≤ 1000 := by
  unfold evX
  split
  · rename_i h
    have hz : cmC t = 0 := by
      unfold evC at h
      by_cases hz : cmC t = 0
      · exact hz
      · rw [if_neg hz] at h; exact absurd h hz
    obtain ⟨hs, _⟩ := cm_ok hz
    have := (isSq_ok hs).le
    have : (evL t).length = t.length := coL_len
    omega
  · simp
end Go.Proofs.Ytikadoicplnkgaa
end

section
namespace Go.Proofs.Ytikadoicplnkgaa
set_option linter.unusedSimpArgs false
set_option linter.unusedVariables false
open Go Go.RowKit
attribute [local irreducible] AL AD AW OpOk Le AC thenQ blockQ EndQ

theorem eqRatio_ac (a b : Int) : AC Try.prog 23 [.agg [I a, I b], .agg [I a, I b]] H0 (Bo true) H0 := by
  refine AC.of_body 0 Try.func23 rfl (fun l h => absurd rfl h) (fun C hC => ?_)
  have hD : ∀ l, ¬ C.D0 l := fun l h => (hC l).1 h rfl
  simp only [startFr, Try.ntmps23, List.length_cons, List.length_nil, Nat.reduceAdd, Nat.reduceSub, List.replicate_succ, List.replicate_zero, List.cons_append, List.nil_append]
  repeat' (first | ((first | apply Ba | (apply Bb; (· rfl); (· rfl)) | (apply Bc; (· exact nxE)) | (apply Bd; (· rfl); (· rfl); (· exact nxE))); (· first | exact Ok.pe)) | ((first | apply Ca | (apply Cb; (· exact nxE))); (· first | exact Ok.e0)) | refine Sx ?_ | (refine Sy (fun h => ?_) (fun h => ?_) <;> try (exfalso; omega; done)) | refine Sz (fun h => ?_) (fun h => ?_))
  refine Ya ?_
  (apply Le.headZ (hs := []) [] rfl)
  all_goals (try dsimp only [srcs])
  (case' hfr => (repeat' (first | refine La ?_ ?_ | exact Lc | refine Lo ?_ | refine ⟨⟨_, rfl, ?_⟩, ?_⟩ | refine Lx ?_)))
  all_goals (first | exact Ld | exact trivial | (rfl))
end Go.Proofs.Ytikadoicplnkgaa
end

section
namespace Go.Proofs.Ytikadoicplnkgaa
open Go Go.RowKit
set_option linter.unusedSimpArgs false
set_option linter.unusedVariables false
attribute [local irreducible] AL AD AW OpOk Le AC thenQ blockQ EndQ

end Go.Proofs.Ytikadoicplnkgaa
end

section
namespace Go.Proofs.Ytikadoicplnkgaa
open Go Go.RowKit
set_option linter.unusedSimpArgs false
set_option linter.unusedVariables false
attribute [local irreducible] AL AD AW OpOk Le AC thenQ blockQ EndQ

end Go.Proofs.Ytikadoicplnkgaa
end

section
namespace Go.Proofs.Ytikadoicplnkgaa
set_option linter.unusedSimpArgs false
set_option linter.unusedVariables false
open Go Go.RowKit
attribute [local irreducible] AL AD AW OpOk Le AC thenQ blockQ EndQ

end Go.Proofs.Ytikadoicplnkgaa
end

section
namespace Go.Proofs.Ytikadoicplnkgaa
set_option linter.unusedSimpArgs false
set_option linter.unusedVariables false
open Go Go.RowKit
attribute [local irreducible] AL AD AW OpOk Le AC thenQ blockQ EndQ

theorem markInts_ac (xs : List Int) (k0 : Int) (hn : xs.length ≤ 10000000) (hk : 0 ≤ k0 ∧ k0 ≤ 10000000000000000) : AC Try.prog 19 [own1 1 xs.length, I k0] (hp1 (IO xs)) (I (k0 + xs.length)) (hp1 (IO (rowF xs.length (mkF k0)))) := by
  have := markInt64S_ac (fun j => (xs[j]?).getD 0) xs.length k0 hn hk
  rwa [rowF_self rfl] at this
end Go.Proofs.Ytikadoicplnkgaa
end

section
namespace Go.Proofs.Ytikadoicplnkgaa
set_option linter.unusedSimpArgs false
set_option linter.unusedVariables false
open Go Go.RowKit
attribute [local irreducible] AL AD AW OpOk Le AC thenQ blockQ EndQ

end Go.Proofs.Ytikadoicplnkgaa
end
