/-
  Walks in the abstract reading, part 12.
-/
import Derived.Test.YtpgcmpbamlnkkaaGreatKeU11
import Derived.Test.YtpgcmpbamlnkkaaGreatKeU5
import Derived.Test.YtpgcmpbamlnkkaaGreatKeU10
import Derived.Test.YtpgcmpbamlnkkaaGreatKeA3
section
namespace Go.Proofs.YtpgcmpbamlnkkaaGreat
set_option linter.unusedSimpArgs false
set_option linter.unusedVariables false
open Go Go.RowKit
attribute [local irreducible] AL AD AW OpOk Le AC thenQ blockQ EndQ

theorem cm_ok {t : List (List Int)} (h : cmC t = 0) : isSq t = true ∧ hasK (entN t) t.length ∧ isRt (kmR (entN t) t.length) = true ∧ cmR t = kmR (entN t) t.length ∧ bmC t = 0 := by
  unfold cmC at h
  unfold cmR
  rcases bmC_cases t with ⟨e, hs⟩ | ⟨hs, hc, e⟩ | ⟨hs, hc, e⟩
  · rw [e, if_neg (by decide)] at h; exact absurd h (by decide)
  · rw [e, if_pos rfl] at h ⊢
    unfold rtC at h
    unfold rtR
    by_cases hi : isRt (kmR (entN t) t.length) = true
    · rw [if_pos hi]; exact ⟨hs, hc, hi, rfl, rfl⟩
    · rw [if_neg hi] at h; exact absurd h (by decide)
  · rw [e, if_neg (by decide)] at h; exact absurd h (by decide)
theorem cm_no {t : List (List Int)} (h : cmC t ≠ 0) : cmR t = (0, 0) := by
  unfold cmC at h
  unfold cmR
  rcases bmC_cases t with ⟨e, hs⟩ | ⟨hs, hc, e⟩ | ⟨hs, hc, e⟩
  · rw [e, if_neg (by decide)]
  · rw [e, if_pos rfl] at h ⊢
    unfold rtC at h
    unfold rtR
    by_cases hi : isRt (kmR (entN t) t.length) = true
    · rw [if_pos hi] at h; exact absurd rfl h
    · rw [if_neg hi]
  · rw [e, if_neg (by decide)]
/-- The eigenvector. -/
noncomputable def evL (t : List (List Int)) : List Int := coL t t.length (kmR (entN t) t.length) (hdN (bkF t t.length (kmR (entN t) t.length) (-1)))
noncomputable def evC (t : List (List Int)) : Int := if cmC t = 0 then (if (evL t).all isVal = true then 0 else 3) else cmC t
noncomputable def evR (t : List (List Int)) : Int × Int := if evC t = 0 then kmR (entN t) t.length else (0, 0)
noncomputable def evX (t : List (List Int)) : List Int := if evC t = 0 then evL t else []
theorem coL_len {t : List (List Int)} {n : Nat} {r : Int × Int} {v : Nat} : (coL t n r v).length = n := rowF_len
theorem isVec_all {x : List Int} {n : Nat} (h : x.length = n) (h1 : 1 ≤ n) (h2 : n ≤ 10) : isVec x = x.all isVal := by
  unfold isVec
  rw [wi_iff.2 (by omega), Bool.true_and]
set_option maxHeartbeats 2000000 in
theorem sEigenVector_ac (t : List (List Int)) (ht : t.length ≤ 100000000) (hr : ∀ r ∈ t, r.length ≤ 100000000) : AC Tryz.prog 35 [TL t] H0 (.tup [IL (evX t), .agg [I (evR t).1, I (evR t).2], I (evC t)]) H0 := by
  have hCm := sCycleMean_ac t ht hr
  unfold evX evR
  by_cases hz : cmC t = 0
  case neg =>
    have e : evC t = cmC t := by unfold evC; rw [if_neg hz]
    rw [e, if_neg hz, if_neg hz]
    rw [cm_no hz] at hCm
    generalize cmC t = c at *
    refine AC.of_body 0 Tryz.func35 rfl (fun l h => absurd rfl h) (fun C hC => ?_)
    have hD : ∀ l, ¬ C.D0 l := fun l h => (hC l).1 h rfl
    simp only [startFr, Tryz.ntmps35, List.length_cons, List.length_nil, Nat.reduceAdd, Nat.reduceSub, List.replicate_succ, List.replicate_zero, List.cons_append, List.nil_append]
    repeat' (first | ((first | apply Ba | (apply Bb; (· rfl); (· rfl)) | (apply Bc; (· exact nxE)) | (apply Bd; (· rfl); (· rfl); (· exact nxE))); (· first | exact Kz rfl rfl (hCm) (Ad An) | exact Ok.pe)) | ((first | apply Ca | (apply Cb; (· exact nxE))); (· first | exact Ok.e0)) | refine Sx ?_ | (refine Sy (fun h => ?_) (fun h => ?_) <;> try (exfalso; omega; done)) | refine Sz (fun h => ?_) (fun h => ?_))
    refine Yc ?_
    (apply Le.headZ (hs := []) [] rfl)
    all_goals (try dsimp only [srcs])
    (case' hfr => (repeat' (first | refine La ?_ ?_ | exact Lc | refine Lo ?_ | refine ⟨⟨_, rfl, ?_⟩, ?_⟩ | refine Lx ?_)))
    all_goals (first | exact Ld | exact trivial | (rfl))
  obtain ⟨hs, hc, _, hm, _⟩ := cm_ok hz
  have hMt := isSq_ok hs
  obtain ⟨f, r, e1, hcy, e2⟩ := best_ne hMt.b hMt.le hc
  obtain ⟨h1, h2, h3, h4⟩ := kmR_ok hMt.b hMt.le hc
  have hst := starM_k hMt hc
  have hB := l04Best_yes t t.length hMt hc
  have e3 : bkF t t.length (kmR (entN t) t.length) (-1) = f :: r := e1
  have hSh := (l04Shift_ac t t.length hMt (kmR (entN t) t.length).1 (kmR (entN t) t.length).2 h3 h4).frzT (by rw [TR_len]; exact shT_sq.l)
  have hSt := (l03Star_ac (shT t t.length (kmR (entN t) t.length).1 (kmR (entN t) t.length).2) t.length hst).frzT2 (by rw [TR_len, tabF_len])
  have hTu := (l02Turn_ac (starF (entN (shT t t.length (kmR (entN t) t.length).1 (kmR (entN t) t.length).2)) t.length) t.length hMt.pos (by have := hMt.le; omega)).frzT (by rw [TR_len, tabF_len])
  have hrow : (mRows 1 (TR (tabF t.length t.length (tuF (starF (entN (shT t t.length (kmR (entN t) t.length).1 (kmR (entN t) t.length).2)) t.length)))))[((f : Nat) : Int).toNat]? = some [.sl 1 (IR (evL t))] := by
    unfold evL
    rw [e3]
    exact TR_get (tabF_get hcy.lt)
  have hel : (evL t).length = t.length := coL_len
  have hV := l02Vector_ac (evL t) (by omega)
  rw [isVec_all hel hMt.pos hMt.le] at hV
  have hec : evC t = if (evL t).all isVal = true then 0 else 3 := by unfold evC; rw [if_pos hz]
  rw [e3] at hB
  rw [hz, hm] at hCm
  rw [hec]
  have hf0 : (IR (cN (f :: r)))[(0 : Int).toNat]? = some [DI (f : Nat)] := rfl
  have htl2 : (mRows 1 (TR (tabF t.length t.length (tuF (starF (entN (shT t t.length (kmR (entN t) t.length).1 (kmR (entN t) t.length).2)) t.length))))).length = t.length := by rw [mTR_len, tabF_len]
  clear hst h1 h2 h3 h4 e1 e2 hcy hMt hm hec
  generalize tuF (starF (entN (shT t t.length (kmR (entN t) t.length).1 (kmR (entN t) t.length).2)) t.length) = tu at *
  generalize starF (entN (shT t t.length (kmR (entN t) t.length).1 (kmR (entN t) t.length).2)) t.length = s at *
  generalize shT t t.length (kmR (entN t) t.length).1 (kmR (entN t) t.length).2 = b at *
  generalize kmR (entN t) t.length = m at *
  generalize f :: r = c at *
  cases hall : (evL t).all isVal
  · rw [hall] at hV
    simp only [Bool.false_eq_true, if_false, show ((3 : Int) = 0) = False by simp]
    generalize evL t = x at *
    refine AC.of_body 0 Tryz.func35 rfl (fun l h => absurd rfl h) (fun C hC => ?_)
    have hD : ∀ l, ¬ C.D0 l := fun l h => (hC l).1 h rfl
    simp only [startFr, Tryz.ntmps35, List.length_cons, List.length_nil, Nat.reduceAdd, Nat.reduceSub, List.replicate_succ, List.replicate_zero, List.cons_append, List.nil_append]
    repeat' (first | ((first | apply Ba | (apply Bb; (· rfl); (· rfl)) | (apply Bc; (· exact nxE)) | (apply Bd; (· rfl); (· rfl); (· exact nxE))); (· first | exact Kz rfl rfl (hCm) (Ad An) | exact Kz rfl rfl (hB) (Ad An) | exact Kz rfl rfl (hSh) (Ad (Aa (Ad (Ad An)) An)) | exact Kz rfl rfl (hSt) (Ad An) | exact Kz rfl rfl (hTu) (Ad An) | exact Kz rfl rfl (hV) (Ad An) | exact Ok.pe)) | ((first | apply Ca | (apply Cb; (· exact nxE))); (· first | exact Ok.e0)) | refine Sx ?_ | (refine Sy (fun h => ?_) (fun h => ?_) <;> try (exfalso; omega; done)) | refine Sz (fun h => ?_) (fun h => ?_))
    refine Yc ?_
    (apply Le.headZ (hs := []) [] rfl)
    all_goals (try dsimp only [srcs])
    (case' hfr => (repeat' (first | refine La ?_ ?_ | exact Lc | refine Lo ?_ | refine ⟨⟨_, rfl, ?_⟩, ?_⟩ | refine Lx ?_)))
    all_goals (first | exact Ld | exact trivial | (rfl))
  · rw [hall] at hV
    simp only [if_true]
    generalize evL t = x at *
    refine AC.of_body 0 Tryz.func35 rfl (fun l h => absurd rfl h) (fun C hC => ?_)
    have hD : ∀ l, ¬ C.D0 l := fun l h => (hC l).1 h rfl
    simp only [startFr, Tryz.ntmps35, List.length_cons, List.length_nil, Nat.reduceAdd, Nat.reduceSub, List.replicate_succ, List.replicate_zero, List.cons_append, List.nil_append]
    repeat' (first | ((first | apply Ba | (apply Bb; (· rfl); (· rfl)) | (apply Bc; (· exact nxE)) | (apply Bd; (· rfl); (· rfl); (· exact nxE))); (· first | exact Kz rfl rfl (hCm) (Ad An) | exact Kz rfl rfl (hB) (Ad An) | exact Kz rfl rfl (hSh) (Ad (Aa (Ad (Ad An)) An)) | exact Kz rfl rfl (hSt) (Ad An) | exact Kz rfl rfl (hTu) (Ad An) | exact Kz rfl rfl (hV) (Ad An) | exact Ok.pe)) | ((first | apply Ca | (apply Cb; (· exact nxE))); (· first | exact Ok.e0)) | refine Sx ?_ | (refine Sy (fun h => ?_) (fun h => ?_) <;> try (exfalso; omega; done)) | refine Sz (fun h => ?_) (fun h => ?_))
    refine Yc ?_
    (apply Le.headZ (hs := []) [] rfl)
    all_goals (try dsimp only [srcs])
    (case' hfr => (repeat' (first | refine La ?_ ?_ | exact Lc | refine Lo ?_ | refine ⟨⟨_, rfl, ?_⟩, ?_⟩ | refine Lx ?_)))
    all_goals (first | exact Ld | exact trivial | (rfl))
set_option maxHeartbeats 2000000 in
theorem iEigenVector_ac (t : List (List Int)) (ht : t.length ≤ 100000000) (hr : ∀ r ∈ t, r.length ≤ 100000000) : AC Tryz.prog 34 [TL t] H0 (.tup [own1 1 (evX t).length, .agg [I (evR t).1, I (evR t).2], I (evC t)]) (hp1 (IO (evX t))) := by
  have hQ := iIsSquare_ac t ht hr
  unfold evX evR
  rcases bmC_cases t with ⟨e, hs⟩ | ⟨hs, hc, e⟩ | ⟨hs, hc, e⟩
  · have ec : evC t = 1 := by
      have e2 : cmC t = 1 := by unfold cmC; rw [e, if_neg (by decide)]
      unfold evC; rw [e2, if_neg (by decide)]
    rw [ec, if_neg (by decide), if_neg (by decide)]
    rw [hs] at hQ
    refine AC.of_body 0 Tryz.func34 rfl (fun l h => absurd rfl h) (fun C hC => ?_)
    have hD : ∀ l, ¬ C.D0 l := fun l h => (hC l).1 h rfl
    simp only [startFr, Tryz.ntmps34, List.length_cons, List.length_nil, Nat.reduceAdd, Nat.reduceSub, List.replicate_succ, List.replicate_zero, List.cons_append, List.nil_append]
    repeat' (first | ((first | apply Ba | (apply Bb; (· rfl); (· rfl)) | (apply Bc; (· exact nxE)) | (apply Bd; (· rfl); (· rfl); (· exact nxE))); (· first | exact Kz rfl rfl (hQ) (Ad An) | exact Ok.pe)) | ((first | apply Ca | (apply Cb; (· exact nxE))); (· first | exact Ok.e0)) | refine Sx ?_ | (refine Sy (fun h => ?_) (fun h => ?_) <;> try (exfalso; omega; done)) | refine Sz (fun h => ?_) (fun h => ?_))
    exact end3nilS (ds := [DI 0, DI 0]) (.inl rfl) rfl (rT rfl) (by first | exact rT rfl | exact rCA rfl rfl rfl rfl (by simp) | exact rCC rfl rfl rfl rfl rfl) (by rfl) (rT rfl) hD
  · rw [hs] at hQ
    have hMt := isSq_ok hs
    have hCm := cycleMean_ac t t.length hMt
    rw [kmR_get hMt hc] at hCm
    simp only [Option.getD, Option.isSome] at hCm
    obtain ⟨f, r, e1, hcy, e2⟩ := best_ne hMt.b hMt.le hc
    obtain ⟨h1, h2, h3, h4⟩ := kmR_ok hMt.b hMt.le hc
    have hB := bestCycle_ac t t.length hMt hc
    have e3 : bkF t t.length (kmR (entN t) t.length) (-1) = f :: r := e1
    have hSc := starColumn_ac t t.length hMt (kmR (entN t) t.length).1 (kmR (entN t) t.length).2 h3 h4 (starM_k hMt hc) f hcy.lt
    have hev : coL t t.length ((kmR (entN t) t.length).1, (kmR (entN t) t.length).2) f = evL t := by unfold evL; rw [e3]; rfl
    rw [hev] at hSc
    have hel : (evL t).length = t.length := coL_len
    have hA := areValues_ac (evL t) (by omega)
    have hRt := iIsRatioZ_ac _ (kmR_rt hMt hc)
    have hec : evC t = if isRt (kmR (entN t) t.length) = true then (if (evL t).all isVal = true then 0 else 3) else 3 := by
      unfold evC cmC rtC
      rw [e, if_pos rfl]
      by_cases hi : isRt (kmR (entN t) t.length) = true
      · rw [if_pos hi, if_pos rfl, if_pos hi]
      · rw [if_neg hi, if_neg (by decide), if_neg hi]
    rw [e3, show (f :: r).length = (cN (f :: r)).length by simp] at hB
    rw [hec]
    have hf0 : (IR (cN (f :: r)))[(0 : Int).toNat]? = some [DI (f : Nat)] := rfl
    have hfl : 0 < (cN (f :: r)).length := by simp
    clear h1 h2 h3 h4 e1 e2 e3 hcy hMt hec hev
    generalize kmR (entN t) t.length = m at *
    generalize cN (f :: r) = c at *
    have k3 : ((3 : Int) = 0) = False := by simp
    have kt : (true = true) = True := by simp
    cases hall : (evL t).all isVal
    · rw [hall] at hA
      simp only [Bool.false_eq_true, if_false, ite_self, k3]
      generalize evL t = x at *
      refine AC.of_body 0 Tryz.func34 rfl (fun l h => absurd rfl h) (fun C hC => ?_)
      have hD : ∀ l, ¬ C.D0 l := fun l h => (hC l).1 h rfl
      simp only [startFr, Tryz.ntmps34, List.length_cons, List.length_nil, Nat.reduceAdd, Nat.reduceSub, List.replicate_succ, List.replicate_zero, List.cons_append, List.nil_append]
      repeat' (first | ((first | apply Ba | (apply Bb; (· rfl); (· rfl)) | (apply Bc; (· exact nxE)) | (apply Bd; (· rfl); (· rfl); (· exact nxE))); (· first | exact Kz rfl rfl (hQ) (Ad An) | exact Kz rfl rfl (hCm) (Ad An) | exact Ez rfl rfl (hA) (Sw Sn) | exact Ok.ld1 rfl rfl rfl hf0 | exact Eo rfl rfl (hB) (Sd (Sa (Sd (Sd Sn)) Sn)) | exact Eo rfl rfl (hSc) (Sd (Sa (Sd (Sd Sn)) (Sd Sn))) | exact Ok.pe)) | ((first | apply Ca | (apply Cb; (· exact nxE))); (· first | exact Eo rfl rfl (hB) (Sd (Sa (Sd (Sd Sn)) Sn)) | exact Eo rfl rfl (hSc) (Sd (Sa (Sd (Sd Sn)) (Sd Sn))) | exact Ok.e0)) | refine Sx ?_ | (refine Sy (fun h => ?_) (fun h => ?_) <;> try (exfalso; omega; done)) | refine Sz (fun h => ?_) (fun h => ?_))
      exact end3nilS (ds := [DI 0, DI 0]) (.inl rfl) rfl (rT rfl) (by first | exact rT rfl | exact rCA rfl rfl rfl rfl (by simp) | exact rCC rfl rfl rfl rfl rfl) (by rfl) (rT rfl) hD
    · rw [hall] at hA
      cases hi : isRt m
      · rw [hi] at hRt
        simp only [Bool.false_eq_true, if_false, k3]
        generalize evL t = x at *
        refine AC.of_body 0 Tryz.func34 rfl (fun l h => absurd rfl h) (fun C hC => ?_)
        have hD : ∀ l, ¬ C.D0 l := fun l h => (hC l).1 h rfl
        simp only [startFr, Tryz.ntmps34, List.length_cons, List.length_nil, Nat.reduceAdd, Nat.reduceSub, List.replicate_succ, List.replicate_zero, List.cons_append, List.nil_append]
        repeat' (first | ((first | apply Ba | (apply Bb; (· rfl); (· rfl)) | (apply Bc; (· exact nxE)) | (apply Bd; (· rfl); (· rfl); (· exact nxE))); (· first | exact Kz rfl rfl (hQ) (Ad An) | exact Kz rfl rfl (hCm) (Ad An) | exact Ez rfl rfl (hA) (Sw Sn) | exact Ok.ld1 rfl rfl rfl hf0 | exact Kz rfl rfl (hRt) (Aa (Ad (Ad An)) An) | exact Eo rfl rfl (hB) (Sd (Sa (Sd (Sd Sn)) Sn)) | exact Eo rfl rfl (hSc) (Sd (Sa (Sd (Sd Sn)) (Sd Sn))) | exact Ok.pe)) | ((first | apply Ca | (apply Cb; (· exact nxE))); (· first | exact Eo rfl rfl (hB) (Sd (Sa (Sd (Sd Sn)) Sn)) | exact Eo rfl rfl (hSc) (Sd (Sa (Sd (Sd Sn)) (Sd Sn))) | exact Ok.e0)) | refine Sx ?_ | (refine Sy (fun h => ?_) (fun h => ?_) <;> try (exfalso; omega; done)) | refine Sz (fun h => ?_) (fun h => ?_))
        exact end3nilS (ds := [DI 0, DI 0]) (.inl rfl) rfl (rT rfl) (by first | exact rT rfl | exact rCA rfl rfl rfl rfl (by simp) | exact rCC rfl rfl rfl rfl rfl) (by rfl) (rT rfl) hD
      · rw [hi] at hRt
        simp only [kt, if_true, eq_self]
        generalize evL t = x at *
        refine AC.of_body 0 Tryz.func34 rfl (fun l h => absurd rfl h) (fun C hC => ?_)
        have hD : ∀ l, ¬ C.D0 l := fun l h => (hC l).1 h rfl
        simp only [startFr, Tryz.ntmps34, List.length_cons, List.length_nil, Nat.reduceAdd, Nat.reduceSub, List.replicate_succ, List.replicate_zero, List.cons_append, List.nil_append]
        repeat' (first | ((first | apply Ba | (apply Bb; (· rfl); (· rfl)) | (apply Bc; (· exact nxE)) | (apply Bd; (· rfl); (· rfl); (· exact nxE))); (· first | exact Kz rfl rfl (hQ) (Ad An) | exact Kz rfl rfl (hCm) (Ad An) | exact Ez rfl rfl (hA) (Sw Sn) | exact Ok.ld1 rfl rfl rfl hf0 | exact Kz rfl rfl (hRt) (Aa (Ad (Ad An)) An) | exact Eo rfl rfl (hB) (Sd (Sa (Sd (Sd Sn)) Sn)) | exact Eo rfl rfl (hSc) (Sd (Sa (Sd (Sd Sn)) (Sd Sn))) | exact Ok.pe)) | ((first | apply Ca | (apply Cb; (· exact nxE))); (· first | exact Eo rfl rfl (hB) (Sd (Sa (Sd (Sd Sn)) Sn)) | exact Eo rfl rfl (hSc) (Sd (Sa (Sd (Sd Sn)) (Sd Sn))) | exact Ok.e0)) | refine Sx ?_ | (refine Sy (fun h => ?_) (fun h => ?_) <;> try (exfalso; omega; done)) | refine Sz (fun h => ?_) (fun h => ?_))
        refine Yc ?_
        (apply Le.head [(⟨0, []⟩, _, _)])
        (case' hfr | hob => (repeat' (first | refine La ?_ ?_ | exact Lc | refine Lo ?_ | refine ⟨⟨_, rfl, ?_⟩, ?_⟩ | refine Lx ?_)))
        all_goals (first | exact Ld | (rfl))
  · have ec : evC t = 4 := by
      have e2 : cmC t = 4 := by unfold cmC; rw [e, if_neg (by decide)]
      unfold evC; rw [e2, if_neg (by decide)]
    rw [ec, if_neg (by decide), if_neg (by decide)]
    rw [hs] at hQ
    have hMt := isSq_ok hs
    have hCm := cycleMean_ac t t.length hMt
    rw [karp_no hMt.b hMt.le hc] at hCm
    simp only [Option.getD, Option.isSome] at hCm
    refine AC.of_body 0 Tryz.func34 rfl (fun l h => absurd rfl h) (fun C hC => ?_)
    have hD : ∀ l, ¬ C.D0 l := fun l h => (hC l).1 h rfl
    simp only [startFr, Tryz.ntmps34, List.length_cons, List.length_nil, Nat.reduceAdd, Nat.reduceSub, List.replicate_succ, List.replicate_zero, List.cons_append, List.nil_append]
    repeat' (first | ((first | apply Ba | (apply Bb; (· rfl); (· rfl)) | (apply Bc; (· exact nxE)) | (apply Bd; (· rfl); (· rfl); (· exact nxE))); (· first | exact Kz rfl rfl (hQ) (Ad An) | exact Kz rfl rfl (hCm) (Ad An) | exact Ok.pe)) | ((first | apply Ca | (apply Cb; (· exact nxE))); (· first | exact Ok.e0)) | refine Sx ?_ | (refine Sy (fun h => ?_) (fun h => ?_) <;> try (exfalso; omega; done)) | refine Sz (fun h => ?_) (fun h => ?_))
    exact end3nilS (ds := [DI 0, DI 0]) (.inl rfl) rfl (rT rfl) (by first | exact rT rfl | exact rCA rfl rfl rfl rfl (by simp) | exact rCC rfl rfl rfl rfl rfl) (by rfl) (rT rfl) hD
end Go.Proofs.YtpgcmpbamlnkkaaGreat
end

section
namespace Go.Proofs.YtpgcmpbamlnkkaaGreat
set_option linter.unusedSimpArgs false
set_option linter.unusedVariables false
open Go Go.RowKit
attribute [local irreducible] AL AD AW OpOk Le AC thenQ blockQ EndQ

end Go.Proofs.YtpgcmpbamlnkkaaGreat
end

section
namespace Go.Proofs.YtpgcmpbamlnkkaaGreat
set_option linter.unusedSimpArgs false
set_option linter.unusedVariables false
open Go Go.RowKit
attribute [local irreducible] AL AD AW OpOk Le AC thenQ blockQ EndQ

theorem apA_geM {f : Nat → Nat → Int} {v : Nat → Int} {i j : Nat} : ∀ {k : Nat}, j < k → timesB (f i j) (v j) ≤ apA f v i k
  | k + 1, h => by
    simp only [apA]
    by_cases e : j = k
    · subst e; omega
    · have := apA_geM (f := f) (v := v) (i := i) (j := j) (k := k) (by omega); omega
end Go.Proofs.YtpgcmpbamlnkkaaGreat
end

section
namespace Go.Proofs.YtpgcmpbamlnkkaaGreat
set_option linter.unusedSimpArgs false
set_option linter.unusedVariables false
open Go Go.RowKit
attribute [local irreducible] AL AD AW OpOk Le AC thenQ blockQ EndQ

set_option maxHeartbeats 1000000 in
theorem sIsRatioG_ac (r : Int × Int) (h : -1000000000000 ≤ r.1 ∧ r.1 ≤ 1000000000000) : AC Tryz.prog 63 [.agg [I r.1, I r.2]] H0 (Bo (isRtG r)) H0 := by
  obtain ⟨a, b⟩ := r
  simp only at h
  unfold isRtG
  simp only
  have hF := l01Finite_ac a
  have hI := l01In_ac b 1 1000000
  cases hw : wi a (-1000000) 1000000
  · rw [hw] at hF
    simp only [Bool.false_and]
    refine AC.of_body 0 Tryz.func63 rfl (fun l h => absurd rfl h) (fun C hC => ?_)
    have hD : ∀ l, ¬ C.D0 l := fun l h => (hC l).1 h rfl
    simp only [startFr, Tryz.ntmps63, List.length_cons, List.length_nil, Nat.reduceAdd, Nat.reduceSub, List.replicate_succ, List.replicate_zero, List.cons_append, List.nil_append]
    repeat' (first | ((first | apply Ba | (apply Bb; (· rfl); (· rfl)) | (apply Bc; (· exact nxE)) | (apply Bd; (· rfl); (· rfl); (· exact nxE))); (· first | exact Kz rfl rfl (hF) (Ad An) | exact Kz rfl rfl (hI) (Ad (Ad (Ad An))) | exact Ok.pe)) | ((first | apply Ca | (apply Cb; (· exact nxE))); (· first | exact Ok.e0)) | refine Sx ?_ | (refine Sy (fun h => ?_) (fun h => ?_) <;> try (exfalso; omega; done)) | refine Sz (fun h => ?_) (fun h => ?_))
    refine Ya ?_
    (apply Le.headZ (hs := []) [] rfl)
    all_goals (try dsimp only [srcs])
    (case' hfr => (repeat' (first | refine La ?_ ?_ | exact Lc | refine Lo ?_ | refine ⟨⟨_, rfl, ?_⟩, ?_⟩ | refine Lx ?_)))
    all_goals (first | exact Ld | exact trivial | (rfl))
  rw [hw] at hF
  cases hv : wi b 1 1000000
  · rw [hv] at hI
    simp only [Bool.false_and, Bool.and_false]
    refine AC.of_body 0 Tryz.func63 rfl (fun l h => absurd rfl h) (fun C hC => ?_)
    have hD : ∀ l, ¬ C.D0 l := fun l h => (hC l).1 h rfl
    simp only [startFr, Tryz.ntmps63, List.length_cons, List.length_nil, Nat.reduceAdd, Nat.reduceSub, List.replicate_succ, List.replicate_zero, List.cons_append, List.nil_append]
    repeat' (first | ((first | apply Ba | (apply Bb; (· rfl); (· rfl)) | (apply Bc; (· exact nxE)) | (apply Bd; (· rfl); (· rfl); (· exact nxE))); (· first | exact Kz rfl rfl (hF) (Ad An) | exact Kz rfl rfl (hI) (Ad (Ad (Ad An))) | exact Ok.pe)) | ((first | apply Ca | (apply Cb; (· exact nxE))); (· first | exact Ok.e0)) | refine Sx ?_ | (refine Sy (fun h => ?_) (fun h => ?_) <;> try (exfalso; omega; done)) | refine Sz (fun h => ?_) (fun h => ?_))
    refine Ya ?_
    (apply Le.headZ (hs := []) [] rfl)
    all_goals (try dsimp only [srcs])
    (case' hfr => (repeat' (first | refine La ?_ ?_ | exact Lc | refine Lo ?_ | refine ⟨⟨_, rfl, ?_⟩, ?_⟩ | refine Lx ?_)))
    all_goals (first | exact Ld | exact trivial | (rfl))
  rw [hv] at hI
  have h2 := wi_iff.1 hv
  obtain ⟨v, rfl⟩ : ∃ v : Nat, b = v := ⟨b.toNat, by omega⟩
  have hG := l01DivisorZ_ac a v (by omega) (by omega)
  rw [Int.toNat_natCast]
  simp only [Bool.true_and]
  generalize Nat.gcd a.natAbs v = g at *
  by_cases hg : g = 1
  · subst hg
    refine AC.of_body 0 Tryz.func63 rfl (fun l h => absurd rfl h) (fun C hC => ?_)
    have hD : ∀ l, ¬ C.D0 l := fun l h => (hC l).1 h rfl
    simp only [startFr, Tryz.ntmps63, List.length_cons, List.length_nil, Nat.reduceAdd, Nat.reduceSub, List.replicate_succ, List.replicate_zero, List.cons_append, List.nil_append]
    repeat' (first | ((first | apply Ba | (apply Bb; (· rfl); (· rfl)) | (apply Bc; (· exact nxE)) | (apply Bd; (· rfl); (· rfl); (· exact nxE))); (· first | exact Kz rfl rfl (hF) (Ad An) | exact Kz rfl rfl (hI) (Ad (Ad (Ad An))) | exact Kz rfl rfl (hG) (Ad (Ad An)) | exact Ok.pe)) | ((first | apply Ca | (apply Cb; (· exact nxE))); (· first | exact Ok.e0)) | refine Sx ?_ | (refine Sy (fun h => ?_) (fun h => ?_) <;> try (exfalso; omega; done)) | refine Sz (fun h => ?_) (fun h => ?_))
    refine Ya ?_
    (apply Le.headZ (hs := []) [] rfl)
    all_goals (try dsimp only [srcs])
    (case' hfr => (repeat' (first | refine La ?_ ?_ | exact Lc | refine Lo ?_ | refine ⟨⟨_, rfl, ?_⟩, ?_⟩ | refine Lx ?_)))
    all_goals (first | exact Ld | exact trivial | (rfl))
  · rw [show (g == 1) = false from beq_eq_false_iff_ne.2 hg]
    refine AC.of_body 0 Tryz.func63 rfl (fun l h => absurd rfl h) (fun C hC => ?_)
    have hD : ∀ l, ¬ C.D0 l := fun l h => (hC l).1 h rfl
    simp only [startFr, Tryz.ntmps63, List.length_cons, List.length_nil, Nat.reduceAdd, Nat.reduceSub, List.replicate_succ, List.replicate_zero, List.cons_append, List.nil_append]
    repeat' (first | ((first | apply Ba | (apply Bb; (· rfl); (· rfl)) | (apply Bc; (· exact nxE)) | (apply Bd; (· rfl); (· rfl); (· exact nxE))); (· first | exact Kz rfl rfl (hF) (Ad An) | exact Kz rfl rfl (hI) (Ad (Ad (Ad An))) | exact Kz rfl rfl (hG) (Ad (Ad An)) | exact Ok.pe)) | ((first | apply Ca | (apply Cb; (· exact nxE))); (· first | exact Ok.e0)) | refine Sx ?_ | (refine Sy (fun h => ?_) (fun h => ?_) <;> try (exfalso; omega; done)) | refine Sz (fun h => ?_) (fun h => ?_))
    refine Ya ?_
    (apply Le.headZ (hs := []) [] rfl)
    all_goals (try dsimp only [srcs])
    (case' hfr => (repeat' (first | refine La ?_ ?_ | exact Lc | refine Lo ?_ | refine ⟨⟨_, rfl, ?_⟩, ?_⟩ | refine Lx ?_)))
    all_goals (first | exact Ld | exact trivial | (first | rfl | exact (decide_eq_false (by omega)).symm))
set_option maxHeartbeats 1000000 in
theorem iIsRatioG_ac (r : Int × Int) (h : -1000000000000 ≤ r.1 ∧ r.1 ≤ 1000000000000) : AC Tryz.prog 59 [.agg [I r.1, I r.2]] H0 (Bo (isRtG r)) H0 := by
  obtain ⟨a, b⟩ := r
  simp only at h
  unfold isRtG
  simp only
  have hF := isFinite_ac a
  have hI := within_ac b 1 1000000
  have hA := absOfZ_ac a (by omega)
  cases hw : wi a (-1000000) 1000000
  · rw [hw] at hF
    simp only [Bool.false_and]
    refine AC.of_body 0 Tryz.func59 rfl (fun l h => absurd rfl h) (fun C hC => ?_)
    have hD : ∀ l, ¬ C.D0 l := fun l h => (hC l).1 h rfl
    simp only [startFr, Tryz.ntmps59, List.length_cons, List.length_nil, Nat.reduceAdd, Nat.reduceSub, List.replicate_succ, List.replicate_zero, List.cons_append, List.nil_append]
    repeat' (first | ((first | apply Ba | (apply Bb; (· rfl); (· rfl)) | (apply Bc; (· exact nxE)) | (apply Bd; (· rfl); (· rfl); (· exact nxE))); (· first | exact Kz rfl rfl (hF) (Ad An) | exact Kz rfl rfl (hI) (Ad (Ad (Ad An))) | exact Ok.pe)) | ((first | apply Ca | (apply Cb; (· exact nxE))); (· first | exact Ok.e0)) | refine Sx ?_ | (refine Sy (fun h => ?_) (fun h => ?_) <;> try (exfalso; omega; done)) | refine Sz (fun h => ?_) (fun h => ?_))
    refine Ya ?_
    (apply Le.headZ (hs := []) [] rfl)
    all_goals (try dsimp only [srcs])
    (case' hfr => (repeat' (first | refine La ?_ ?_ | exact Lc | refine Lo ?_ | refine ⟨⟨_, rfl, ?_⟩, ?_⟩ | refine Lx ?_)))
    all_goals (first | exact Ld | exact trivial | (rfl))
  rw [hw] at hF
  cases hv : wi b 1 1000000
  · rw [hv] at hI
    simp only [Bool.false_and, Bool.and_false]
    refine AC.of_body 0 Tryz.func59 rfl (fun l h => absurd rfl h) (fun C hC => ?_)
    have hD : ∀ l, ¬ C.D0 l := fun l h => (hC l).1 h rfl
    simp only [startFr, Tryz.ntmps59, List.length_cons, List.length_nil, Nat.reduceAdd, Nat.reduceSub, List.replicate_succ, List.replicate_zero, List.cons_append, List.nil_append]
    repeat' (first | ((first | apply Ba | (apply Bb; (· rfl); (· rfl)) | (apply Bc; (· exact nxE)) | (apply Bd; (· rfl); (· rfl); (· exact nxE))); (· first | exact Kz rfl rfl (hF) (Ad An) | exact Kz rfl rfl (hI) (Ad (Ad (Ad An))) | exact Ok.pe)) | ((first | apply Ca | (apply Cb; (· exact nxE))); (· first | exact Ok.e0)) | refine Sx ?_ | (refine Sy (fun h => ?_) (fun h => ?_) <;> try (exfalso; omega; done)) | refine Sz (fun h => ?_) (fun h => ?_))
    refine Ya ?_
    (apply Le.headZ (hs := []) [] rfl)
    all_goals (try dsimp only [srcs])
    (case' hfr => (repeat' (first | refine La ?_ ?_ | exact Lc | refine Lo ?_ | refine ⟨⟨_, rfl, ?_⟩, ?_⟩ | refine Lx ?_)))
    all_goals (first | exact Ld | exact trivial | (rfl))
  rw [hv] at hI
  have h2 := wi_iff.1 hv
  obtain ⟨v, rfl⟩ : ∃ v : Nat, b = v := ⟨b.toNat, by omega⟩
  have hG := divisorOf_ac a.natAbs v (by omega) (by omega)
  rw [Int.toNat_natCast]
  simp only [Bool.true_and]
  generalize Nat.gcd a.natAbs v = g at *
  by_cases hg : g = 1
  · subst hg
    refine AC.of_body 0 Tryz.func59 rfl (fun l h => absurd rfl h) (fun C hC => ?_)
    have hD : ∀ l, ¬ C.D0 l := fun l h => (hC l).1 h rfl
    simp only [startFr, Tryz.ntmps59, List.length_cons, List.length_nil, Nat.reduceAdd, Nat.reduceSub, List.replicate_succ, List.replicate_zero, List.cons_append, List.nil_append]
    repeat' (first | ((first | apply Ba | (apply Bb; (· rfl); (· rfl)) | (apply Bc; (· exact nxE)) | (apply Bd; (· rfl); (· rfl); (· exact nxE))); (· first | exact Kz rfl rfl (hF) (Ad An) | exact Kz rfl rfl (hI) (Ad (Ad (Ad An))) | exact Kz rfl rfl (hA) (Ad An) | exact Kz rfl rfl (hG) (Ad (Ad An)) | exact Ok.pe)) | ((first | apply Ca | (apply Cb; (· exact nxE))); (· first | exact Ok.e0)) | refine Sx ?_ | (refine Sy (fun h => ?_) (fun h => ?_) <;> try (exfalso; omega; done)) | refine Sz (fun h => ?_) (fun h => ?_))
    refine Ya ?_
    (apply Le.headZ (hs := []) [] rfl)
    all_goals (try dsimp only [srcs])
    (case' hfr => (repeat' (first | refine La ?_ ?_ | exact Lc | refine Lo ?_ | refine ⟨⟨_, rfl, ?_⟩, ?_⟩ | refine Lx ?_)))
    all_goals (first | exact Ld | exact trivial | (rfl))
  · rw [show (g == 1) = false from beq_eq_false_iff_ne.2 hg]
    refine AC.of_body 0 Tryz.func59 rfl (fun l h => absurd rfl h) (fun C hC => ?_)
    have hD : ∀ l, ¬ C.D0 l := fun l h => (hC l).1 h rfl
    simp only [startFr, Tryz.ntmps59, List.length_cons, List.length_nil, Nat.reduceAdd, Nat.reduceSub, List.replicate_succ, List.replicate_zero, List.cons_append, List.nil_append]
    repeat' (first | ((first | apply Ba | (apply Bb; (· rfl); (· rfl)) | (apply Bc; (· exact nxE)) | (apply Bd; (· rfl); (· rfl); (· exact nxE))); (· first | exact Kz rfl rfl (hF) (Ad An) | exact Kz rfl rfl (hI) (Ad (Ad (Ad An))) | exact Kz rfl rfl (hA) (Ad An) | exact Kz rfl rfl (hG) (Ad (Ad An)) | exact Ok.pe)) | ((first | apply Ca | (apply Cb; (· exact nxE))); (· first | exact Ok.e0)) | refine Sx ?_ | (refine Sy (fun h => ?_) (fun h => ?_) <;> try (exfalso; omega; done)) | refine Sz (fun h => ?_) (fun h => ?_))
    refine Ya ?_
    (apply Le.headZ (hs := []) [] rfl)
    all_goals (try dsimp only [srcs])
    (case' hfr => (repeat' (first | refine La ?_ ?_ | exact Lc | refine Lo ?_ | refine ⟨⟨_, rfl, ?_⟩, ?_⟩ | refine Lx ?_)))
    all_goals (first | exact Ld | exact trivial | (first | rfl | exact (decide_eq_false (by omega)).symm))
/-! ### Potentials -/
theorem getD_cell {x : List Int} {n j : Nat} (hl : x.length = n) (hj : j < n) : (IR x)[((j : Nat) : Int).toNat]? = some [DI (x.getD j 0)] := by
  have : x[j]? = some (x.getD j 0) := by rw [List.getD_eq_getElem?_getD, List.getElem?_eq_getElem (by omega)]; rfl
  exact IR_get this
theorem range_at {n k : Nat} (h : k < n) : (List.range n)[k]? = some k := by simp [h]
theorem sh_cell {t : List (List Int)} {n : Nat} (hM : MatOk t n) {p q : Int} (hp : -10000000 ≤ p ∧ p ≤ 10000000) (hq : 0 < q ∧ q ≤ 10) (i j : Nat) : shF (entN t) p q i j = -1000000000000000 ∨ (-20000000 ≤ shF (entN t) p q i j ∧ shF (entN t) p q i j ≤ 20000000) := by
  by_cases h : shF (entN t) p q i j = BOT
  · exact .inl h
  · exact .inr (sh_bnd hM.b hp hq j i h)
end Go.Proofs.YtpgcmpbamlnkkaaGreat
end

section
namespace Go.Proofs.YtpgcmpbamlnkkaaGreat
set_option linter.unusedSimpArgs false
set_option linter.unusedVariables false
open Go Go.RowKit
attribute [local irreducible] AL AD AW OpOk Le AC thenQ blockQ EndQ

set_option maxHeartbeats 4000000 in
theorem l04ShiftG_ac (t : List (List Int)) (n : Nat) (hM : MatOk t n) (p q : Int) (hp : -10000000 ≤ p ∧ p ≤ 10000000) (hq : 0 < q ∧ q ≤ 1000000) : AC Tryz.prog 104 [TL t, .agg [I p, I q]] H0 (own1 1 n) (hpM 1 (TR (shT t n p q))) := by
  have hn := hM.le
  have hO := l02Own_ac t (by rw [hM.sq.l]; omega) (fun r hr => by rw [hM.sq.r r hr]; omega)
  have htl := hM.sq.l
  rw [htl] at hO
  have hst := sq_tab hM.sq
  have hlen : (mRows 1 (TR t)).length = n := by rw [mTR_len, htl]
  refine AC.of_body 0 Tryz.func104 rfl (fun l h => absurd rfl h) (fun C hC => ?_)
  have hD : ∀ l, ¬ C.D0 l := fun l h => (hC l).1 h rfl
  simp only [startFr, Tryz.ntmps104, List.length_cons, List.length_nil, Nat.reduceAdd, Nat.reduceSub, List.replicate_succ, List.replicate_zero, List.cons_append, List.nil_append]
  repeat' (first | ((first | apply Ba | (apply Bb; (· rfl); (· rfl)) | (apply Bc; (· exact nxE)) | (apply Bd; (· rfl); (· rfl); (· exact nxE))); (· first | exact Tb rfl rfl (hO) (Sd Sn) | exact Ok.pe)) | ((first | apply Ca | (apply Cb; (· exact nxE))); (· first | exact Tb rfl rfl (hO) (Sd Sn) | exact Ok.e0)) | refine Sx ?_ | (refine Sy (fun h => ?_) (fun h => ?_) <;> try (exfalso; omega; done)) | refine Sz (fun h => ?_) (fun h => ?_))
  refine AW.loop (X := {k : Nat // k ≤ n}) (fun k => ⟨[TL t, Oo, Oo, Bx 2 0, Oo, .own 1 ⟨1, []⟩ 0 n, I (k.1 : Nat), Oo, Oo, Oo, Oo, Oo, Oo, Oo, Oo, Oo, Oo, Oo, Oo, Oo, Oo, Oo, Oo, Oo, Oo, Oo, Oo, Oo, Oo, Oo, Oo, Oo, Oo, Oo, Oo, Oo, Oo, Oo, Oo, Oo, Oo, Oo, Oo, Oo, Oo, Oo, Oo, Oo, Oo, Oo], heapX [(⟨0, []⟩, ⟨0, []⟩, ⟨2, [[I p, I q]]⟩)] [mi1 ⟨1, []⟩ (TR (tabF n n (mixF (shF (entN t) p q) (entN t) k.1 0)))], 900⟩) (fun k => n - k.1) ⟨0, Nat.zero_le _⟩ ?_ (fun k => ?_)
  ·
    (apply Le.headG [_] [{ l := ⟨1, []⟩, k := 1, R := TR (tabF n n (mixF (shF (entN t) p q) (entN t) 0 0)), src := ⟨3, [0]⟩, base := ⟨3, [0]⟩ }] (fun _ => False))
    (case' hlen => rfl)
    (case' hms => rfl)
    all_goals (try dsimp only [srcs])
    (case' hfr | hob => (repeat' (first | refine La ?_ ?_ | exact Lc | refine Lo ?_ | refine ⟨⟨_, rfl, ?_⟩, ?_⟩ | refine Lx ?_)))
    (case' hok => first | exact ⟨by rw [mixF_0, hst]; exact MI.ok_same rfl (Cg), trivial⟩ | exact trivial)
    (case' hN => rfl)
    (case' hS => rfl)
    all_goals (first | exact Ld | (rfl))
  obtain ⟨i, hi⟩ := k
  simp only
  by_cases hlt : i < n
  ·
    repeat' (first | ((first | apply Ba | (apply Bb; (· rfl); (· rfl)) | (apply Bc; (· exact nxE)) | (apply Bd; (· rfl); (· rfl); (· exact nxE))); (· first | exact Ok.lenD rfl rfl hlen | exact Ok.pe)) | ((first | apply Ca | (apply Cb; (· exact nxE))); (· first | exact Ok.e0)) | refine Sx ?_ | (refine Sy (fun h => ?_) (fun h => ?_) <;> try (exfalso; omega; done)) | refine Sz (fun h => ?_) (fun h => ?_))
    refine AW.loop (X := {k : Nat // k ≤ n}) (fun k => ⟨[TL t, Oo, Oo, Bx 2 0, Oo, .own 1 ⟨1, []⟩ 0 n, I i, I (k.1 : Nat), Oo, Oo, Oo, Oo, Oo, Oo, Oo, Oo, Oo, Oo, Oo, Oo, Oo, Oo, Oo, Oo, Oo, Oo, Oo, Oo, Oo, Oo, Oo, Oo, Oo, Oo, Oo, Oo, Oo, Oo, Oo, Oo, Oo, Oo, Oo, Oo, Oo, Oo, Oo, Oo, Oo, Oo], heapX [(⟨0, []⟩, ⟨0, []⟩, ⟨2, [[I p, I q]]⟩)] [mi1 ⟨1, []⟩ (TR (tabF n n (mixF (shF (entN t) p q) (entN t) i k.1)))], 900⟩) (fun k => n - k.1) ⟨0, Nat.zero_le _⟩ ?_ (fun k => ?_)
    ·
      (apply Le.headG [_] [{ l := ⟨1, []⟩, k := 1, R := TR (tabF n n (mixF (shF (entN t) p q) (entN t) i 0)), src := ⟨1, []⟩, base := ⟨1, []⟩ }] (fun _ => False))
      (case' hlen => rfl)
      (case' hms => rfl)
      all_goals (try dsimp only [srcs])
      (case' hfr | hob => (repeat' (first | refine La ?_ ?_ | exact Lc | refine Lo ?_ | refine ⟨⟨_, rfl, ?_⟩, ?_⟩ | refine Lx ?_)))
      (case' hok => first | exact ⟨MI.ok_same rfl (Cg), trivial⟩ | exact trivial)
      (case' hN => rfl)
      (case' hS => rfl)
      all_goals (first | exact Ld | (rfl))
    obtain ⟨j, hj⟩ := k
    simp only
    by_cases hlt2 : j < n
    ·
      obtain ⟨r, hr1, hr2, hr3⟩ := hM.sq.get hlt hlt2
      have hRr := TR_get hr1
      have hRf := IR_get hr2
      have hRl : (IR r).length = n := by rw [IR_len, hr3]
      have hrw := TRF_get (n := n) (f := (mixF (shF (entN t) p q) (entN t) i j)) hlt
      have hlr : (IR (rowF n ((mixF (shF (entN t) p q) (entN t) i j) i))).length = n := by rw [IR_len, rowF_len]
      by_cases hb : entN t i j = BOT
      · have hsk : tabF n n (mixF (shF (entN t) p q) (entN t) i (j + 1)) = tabF n n (mixF (shF (entN t) p q) (entN t) i j) := mixF_skip (by unfold shF; rw [if_pos hb, hb])
        rw [hb] at hRf
        unfold BOT at hRf
        repeat' (first | ((first | apply Ba | (apply Bb; (· rfl); (· rfl)) | (apply Bc; (· exact nxE)) | (apply Bd; (· rfl); (· rfl); (· exact nxE))); (· first | exact Ok.lenD rfl rfl hlen | exact Ok.pe)) | ((first | apply Ca | (apply Cb; (· exact nxE))); (· first | exact Ok.e0)) | refine Sx ?_ | (refine Sy (fun h => ?_) (fun h => ?_) <;> try (exfalso; omega; done)) | refine Sz (fun h => ?_) (fun h => ?_))
        refine ⟨⟨j + 1, by omega⟩, ?_, by simp only; omega⟩
        rw [hsk]
        (apply Le.headG [_] [{ l := ⟨1, []⟩, k := 1, R := TR (tabF n n (mixF (shF (entN t) p q) (entN t) i j)), src := ⟨1, []⟩, base := ⟨1, []⟩ }] (fun _ => False))
        (case' hlen => rfl)
        (case' hms => rfl)
        all_goals (try dsimp only [srcs])
        (case' hfr | hob => (repeat' (first | refine La ?_ ?_ | exact Lc | refine Lo ?_ | refine ⟨⟨_, rfl, ?_⟩, ?_⟩ | refine Lx ?_)))
        (case' hok => first | exact ⟨MI.ok_same rfl (Cg), trivial⟩ | exact trivial)
        (case' hN => rfl)
        (case' hS => rfl)
        all_goals (first | exact Ld | (rfl))
      · have hv : shF (entN t) p q i j = q * entN t i j - p := by unfold shF; rw [if_neg hb]
        have hset : TR (tabF n n (mixF (shF (entN t) p q) (entN t) i (j + 1))) = (TR (tabF n n (mixF (shF (entN t) p q) (entN t) i j))).set i (IR ((rowF n (mixF (shF (entN t) p q) (entN t) i j i)).set j (q * entN t i j - p))) := by
          rw [← hv]; exact tabF_set (fun a b _ _ => mixF_set)
        have hbe := hM.b j i hb
        have hmb := mulB (q := q) (w := entN t i j) (Q := 1000000) (M := 1000000) (by omega) hq.2 hbe.1 hbe.2 (by decide)
        generalize hW : mixF (shF (entN t) p q) (entN t) i j = Wt at *
        generalize entN t i j = e at *
        unfold BOT at hb
        repeat' (first | ((first | apply Ba | (apply Bb; (· rfl); (· rfl)) | (apply Bc; (· exact nxE)) | (apply Bd; (· rfl); (· rfl); (· exact nxE))); (· first | exact Ok.lenD rfl rfl hlen | exact Ok.ldTn rfl rfl rfl hrw hlr | exact Ok.st1 rfl rfl (congrArg (Option.map (dobj 1)) hrw) (by simp [rowF_len]; omega) (by rw [IRF_get hlt2]; rfl) rfl rfl IR_set | exact Ok.pe)) | ((first | apply Ca | (apply Cb; (· exact nxE))); (· first | exact Ok.st1 rfl rfl (congrArg (Option.map (dobj 1)) hrw) (by simp [rowF_len]; omega) (by rw [IRF_get hlt2]; rfl) rfl rfl IR_set | exact Ok.e0)) | refine Sx ?_ | (refine Sy (fun h => ?_) (fun h => ?_) <;> try (exfalso; omega; done)) | refine Sz (fun h => ?_) (fun h => ?_))
        refine ⟨⟨j + 1, by omega⟩, ?_, by simp only; omega⟩
        (apply Le.headG [_] [{ l := ⟨1, []⟩, k := 1, R := TR (tabF n n (mixF (shF (entN t) p q) (entN t) i (j + 1))), src := ⟨1, []⟩, base := ⟨1, []⟩ }] (fun _ => False))
        (case' hlen => rfl)
        (case' hms => rfl)
        all_goals (try dsimp only [srcs])
        (case' hfr | hob => (repeat' (first | refine La ?_ ?_ | exact Lc | refine Lo ?_ | refine ⟨⟨_, rfl, ?_⟩, ?_⟩ | refine Lx ?_)))
        (case' hok => first | exact ⟨MI.ok_row hset hrw (by simp) rfl (Cg), trivial⟩ | exact trivial)
        (case' hN => rfl)
        (case' hS => rfl)
        all_goals (first | exact Ld | (rfl))
    ·
      obtain rfl : j = n := by omega
      rw [mixF_row]
      repeat' (first | ((first | apply Ba | (apply Bb; (· rfl); (· rfl)) | (apply Bc; (· exact nxE)) | (apply Bd; (· rfl); (· rfl); (· exact nxE))); (· first | exact Ok.lenD rfl rfl hlen | exact Ok.pe)) | ((first | apply Ca | (apply Cb; (· exact nxE))); (· first | exact Ok.e0)) | refine Sx ?_ | (refine Sy (fun h => ?_) (fun h => ?_) <;> try (exfalso; omega; done)) | refine Sz (fun h => ?_) (fun h => ?_))
      refine ⟨⟨i + 1, by omega⟩, ?_, by simp only; omega⟩
      (apply Le.headG [_] [{ l := ⟨1, []⟩, k := 1, R := TR (tabF j j (mixF (shF (entN t) p q) (entN t) (i + 1) 0)), src := ⟨1, []⟩, base := ⟨1, []⟩ }] (fun _ => False))
      (case' hlen => rfl)
      (case' hms => rfl)
      all_goals (try dsimp only [srcs])
      (case' hfr | hob => (repeat' (first | refine La ?_ ?_ | exact Lc | refine Lo ?_ | refine ⟨⟨_, rfl, ?_⟩, ?_⟩ | refine Lx ?_)))
      (case' hok => first | exact ⟨MI.ok_same rfl (Cg), trivial⟩ | exact trivial)
      (case' hN => rfl)
      (case' hS => rfl)
      all_goals (first | exact Ld | (rfl))
  ·
    obtain rfl : i = n := by omega
    rw [mixF_all]
    repeat' (first | ((first | apply Ba | (apply Bb; (· rfl); (· rfl)) | (apply Bc; (· exact nxE)) | (apply Bd; (· rfl); (· rfl); (· exact nxE))); (· first | exact Ok.lenD rfl rfl hlen | exact Ok.pe)) | ((first | apply Ca | (apply Cb; (· exact nxE))); (· first | exact Ok.e0)) | refine Sx ?_ | (refine Sy (fun h => ?_) (fun h => ?_) <;> try (exfalso; omega; done)) | refine Sz (fun h => ?_) (fun h => ?_))
    refine Ya ?_
    (apply Le.headG [] [{ l := ⟨0, []⟩, k := 1, R := TR (shT t i p q), src := ⟨1, []⟩, base := ⟨1, []⟩ }] (fun _ => False))
    (case' hlen => rfl)
    (case' hms => rfl)
    all_goals (try dsimp only [srcs])
    (case' hfr | hob => (repeat' (first | refine La ?_ ?_ | exact Lc | refine Lo ?_ | refine ⟨⟨_, rfl, ?_⟩, ?_⟩ | refine Lx ?_)))
    (case' hok => first | exact ⟨MI.ok_same rfl (Cg), trivial⟩ | exact trivial)
    (case' hN => rfl)
    (case' hS => rfl)
    all_goals (first | exact Ld | (rfl))
theorem l05Stretch_ac (t : List (List Int)) (n : Nat) (hM : MatOk t n) (q : Int) (hq : 0 < q ∧ q ≤ 1000000) : AC Tryz.prog 115 [TL t, I q] H0 (TL (shT t n 0 q)) H0 := by
  have hS := (l04ShiftG_ac t n hM 0 q (by omega) hq).frzT (by rw [TR_len]; exact shT_sq.l)
  refine AC.of_body 0 Tryz.func115 rfl (fun l h => absurd rfl h) (fun C hC => ?_)
  have hD : ∀ l, ¬ C.D0 l := fun l h => (hC l).1 h rfl
  simp only [startFr, Tryz.ntmps115, List.length_cons, List.length_nil, Nat.reduceAdd, Nat.reduceSub, List.replicate_succ, List.replicate_zero, List.cons_append, List.nil_append]
  repeat' (first | ((first | apply Ba | (apply Bb; (· rfl); (· rfl)) | (apply Bc; (· exact nxE)) | (apply Bd; (· rfl); (· rfl); (· exact nxE))); (· first | exact Kz rfl rfl (hS) (Ad (Aa (Ad (Ad An)) An)) | exact Ok.pe)) | ((first | apply Ca | (apply Cb; (· exact nxE))); (· first | exact Ok.e0)) | refine Sx ?_ | (refine Sy (fun h => ?_) (fun h => ?_) <;> try (exfalso; omega; done)) | refine Sz (fun h => ?_) (fun h => ?_))
  refine Ya ?_
  (apply Le.headZ (hs := []) [] rfl)
  all_goals (try dsimp only [srcs])
  (case' hfr => (repeat' (first | refine La ?_ ?_ | exact Lc | refine Lo ?_ | refine ⟨⟨_, rfl, ?_⟩, ?_⟩ | refine Lx ?_)))
  all_goals (first | exact Ld | exact trivial | (rfl))
abbrev hsSt (x : D) (q : Int) : HL := [(⟨0, []⟩, ⟨0, []⟩, ⟨1, [[.d x]]⟩), (⟨1, []⟩, ⟨1, []⟩, ⟨1, [[I q]]⟩)]
theorem hsSt_ok {x : D} {q : Int} : HOk (hsSt x q) := by
  intro p hp r hr c hc
  simp only [List.mem_cons, List.not_mem_nil, or_false] at hp
  rcases hp with rfl | rfl <;> (simp at hr; subst hr; simp at hc; subst hc; exact .d _)
set_option maxHeartbeats 1000000 in
theorem stFn_ac (t : List (List Int)) (n : Nat) (hM : MatOk t n) (q : Int) (hq : 0 < q ∧ q ≤ 1000000) (i j : Nat) (hi : i < n) (hj : j < n) : AC Tryz.prog 189 [I i, I j, Bx 1 0, Bx 1 1] (heapL (hsSt (TD t) q)) (I (shF (entN t) 0 q i j)) (heapL (hsSt (TD t) q)) := by
  obtain ⟨R, hR1, hR2, hR3⟩ := hM.sq.get hi hj
  have hRr := TR_get hR1
  have hRf := IR_get hR2
  have hRl : (IR R).length = n := by rw [IR_len, hR3]
  have hn := hM.le
  have htl : (mRows 1 (TR t)).length = n := by rw [mTR_len, hM.sq.l]
  have hb0 := hM.b j i
  unfold shF
  generalize entN t i j = e at *
  by_cases hb : e = BOT
  · rw [if_pos hb]
    rw [hb] at hRf
    unfold BOT at hRf ⊢
    refine AC.of_body 2 Tryz.func189 rfl (fun l h => by simp [heapL, upd] at h; (repeat' split at h) <;> simp_all) (fun C hC => ?_)
    simp only [startFr, Tryz.ntmps189, List.length_cons, List.length_nil, Nat.reduceAdd, Nat.reduceSub, List.replicate_succ, List.replicate_zero, List.cons_append, List.nil_append]
    have hD : ∀ l, C.D0 l → l = ⟨0, []⟩ ∨ l = ⟨1, []⟩ := fun l h => by have := (hC l).1 h; simp [heapL, upd] at this; (repeat' split at this) <;> simp_all
    repeat' (first | ((first | apply Ba | (apply Bb; (· rfl); (· rfl)) | (apply Bc; (· exact nxE)) | (apply Bd; (· rfl); (· rfl); (· exact nxE))); (· first | exact Ok.pe)) | ((first | apply Ca | (apply Cb; (· exact nxE))); (· first | exact Ok.e0)) | refine Sx ?_ | (refine Sy (fun h => ?_) (fun h => ?_) <;> try (exfalso; omega; done)) | refine Sz (fun h => ?_) (fun h => ?_))
    (refine end1p (by first | exact .inl rfl | exact .inr rfl) rfl (by first | exact rT rfl | exact rCA rfl rfl rfl rfl (by simp) | exact rCC rfl rfl rfl rfl rfl) ?_ (Le.head ([(⟨0, []⟩, ⟨0, []⟩, ⟨1, [[TL t]]⟩), (⟨1, []⟩, ⟨1, []⟩, ⟨1, [[I q]]⟩)]) (by first | exact fun l h => absurd h (hD l) | (intro l h; rcases hD l h with rfl; simp [tauL]) | (intro l h; rcases hD l h with rfl | rfl <;> simp [tauL]; done) | (intro l h; rcases hD l h with rfl | rfl | rfl <;> simp [tauL])) ?_ ?_ (by simp) (by simp) (by simp [AllP]) (n' := 1000)); (· rfl)) <;> (repeat' (first | exact trivial | exact ARs.nil | refine ARs.cons ?_ ?_ | exact AR.dead _ | exact AR.dd _ | exact AR.i (by (try dsimp only); omega) | exact AR.ptr _ _ _ _ (by simp [heapL, upd]) | exact AR.own _ _ _ _ (by simp [heapL, upd]) | refine AR.ownE _ _ _ ?_ (by simp [heapL, upd]) | refine ⟨⟨_, rfl, ?_⟩, ?_⟩ | exact ObA.data | refine ObA.box ?_ | refine ObA.frE ?_ | refine ObA.dataE ?_ | refine ARs.agg ?_ | refine ARs.tup ?_ | exact AR.clo' ARs.nil ARs.nil | exact AR.clo' ARs.nil (hca _ _)))
  · rw [if_neg hb, Int.sub_zero]
    have hbe := hb0 hb
    have hmb := mulB (q := q) (w := e) (Q := 1000000) (M := 1000000) (by omega) hq.2 hbe.1 hbe.2 (by decide)
    unfold BOT at hb
    refine AC.of_body 2 Tryz.func189 rfl (fun l h => by simp [heapL, upd] at h; (repeat' split at h) <;> simp_all) (fun C hC => ?_)
    simp only [startFr, Tryz.ntmps189, List.length_cons, List.length_nil, Nat.reduceAdd, Nat.reduceSub, List.replicate_succ, List.replicate_zero, List.cons_append, List.nil_append]
    have hD : ∀ l, C.D0 l → l = ⟨0, []⟩ ∨ l = ⟨1, []⟩ := fun l h => by have := (hC l).1 h; simp [heapL, upd] at this; (repeat' split at this) <;> simp_all
    repeat' (first | ((first | apply Ba | (apply Bb; (· rfl); (· rfl)) | (apply Bc; (· exact nxE)) | (apply Bd; (· rfl); (· rfl); (· exact nxE))); (· first | exact Ok.pe)) | ((first | apply Ca | (apply Cb; (· exact nxE))); (· first | exact Ok.e0)) | refine Sx ?_ | (refine Sy (fun h => ?_) (fun h => ?_) <;> try (exfalso; omega; done)) | refine Sz (fun h => ?_) (fun h => ?_))
    (refine end1p (by first | exact .inl rfl | exact .inr rfl) rfl (by first | exact rT rfl | exact rCA rfl rfl rfl rfl (by simp) | exact rCC rfl rfl rfl rfl rfl) ?_ (Le.head ([(⟨0, []⟩, ⟨0, []⟩, ⟨1, [[TL t]]⟩), (⟨1, []⟩, ⟨1, []⟩, ⟨1, [[I q]]⟩)]) (by first | exact fun l h => absurd h (hD l) | (intro l h; rcases hD l h with rfl; simp [tauL]) | (intro l h; rcases hD l h with rfl | rfl <;> simp [tauL]; done) | (intro l h; rcases hD l h with rfl | rfl | rfl <;> simp [tauL])) ?_ ?_ (by simp) (by simp) (by simp [AllP]) (n' := 1000)); (· rfl)) <;> (repeat' (first | exact trivial | exact ARs.nil | refine ARs.cons ?_ ?_ | exact AR.dead _ | exact AR.dd _ | exact AR.i (by (try dsimp only); omega) | exact AR.ptr _ _ _ _ (by simp [heapL, upd]) | exact AR.own _ _ _ _ (by simp [heapL, upd]) | refine AR.ownE _ _ _ ?_ (by simp [heapL, upd]) | refine ⟨⟨_, rfl, ?_⟩, ?_⟩ | exact ObA.data | refine ObA.box ?_ | refine ObA.frE ?_ | refine ObA.dataE ?_ | refine ARs.agg ?_ | refine ARs.tup ?_ | exact AR.clo' ARs.nil ARs.nil | exact AR.clo' ARs.nil (hca _ _)))
set_option maxHeartbeats 2000000 in
theorem mbySt_ac (m n : Nat) (hmn : m = n) (t : List (List Int)) (hMt : MatOk t n) (q : Int) (hq : 0 < q ∧ q ≤ 1000000) (hm : m ≤ 1000) (hn : n ≤ 1000) : AC Tryz.prog 188 [I m, I n, .clo (.func 189) [] [Bx 1 0, Bx 1 1]] (heapL [(⟨0, []⟩, ⟨0, []⟩, ⟨1, [[TL t]]⟩), (⟨1, []⟩, ⟨1, []⟩, ⟨1, [[I q]]⟩)]) (.own 1 ⟨2, []⟩ 0 m) (heapX [(⟨0, []⟩, ⟨0, []⟩, ⟨1, [[TL t]]⟩), (⟨1, []⟩, ⟨1, []⟩, ⟨1, [[I q]]⟩)] [mi1 ⟨2, []⟩ (TR (tabF m n (shF (entN t) 0 q)))]) := by
  refine AC.of_body 2 Tryz.func188 rfl (fun l h => by simp [heapL, upd] at h; (repeat' split at h) <;> simp_all) (fun C hC => ?_)
  simp only [startFr, Tryz.ntmps188, List.length_cons, List.length_nil, Nat.reduceAdd, Nat.reduceSub, List.replicate_succ, List.replicate_zero, List.cons_append, List.nil_append]
  have hD : ∀ l, C.D0 l → l = ⟨0, []⟩ ∨ l = ⟨1, []⟩ := fun l h => by have := (hC l).1 h; simp [heapL, upd] at this; (repeat' split at this) <;> simp_all
  repeat' (first | ((first | apply Ba | (apply Bb; (· rfl); (· rfl)) | (apply Bc; (· exact nxE)) | (apply Bd; (· rfl); (· rfl); (· exact nxE))); (· first | exact Ok.pe)) | ((first | apply Ca | (apply Cb; (· exact nxE))); (· first | exact Ok.e0)) | refine Sx ?_ | (refine Sy (fun h => ?_) (fun h => ?_) <;> try (exfalso; omega; done)) | refine Sz (fun h => ?_) (fun h => ?_))
  refine AW.loop (X := {k : Nat // k ≤ m}) (fun k => ⟨[Oo, I n, .clo (.func 189) [] [Bx 1 0, Bx 1 1], Oo, Oo, Oo, Oo, .own 1 ⟨2, []⟩ 0 m, Oo, Oo, Oo, Oo, Oo, I m, I (k.1 : Nat), Oo, Oo, Oo, Oo, Oo, Oo, Oo, Oo, Oo, Oo, Oo, Oo, Oo, Oo, Oo, Oo, Oo, Oo, Oo, Oo, Oo, Oo, Oo, Oo, Oo, Oo, Oo, Oo], heapX [(⟨0, []⟩, ⟨0, []⟩, ⟨1, [[TL t]]⟩), (⟨1, []⟩, ⟨1, []⟩, ⟨1, [[I q]]⟩)] [{ l := ⟨2, []⟩, k := 1, R := TR (tabF k.1 n (mixF (shF (entN t) 0 q) zz k.1 0)), nils := m - k.1, src := ⟨2, []⟩, base := ⟨2, []⟩ }], 900⟩) (fun k => m - k.1) ⟨0, Nat.zero_le _⟩ ?_ (fun k => ?_)
  ·
    (apply Le.headG [_, _] [{ l := ⟨2, []⟩, k := 1, R := [], nils := m, src := ⟨4, []⟩, base := ⟨4, []⟩ }] (fun _ => False))
    (case' hlen => rfl)
    (case' hms => rfl)
    all_goals (try dsimp only [srcs])
    (case' hfr | hob => (repeat' (first | refine La ?_ ?_ | exact Lc | refine Lo ?_ | refine ⟨⟨_, rfl, ?_⟩, ?_⟩ | refine Lx ?_)))
    (case' hok => first | exact ⟨MI.ok_make rfl, trivial⟩ | exact trivial)
    (case' hN => rfl)
    (case' hS => rfl)
    all_goals (first | exact Ld | (rfl))
  obtain ⟨i, hi⟩ := k
  simp only
  by_cases hlt : i < m
  ·
    have hti : (TR (tabF i n (mixF (shF (entN t) 0 q) zz i 0))).length = i := by rw [TR_len, tabF_len]
    rw [show m - i = (m - (i + 1)) + 1 by omega]
    repeat' (first | ((first | apply Ba | (apply Bb; (· rfl); (· rfl)) | (apply Bc; (· exact nxE)) | (apply Bd; (· rfl); (· rfl); (· exact nxE))); (· first | exact OpOk.loadCell rfl rfl rfl rfl (set_at (by simp only [outer_len]; rw [hti]; omega)) rfl | exact Ok.stT rfl rfl rfl (by dsimp only; rw [hti]; omega) rfl | exact Ok.pe)) | ((first | apply Ca | (apply Cb; (· exact nxE))); (· first | exact Ok.stT rfl rfl rfl (by dsimp only; rw [hti]; omega) rfl | exact Ok.e0)) | refine Sx ?_ | (refine Sy (fun h => ?_) (fun h => ?_) <;> try (exfalso; omega; done)) | refine Sz (fun h => ?_) (fun h => ?_))
    refine AW.loop (X := {k : Nat // k ≤ n}) (fun k => ⟨[Oo, I n, .clo (.func 189) [] [Bx 1 0, Bx 1 1], Oo, Oo, Oo, Oo, .own 1 ⟨2, []⟩ 0 m, I i, Oo, Oo, Oo, Oo, I m, I i, Oo, Oo, Oo, Oo, Oo, Oo, Oo, Oo, Oo, Oo, Oo, I n, I (k.1 : Nat), Oo, Oo, Oo, Oo, Oo, Oo, Oo, Oo, Oo, Oo, Oo, Oo, Oo, Oo, Oo], heapX [(⟨0, []⟩, ⟨0, []⟩, ⟨1, [[TL t]]⟩), (⟨1, []⟩, ⟨1, []⟩, ⟨1, [[I q]]⟩)] [{ l := ⟨2, []⟩, k := 1, R := TR (tabF (i + 1) n (mixF (shF (entN t) 0 q) zz i k.1)), nils := m - (i + 1), src := ⟨2, []⟩, base := ⟨2, []⟩ }], 900⟩) (fun k => n - k.1) ⟨0, Nat.zero_le _⟩ ?_ (fun k => ?_)
    ·
      (apply Le.headG [_, _] [{ l := ⟨2, []⟩, k := 1, R := TR (tabF (i + 1) n (mixF (shF (entN t) 0 q) zz i 0)), nils := m - (i + 1), src := ⟨2, []⟩, base := ⟨2, []⟩, cut := i, ext := some ⟨906, []⟩ }] (fun _ => False))
      (case' hlen => rfl)
      (case' hms => rfl)
      all_goals (try dsimp only [srcs])
      (case' hfr | hob => (repeat' (first | refine La ?_ ?_ | exact Lc | refine Lo ?_ | refine ⟨⟨_, rfl, ?_⟩, ?_⟩ | refine Lx ?_)))
      (case' hok => first | exact ⟨MI.ok_fill (r := List.replicate n [DI 0]) zz_snoc hti (by simp) rfl (Cg) rfl, trivial⟩ | exact trivial)
      (case' hN => rfl)
      (case' hS => rfl)
      all_goals (first | exact Ld | ((first | (simp [AllP, TR_len, tabF_len]; done) | (simp [AllP, TR_len, tabF_len]; omega))))
    obtain ⟨j, hj⟩ := k
    simp only
    by_cases hlt2 : j < n
    ·
      have hrw := TRF_get (n := n) (f := (mixF (shF (entN t) 0 q) zz i j)) (show i < i + 1 by omega)
      have hlr : (IR (rowF n ((mixF (shF (entN t) 0 q) zz i j) i))).length = n := by rw [IR_len, rowF_len]
      repeat' (first | ((first | apply Ba | (apply Bb; (· rfl); (· rfl)) | (apply Bc; (· exact nxE)) | (apply Bd; (· rfl); (· rfl); (· exact nxE))); (· first | exact Ok.ldTn rfl rfl rfl hrw hlr | exact OpOk.callS ([(⟨0, []⟩, ⟨0, []⟩, ⟨1, [[TL t]]⟩), (⟨1, []⟩, ⟨1, []⟩, ⟨1, [[I q]]⟩)]) rfl rfl (stFn_ac t n hMt q hq i j (by omega) hlt2) (by intro p hp; simp only [List.mem_cons, List.not_mem_nil, or_false] at hp; rcases hp with rfl | rfl <;> rfl) (by intro p hp r hr c hc; simp at hp; rcases hp with rfl | rfl <;> (simp at hr; subst hr; simp at hc; (try subst hc); (try rcases hc with rfl | rfl); exact .d _)) (.d _) (.cons (.dd _) (.cons (.dd _) (.cons (AR.ptr _ _ _ _ (by simp)) (.cons (AR.ptr _ _ _ _ (by simp)) .nil)))) | exact Ok.st1 rfl rfl (congrArg (Option.map (dobj 1)) hrw) (by simp [rowF_len]; omega) (by rw [IRF_get hlt2]; rfl) rfl rfl IR_set | exact Ok.pe)) | ((first | apply Ca | (apply Cb; (· exact nxE))); (· first | exact Ok.st1 rfl rfl (congrArg (Option.map (dobj 1)) hrw) (by simp [rowF_len]; omega) (by rw [IRF_get hlt2]; rfl) rfl rfl IR_set | exact Ok.e0)) | refine Sx ?_ | (refine Sy (fun h => ?_) (fun h => ?_) <;> try (exfalso; omega; done)) | refine Sz (fun h => ?_) (fun h => ?_))
      refine ⟨⟨j + 1, by omega⟩, ?_, by simp only; omega⟩
      (apply Le.headG [_, _] [{ l := ⟨2, []⟩, k := 1, R := TR (tabF (i + 1) n (mixF (shF (entN t) 0 q) zz i (j + 1))), nils := m - (i + 1), src := ⟨2, []⟩, base := ⟨2, []⟩ }] (fun _ => False))
      (case' hlen => rfl)
      (case' hms => rfl)
      all_goals (try dsimp only [srcs])
      (case' hfr | hob => (repeat' (first | refine La ?_ ?_ | exact Lc | refine Lo ?_ | refine ⟨⟨_, rfl, ?_⟩, ?_⟩ | refine Lx ?_)))
      (case' hok => first | exact ⟨MI.ok_row (tabF_set (fun a b _ _ => mixF_set)) hrw (by simp) rfl (Cg), trivial⟩ | exact trivial)
      (case' hN => rfl)
      (case' hS => rfl)
      all_goals (first | exact Ld | (rfl))
    ·
      have hjn : j = n := by omega
      subst hjn
      rw [mixF_row]
      repeat' (first | ((first | apply Ba | (apply Bb; (· rfl); (· rfl)) | (apply Bc; (· exact nxE)) | (apply Bd; (· rfl); (· rfl); (· exact nxE))); (· first | exact Ok.pe)) | ((first | apply Ca | (apply Cb; (· exact nxE))); (· first | exact Ok.e0)) | refine Sx ?_ | (refine Sy (fun h => ?_) (fun h => ?_) <;> try (exfalso; omega; done)) | refine Sz (fun h => ?_) (fun h => ?_))
      refine ⟨⟨i + 1, by omega⟩, ?_, by simp only; omega⟩
      (apply Le.headG [_, _] [{ l := ⟨2, []⟩, k := 1, R := TR (tabF (i + 1) j (mixF (shF (entN t) 0 q) zz (i + 1) 0)), nils := m - (i + 1), src := ⟨2, []⟩, base := ⟨2, []⟩ }] (fun _ => False))
      (case' hlen => rfl)
      (case' hms => rfl)
      all_goals (try dsimp only [srcs])
      (case' hfr | hob => (repeat' (first | refine La ?_ ?_ | exact Lc | refine Lo ?_ | refine ⟨⟨_, rfl, ?_⟩, ?_⟩ | refine Lx ?_)))
      (case' hok => first | exact ⟨MI.ok_same rfl (Cg), trivial⟩ | exact trivial)
      (case' hN => rfl)
      (case' hS => rfl)
      all_goals (first | exact Ld | (rfl))
  ·
    have him : i = m := by omega
    subst him
    rw [Nat.sub_self, mixF_all]
    repeat' (first | ((first | apply Ba | (apply Bb; (· rfl); (· rfl)) | (apply Bc; (· exact nxE)) | (apply Bd; (· rfl); (· rfl); (· exact nxE))); (· first | exact Ok.pe)) | ((first | apply Ca | (apply Cb; (· exact nxE))); (· first | exact Ok.e0)) | refine Sx ?_ | (refine Sy (fun h => ?_) (fun h => ?_) <;> try (exfalso; omega; done)) | refine Sz (fun h => ?_) (fun h => ?_))
    refine Ya ?_
    (apply Le.headG [⟨0, []⟩, ⟨1, []⟩] [mi1 ⟨2, []⟩ (TR (tabF i n (shF (entN t) 0 q)))] (fun _ => False))
    (case' hlen => rfl)
    (case' hms => rfl)
    all_goals (try dsimp only [srcs])
    (case' hfr | hob => (repeat' (first | refine La ?_ ?_ | exact Lc | refine Lo ?_ | refine ⟨⟨_, rfl, ?_⟩, ?_⟩ | refine Lx ?_)))
    (case' hok => first | exact ⟨MI.ok_same rfl (Cg), trivial⟩ | exact trivial)
    (case' hN => rfl)
    (case' hS => rfl)
    all_goals (first | exact Ld | (rfl))
set_option maxHeartbeats 1000000 in
theorem stretched_ac (t : List (List Int)) (n : Nat) (hM : MatOk t n) (q : Int) (hq : 0 < q ∧ q ≤ 1000000) : AC Tryz.prog 111 [TL t, I q] H0 (own1 1 n) (hpM 1 (TR (shT t n 0 q))) := by
  have hn := hM.le
  have htl : (mRows 1 (TR t)).length = n := by rw [mTR_len, hM.sq.l]
  have hF := mbySt_ac n n rfl t hM q hq (by omega) (by omega)
  refine AC.of_body 0 Tryz.func111 rfl (fun l h => absurd rfl h) (fun C hC => ?_)
  have hD : ∀ l, ¬ C.D0 l := fun l h => (hC l).1 h rfl
  simp only [startFr, Tryz.ntmps111, List.length_cons, List.length_nil, Nat.reduceAdd, Nat.reduceSub, List.replicate_succ, List.replicate_zero, List.cons_append, List.nil_append]
  repeat' (first | ((first | apply Ba | (apply Bb; (· rfl); (· rfl)) | (apply Bc; (· exact nxE)) | (apply Bd; (· rfl); (· rfl); (· exact nxE))); (· first | exact Ok.lenD rfl rfl htl | exact OpOk.callSX (hsSt (TD t) q) [mi1 ⟨2, []⟩ (TR (tabF n n (shF (entN t) 0 q)))] rfl rfl hF (by intro p hp; simp only [List.mem_cons, List.not_mem_nil, or_false] at hp; rcases hp with rfl | rfl <;> rfl) hsSt_ok (by simp [Loc.cov]) (.cons (.dd _) (.cons (.dd _) (.cons (AR.clo' .nil (.cons (AR.ptr _ _ _ _ (by simp)) (.cons (AR.ptr _ _ _ _ (by simp)) .nil))) .nil))) (by simp [rn, emb]; rfl) | exact Ok.pe)) | ((first | apply Ca | (apply Cb; (· exact nxE))); (· first | exact OpOk.callSX (hsSt (TD t) q) [mi1 ⟨2, []⟩ (TR (tabF n n (shF (entN t) 0 q)))] rfl rfl hF (by intro p hp; simp only [List.mem_cons, List.not_mem_nil, or_false] at hp; rcases hp with rfl | rfl <;> rfl) hsSt_ok (by simp [Loc.cov]) (.cons (.dd _) (.cons (.dd _) (.cons (AR.clo' .nil (.cons (AR.ptr _ _ _ _ (by simp)) (.cons (AR.ptr _ _ _ _ (by simp)) .nil))) .nil))) (by simp [rn, emb]; rfl) | exact Ok.e0)) | refine Sx ?_ | (refine Sy (fun h => ?_) (fun h => ?_) <;> try (exfalso; omega; done)) | refine Sz (fun h => ?_) (fun h => ?_))
  refine Ya ?_
  (apply Le.headG [] [{ l := ⟨0, []⟩, k := 1, R := TR (shT t n 0 q), src := ⟨8, [2]⟩, base := ⟨8, [2]⟩ }] (fun _ => False))
  (case' hlen => rfl)
  (case' hms => rfl)
  all_goals (try dsimp only [srcs])
  (case' hfr | hob => (repeat' (first | refine La ?_ ?_ | exact Lc | refine Lo ?_ | refine ⟨⟨_, rfl, ?_⟩, ?_⟩ | refine Lx ?_)))
  (case' hok => first | exact ⟨MI.ok_same rfl (Cg), trivial⟩ | exact trivial)
  (case' hN => rfl)
  (case' hS => rfl)
  all_goals (first | exact Ld | (rfl))
end Go.Proofs.YtpgcmpbamlnkkaaGreat
end
