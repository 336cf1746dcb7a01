/-
  Walks in the abstract reading, part 12.
-/
import Derived.Test.YtikadoicplnkgaaKcU11
section
namespace Go.Proofs.Ytikadoicplnkgaa
set_option linter.unusedSimpArgs false
set_option linter.unusedVariables false
open Go Go.RowKit
attribute [local irreducible] AL AD AW OpOk Le AC thenQ blockQ EndQ

/-- The least potential of a matrix without positive cycles. -/
noncomputable def poL (T : List (List Int)) (n : Nat) : List Int := rowF n fun i => apA (entN (tabF n n (starF (entN T) n))) (fun _ => 0) i n
theorem apA_geM {f : Nat → Nat → Int} {v : Nat → Int} {i j : Nat} : ∀ {k : Nat}, j < k → timesB (f i j) (v j) ≤ apA f v i k
  | k + 1, h => by
    simp only [apA]
    by_cases e : j = k
    · subst e; omega
    · have := apA_geM (f := f) (v := v) (i := i) (j := j) (k := k) (by omega); omega
theorem poL_ne {n : Nat} {T : List (List Int)} (hst : StarM T n) : ∀ a ∈ poL T n, a ≠ BOT := by
  intro a ha
  obtain ⟨i, hi, rfl⟩ := List.mem_map.1 ha
  rw [List.mem_range] at hi
  have := apA_geM (f := entN (tabF n n (starF (entN T) n))) (v := fun _ => 0) (i := i) (j := i) (k := n) hi
  rw [tabF_ent hi hi, star_dia0 hst.np hst.ok.some hst.ok.dia hi] at this
  unfold timesB BOT at this
  unfold BOT
  simp at this
  omega
theorem poL_ok {n : Nat} {T : List (List Int)} (hst : StarM T n) : ((poL T n).all fun a => isVal a && !decide (a = BOT)) = (poL T n).all isVal := by
  rw [Bool.eq_iff_iff]
  simp only [List.all_eq_true]
  refine ⟨fun h a ha => ?_, fun h a ha => ?_⟩
  · have := h a ha; simp at this; exact this.1
  · rw [h a ha, decide_eq_false (poL_ne hst a ha)]; rfl
theorem apOk_starM {n : Nat} {T : List (List Int)} (hst : StarM T n) : ApOk (entN (tabF n n (starF (entN T) n))) (fun _ => 0) n n := ⟨fun i j hi hj => by
  rw [tabF_ent hi hj, hst.star hi hj]
  rcases hst.cells (Nat.le_refl n) hi hj with h | h
  · exact .inl h
  · exact .inr (by omega), fun j _ => .inr (by omega)⟩
theorem zeroRowM {n : Nat} : IR (rowF n fun _ => 0) = List.replicate n [DI 0] := by simp [rowF, List.map_const']
set_option maxHeartbeats 2000000 in
theorem potentialOf_ac (t : List (List Int)) (n : Nat) (hM : MatOk t n) (p q : Int) (hp : -10000000 ≤ p ∧ p ≤ 10000000) (hq : 0 < q ∧ q ≤ 10) (hst : StarM (shT t n p q) n) : AC Try.prog 85 [TL t, .agg [I p, I q]] H0 (.tup [own1 1 (poL (shT t n p q) n).length, Bo true]) (hp1 (IO (poL (shT t n p q) n))) := by
  have hn := hM.le
  have hSh := (shifted_ac t n hM p q hp hq).frzT (by rw [TR_len]; exact shT_sq.l)
  have hSt := (starOf_ac (shT t n p q) n hst).frzT2 (by rw [TR_len, tabF_len])
  have hT : AC Try.prog 112 [TL (tabF n n (starF (entN (shT t n p q)) n)), .d (.sl 1 (List.replicate n [DI 0]))] H0 (own1 1 (poL (shT t n p q) n).length) (hp1 (IO (poL (shT t n p q) n))) := by
    rw [← zeroRowM, show (poL (shT t n p q) n).length = n from rowF_len]
    exact timesVector_ac (tabF n n (starF (entN (shT t n p q)) n)) n n (fun _ => 0) tabF_rc (by omega) (by omega) (apOk_starM hst)
  have htl : (mRows 1 (TR t)).length = n := by rw [mTR_len, hM.sq.l]
  generalize poL (shT t n p q) n = pt at *
  generalize starF (entN (shT t n p q)) n = s at *
  generalize shT t n p q = b at *
  clear hst
  refine AC.of_body 0 Try.func85 rfl (fun l h => absurd rfl h) (fun C hC => ?_)
  have hD : ∀ l, ¬ C.D0 l := fun l h => (hC l).1 h rfl
  simp only [startFr, Try.ntmps85, List.length_cons, List.length_nil, Nat.reduceAdd, Nat.reduceSub, List.replicate_succ, List.replicate_zero, List.cons_append, List.nil_append]
  repeat' (first | ((first | apply Ba | (apply Bb; (· rfl); (· rfl)) | (apply Bc; (· exact nxE)) | (apply Bd; (· rfl); (· rfl); (· exact nxE))); (· first | exact Ok.lenD rfl rfl htl | exact Kz rfl rfl (hSh) (Ad (Aa (Ad (Ad An)) An)) | exact Kz rfl rfl (hSt) (Ad An) | exact Eo rfl rfl (hT) (Sd (Sw Sn)) | exact Ok.pe)) | ((first | apply Ca | (apply Cb; (· exact nxE))); (· first | exact Eo rfl rfl (hT) (Sd (Sw Sn)) | exact Ok.e0)) | refine Sx ?_ | (refine Sy (fun h => ?_) (fun h => ?_) <;> try (exfalso; omega; done)) | refine Sz (fun h => ?_) (fun h => ?_))
  refine Yb ?_
  (apply Le.head [(⟨0, []⟩, _, _)])
  (case' hfr | hob => (repeat' (first | refine La ?_ ?_ | exact Lc | refine Lo ?_ | refine ⟨⟨_, rfl, ?_⟩, ?_⟩ | refine Lx ?_)))
  all_goals (first | exact Ld | (rfl))
set_option maxHeartbeats 2000000 in
theorem sPotentialOf_ac (t : List (List Int)) (n : Nat) (hs : isSq t = true) (hnt : t.length = n) (hM : MatOk t n) (p q : Int) (hrt : RtZ (p, q)) (hi : isRt (p, q) = true) (hp : -10000000 ≤ p ∧ p ≤ 10000000) (hq : 0 < q ∧ q ≤ 10) (hst : StarM (shT t n p q) n) (b : Bool) (hb : (poL (shT t n p q) n).all isVal = b) :
    AC Try.prog 84 [TL t, .agg [I p, I q]] H0 (.tup [IL (if b = true then poL (shT t n p q) n else []), I (if b = true then 0 else 3)]) H0 := by
  have hn := hM.le
  have hQ := l02Square_ac t (by omega) (fun r h => by rw [hM.sq.r r h]; omega)
  rw [hs] at hQ
  have hR := sIsRatioZ_ac (p, q) hrt
  rw [hi] at hR
  simp only at hR
  have hSh := (l04Shift_ac t n hM p q hp hq).frzT (by rw [TR_len]; exact shT_sq.l)
  have hSt := (l03Star_ac (shT t n p q) n hst).frzT2 (by rw [TR_len, tabF_len])
  have hpl : (poL (shT t n p q) n).length = n := rowF_len
  have hT : AC Try.prog 115 [TL (tabF n n (starF (entN (shT t n p q)) n)), .d (.sl 1 (List.replicate n [DI 0]))] H0 (own1 1 (poL (shT t n p q) n).length) (hp1 (IO (poL (shT t n p q) n))) := by
    rw [← zeroRowM, hpl]
    exact l02Apply_ac (tabF n n (starF (entN (shT t n p q)) n)) n n (fun _ => 0) tabF_rc (by omega) (by omega) (apOk_starM hst)
  have htl : (mRows 1 (TR t)).length = n := by rw [mTR_len, hM.sq.l]
  have hA := l01All_ac (poL (shT t n p q) n) (by omega)
  rw [poL_ok hst, hb] at hA
  have hpl2 : (IR (poL (shT t n p q) n)).length = n := by rw [IR_len, hpl]
  clear hb
  generalize poL (shT t n p q) n = pt at *
  generalize starF (entN (shT t n p q)) n = s at *
  generalize shT t n p q = sh at *
  clear hst
  cases b
  · rw [if_neg (by decide), if_neg (by decide)]
    refine AC.of_body 0 Try.func84 rfl (fun l h => absurd rfl h) (fun C hC => ?_)
    have hD : ∀ l, ¬ C.D0 l := fun l h => (hC l).1 h rfl
    simp only [startFr, Try.ntmps84, List.length_cons, List.length_nil, Nat.reduceAdd, Nat.reduceSub, List.replicate_succ, List.replicate_zero, List.cons_append, List.nil_append]
    repeat' (first | ((first | apply Ba | (apply Bb; (· rfl); (· rfl)) | (apply Bc; (· exact nxE)) | (apply Bd; (· rfl); (· rfl); (· exact nxE))); (· first | exact Ok.lenD rfl rfl htl | exact Kz rfl rfl (hQ) (Ad An) | exact Kz rfl rfl (hR) (Aa (Ad (Ad An)) An) | exact Kz rfl rfl (hSh) (Ad (Aa (Ad (Ad An)) An)) | exact Kz rfl rfl (hSt) (Ad An) | exact Ez rfl rfl (hA) (Sw (Sd Sn)) | exact Eo rfl rfl (hT) (Sd (Sw Sn)) | exact Ok.pe)) | ((first | apply Ca | (apply Cb; (· exact nxE))); (· first | exact Eo rfl rfl (hT) (Sd (Sw Sn)) | exact Ok.e0)) | refine Sx ?_ | (refine Sy (fun h => ?_) (fun h => ?_) <;> try (exfalso; omega; done)) | refine Sz (fun h => ?_) (fun h => ?_))
    refine Yb ?_
    (apply Le.headZ (hs := []) [] rfl)
    all_goals (try dsimp only [srcs])
    (case' hfr => (repeat' (first | refine La ?_ ?_ | exact Lc | refine Lo ?_ | refine ⟨⟨_, rfl, ?_⟩, ?_⟩ | refine Lx ?_)))
    all_goals (first | exact Ld | exact trivial | (rfl))
  · rw [if_pos rfl, if_pos rfl]
    refine AC.of_body 0 Try.func84 rfl (fun l h => absurd rfl h) (fun C hC => ?_)
    have hD : ∀ l, ¬ C.D0 l := fun l h => (hC l).1 h rfl
    simp only [startFr, Try.ntmps84, List.length_cons, List.length_nil, Nat.reduceAdd, Nat.reduceSub, List.replicate_succ, List.replicate_zero, List.cons_append, List.nil_append]
    repeat' (first | ((first | apply Ba | (apply Bb; (· rfl); (· rfl)) | (apply Bc; (· exact nxE)) | (apply Bd; (· rfl); (· rfl); (· exact nxE))); (· first | exact Ok.lenD rfl rfl htl | exact Kz rfl rfl (hQ) (Ad An) | exact Kz rfl rfl (hR) (Aa (Ad (Ad An)) An) | exact Kz rfl rfl (hSh) (Ad (Aa (Ad (Ad An)) An)) | exact Kz rfl rfl (hSt) (Ad An) | exact Ez rfl rfl (hA) (Sw (Sd Sn)) | exact Eo rfl rfl (hT) (Sd (Sw Sn)) | exact Ok.pe)) | ((first | apply Ca | (apply Cb; (· exact nxE))); (· first | exact Eo rfl rfl (hT) (Sd (Sw Sn)) | exact Ok.e0)) | refine Sx ?_ | (refine Sy (fun h => ?_) (fun h => ?_) <;> try (exfalso; omega; done)) | refine Sz (fun h => ?_) (fun h => ?_))
    refine Yb ?_
    (apply Le.headZ (hs := []) [] rfl)
    all_goals (try dsimp only [srcs])
    (case' hfr => (repeat' (first | refine La ?_ ?_ | exact Lc | refine Lo ?_ | refine ⟨⟨_, rfl, ?_⟩, ?_⟩ | refine Lx ?_)))
    all_goals (first | exact Ld | exact trivial | (rfl))
/-! ### The certificate -/
noncomputable def ctP (t : List (List Int)) : List Int := poL (shT t t.length (kmR (entN t) t.length).1 (kmR (entN t) t.length).2) t.length
noncomputable def cfC (t : List (List Int)) : Int := if cmC t = 0 then (if (ctP t).all isVal = true then 0 else 3) else cmC t
noncomputable def cfR (t : List (List Int)) : Int × Int := if cfC t = 0 then kmR (entN t) t.length else (0, 0)
noncomputable def cfL (t : List (List Int)) : List Int := if cfC t = 0 then cN (bmL t) else []
noncomputable def cfX (t : List (List Int)) : List Int := if cfC t = 0 then ctP t else []
set_option maxHeartbeats 4000000 in
theorem sCertifyMean_ac (t : List (List Int)) (ht : t.length ≤ 100000000) (hr : ∀ r ∈ t, r.length ≤ 100000000) : AC Try.prog 24 [TL t] H0 (.tup [.agg [I (cfR t).1, I (cfR t).2], IL (cfL t), IL (cfX t), I (cfC t)]) H0 := by
  have hCm := sCycleMean_ac t ht hr
  unfold cfX cfL cfR
  by_cases hz : cmC t = 0
  case neg =>
    have e : cfC t = cmC t := by unfold cfC; rw [if_neg hz]
    rw [e, if_neg hz, if_neg hz, if_neg hz]
    rw [cm_no hz] at hCm
    generalize cmC t = c at *
    refine AC.of_body 0 Try.func24 rfl (fun l h => absurd rfl h) (fun C hC => ?_)
    have hD : ∀ l, ¬ C.D0 l := fun l h => (hC l).1 h rfl
    simp only [startFr, Try.ntmps24, List.length_cons, List.length_nil, Nat.reduceAdd, Nat.reduceSub, List.replicate_succ, List.replicate_zero, List.cons_append, List.nil_append]
    repeat' (first | ((first | apply Ba | (apply Bb; (· rfl); (· rfl)) | (apply Bc; (· exact nxE)) | (apply Bd; (· rfl); (· rfl); (· exact nxE))); (· first | exact Kz rfl rfl (hCm) (Ad An) | exact Ok.pe)) | ((first | apply Ca | (apply Cb; (· exact nxE))); (· first | exact Ok.e0)) | refine Sx ?_ | (refine Sy (fun h => ?_) (fun h => ?_) <;> try (exfalso; omega; done)) | refine Sz (fun h => ?_) (fun h => ?_))
    refine Yd ?_
    (apply Le.headZ (hs := []) [] rfl)
    all_goals (try dsimp only [srcs])
    (case' hfr => (repeat' (first | refine La ?_ ?_ | exact Lc | refine Lo ?_ | refine ⟨⟨_, rfl, ?_⟩, ?_⟩ | refine Lx ?_)))
    all_goals (first | exact Ld | exact trivial | (rfl))
  obtain ⟨hs, hc, hi, hm, hbm⟩ := cm_ok hz
  have hMt := isSq_ok hs
  obtain ⟨h1, h2, h3, h4⟩ := kmR_ok hMt.b hMt.le hc
  have hB := l04Best_yes t t.length hMt hc
  have hbl : bmL t = bkF t t.length (kmR (entN t) t.length) (-1) := by unfold bmL; rw [if_pos hbm]
  rw [← hbl] at hB
  have hP := sPotentialOf_ac t t.length hs rfl hMt (kmR (entN t) t.length).1 (kmR (entN t) t.length).2 (kmR_rt hMt hc) hi h3 h4 (starM_k hMt hc) _ rfl
  have hct : poL (shT t t.length (kmR (entN t) t.length).1 (kmR (entN t) t.length).2) t.length = ctP t := rfl
  rw [hct] at hP
  have hec : cfC t = if (ctP t).all isVal = true then 0 else 3 := by unfold cfC; rw [if_pos hz]
  rw [hz, hm] at hCm
  rw [hec]
  clear h1 h2 h3 h4 hMt hm hec hct hbl hi
  generalize kmR (entN t) t.length = m at *
  generalize cN (bmL t) = c at *
  have k3 : ((3 : Int) = 0) = False := by simp
  have kt : (true = true) = True := by simp
  cases hall : (ctP t).all isVal
  · rw [hall] at hP
    simp only [Bool.false_eq_true, if_false, k3] at hP ⊢
    refine AC.of_body 0 Try.func24 rfl (fun l h => absurd rfl h) (fun C hC => ?_)
    have hD : ∀ l, ¬ C.D0 l := fun l h => (hC l).1 h rfl
    simp only [startFr, Try.ntmps24, List.length_cons, List.length_nil, Nat.reduceAdd, Nat.reduceSub, List.replicate_succ, List.replicate_zero, List.cons_append, List.nil_append]
    repeat' (first | ((first | apply Ba | (apply Bb; (· rfl); (· rfl)) | (apply Bc; (· exact nxE)) | (apply Bd; (· rfl); (· rfl); (· exact nxE))); (· first | exact Kz rfl rfl (hCm) (Ad An) | exact Kz rfl rfl (hP) (Ad (Aa (Ad (Ad An)) An)) | exact Ok.pe)) | ((first | apply Ca | (apply Cb; (· exact nxE))); (· first | exact Ok.e0)) | refine Sx ?_ | (refine Sy (fun h => ?_) (fun h => ?_) <;> try (exfalso; omega; done)) | refine Sz (fun h => ?_) (fun h => ?_))
    refine Yd ?_
    (apply Le.headZ (hs := []) [] rfl)
    all_goals (try dsimp only [srcs])
    (case' hfr => (repeat' (first | refine La ?_ ?_ | exact Lc | refine Lo ?_ | refine ⟨⟨_, rfl, ?_⟩, ?_⟩ | refine Lx ?_)))
    all_goals (first | exact Ld | exact trivial | (rfl))
  · rw [hall] at hP
    simp only [kt, if_true, eq_self] at hP ⊢
    generalize ctP t = x at *
    refine AC.of_body 0 Try.func24 rfl (fun l h => absurd rfl h) (fun C hC => ?_)
    have hD : ∀ l, ¬ C.D0 l := fun l h => (hC l).1 h rfl
    simp only [startFr, Try.ntmps24, List.length_cons, List.length_nil, Nat.reduceAdd, Nat.reduceSub, List.replicate_succ, List.replicate_zero, List.cons_append, List.nil_append]
    repeat' (first | ((first | apply Ba | (apply Bb; (· rfl); (· rfl)) | (apply Bc; (· exact nxE)) | (apply Bd; (· rfl); (· rfl); (· exact nxE))); (· first | exact Kz rfl rfl (hCm) (Ad An) | exact Kz rfl rfl (hP) (Ad (Aa (Ad (Ad An)) An)) | exact Kz rfl rfl (hB) (Ad An) | exact Ok.pe)) | ((first | apply Ca | (apply Cb; (· exact nxE))); (· first | exact Ok.e0)) | refine Sx ?_ | (refine Sy (fun h => ?_) (fun h => ?_) <;> try (exfalso; omega; done)) | refine Sz (fun h => ?_) (fun h => ?_))
    refine Yd ?_
    (apply Le.headZ (hs := []) [] rfl)
    all_goals (try dsimp only [srcs])
    (case' hfr => (repeat' (first | refine La ?_ ?_ | exact Lc | refine Lo ?_ | refine ⟨⟨_, rfl, ?_⟩, ?_⟩ | refine Lx ?_)))
    all_goals (first | exact Ld | exact trivial | (rfl))
set_option maxHeartbeats 4000000 in
theorem iCertifyMean_ac (t : List (List Int)) (ht : t.length ≤ 100000000) (hr : ∀ r ∈ t, r.length ≤ 100000000) : AC Try.prog 25 [TL t] H0 (.tup [.agg [I (cfR t).1, I (cfR t).2], own1 1 (cfL t).length, .own 1 ⟨1, []⟩ 0 (cfX t).length, I (cfC t)]) (hp2 (IO (cfL t)) (IO (cfX t))) := by
  have hQ := iIsSquare_ac t ht hr
  unfold cfX cfL cfR
  rcases bmC_cases t with ⟨e, hs⟩ | ⟨hs, hc, e⟩ | ⟨hs, hc, e⟩
  · have ec : cfC t = 1 := by
      have e2 : cmC t = 1 := by unfold cmC; rw [e, if_neg (by decide)]
      unfold cfC; rw [e2, if_neg (by decide)]
    rw [ec, if_neg (by decide), if_neg (by decide), if_neg (by decide)]
    rw [hs] at hQ
    refine AC.of_body 0 Try.func25 rfl (fun l h => absurd rfl h) (fun C hC => ?_)
    have hD : ∀ l, ¬ C.D0 l := fun l h => (hC l).1 h rfl
    simp only [startFr, Try.ntmps25, List.length_cons, List.length_nil, Nat.reduceAdd, Nat.reduceSub, List.replicate_succ, List.replicate_zero, List.cons_append, List.nil_append]
    repeat' (first | ((first | apply Ba | (apply Bb; (· rfl); (· rfl)) | (apply Bc; (· exact nxE)) | (apply Bd; (· rfl); (· rfl); (· exact nxE))); (· first | exact Kz rfl rfl (hQ) (Ad An) | exact Ok.pe)) | ((first | apply Ca | (apply Cb; (· exact nxE))); (· first | exact Ok.e0)) | refine Sx ?_ | (refine Sy (fun h => ?_) (fun h => ?_) <;> try (exfalso; omega; done)) | refine Sz (fun h => ?_) (fun h => ?_))
    exact end4nil2 (ds := [DI 0, DI 0]) (.inl rfl) rfl (by first | exact rT rfl | exact rCA rfl rfl rfl rfl (by simp) | exact rCC rfl rfl rfl rfl rfl) (by rfl) (rT rfl) (rT rfl) (rT rfl) hD
  · rw [hs] at hQ
    have hMt := isSq_ok hs
    have hCm := cycleMean_ac t t.length hMt
    rw [kmR_get hMt hc] at hCm
    simp only [Option.getD, Option.isSome] at hCm
    obtain ⟨h1, h2, h3, h4⟩ := kmR_ok hMt.b hMt.le hc
    have hB := bestCycle_ac t t.length hMt hc
    have hbl : bmL t = bkF t t.length (kmR (entN t) t.length) (-1) := by unfold bmL; rw [if_pos e]
    rw [← hbl] at hB
    have hP := potentialOf_ac t t.length hMt (kmR (entN t) t.length).1 (kmR (entN t) t.length).2 h3 h4 (starM_k hMt hc)
    have hct : poL (shT t t.length (kmR (entN t) t.length).1 (kmR (entN t) t.length).2) t.length = ctP t := rfl
    rw [hct] at hP
    have hcl : (ctP t).length = t.length := rowF_len
    have hA := areValues_ac (ctP t) (by omega)
    have hRt := iIsRatioZ_ac _ (kmR_rt hMt hc)
    have hec : cfC t = if isRt (kmR (entN t) t.length) = true then (if (ctP t).all isVal = true then 0 else 3) else 3 := by
      unfold cfC cmC rtC
      rw [e, if_pos rfl]
      by_cases hi : isRt (kmR (entN t) t.length) = true
      · rw [if_pos hi, if_pos rfl, if_pos hi]
      · rw [if_neg hi, if_neg (by decide), if_neg hi]
    rw [show (bmL t).length = (cN (bmL t)).length by simp] at hB
    rw [hec]
    clear h1 h2 h3 h4 hMt hec hct hbl
    generalize kmR (entN t) t.length = m at *
    generalize cN (bmL t) = c at *
    have k3 : ((3 : Int) = 0) = False := by simp
    have kt : (true = true) = True := by simp
    cases hi : isRt m
    · rw [hi] at hRt
      simp only [Bool.false_eq_true, if_false, k3]
      generalize ctP t = x at *
      refine AC.of_body 0 Try.func25 rfl (fun l h => absurd rfl h) (fun C hC => ?_)
      have hD : ∀ l, ¬ C.D0 l := fun l h => (hC l).1 h rfl
      simp only [startFr, Try.ntmps25, List.length_cons, List.length_nil, Nat.reduceAdd, Nat.reduceSub, List.replicate_succ, List.replicate_zero, List.cons_append, List.nil_append]
      repeat' (first | ((first | apply Ba | (apply Bb; (· rfl); (· rfl)) | (apply Bc; (· exact nxE)) | (apply Bd; (· rfl); (· rfl); (· exact nxE))); (· first | exact Kz rfl rfl (hQ) (Ad An) | exact Kz rfl rfl (hCm) (Ad An) | exact Kz rfl rfl (hRt) (Aa (Ad (Ad An)) An) | exact Eo rfl rfl (hP) (Sd (Sa (Sd (Sd Sn)) Sn)) | exact Ok.pe)) | ((first | apply Ca | (apply Cb; (· exact nxE))); (· first | exact Eo rfl rfl (hP) (Sd (Sa (Sd (Sd Sn)) Sn)) | exact Ok.e0)) | refine Sx ?_ | (refine Sy (fun h => ?_) (fun h => ?_) <;> try (exfalso; omega; done)) | refine Sz (fun h => ?_) (fun h => ?_))
      exact end4nil2 (ds := [DI 0, DI 0]) (.inl rfl) rfl (by first | exact rT rfl | exact rCA rfl rfl rfl rfl (by simp) | exact rCC rfl rfl rfl rfl rfl) (by rfl) (rT rfl) (rT rfl) (rT rfl) hD
    · rw [hi] at hRt
      cases hall : (ctP t).all isVal
      · rw [hall] at hA
        simp only [kt, if_true, Bool.false_eq_true, if_false, k3]
        generalize ctP t = x at *
        refine AC.of_body 0 Try.func25 rfl (fun l h => absurd rfl h) (fun C hC => ?_)
        have hD : ∀ l, ¬ C.D0 l := fun l h => (hC l).1 h rfl
        simp only [startFr, Try.ntmps25, List.length_cons, List.length_nil, Nat.reduceAdd, Nat.reduceSub, List.replicate_succ, List.replicate_zero, List.cons_append, List.nil_append]
        repeat' (first | ((first | apply Ba | (apply Bb; (· rfl); (· rfl)) | (apply Bc; (· exact nxE)) | (apply Bd; (· rfl); (· rfl); (· exact nxE))); (· first | exact Kz rfl rfl (hQ) (Ad An) | exact Kz rfl rfl (hCm) (Ad An) | exact Kz rfl rfl (hRt) (Aa (Ad (Ad An)) An) | exact Ez rfl rfl (hA) (Sw Sn) | exact Eo rfl rfl (hP) (Sd (Sa (Sd (Sd Sn)) Sn)) | exact Ok.pe)) | ((first | apply Ca | (apply Cb; (· exact nxE))); (· first | exact Eo rfl rfl (hP) (Sd (Sa (Sd (Sd Sn)) Sn)) | exact Ok.e0)) | refine Sx ?_ | (refine Sy (fun h => ?_) (fun h => ?_) <;> try (exfalso; omega; done)) | refine Sz (fun h => ?_) (fun h => ?_))
        exact end4nil2 (ds := [DI 0, DI 0]) (.inl rfl) rfl (by first | exact rT rfl | exact rCA rfl rfl rfl rfl (by simp) | exact rCC rfl rfl rfl rfl rfl) (by rfl) (rT rfl) (rT rfl) (rT rfl) hD
      · rw [hall] at hA
        simp only [kt, if_true, eq_self]
        generalize ctP t = x at *
        refine AC.of_body 0 Try.func25 rfl (fun l h => absurd rfl h) (fun C hC => ?_)
        have hD : ∀ l, ¬ C.D0 l := fun l h => (hC l).1 h rfl
        simp only [startFr, Try.ntmps25, List.length_cons, List.length_nil, Nat.reduceAdd, Nat.reduceSub, List.replicate_succ, List.replicate_zero, List.cons_append, List.nil_append]
        repeat' (first | ((first | apply Ba | (apply Bb; (· rfl); (· rfl)) | (apply Bc; (· exact nxE)) | (apply Bd; (· rfl); (· rfl); (· exact nxE))); (· first | exact Kz rfl rfl (hQ) (Ad An) | exact Kz rfl rfl (hCm) (Ad An) | exact Kz rfl rfl (hRt) (Aa (Ad (Ad An)) An) | exact Ez rfl rfl (hA) (Sw Sn) | exact Eo rfl rfl (hP) (Sd (Sa (Sd (Sd Sn)) Sn)) | exact Eo rfl rfl (hB) (Sd (Sa (Sd (Sd Sn)) Sn)) | exact Ok.pe)) | ((first | apply Ca | (apply Cb; (· exact nxE))); (· first | exact Eo rfl rfl (hP) (Sd (Sa (Sd (Sd Sn)) Sn)) | exact Eo rfl rfl (hB) (Sd (Sa (Sd (Sd Sn)) Sn)) | exact Ok.e0)) | refine Sx ?_ | (refine Sy (fun h => ?_) (fun h => ?_) <;> try (exfalso; omega; done)) | refine Sz (fun h => ?_) (fun h => ?_))
        refine Yd ?_
        (apply Le.head [(⟨0, []⟩, _, _), (⟨1, []⟩, _, _)])
        (case' hfr | hob => (repeat' (first | refine La ?_ ?_ | exact Lc | refine Lo ?_ | refine ⟨⟨_, rfl, ?_⟩, ?_⟩ | refine Lx ?_)))
        all_goals (first | exact Ld | (rfl))
  · have ec : cfC t = 4 := by
      have e2 : cmC t = 4 := by unfold cmC; rw [e, if_neg (by decide)]
      unfold cfC; rw [e2, if_neg (by decide)]
    rw [ec, if_neg (by decide), if_neg (by decide), if_neg (by decide)]
    rw [hs] at hQ
    have hMt := isSq_ok hs
    have hCm := cycleMean_ac t t.length hMt
    rw [karp_no hMt.b hMt.le hc] at hCm
    simp only [Option.getD, Option.isSome] at hCm
    refine AC.of_body 0 Try.func25 rfl (fun l h => absurd rfl h) (fun C hC => ?_)
    have hD : ∀ l, ¬ C.D0 l := fun l h => (hC l).1 h rfl
    simp only [startFr, Try.ntmps25, List.length_cons, List.length_nil, Nat.reduceAdd, Nat.reduceSub, List.replicate_succ, List.replicate_zero, List.cons_append, List.nil_append]
    repeat' (first | ((first | apply Ba | (apply Bb; (· rfl); (· rfl)) | (apply Bc; (· exact nxE)) | (apply Bd; (· rfl); (· rfl); (· exact nxE))); (· first | exact Kz rfl rfl (hQ) (Ad An) | exact Kz rfl rfl (hCm) (Ad An) | exact Ok.pe)) | ((first | apply Ca | (apply Cb; (· exact nxE))); (· first | exact Ok.e0)) | refine Sx ?_ | (refine Sy (fun h => ?_) (fun h => ?_) <;> try (exfalso; omega; done)) | refine Sz (fun h => ?_) (fun h => ?_))
    exact end4nil2 (ds := [DI 0, DI 0]) (.inl rfl) rfl (by first | exact rT rfl | exact rCA rfl rfl rfl rfl (by simp) | exact rCC rfl rfl rfl rfl rfl) (by rfl) (rT rfl) (rT rfl) (rT rfl) hD
theorem cfC_sq {t : List (List Int)} (h : cfC t = 0) : isSq t = true := by
  unfold cfC at h
  by_cases hz : cmC t = 0
  · exact (cm_ok hz).1
  · rw [if_neg hz] at h; exact absurd h hz
theorem cfX_len {t : List (List Int)} : (cfX t).length ≤ 1000 := by
  unfold cfX
  split
  · rename_i h
    have := (isSq_ok (cfC_sq h)).le
    have : (ctP t).length = t.length := rowF_len
    omega
  · simp
theorem cfL_len {t : List (List Int)} : (cfL t).length ≤ 1000 := by
  unfold cfL
  split
  · rename_i h
    have := (isSq_ok (cfC_sq h)).le
    rw [List.length_map]
    unfold bmL
    split
    · have := bkF_len (t := t) (n := t.length) (r := kmR (entN t) t.length) (over := -1)
      omega
    · simp
  · simp
end Go.Proofs.Ytikadoicplnkgaa
end

section
namespace Go.Proofs.Ytikadoicplnkgaa
set_option linter.unusedSimpArgs false
set_option linter.unusedVariables false
open Go Go.RowKit
attribute [local irreducible] AL AD AW OpOk Le AC thenQ blockQ EndQ

abbrev QR (ms : List (List (List Int))) : List (List D) := ms.map fun t => [TD t]
abbrev QD (ms : List (List (List Int))) : D := .sl 1 (QR ms)
abbrev QL (ms : List (List (List Int))) : AV := .d (QD ms)
theorem QR_get {ms : List (List (List Int))} {k : Nat} {t : List (List Int)} (h : ms[k]? = some t) : (QR ms)[((k : Nat) : Int).toNat]? = some [TD t] := by simp [QR, h]
structure MsOk (ms : List (List (List Int))) : Prop where
  n : ms.length ≤ 100000000
  t : ∀ t ∈ ms, t.length ≤ 100000000
  r : ∀ t ∈ ms, ∀ r ∈ t, r.length ≤ 100000000
def badMo (n : Nat) (t : List (List Int)) : Bool := !(isSq t) || !(decide ((t.length : Int) = n))
def okMo (n : Nat) (t : List (List Int)) : Bool := isSq t && decide ((t.length : Int) = n)
def areMo (ms : List (List (List Int))) : Bool := decide (1 ≤ ms.length ∧ ms.length ≤ 4) && !(ms.any (badMo (ms.headD []).length))
theorem areMo_all {ms : List (List (List Int))} : areMo ms = (decide (1 ≤ ms.length ∧ ms.length ≤ 4) && ms.all (okMo (ms.headD []).length)) := by
  unfold areMo
  congr 1
  rw [List.all_eq_not_any_not]
  congr 1
  apply List.any_congr rfl
  intro t
  unfold badMo okMo
  simp
theorem areMo_ok {ms : List (List (List Int))} (h : areMo ms = true) : ∃ t0 q, ms = t0 :: q ∧ q.length ≤ 3 ∧ MatOk t0 t0.length ∧ ∀ t ∈ q, MatOk t t0.length := by
  rw [areMo_all, Bool.and_eq_true, decide_eq_true_eq, List.all_eq_true] at h
  obtain ⟨⟨h1, h2⟩, h3⟩ := h
  cases ms with
  | nil => simp at h1
  | cons t0 q =>
    have key : ∀ t ∈ t0 :: q, MatOk t t0.length := fun t ht => by
      have := h3 t ht
      unfold okMo at this
      rw [Bool.and_eq_true, decide_eq_true_eq] at this
      have h4 := isSq_ok this.1
      rw [show t.length = t0.length by have := this.2; simp only [List.headD_cons] at this; omega] at h4
      exact h4
    exact ⟨t0, q, rfl, by simp at h2; omega, key t0 (by simp), fun t ht => key t (by simp [ht])⟩
set_option maxHeartbeats 1000000 in
theorem indexFuncQ_ac (t : List (List (List Int))) (hn : t.length ≤ 100000000) (g : FuncId) [FnBody Try.prog g] (caps : List AV) (hs : HL) (hself : ∀ p ∈ hs, p.2.1 = p.1) (hnd : (hs.map (·.1)).Nodup) (hok : HOk hs) (hcaps : ∀ c ∈ caps, Locs (· ∈ hs.map (·.1)) c) (M : Nat) (hM : ∀ p ∈ hs, p.1.id < M) (pred : List (List Int) → Bool)
    (hg : ∀ r ∈ t, AC Try.prog g (TL r :: caps) (heapL hs) (Bo (pred r)) (heapL hs)) : AC Try.prog 177 [QL t, .clo (.func g) [] caps] (heapL hs) (I (idxOf pred t 0)) (heapL hs) := by
  refine AC.of_body M Try.func177 rfl (fun l h => by obtain ⟨p, hp, e⟩ := List.mem_map.1 (heapL_iff.1 h); rw [← e]; exact hM p hp) (fun C hC => ?_)
  simp only [startFr, Try.ntmps177, List.length_cons, List.length_nil, Nat.reduceAdd, Nat.reduceSub, List.replicate_succ, List.replicate_zero, List.cons_append, List.nil_append]
  repeat' (first | ((first | apply Ba | (apply Bb; (· rfl); (· rfl)) | (apply Bc; (· exact nxE)) | (apply Bd; (· rfl); (· rfl); (· exact nxE))); (· first | exact Ok.pe)) | ((first | apply Ca | (apply Cb; (· exact nxE))); (· first | exact Ok.e0)) | refine Sx ?_ | (refine Sy (fun h => ?_) (fun h => ?_) <;> try (exfalso; omega; done)) | refine Sz (fun h => ?_) (fun h => ?_))
  have hca : ∀ H lent, ARs H lent id (· ∈ hs.map (·.1)) caps caps := fun H lent => ⟨rfl, fun i c c' h1 h2 => by rw [h1] at h2; cases h2; exact (hcaps c (List.mem_of_getElem? h1)).ar⟩
  have hD : ∀ l, C.D0 l → l.id < M := fun l h => by obtain ⟨p, hp, e⟩ := List.mem_map.1 (heapL_iff.1 ((hC l).1 h)); rw [← e]; exact hM p hp
  refine AW.loop (X := {k : Nat // k ≤ t.length ∧ idxOf pred t 0 = idxOf pred (t.drop k) k}) (fun k => ⟨[QL t, .clo (.func g) [] caps, Oo, Oo, Oo, Oo, Oo, I t.length, I (k.1 : Nat), Oo, Oo, Oo, Oo, Oo, Oo, Oo, Oo, Oo, Oo], heapL hs, M⟩) (fun k => t.length - k.1) ⟨0, Nat.zero_le _, by simp⟩ ?_ (fun k => ?_)
  ·
    refine Le.keep hself hnd hok ?_ hM hD
    repeat' (first | exact trivial | exact ARs.nil | refine ARs.cons ?_ ?_ | exact AR.dead _ | exact AR.dd _ | exact AR.i (by (try dsimp only); omega) | exact AR.ptr _ _ _ _ (by simp [heapL, upd]) | exact AR.own _ _ _ _ (by simp [heapL, upd]) | refine AR.ownE _ _ _ ?_ (by simp [heapL, upd]) | refine ⟨⟨_, rfl, ?_⟩, ?_⟩ | exact ObA.data | refine ObA.box ?_ | refine ObA.frE ?_ | refine ObA.dataE ?_ | refine ARs.agg ?_ | refine ARs.tup ?_ | exact AR.clo' ARs.nil ARs.nil | exact AR.clo' ARs.nil (hca _ _))
    all_goals (simp; done)
  obtain ⟨k, hk, hall⟩ := k
  simp only
  by_cases hlt : k < t.length
  · obtain ⟨r, hr⟩ : ∃ r, t[k]? = some r := ⟨t[k], by simp⟩
    have hrow := QR_get hr
    have hgp := hg r (List.mem_of_getElem? hr)
    have hst := idxOf_at (f := pred) hr k
    rw [← hall] at hst
    repeat' (first | ((first | apply Ba | (apply Bb; (· rfl); (· rfl)) | (apply Bc; (· exact nxE)) | (apply Bd; (· rfl); (· rfl); (· exact nxE))); (· first | exact OpOk.callS hs rfl rfl hgp (fun p hp => rfl) hok (.d _) (.cons (.dd _) (hca _ _)) | exact Ok.pe)) | ((first | apply Ca | (apply Cb; (· exact nxE))); (· first | exact Ok.e0)) | refine Sx ?_ | (refine Sy (fun h => ?_) (fun h => ?_) <;> try (exfalso; omega; done)) | refine Sz (fun h => ?_) (fun h => ?_))
    ·
      (refine end1p (by first | exact .inl rfl | exact .inr rfl) rfl (by first | exact rT rfl | exact rCA rfl rfl rfl rfl (by simp) | exact rCC rfl rfl rfl rfl rfl) ?_ (Le.keep hself hnd hok ?_ hM hD); (· rw [hst, if_pos h])) <;> (repeat' (first | exact trivial | exact ARs.nil | refine ARs.cons ?_ ?_ | exact AR.dead _ | exact AR.dd _ | exact AR.i (by (try dsimp only); omega) | exact AR.ptr _ _ _ _ (by simp [heapL, upd]) | exact AR.own _ _ _ _ (by simp [heapL, upd]) | refine AR.ownE _ _ _ ?_ (by simp [heapL, upd]) | refine ⟨⟨_, rfl, ?_⟩, ?_⟩ | exact ObA.data | refine ObA.box ?_ | refine ObA.frE ?_ | refine ObA.dataE ?_ | refine ARs.agg ?_ | refine ARs.tup ?_ | exact AR.clo' ARs.nil ARs.nil | exact AR.clo' ARs.nil (hca _ _)))
    · refine ⟨⟨k + 1, by omega, by rw [hst, if_neg (by simp [h])]⟩, ?_, by simp only; omega⟩
      refine Le.keep hself hnd hok ?_ hM hD
      repeat' (first | exact trivial | exact ARs.nil | refine ARs.cons ?_ ?_ | exact AR.dead _ | exact AR.dd _ | exact AR.i (by (try dsimp only); omega) | exact AR.ptr _ _ _ _ (by simp [heapL, upd]) | exact AR.own _ _ _ _ (by simp [heapL, upd]) | refine AR.ownE _ _ _ ?_ (by simp [heapL, upd]) | refine ⟨⟨_, rfl, ?_⟩, ?_⟩ | exact ObA.data | refine ObA.box ?_ | refine ObA.frE ?_ | refine ObA.dataE ?_ | refine ARs.agg ?_ | refine ARs.tup ?_ | exact AR.clo' ARs.nil ARs.nil | exact AR.clo' ARs.nil (hca _ _))
  ·
    repeat' (first | ((first | apply Ba | (apply Bb; (· rfl); (· rfl)) | (apply Bc; (· exact nxE)) | (apply Bd; (· rfl); (· rfl); (· exact nxE))); (· first | exact Ok.pe)) | ((first | apply Ca | (apply Cb; (· exact nxE))); (· first | exact Ok.e0)) | refine Sx ?_ | (refine Sy (fun h => ?_) (fun h => ?_) <;> try (exfalso; omega; done)) | refine Sz (fun h => ?_) (fun h => ?_))
    all_goals
      (refine end1p (by first | exact .inl rfl | exact .inr rfl) rfl (by first | exact rT rfl | exact rCA rfl rfl rfl rfl (by simp) | exact rCC rfl rfl rfl rfl rfl) ?_ (Le.keep hself hnd hok ?_ hM hD); (· rw [hall, List.drop_of_length_le (by omega)]; rfl)) <;> (repeat' (first | exact trivial | exact ARs.nil | refine ARs.cons ?_ ?_ | exact AR.dead _ | exact AR.dd _ | exact AR.i (by (try dsimp only); omega) | exact AR.ptr _ _ _ _ (by simp [heapL, upd]) | exact AR.own _ _ _ _ (by simp [heapL, upd]) | refine AR.ownE _ _ _ ?_ (by simp [heapL, upd]) | refine ⟨⟨_, rfl, ?_⟩, ?_⟩ | exact ObA.data | refine ObA.box ?_ | refine ObA.frE ?_ | refine ObA.dataE ?_ | refine ARs.agg ?_ | refine ARs.tup ?_ | exact AR.clo' ARs.nil ARs.nil | exact AR.clo' ARs.nil (hca _ _)))
set_option maxHeartbeats 1000000 in
theorem containsFuncQ_ac (t : List (List (List Int))) (hn : t.length ≤ 100000000) (g : FuncId) [FnBody Try.prog g] (caps : List AV) (hs : HL) (hself : ∀ p ∈ hs, p.2.1 = p.1) (hnd : (hs.map (·.1)).Nodup) (hok : HOk hs) (hcaps : ∀ c ∈ caps, Locs (· ∈ hs.map (·.1)) c) (M : Nat) (hM : ∀ p ∈ hs, p.1.id < M) (pred : List (List Int) → Bool)
    (hg : ∀ r ∈ t, AC Try.prog g (TL r :: caps) (heapL hs) (Bo (pred r)) (heapL hs)) : AC Try.prog 120 [QL t, .clo (.func g) [] caps] (heapL hs) (Bo (t.any pred)) (heapL hs) := by
  refine AC.of_body M Try.func120 rfl (fun l h => by obtain ⟨p, hp, e⟩ := List.mem_map.1 (heapL_iff.1 h); rw [← e]; exact hM p hp) (fun C hC => ?_)
  simp only [startFr, Try.ntmps120, List.length_cons, List.length_nil, Nat.reduceAdd, Nat.reduceSub, List.replicate_succ, List.replicate_zero, List.cons_append, List.nil_append]
  have hca : ∀ H lent, ARs H lent id (· ∈ hs.map (·.1)) caps caps := fun H lent => ⟨rfl, fun i c c' h1 h2 => by rw [h1] at h2; cases h2; exact (hcaps c (List.mem_of_getElem? h1)).ar⟩
  have hD : ∀ l, C.D0 l → l.id < M := fun l h => by obtain ⟨p, hp, e⟩ := List.mem_map.1 (heapL_iff.1 ((hC l).1 h)); rw [← e]; exact hM p hp
  have hc := indexFuncQ_ac t hn g caps hs hself hnd hok hcaps M hM pred hg
  repeat' (first | ((first | apply Ba | (apply Bb; (· rfl); (· rfl)) | (apply Bc; (· exact nxE)) | (apply Bd; (· rfl); (· rfl); (· exact nxE))); (· first | exact OpOk.callS hs rfl rfl hc (fun p hp => rfl) hok (.d _) (.cons (.dd _) (.cons (AR.clo' .nil (hca _ _)) .nil)) | exact Ok.pe)) | ((first | apply Ca | (apply Cb; (· exact nxE))); (· first | exact Ok.e0)) | refine Sx ?_ | (refine Sy (fun h => ?_) (fun h => ?_) <;> try (exfalso; omega; done)) | refine Sz (fun h => ?_) (fun h => ?_))
  (refine end1p (by first | exact .inl rfl | exact .inr rfl) rfl (by first | exact rT rfl | exact rCA rfl rfl rfl rfl (by simp) | exact rCC rfl rfl rfl rfl rfl) ?_ (Le.keep hself hnd hok ?_ hM hD); (· rw [idxOf_any])) <;> (repeat' (first | exact trivial | exact ARs.nil | refine ARs.cons ?_ ?_ | exact AR.dead _ | exact AR.dd _ | exact AR.i (by (try dsimp only); omega) | exact AR.ptr _ _ _ _ (by simp [heapL, upd]) | exact AR.own _ _ _ _ (by simp [heapL, upd]) | refine AR.ownE _ _ _ ?_ (by simp [heapL, upd]) | refine ⟨⟨_, rfl, ?_⟩, ?_⟩ | exact ObA.data | refine ObA.box ?_ | refine ObA.frE ?_ | refine ObA.dataE ?_ | refine ARs.agg ?_ | refine ARs.tup ?_ | exact AR.clo' ARs.nil ARs.nil | exact AR.clo' ARs.nil (hca _ _)))
theorem areMoFn_ac (ms : List (List (List Int))) (t0 t : List (List Int)) (h0 : ms[0]? = some t0) (ht : t.length ≤ 100000000) (hr : ∀ r ∈ t, r.length ≤ 100000000) : AC Try.prog 121 [TL t, Bx 1 0] (heapL (hs1 (QD ms))) (Bo (badMo t0.length t)) (heapL (hs1 (QD ms))) := by
  have hRr : (QR ms)[(0 : Int).toNat]? = some [TD t0] := QR_get h0
  have hA := iIsSquare_ac t ht hr
  refine AC.of_body 1 Try.func121 rfl (fun l h => by simp [heapL, upd] at h; simp [h]) (fun C hC => ?_)
  simp only [startFr, Try.ntmps121, List.length_cons, List.length_nil, Nat.reduceAdd, Nat.reduceSub, List.replicate_succ, List.replicate_zero, List.cons_append, List.nil_append]
  have hD : ∀ l, C.D0 l → l = ⟨0, []⟩ := fun l h => by have := (hC l).1 h; simp [heapL, upd] at this; exact this
  repeat' (first | ((first | apply Ba | (apply Bb; (· rfl); (· rfl)) | (apply Bc; (· exact nxE)) | (apply Bd; (· rfl); (· rfl); (· exact nxE))); (· first | exact Kz rfl rfl (hA) (Ad An) | exact Ok.pe)) | ((first | apply Ca | (apply Cb; (· exact nxE))); (· first | exact Ok.e0)) | refine Sx ?_ | (refine Sy (fun h => ?_) (fun h => ?_) <;> try (exfalso; omega; done)) | refine Sz (fun h => ?_) (fun h => ?_))
  all_goals
    (refine end1p (by first | exact .inl rfl | exact .inr rfl) rfl (by first | exact rT rfl | exact rCA rfl rfl rfl rfl (by simp) | exact rCC rfl rfl rfl rfl rfl) ?_ (Le.head ([(⟨0, []⟩, ⟨0, []⟩, ⟨1, [[QL ms]]⟩)]) (by first | exact fun l h => absurd h (hD l) | (intro l h; rcases hD l h with rfl; simp [tauL]) | (intro l h; rcases hD l h with rfl | rfl <;> simp [tauL]; done) | (intro l h; rcases hD l h with rfl | rfl | rfl <;> simp [tauL])) ?_ ?_ (by simp) (by simp) (by simp [AllP]) (n' := 1000)); (· (unfold badMo; simp_all; done))) <;> (repeat' (first | exact trivial | exact ARs.nil | refine ARs.cons ?_ ?_ | exact AR.dead _ | exact AR.dd _ | exact AR.i (by (try dsimp only); omega) | exact AR.ptr _ _ _ _ (by simp [heapL, upd]) | exact AR.own _ _ _ _ (by simp [heapL, upd]) | refine AR.ownE _ _ _ ?_ (by simp [heapL, upd]) | refine ⟨⟨_, rfl, ?_⟩, ?_⟩ | exact ObA.data | refine ObA.box ?_ | refine ObA.frE ?_ | refine ObA.dataE ?_ | refine ARs.agg ?_ | refine ARs.tup ?_ | exact AR.clo' ARs.nil ARs.nil | exact AR.clo' ARs.nil (hca _ _)))
theorem head_get {ms : List (List (List Int))} (h : 1 ≤ ms.length) : ∃ t0, ms[0]? = some t0 ∧ (ms.headD []) = t0 := by
  cases ms with
  | nil => simp at h
  | cons a q => exact ⟨a, rfl, rfl⟩
set_option maxHeartbeats 1000000 in
theorem iAreModes_ac (ms : List (List (List Int))) (hm : MsOk ms) : AC Try.prog 51 [QL ms] H0 (Bo (areMo ms)) H0 := by
  have hW := within_ac ms.length 1 4
  by_cases g1 : 1 ≤ ms.length ∧ ms.length ≤ 4
  case neg =>
    rw [show wi (ms.length : Int) 1 4 = false by rw [Bool.eq_false_iff]; intro h; rw [wi_iff] at h; omega] at hW
    have hI : areMo ms = false := by unfold areMo; rw [decide_eq_false g1]; rfl
    rw [hI]
    refine AC.of_body 0 Try.func51 rfl (fun l h => absurd rfl h) (fun C hC => ?_)
    have hD : ∀ l, ¬ C.D0 l := fun l h => (hC l).1 h rfl
    simp only [startFr, Try.ntmps51, List.length_cons, List.length_nil, Nat.reduceAdd, Nat.reduceSub, List.replicate_succ, List.replicate_zero, List.cons_append, List.nil_append]
    repeat' (first | ((first | apply Ba | (apply Bb; (· rfl); (· rfl)) | (apply Bc; (· exact nxE)) | (apply Bd; (· rfl); (· rfl); (· exact nxE))); (· first | exact Kz rfl rfl (hW) (Ad (Ad (Ad An))) | exact Ok.pe)) | ((first | apply Ca | (apply Cb; (· exact nxE))); (· first | exact Ok.e0)) | refine Sx ?_ | (refine Sy (fun h => ?_) (fun h => ?_) <;> try (exfalso; omega; done)) | refine Sz (fun h => ?_) (fun h => ?_))
    refine Ya ?_
    (apply Le.headZ (hs := []) [] rfl)
    all_goals (try dsimp only [srcs])
    (case' hfr => (repeat' (first | refine La ?_ ?_ | exact Lc | refine Lo ?_ | refine ⟨⟨_, rfl, ?_⟩, ?_⟩ | refine Lx ?_)))
    all_goals (first | exact Ld | exact trivial | (rfl))
  obtain ⟨t0, h0, he⟩ := head_get g1.1
  rw [show wi (ms.length : Int) 1 4 = true from wi_iff.2 (by omega)] at hW
  have hc := containsFuncQ_ac ms hm.n 121 [Bx 1 0] (hs1 (QD ms)) (by simp) (by simp) hs1_ok
    (by intro c hc; simp at hc; subst hc; exact .ptr _ _ _ _ (by simp)) 1 (by simp) (badMo t0.length) (fun t h => areMoFn_ac ms t0 t h0 (hm.t t h) (hm.r t h))
  have hI : areMo ms = !(ms.any (badMo t0.length)) := by unfold areMo; rw [he, decide_eq_true g1, Bool.true_and]
  rw [hI]
  refine AC.of_body 0 Try.func51 rfl (fun l h => absurd rfl h) (fun C hC => ?_)
  have hD : ∀ l, ¬ C.D0 l := fun l h => (hC l).1 h rfl
  simp only [startFr, Try.ntmps51, List.length_cons, List.length_nil, Nat.reduceAdd, Nat.reduceSub, List.replicate_succ, List.replicate_zero, List.cons_append, List.nil_append]
  repeat' (first | ((first | apply Ba | (apply Bb; (· rfl); (· rfl)) | (apply Bc; (· exact nxE)) | (apply Bd; (· rfl); (· rfl); (· exact nxE))); (· first | exact Kz rfl rfl (hW) (Ad (Ad (Ad An))) | exact OpOk.callS _ rfl rfl hc (by simp [heapL, upd, upds, W.app]) hs1_ok (.d _) (.cons (.dd _) (.cons (AR.clo' .nil (.cons (AR.ptr _ _ _ _ (by simp)) .nil)) .nil)) | exact Ok.pe)) | ((first | apply Ca | (apply Cb; (· exact nxE))); (· first | exact Ok.e0)) | refine Sx ?_ | (refine Sy (fun h => ?_) (fun h => ?_) <;> try (exfalso; omega; done)) | refine Sz (fun h => ?_) (fun h => ?_))
  refine Ya ?_
  (apply Le.headZ (hs := []) [] rfl)
  all_goals (try dsimp only [srcs])
  (case' hfr => (repeat' (first | refine La ?_ ?_ | exact Lc | refine Lo ?_ | refine ⟨⟨_, rfl, ?_⟩, ?_⟩ | refine Lx ?_)))
  all_goals (first | exact Ld | exact trivial | (rfl))
set_option maxHeartbeats 1000000 in
theorem sAreModes_ac (ms : List (List (List Int))) (hm : MsOk ms) : AC Try.prog 52 [QL ms] H0 (Bo (areMo ms)) H0 := by
  have hmn := hm.n
  by_cases g1 : 1 ≤ ms.length ∧ ms.length ≤ 4
  case neg =>
    have hI : areMo ms = false := by unfold areMo; rw [decide_eq_false g1]; rfl
    rw [hI]
    refine AC.of_body 0 Try.func52 rfl (fun l h => absurd rfl h) (fun C hC => ?_)
    have hD : ∀ l, ¬ C.D0 l := fun l h => (hC l).1 h rfl
    simp only [startFr, Try.ntmps52, List.length_cons, List.length_nil, Nat.reduceAdd, Nat.reduceSub, List.replicate_succ, List.replicate_zero, List.cons_append, List.nil_append]
    repeat' (first | ((first | apply Ba | (apply Bb; (· rfl); (· rfl)) | (apply Bc; (· exact nxE)) | (apply Bd; (· rfl); (· rfl); (· exact nxE))); (· first | exact Ok.pe)) | ((first | apply Ca | (apply Cb; (· exact nxE))); (· first | exact Ok.e0)) | refine Sx ?_ | (refine Sy (fun h => ?_) (fun h => ?_) <;> try (exfalso; omega; done)) | refine Sz (fun h => ?_) (fun h => ?_))
    all_goals
      refine Ya ?_
      (apply Le.headZ (hs := []) [] rfl)
      all_goals (try dsimp only [srcs])
      (case' hfr => (repeat' (first | refine La ?_ ?_ | exact Lc | refine Lo ?_ | refine ⟨⟨_, rfl, ?_⟩, ?_⟩ | refine Lx ?_)))
      all_goals (first | exact Ld | exact trivial | (rfl))
  obtain ⟨t0, h0, he⟩ := head_get g1.1
  have hRr : (QR ms)[(0 : Int).toNat]? = some [TD t0] := QR_get h0
  have hI : areMo ms = ms.all (okMo t0.length) := by rw [areMo_all, he, decide_eq_true g1, Bool.true_and]
  rw [hI]
  refine AC.of_body 0 Try.func52 rfl (fun l h => absurd rfl h) (fun C hC => ?_)
  have hD : ∀ l, ¬ C.D0 l := fun l h => (hC l).1 h rfl
  simp only [startFr, Try.ntmps52, List.length_cons, List.length_nil, Nat.reduceAdd, Nat.reduceSub, List.replicate_succ, List.replicate_zero, List.cons_append, List.nil_append]
  repeat' (first | ((first | apply Ba | (apply Bb; (· rfl); (· rfl)) | (apply Bc; (· exact nxE)) | (apply Bd; (· rfl); (· rfl); (· exact nxE))); (· first | exact Ok.pe)) | ((first | apply Ca | (apply Cb; (· exact nxE))); (· first | exact Ok.e0)) | refine Sx ?_ | (refine Sy (fun h => ?_) (fun h => ?_) <;> try (exfalso; omega; done)) | refine Sz (fun h => ?_) (fun h => ?_))
  refine AW.loop (X := {k : Nat // k ≤ ms.length ∧ ms.all (okMo t0.length) = (ms.drop k).all (okMo t0.length)}) (fun k => ⟨[QL ms, Oo, Oo, I (k.1 : Nat), Oo, Oo, Oo, Oo, Oo, Oo, Oo, Oo, Oo, Oo, Oo, Oo, Oo, Oo, Oo, Oo, Oo, Oo, Oo, Oo, Oo, Oo, Oo, Oo, Oo, Oo, Oo, Oo, Oo, Oo, Oo, Oo], heapL [], 900⟩) (fun k => ms.length - k.1) ⟨0, Nat.zero_le _, by simp⟩ ?_ (fun k => ?_)
  ·
    (apply Le.headZ [] rfl)
    all_goals (try dsimp only [srcs])
    (case' hfr | hob => (repeat' (first | refine La ?_ ?_ | exact Lc | refine Lo ?_ | refine ⟨⟨_, rfl, ?_⟩, ?_⟩ | refine Lx ?_)))
    all_goals (first | (rfl) | exact Ld)
  obtain ⟨k, hk, hall⟩ := k
  simp only
  by_cases hlt : k < ms.length
  · obtain ⟨t, hx⟩ : ∃ t, ms[k]? = some t := ⟨ms[k], by simp⟩
    have hrow := QR_get hx
    have htm := List.mem_of_getElem? hx
    have hV := l02Square_ac t (hm.t t htm) (hm.r t htm)
    have htl := hm.t t htm
    have hno := fun h => all_no (f := okMo t0.length) hx h
    have hyes := fun h => all_step (f := okMo t0.length) hx hall h
    cases hvx : isSq t
    · rw [hvx] at hV
      rw [hno (by unfold okMo; rw [hvx]; rfl)]
      repeat' (first | ((first | apply Ba | (apply Bb; (· rfl); (· rfl)) | (apply Bc; (· exact nxE)) | (apply Bd; (· rfl); (· rfl); (· exact nxE))); (· first | exact Kz rfl rfl (hV) (Ad An) | exact Ok.pe)) | ((first | apply Ca | (apply Cb; (· exact nxE))); (· first | exact Ok.e0)) | refine Sx ?_ | (refine Sy (fun h => ?_) (fun h => ?_) <;> try (exfalso; omega; done)) | refine Sz (fun h => ?_) (fun h => ?_))
      refine Ya ?_
      (apply Le.headZ (hs := []) [] rfl)
      all_goals (try dsimp only [srcs])
      (case' hfr => (repeat' (first | refine La ?_ ?_ | exact Lc | refine Lo ?_ | refine ⟨⟨_, rfl, ?_⟩, ?_⟩ | refine Lx ?_)))
      all_goals (first | exact Ld | exact trivial | (rfl))
    · rw [hvx] at hV
      by_cases hb : t.length = t0.length
      · have hy := hyes (by unfold okMo; rw [hvx, decide_eq_true (by omega)]; rfl)
        repeat' (first | ((first | apply Ba | (apply Bb; (· rfl); (· rfl)) | (apply Bc; (· exact nxE)) | (apply Bd; (· rfl); (· rfl); (· exact nxE))); (· first | exact Kz rfl rfl (hV) (Ad An) | exact Ok.pe)) | ((first | apply Ca | (apply Cb; (· exact nxE))); (· first | exact Ok.e0)) | refine Sx ?_ | (refine Sy (fun h => ?_) (fun h => ?_) <;> try (exfalso; omega; done)) | refine Sz (fun h => ?_) (fun h => ?_))
        refine ⟨⟨k + 1, by omega, hy⟩, ?_, by simp only; omega⟩
        (apply Le.headZ [] rfl)
        all_goals (try dsimp only [srcs])
        (case' hfr | hob => (repeat' (first | refine La ?_ ?_ | exact Lc | refine Lo ?_ | refine ⟨⟨_, rfl, ?_⟩, ?_⟩ | refine Lx ?_)))
        all_goals (first | (rfl) | exact Ld)
      · rw [hno (by unfold okMo; rw [hvx, decide_eq_false (by omega)]; rfl)]
        repeat' (first | ((first | apply Ba | (apply Bb; (· rfl); (· rfl)) | (apply Bc; (· exact nxE)) | (apply Bd; (· rfl); (· rfl); (· exact nxE))); (· first | exact Kz rfl rfl (hV) (Ad An) | exact Ok.pe)) | ((first | apply Ca | (apply Cb; (· exact nxE))); (· first | exact Ok.e0)) | refine Sx ?_ | (refine Sy (fun h => ?_) (fun h => ?_) <;> try (exfalso; omega; done)) | refine Sz (fun h => ?_) (fun h => ?_))
        refine Ya ?_
        (apply Le.headZ (hs := []) [] rfl)
        all_goals (try dsimp only [srcs])
        (case' hfr => (repeat' (first | refine La ?_ ?_ | exact Lc | refine Lo ?_ | refine ⟨⟨_, rfl, ?_⟩, ?_⟩ | refine Lx ?_)))
        all_goals (first | exact Ld | exact trivial | (rfl))
  · have hk' : k = ms.length := by omega
    rw [hk', List.drop_length] at hall
    rw [hall, List.all_nil]
    repeat' (first | ((first | apply Ba | (apply Bb; (· rfl); (· rfl)) | (apply Bc; (· exact nxE)) | (apply Bd; (· rfl); (· rfl); (· exact nxE))); (· first | exact Ok.pe)) | ((first | apply Ca | (apply Cb; (· exact nxE))); (· first | exact Ok.e0)) | refine Sx ?_ | (refine Sy (fun h => ?_) (fun h => ?_) <;> try (exfalso; omega; done)) | refine Sz (fun h => ?_) (fun h => ?_))
    refine Ya ?_
    (apply Le.headZ (hs := []) [] rfl)
    all_goals (try dsimp only [srcs])
    (case' hfr => (repeat' (first | refine La ?_ ?_ | exact Lc | refine Lo ?_ | refine ⟨⟨_, rfl, ?_⟩, ?_⟩ | refine Lx ?_)))
    all_goals (first | exact Ld | exact trivial | (rfl))
/-! ### The sum -/
def smT (n : Nat) (t0 : List (List Int)) (q : List (List (List Int))) : List (List Int) := q.foldl (fun s t => tabF n n (addF s t)) t0
theorem smT_rc {n : Nat} {t0 : List (List Int)} (h : Sq t0 n) (q : List (List (List Int))) : Sq (smT n t0 q) n := by
  unfold smT
  induction q generalizing t0 with
  | nil => exact h
  | cons t q ih => exact ih ⟨tabF_len, tabF_rc.r⟩
theorem smT_succ {n : Nat} {t0 t : List (List Int)} {q : List (List (List Int))} {k : Nat} (h : q[k]? = some t) : smT n t0 (q.take (k + 1)) = tabF n n (addF (smT n t0 (q.take k)) t) := by
  obtain ⟨hk, rfl⟩ := List.getElem?_eq_some_iff.1 h
  unfold smT
  rw [List.take_succ_eq_append_getElem hk, List.foldl_append]; rfl
set_option maxHeartbeats 1000000 in
theorem l25Sum_ac (t0 : List (List Int)) (q : List (List (List Int))) (n : Nat) (h0 : MatOk t0 n) (hq : ∀ t ∈ q, MatOk t n) (hl : q.length ≤ 3) : AC Try.prog 86 [QL (t0 :: q)] H0 (TL (smT n t0 q)) H0 := by
  have hle := h0.le
  have hO := (l02Own_ac t0 (by rw [h0.sq.l]; omega) (fun r hr => by rw [h0.sq.r r hr]; omega)).frzT (by rw [TR_len])
  have hg0 : (QR (t0 :: q))[(0 : Int).toNat]? = some [TD t0] := rfl
  have hlen : (QR (t0 :: q)).length = q.length + 1 := by simp
  refine AC.of_body 0 Try.func86 rfl (fun l h => absurd rfl h) (fun C hC => ?_)
  have hD : ∀ l, ¬ C.D0 l := fun l h => (hC l).1 h rfl
  simp only [startFr, Try.ntmps86, List.length_cons, List.length_nil, Nat.reduceAdd, Nat.reduceSub, List.replicate_succ, List.replicate_zero, List.cons_append, List.nil_append]
  repeat' (first | ((first | apply Ba | (apply Bb; (· rfl); (· rfl)) | (apply Bc; (· exact nxE)) | (apply Bd; (· rfl); (· rfl); (· exact nxE))); (· first | exact Kz rfl rfl (hO) (Ad An) | exact Ok.pe)) | ((first | apply Ca | (apply Cb; (· exact nxE))); (· first | exact Ok.e0)) | refine Sx ?_ | (refine Sy (fun h => ?_) (fun h => ?_) <;> try (exfalso; omega; done)) | refine Sz (fun h => ?_) (fun h => ?_))
  refine AW.loop (X := {k : Nat // k ≤ q.length}) (fun k => ⟨[QL (t0 :: q), Oo, Oo, TL (smT n t0 (q.take k.1)), I ((k.1 : Nat) + 1 : Int), Oo, Oo, Oo, Oo, Oo, Oo, Oo, Oo, Oo, Oo, Oo, Oo, Oo, Oo, Oo, Oo, Oo], heapL [], 900⟩) (fun k => q.length - k.1) ⟨0, Nat.zero_le _⟩ ?_ (fun k => ?_)
  ·
    (apply Le.headZ [] rfl)
    all_goals (try dsimp only [srcs])
    (case' hfr | hob => (repeat' (first | refine La ?_ ?_ | exact Lc | refine Lo ?_ | refine ⟨⟨_, rfl, ?_⟩, ?_⟩ | refine Lx ?_)))
    all_goals (first | (rfl) | exact Ld)
  obtain ⟨k, hk⟩ := k
  simp only
  by_cases hlt : k < q.length
  · obtain ⟨t, hx⟩ : ∃ t, q[k]? = some t := ⟨q[k], by simp⟩
    have hrow : (QR (t0 :: q))[((k : Int) + 1).toNat]? = some [TD t] := by rw [show ((k : Int) + 1).toNat = k + 1 by omega]; simp [hx]
    have hmt := hq t (List.mem_of_getElem? hx)
    have hs := smT_rc (n := n) h0.sq (q.take k)
    have hA := (l02Add_ac n n (smT n t0 (q.take k)) t ⟨hs.l, hs.r⟩ ⟨hmt.sq.l, hmt.sq.r⟩ (by omega) (by omega)).frzT (by rw [TR_len, tabF_len])
    rw [← smT_succ hx] at hA
    repeat' (first | ((first | apply Ba | (apply Bb; (· rfl); (· rfl)) | (apply Bc; (· exact nxE)) | (apply Bd; (· rfl); (· rfl); (· exact nxE))); (· first | exact Ok.lenD rfl rfl hlen | exact Kz rfl rfl (hA) (Ad (Ad An)) | exact Ok.pe)) | ((first | apply Ca | (apply Cb; (· exact nxE))); (· first | exact Ok.e0)) | refine Sx ?_ | (refine Sy (fun h => ?_) (fun h => ?_) <;> try (exfalso; omega; done)) | refine Sz (fun h => ?_) (fun h => ?_))
    refine ⟨⟨k + 1, by omega⟩, ?_, by simp only; omega⟩
    (apply Le.headZ [] rfl)
    all_goals (try dsimp only [srcs])
    (case' hfr | hob => (repeat' (first | refine La ?_ ?_ | exact Lc | refine Lo ?_ | refine ⟨⟨_, rfl, ?_⟩, ?_⟩ | refine Lx ?_)))
    all_goals (first | (rfl) | exact Ld)
  · obtain rfl : k = q.length := by omega
    rw [List.take_length]
    repeat' (first | ((first | apply Ba | (apply Bb; (· rfl); (· rfl)) | (apply Bc; (· exact nxE)) | (apply Bd; (· rfl); (· rfl); (· exact nxE))); (· first | exact Ok.lenD rfl rfl hlen | exact Ok.pe)) | ((first | apply Ca | (apply Cb; (· exact nxE))); (· first | exact Ok.e0)) | refine Sx ?_ | (refine Sy (fun h => ?_) (fun h => ?_) <;> try (exfalso; omega; done)) | refine Sz (fun h => ?_) (fun h => ?_))
    refine Ya ?_
    (apply Le.headZ (hs := []) [] rfl)
    all_goals (try dsimp only [srcs])
    (case' hfr => (repeat' (first | refine La ?_ ?_ | exact Lc | refine Lo ?_ | refine ⟨⟨_, rfl, ?_⟩, ?_⟩ | refine Lx ?_)))
    all_goals (first | exact Ld | exact trivial | (rfl))
set_option maxHeartbeats 1000000 in
theorem sumOfModes_ac (t0 : List (List Int)) (q : List (List (List Int))) (n : Nat) (h0 : MatOk t0 n) (hq : ∀ t ∈ q, MatOk t n) (hl : q.length ≤ 3) : AC Try.prog 87 [QL (t0 :: q)] H0 (TL (smT n t0 q)) H0 := by
  have hle := h0.le
  have hO := (cloneMatrix_ac t0 (by rw [h0.sq.l]; omega) (fun r hr => by rw [h0.sq.r r hr]; omega)).frzT (by rw [TR_len])
  have hg0 : (QR (t0 :: q))[(0 : Int).toNat]? = some [TD t0] := rfl
  have hlen : (QR q).length = q.length := by simp
  refine AC.of_body 0 Try.func87 rfl (fun l h => absurd rfl h) (fun C hC => ?_)
  have hD : ∀ l, ¬ C.D0 l := fun l h => (hC l).1 h rfl
  simp only [startFr, Try.ntmps87, List.length_cons, List.length_nil, Nat.reduceAdd, Nat.reduceSub, List.replicate_succ, List.replicate_zero, List.cons_append, List.nil_append]
  repeat' (first | ((first | apply Ba | (apply Bb; (· rfl); (· rfl)) | (apply Bc; (· exact nxE)) | (apply Bd; (· rfl); (· rfl); (· exact nxE))); (· first | exact Kz rfl rfl (hO) (Ad An) | exact Ok.sliceFrom rfl rfl rfl (by decide) (by simp only [List.length_cons]; omega) | exact Ok.pe)) | ((first | apply Ca | (apply Cb; (· exact nxE))); (· first | exact Ok.e0)) | refine Sx ?_ | (refine Sy (fun h => ?_) (fun h => ?_) <;> try (exfalso; omega; done)) | refine Sz (fun h => ?_) (fun h => ?_))
  refine AW.loop (X := {k : Nat // k ≤ q.length}) (fun k => ⟨[Oo, Oo, Oo, TL (smT n t0 (q.take k.1)), Oo, Oo, Oo, Oo, Oo, Oo, Oo, QL q, I q.length, I (k.1 : Nat), Oo, Oo, Oo, Oo, Oo, Oo, Oo, Oo], heapL [], 900⟩) (fun k => q.length - k.1) ⟨0, Nat.zero_le _⟩ ?_ (fun k => ?_)
  ·
    (apply Le.headZ [] rfl)
    all_goals (try dsimp only [srcs])
    (case' hfr | hob => (repeat' (first | refine La ?_ ?_ | exact Lc | refine Lo ?_ | refine ⟨⟨_, rfl, ?_⟩, ?_⟩ | refine Lx ?_)))
    all_goals (first | (rfl) | exact Ld)
  obtain ⟨k, hk⟩ := k
  simp only
  by_cases hlt : k < q.length
  · obtain ⟨t, hx⟩ : ∃ t, q[k]? = some t := ⟨q[k], by simp⟩
    have hrow := QR_get hx
    have hmt := hq t (List.mem_of_getElem? hx)
    have hs := smT_rc (n := n) h0.sq (q.take k)
    have hA := (addMatrices_ac n n (smT n t0 (q.take k)) t ⟨hs.l, hs.r⟩ ⟨hmt.sq.l, hmt.sq.r⟩ h0.pos (by omega) (by omega)).frzT (by rw [TR_len, tabF_len])
    rw [← smT_succ hx] at hA
    repeat' (first | ((first | apply Ba | (apply Bb; (· rfl); (· rfl)) | (apply Bc; (· exact nxE)) | (apply Bd; (· rfl); (· rfl); (· exact nxE))); (· first | exact Kz rfl rfl (hA) (Ad (Ad An)) | exact Ok.pe)) | ((first | apply Ca | (apply Cb; (· exact nxE))); (· first | exact Ok.e0)) | refine Sx ?_ | (refine Sy (fun h => ?_) (fun h => ?_) <;> try (exfalso; omega; done)) | refine Sz (fun h => ?_) (fun h => ?_))
    refine ⟨⟨k + 1, by omega⟩, ?_, by simp only; omega⟩
    (apply Le.headZ [] rfl)
    all_goals (try dsimp only [srcs])
    (case' hfr | hob => (repeat' (first | refine La ?_ ?_ | exact Lc | refine Lo ?_ | refine ⟨⟨_, rfl, ?_⟩, ?_⟩ | refine Lx ?_)))
    all_goals (first | (rfl) | exact Ld)
  · obtain rfl : k = q.length := by omega
    rw [List.take_length]
    repeat' (first | ((first | apply Ba | (apply Bb; (· rfl); (· rfl)) | (apply Bc; (· exact nxE)) | (apply Bd; (· rfl); (· rfl); (· exact nxE))); (· first | exact Ok.pe)) | ((first | apply Ca | (apply Cb; (· exact nxE))); (· first | exact Ok.e0)) | refine Sx ?_ | (refine Sy (fun h => ?_) (fun h => ?_) <;> try (exfalso; omega; done)) | refine Sz (fun h => ?_) (fun h => ?_))
    refine Ya ?_
    (apply Le.headZ (hs := []) [] rfl)
    all_goals (try dsimp only [srcs])
    (case' hfr => (repeat' (first | refine La ?_ ?_ | exact Lc | refine Lo ?_ | refine ⟨⟨_, rfl, ?_⟩, ?_⟩ | refine Lx ?_)))
    all_goals (first | exact Ld | exact trivial | (rfl))
/-! ### The worst rate -/
def smM (ms : List (List (List Int))) : List (List Int) := smT (ms.headD []).length (ms.headD []) ms.tail
noncomputable def wrR (ms : List (List (List Int))) : Int × Int := if areMo ms = true then cmR (smM ms) else (0, 0)
noncomputable def wrC (ms : List (List (List Int))) : Int := if areMo ms = true then cmC (smM ms) else 1
theorem sWorstRate_ac (ms : List (List (List Int))) (hm : MsOk ms) : AC Try.prog 27 [QL ms] H0 (.tup [.agg [I (wrR ms).1, I (wrR ms).2], I (wrC ms)]) H0 := by
  have hM := sAreModes_ac ms hm
  unfold wrR wrC
  cases ha : areMo ms
  · rw [ha] at hM
    simp only [Bool.false_eq_true, if_false]
    refine AC.of_body 0 Try.func27 rfl (fun l h => absurd rfl h) (fun C hC => ?_)
    have hD : ∀ l, ¬ C.D0 l := fun l h => (hC l).1 h rfl
    simp only [startFr, Try.ntmps27, List.length_cons, List.length_nil, Nat.reduceAdd, Nat.reduceSub, List.replicate_succ, List.replicate_zero, List.cons_append, List.nil_append]
    repeat' (first | ((first | apply Ba | (apply Bb; (· rfl); (· rfl)) | (apply Bc; (· exact nxE)) | (apply Bd; (· rfl); (· rfl); (· exact nxE))); (· first | exact Kz rfl rfl (hM) (Ad An) | exact Ok.pe)) | ((first | apply Ca | (apply Cb; (· exact nxE))); (· first | exact Ok.e0)) | refine Sx ?_ | (refine Sy (fun h => ?_) (fun h => ?_) <;> try (exfalso; omega; done)) | refine Sz (fun h => ?_) (fun h => ?_))
    refine Yb ?_
    (apply Le.headZ (hs := []) [] rfl)
    all_goals (try dsimp only [srcs])
    (case' hfr => (repeat' (first | refine La ?_ ?_ | exact Lc | refine Lo ?_ | refine ⟨⟨_, rfl, ?_⟩, ?_⟩ | refine Lx ?_)))
    all_goals (first | exact Ld | exact trivial | (rfl))
  · rw [ha] at hM
    obtain ⟨t0, q, rfl, hl, h0, hq⟩ := areMo_ok ha
    have hS := l25Sum_ac t0 q t0.length h0 hq hl
    have hsq := smT_rc (n := t0.length) h0.sq q
    have hle := h0.le
    have hCm := sCycleMean_ac (smT t0.length t0 q) (by rw [hsq.l]; omega) (fun r hr => by rw [hsq.r r hr]; omega)
    rw [if_pos rfl, if_pos rfl]
    unfold smM
    simp only [List.headD_cons, List.tail_cons]
    generalize smT t0.length t0 q = s at *
    refine AC.of_body 0 Try.func27 rfl (fun l h => absurd rfl h) (fun C hC => ?_)
    have hD : ∀ l, ¬ C.D0 l := fun l h => (hC l).1 h rfl
    simp only [startFr, Try.ntmps27, List.length_cons, List.length_nil, Nat.reduceAdd, Nat.reduceSub, List.replicate_succ, List.replicate_zero, List.cons_append, List.nil_append]
    repeat' (first | ((first | apply Ba | (apply Bb; (· rfl); (· rfl)) | (apply Bc; (· exact nxE)) | (apply Bd; (· rfl); (· rfl); (· exact nxE))); (· first | exact Kz rfl rfl (hM) (Ad An) | exact Kz rfl rfl (hS) (Ad An) | exact Kz rfl rfl (hCm) (Ad An) | exact Ok.pe)) | ((first | apply Ca | (apply Cb; (· exact nxE))); (· first | exact Ok.e0)) | refine Sx ?_ | (refine Sy (fun h => ?_) (fun h => ?_) <;> try (exfalso; omega; done)) | refine Sz (fun h => ?_) (fun h => ?_))
    refine Yb ?_
    (apply Le.headZ (hs := []) [] rfl)
    all_goals (try dsimp only [srcs])
    (case' hfr => (repeat' (first | refine La ?_ ?_ | exact Lc | refine Lo ?_ | refine ⟨⟨_, rfl, ?_⟩, ?_⟩ | refine Lx ?_)))
    all_goals (first | exact Ld | exact trivial | (rfl))
theorem iWorstRate_ac (ms : List (List (List Int))) (hm : MsOk ms) : AC Try.prog 29 [QL ms] H0 (.tup [.agg [I (wrR ms).1, I (wrR ms).2], I (wrC ms)]) H0 := by
  have hM := iAreModes_ac ms hm
  unfold wrR wrC
  cases ha : areMo ms
  · rw [ha] at hM
    simp only [Bool.false_eq_true, if_false]
    refine AC.of_body 0 Try.func29 rfl (fun l h => absurd rfl h) (fun C hC => ?_)
    have hD : ∀ l, ¬ C.D0 l := fun l h => (hC l).1 h rfl
    simp only [startFr, Try.ntmps29, List.length_cons, List.length_nil, Nat.reduceAdd, Nat.reduceSub, List.replicate_succ, List.replicate_zero, List.cons_append, List.nil_append]
    repeat' (first | ((first | apply Ba | (apply Bb; (· rfl); (· rfl)) | (apply Bc; (· exact nxE)) | (apply Bd; (· rfl); (· rfl); (· exact nxE))); (· first | exact Kz rfl rfl (hM) (Ad An) | exact Ok.pe)) | ((first | apply Ca | (apply Cb; (· exact nxE))); (· first | exact Ok.e0)) | refine Sx ?_ | (refine Sy (fun h => ?_) (fun h => ?_) <;> try (exfalso; omega; done)) | refine Sz (fun h => ?_) (fun h => ?_))
    refine Yb ?_
    (apply Le.headZ (hs := []) [] rfl)
    all_goals (try dsimp only [srcs])
    (case' hfr => (repeat' (first | refine La ?_ ?_ | exact Lc | refine Lo ?_ | refine ⟨⟨_, rfl, ?_⟩, ?_⟩ | refine Lx ?_)))
    all_goals (first | exact Ld | exact trivial | (rfl))
  · rw [ha] at hM
    obtain ⟨t0, q, rfl, hl, h0, hq⟩ := areMo_ok ha
    have hS := sumOfModes_ac t0 q t0.length h0 hq hl
    have hsq := smT_rc (n := t0.length) h0.sq q
    have hle := h0.le
    have hCm := iCycleMean_ac (smT t0.length t0 q) (by rw [hsq.l]; omega) (fun r hr => by rw [hsq.r r hr]; omega)
    rw [if_pos rfl, if_pos rfl]
    unfold smM
    simp only [List.headD_cons, List.tail_cons]
    generalize smT t0.length t0 q = s at *
    refine AC.of_body 0 Try.func29 rfl (fun l h => absurd rfl h) (fun C hC => ?_)
    have hD : ∀ l, ¬ C.D0 l := fun l h => (hC l).1 h rfl
    simp only [startFr, Try.ntmps29, List.length_cons, List.length_nil, Nat.reduceAdd, Nat.reduceSub, List.replicate_succ, List.replicate_zero, List.cons_append, List.nil_append]
    repeat' (first | ((first | apply Ba | (apply Bb; (· rfl); (· rfl)) | (apply Bc; (· exact nxE)) | (apply Bd; (· rfl); (· rfl); (· exact nxE))); (· first | exact Kz rfl rfl (hM) (Ad An) | exact Kz rfl rfl (hS) (Ad An) | exact Kz rfl rfl (hCm) (Ad An) | exact Ok.pe)) | ((first | apply Ca | (apply Cb; (· exact nxE))); (· first | exact Ok.e0)) | refine Sx ?_ | (refine Sy (fun h => ?_) (fun h => ?_) <;> try (exfalso; omega; done)) | refine Sz (fun h => ?_) (fun h => ?_))
    refine Yb ?_
    (apply Le.headZ (hs := []) [] rfl)
    all_goals (try dsimp only [srcs])
    (case' hfr => (repeat' (first | refine La ?_ ?_ | exact Lc | refine Lo ?_ | refine ⟨⟨_, rfl, ?_⟩, ?_⟩ | refine Lx ?_)))
    all_goals (first | exact Ld | exact trivial | (rfl))
end Go.Proofs.Ytikadoicplnkgaa
end
