/-
  Walks in the abstract reading, part 14.
-/
import Derived.Test.YtikadoicplnkgaaGreatKeU12
import Derived.Test.YtikadoicplnkgaaGreatKeU13
import Derived.Test.YtikadoicplnkgaaGreatKeU5
import Derived.Test.YtikadoicplnkgaaGreatKeU3
import Derived.Test.YtikadoicplnkgaaGreatKeU7
import Derived.Test.YtikadoicplnkgaaGreatKeU8
import Derived.Test.YtikadoicplnkgaaGreatKeU11
section
namespace Go.Proofs.YtikadoicplnkgaaGreat
set_option linter.unusedSimpArgs false
set_option linter.unusedVariables false
open Go Go.RowKit
attribute [local irreducible] AL AD AW OpOk Le AC thenQ blockQ EndQ

theorem cm_den {t : List (List Int)} (h : cmC t = 0) : 1 ≤ (cmR t).2 ∧ (cmR t).2 ≤ t.length ∧ -1000000 ≤ (cmR t).1 ∧ (cmR t).1 ≤ 1000000 := by
  obtain ⟨h1, h2, h3, h4, _⟩ := cm_ok h
  have hM := isSq_ok h1
  obtain ⟨f, r, _, hcy, e⟩ := best_ne hM.b hM.le h2
  have hl := hcy.len
  have h5 := (redR_bnd (m := (r.length : Int) + 1) (by omega) (cyS_bnd hM.b hM.le hcy)).2
  rw [h4]
  rw [show redR (cyS (entN t) f r) ((r.length : Int) + 1) = mR (entN t) f r from rfl, e] at h5
  have h6 := wi_iff.1 h3
  omega
set_option maxHeartbeats 2000000 in
theorem l04DrawRatio_ex (code : List Int) (hc : CodeOk code) (s : Src) (hs : SrcOk code s) : ∃ (T : List (List Int)) (r : Int × Int) (s' : Src), TabOk T ∧ T.length ≤ 6 ∧ DrR r ∧ SrcOk code s' ∧ AC Tryz.prog 110 [Bx 3 0] (srcH code s) (.tup [TL T, .agg [I r.1, I r.2]]) (srcH code s') := by
  obtain ⟨T, s1, hT, hT6, h1, D1⟩ := l04Draw_ex code hc s hs
  have htl := hT.l
  have hCy := sCycleMean_ac T (by omega) (fun r h => by have := hT.r r h; omega)
  have hden := cm_den (t := T)
  generalize cmC T = c at *
  generalize cmR T = m at *
  obtain ⟨p, q⟩ := m
  simp only at hden hCy
  by_cases hc0 : c = 0
  case neg =>
    obtain ⟨r, s2, hr, h2, D2⟩ := l01DrawRatio_ex code hc s1 h1
    obtain ⟨x, y⟩ := r
    refine ⟨T, (x, y), s2, hT, hT6, hr, h2, ?_⟩
    simp only at D2 ⊢
    show AC _ _ _ (heapL [(⟨0, []⟩, ⟨0, []⟩, srcO code s)]) _ _
    refine AC.of_body 1 Tryz.func110 rfl (fun l h => by simp [heapL, upd] at h; simp [h]) (fun C hC => ?_)
    simp only [startFr, Tryz.ntmps110, List.length_cons, List.length_nil, Nat.reduceAdd, Nat.reduceSub, List.replicate_succ, List.replicate_zero, List.cons_append, List.nil_append]
    have hD : ∀ l, C.D0 l → l = ⟨0, []⟩ := fun l h => by have := (hC l).1 h; simp [heapL, upd] at this; exact this
    repeat' (first | ((first | apply Ba | (apply Bb; (· rfl); (· rfl)) | (apply Bc; (· exact nxE)) | (apply Bd; (· rfl); (· rfl); (· exact nxE))); (· first | exact Kz rfl rfl (hCy) (Ad An) | exact Zx (args := []) D1 rfl rfl rfl rfl .nil (fun _ => by simp [rn]) | exact Zx (args := []) D2 rfl rfl rfl rfl .nil (fun _ => by simp [rn]) | exact Ok.pe)) | ((first | apply Ca | (apply Cb; (· exact nxE))); (· first | exact Zx (args := []) D1 rfl rfl rfl rfl .nil (fun _ => by simp [rn]) | exact Zx (args := []) D2 rfl rfl rfl rfl .nil (fun _ => by simp [rn]) | exact Ok.e0)) | refine Sx ?_ | (refine Sy (fun h => ?_) (fun h => ?_) <;> try (exfalso; omega; done)) | refine Sz (fun h => ?_) (fun h => ?_))
    all_goals
      refine Yb ?_
      (apply Le.headZ (hs := [(⟨0, []⟩, ⟨0, []⟩, _)]) [⟨0, []⟩] rfl)
      all_goals (try dsimp only [srcs])
      (case' hfr | hob => (repeat' (first | refine La ?_ ?_ | exact Lc | refine Lo ?_ | refine ⟨⟨_, rfl, ?_⟩, ?_⟩ | refine Lx ?_)))
      all_goals (first | exact Ld | exact trivial | (rfl))
  have hden := hden hc0
  obtain ⟨a, s2, a1, a2, h2, q2, N2⟩ := next_ex hc h1 4
  by_cases ha : a = 0
  · obtain ⟨r, s3, hr, h3, D3⟩ := l01DrawRatio_ex code hc s2 h2
    obtain ⟨x, y⟩ := r
    refine ⟨T, (x, y), s3, hT, hT6, hr, h3, ?_⟩
    simp only at D3 ⊢
    show AC _ _ _ (heapL [(⟨0, []⟩, ⟨0, []⟩, srcO code s)]) _ _
    refine AC.of_body 1 Tryz.func110 rfl (fun l h => by simp [heapL, upd] at h; simp [h]) (fun C hC => ?_)
    simp only [startFr, Tryz.ntmps110, List.length_cons, List.length_nil, Nat.reduceAdd, Nat.reduceSub, List.replicate_succ, List.replicate_zero, List.cons_append, List.nil_append]
    have hD : ∀ l, C.D0 l → l = ⟨0, []⟩ := fun l h => by have := (hC l).1 h; simp [heapL, upd] at this; exact this
    repeat' (first | ((first | apply Ba | (apply Bb; (· rfl); (· rfl)) | (apply Bc; (· exact nxE)) | (apply Bd; (· rfl); (· rfl); (· exact nxE))); (· first | exact Kz rfl rfl (hCy) (Ad An) | exact Zx (args := []) D1 rfl rfl rfl rfl .nil (fun _ => by simp [rn]) | exact Zx (args := []) D3 rfl rfl rfl rfl .nil (fun _ => by simp [rn]) | exact Nx N2 rfl rfl rfl rfl rfl | exact Ok.pe)) | ((first | apply Ca | (apply Cb; (· exact nxE))); (· first | exact Zx (args := []) D1 rfl rfl rfl rfl .nil (fun _ => by simp [rn]) | exact Zx (args := []) D3 rfl rfl rfl rfl .nil (fun _ => by simp [rn]) | exact Nx N2 rfl rfl rfl rfl rfl | exact Ok.e0)) | refine Sx ?_ | (refine Sy (fun h => ?_) (fun h => ?_) <;> try (exfalso; omega; done)) | refine Sz (fun h => ?_) (fun h => ?_))
    all_goals
      refine Yb ?_
      (apply Le.headZ (hs := [(⟨0, []⟩, ⟨0, []⟩, _)]) [⟨0, []⟩] rfl)
      all_goals (try dsimp only [srcs])
      (case' hfr | hob => (repeat' (first | refine La ?_ ?_ | exact Lc | refine Lo ?_ | refine ⟨⟨_, rfl, ?_⟩, ?_⟩ | refine Lx ?_)))
      all_goals (first | exact Ld | exact trivial | (rfl))
  obtain ⟨b, s3, b1, b2, h3, q3, N3⟩ := next_ex hc h2 2
  by_cases hb : b = 0
  · refine ⟨T, (p, q), s3, hT, hT6, ⟨by simp only; omega, by simp only; omega, fun _ => by simp only; omega⟩, h3, ?_⟩
    show AC _ _ _ (heapL [(⟨0, []⟩, ⟨0, []⟩, srcO code s)]) _ _
    refine AC.of_body 1 Tryz.func110 rfl (fun l h => by simp [heapL, upd] at h; simp [h]) (fun C hC => ?_)
    simp only [startFr, Tryz.ntmps110, List.length_cons, List.length_nil, Nat.reduceAdd, Nat.reduceSub, List.replicate_succ, List.replicate_zero, List.cons_append, List.nil_append]
    have hD : ∀ l, C.D0 l → l = ⟨0, []⟩ := fun l h => by have := (hC l).1 h; simp [heapL, upd] at this; exact this
    repeat' (first | ((first | apply Ba | (apply Bb; (· rfl); (· rfl)) | (apply Bc; (· exact nxE)) | (apply Bd; (· rfl); (· rfl); (· exact nxE))); (· first | exact Kz rfl rfl (hCy) (Ad An) | exact Zx (args := []) D1 rfl rfl rfl rfl .nil (fun _ => by simp [rn]) | exact Nx N2 rfl rfl rfl rfl rfl | exact Nx N3 rfl rfl rfl rfl rfl | exact Ok.pe)) | ((first | apply Ca | (apply Cb; (· exact nxE))); (· first | exact Zx (args := []) D1 rfl rfl rfl rfl .nil (fun _ => by simp [rn]) | exact Nx N2 rfl rfl rfl rfl rfl | exact Nx N3 rfl rfl rfl rfl rfl | exact Ok.e0)) | refine Sx ?_ | (refine Sy (fun h => ?_) (fun h => ?_) <;> try (exfalso; omega; done)) | refine Sz (fun h => ?_) (fun h => ?_))
    all_goals
      refine Yb ?_
      (apply Le.headZ (hs := [(⟨0, []⟩, ⟨0, []⟩, _)]) [⟨0, []⟩] rfl)
      all_goals (try dsimp only [srcs])
      (case' hfr | hob => (repeat' (first | refine La ?_ ?_ | exact Lc | refine Lo ?_ | refine ⟨⟨_, rfl, ?_⟩, ?_⟩ | refine Lx ?_)))
      all_goals (first | exact Ld | exact trivial | (rfl))
  obtain ⟨x, s4, x1, x2, h4, q4, N4⟩ := next_ex hc h3 7
  obtain ⟨y, s5, y1, y2, h5, q5, N5⟩ := next_ex hc h4 2
  have hR := l01RatioZ_ac (p + x - 2) (q + y) (by omega) (by omega)
  have hrb := redR_bnd (d := p + x - 2) (m := q + y) (B := 2000000) (by omega) (by omega)
  generalize redR (p + x - 2) (q + y) = r at *
  obtain ⟨u, v⟩ := r
  simp only at hrb hR
  refine ⟨T, (u, v), s5, hT, hT6, ⟨by simp only; omega, by simp only; omega, fun _ => by simp only; omega⟩, h5, ?_⟩
  show AC _ _ _ (heapL [(⟨0, []⟩, ⟨0, []⟩, srcO code s)]) _ _
  refine AC.of_body 1 Tryz.func110 rfl (fun l h => by simp [heapL, upd] at h; simp [h]) (fun C hC => ?_)
  simp only [startFr, Tryz.ntmps110, List.length_cons, List.length_nil, Nat.reduceAdd, Nat.reduceSub, List.replicate_succ, List.replicate_zero, List.cons_append, List.nil_append]
  have hD : ∀ l, C.D0 l → l = ⟨0, []⟩ := fun l h => by have := (hC l).1 h; simp [heapL, upd] at this; exact this
  repeat' (first | ((first | apply Ba | (apply Bb; (· rfl); (· rfl)) | (apply Bc; (· exact nxE)) | (apply Bd; (· rfl); (· rfl); (· exact nxE))); (· first | exact Kz rfl rfl (hCy) (Ad An) | exact Kz rfl rfl (hR) (Ad (Ad An)) | exact Zx (args := []) D1 rfl rfl rfl rfl .nil (fun _ => by simp [rn]) | exact Nx N2 rfl rfl rfl rfl rfl | exact Nx N3 rfl rfl rfl rfl rfl | exact Nx N4 rfl rfl rfl rfl rfl | exact Nx N5 rfl rfl rfl rfl rfl | exact Ok.pe)) | ((first | apply Ca | (apply Cb; (· exact nxE))); (· first | exact Zx (args := []) D1 rfl rfl rfl rfl .nil (fun _ => by simp [rn]) | exact Nx N2 rfl rfl rfl rfl rfl | exact Nx N3 rfl rfl rfl rfl rfl | exact Nx N4 rfl rfl rfl rfl rfl | exact Nx N5 rfl rfl rfl rfl rfl | exact Ok.e0)) | refine Sx ?_ | (refine Sy (fun h => ?_) (fun h => ?_) <;> try (exfalso; omega; done)) | refine Sz (fun h => ?_) (fun h => ?_))
  all_goals
    refine Yb ?_
    (apply Le.headZ (hs := [(⟨0, []⟩, ⟨0, []⟩, _)]) [⟨0, []⟩] rfl)
    all_goals (try dsimp only [srcs])
    (case' hfr | hob => (repeat' (first | refine La ?_ ?_ | exact Lc | refine Lo ?_ | refine ⟨⟨_, rfl, ?_⟩, ?_⟩ | refine Lx ?_)))
    all_goals (first | exact Ld | exact trivial | (rfl))
/-! ### Least potentials, wherever -/
theorem shT_starB {t : List (List Int)} {n : Nat} (hM : MatOk t n) {p q : Int} (hp : -10000000 ≤ p ∧ p ≤ 10000000) (hq : 0 < q ∧ q ≤ 10) : StarB (shT t n p q) n := by
  refine ⟨⟨shT_sq.l, shT_sq.r⟩, hM.pos, hM.le, fun u v hne => ?_⟩
  by_cases h : n ≤ v ∨ n ≤ u
  · rw [shT_out h]; omega
  · rw [shT_ent (by omega) (by omega)] at hne ⊢
    have := sh_bnd hM.b hp hq u v hne
    omega
set_option maxHeartbeats 2000000 in
theorem sPotentialOf_ex (t : List (List Int)) (r : Int × Int) (hr : DrR r) (ht : t.length ≤ 100000000) (hrr : ∀ q ∈ t, q.length ≤ 100000000) : (∃ c, c ≠ 0 ∧ AC Tryz.prog 48 [TL t, .agg [I r.1, I r.2]] H0 (.tup [IL [], I c]) H0) ∨
    ∃ x : List Int, x.length = t.length ∧ 1 ≤ t.length ∧ t.length ≤ 10 ∧ (∀ a ∈ x, -1000000 ≤ a ∧ a ≤ 1000000) ∧ AC Tryz.prog 48 [TL t, .agg [I r.1, I r.2]] H0 (.tup [own1 1 x.length, I 0]) (hp1 (IO x)) := by
  have hQ := l02Square_ac t ht hrr
  have hR := sIsRatioG_ac r (by have := hr.n; omega)
  have hs10 := hr.s
  have hrok := isRtG_ok (r := r)
  obtain ⟨p, q⟩ := r
  simp only at hR hs10 hrok ⊢
  cases hs : isSq t
  · rw [hs] at hQ
    refine .inl ⟨1, by decide, ?_⟩
    refine AC.of_body 0 Tryz.func48 rfl (fun l h => absurd rfl h) (fun C hC => ?_)
    have hD : ∀ l, ¬ C.D0 l := fun l h => (hC l).1 h rfl
    simp only [startFr, Tryz.ntmps48, List.length_cons, List.length_nil, Nat.reduceAdd, Nat.reduceSub, List.replicate_succ, List.replicate_zero, List.cons_append, List.nil_append]
    repeat' (first | ((first | apply Ba | (apply Bb; (· rfl); (· rfl)) | (apply Bc; (· exact nxE)) | (apply Bd; (· rfl); (· rfl); (· exact nxE))); (· first | exact Kz rfl rfl (hQ) (Ad An) | exact Kz rfl rfl (hR) (Aa (Ad (Ad An)) An) | exact Ok.pe)) | ((first | apply Ca | (apply Cb; (· exact nxE))); (· first | exact Ok.e0)) | refine Sx ?_ | (refine Sy (fun h => ?_) (fun h => ?_) <;> try (exfalso; omega; done)) | refine Sz (fun h => ?_) (fun h => ?_))
    refine Yb ?_
    (apply Le.headZ (hs := []) [] rfl)
    all_goals (try dsimp only [srcs])
    (case' hfr => (repeat' (first | refine La ?_ ?_ | exact Lc | refine Lo ?_ | refine ⟨⟨_, rfl, ?_⟩, ?_⟩ | refine Lx ?_)))
    all_goals (first | exact Ld | exact trivial | (rfl))
  rw [hs] at hQ
  cases hg : isRtG (p, q)
  · rw [hg] at hR
    refine .inl ⟨1, by decide, ?_⟩
    refine AC.of_body 0 Tryz.func48 rfl (fun l h => absurd rfl h) (fun C hC => ?_)
    have hD : ∀ l, ¬ C.D0 l := fun l h => (hC l).1 h rfl
    simp only [startFr, Tryz.ntmps48, List.length_cons, List.length_nil, Nat.reduceAdd, Nat.reduceSub, List.replicate_succ, List.replicate_zero, List.cons_append, List.nil_append]
    repeat' (first | ((first | apply Ba | (apply Bb; (· rfl); (· rfl)) | (apply Bc; (· exact nxE)) | (apply Bd; (· rfl); (· rfl); (· exact nxE))); (· first | exact Kz rfl rfl (hQ) (Ad An) | exact Kz rfl rfl (hR) (Aa (Ad (Ad An)) An) | exact Ok.pe)) | ((first | apply Ca | (apply Cb; (· exact nxE))); (· first | exact Ok.e0)) | refine Sx ?_ | (refine Sy (fun h => ?_) (fun h => ?_) <;> try (exfalso; omega; done)) | refine Sz (fun h => ?_) (fun h => ?_))
    refine Yb ?_
    (apply Le.headZ (hs := []) [] rfl)
    all_goals (try dsimp only [srcs])
    (case' hfr => (repeat' (first | refine La ?_ ?_ | exact Lc | refine Lo ?_ | refine ⟨⟨_, rfl, ?_⟩, ?_⟩ | refine Lx ?_)))
    all_goals (first | exact Ld | exact trivial | (rfl))
  rw [hg] at hR
  have hs10 := hs10 hg
  obtain ⟨hz, hi⟩ := hrok hg
  have hM := isSq_ok hs
  have hn := hM.le
  have hi2 := wi_iff.1 hi
  simp only at hi2
  have hzd := hz.d
  simp only at hzd
  have hp : -10000000 ≤ p ∧ p ≤ 10000000 := by omega
  have hq : 0 < q ∧ q ≤ 10 := by omega
  have hB := shT_starB hM hp hq
  have hSh := (l04Shift_ac t t.length hM p q hp hq).frzT (by rw [TR_len]; exact shT_sq.l)
  have htl : (mRows 1 (TR t)).length = t.length := by rw [mTR_len]
  by_cases hnp : NoPos (entN (shT t t.length p q)) t.length
  case neg =>
    have hSt := (l03Star_no (shT t t.length p q) t.length hB hnp).frzT2 (by rw [TR_len, tabF_len])
    refine .inl ⟨5, by decide, ?_⟩
    generalize tabF t.length t.length (powN (entN (shT t t.length p q)) t.length t.length) = s at *
    generalize shT t t.length p q = sh at *
    refine AC.of_body 0 Tryz.func48 rfl (fun l h => absurd rfl h) (fun C hC => ?_)
    have hD : ∀ l, ¬ C.D0 l := fun l h => (hC l).1 h rfl
    simp only [startFr, Tryz.ntmps48, List.length_cons, List.length_nil, Nat.reduceAdd, Nat.reduceSub, List.replicate_succ, List.replicate_zero, List.cons_append, List.nil_append]
    repeat' (first | ((first | apply Ba | (apply Bb; (· rfl); (· rfl)) | (apply Bc; (· exact nxE)) | (apply Bd; (· rfl); (· rfl); (· exact nxE))); (· first | exact Kz rfl rfl (hQ) (Ad An) | exact Kz rfl rfl (hR) (Aa (Ad (Ad An)) An) | exact Kz rfl rfl (hSh) (Ad (Aa (Ad (Ad An)) An)) | exact Kz rfl rfl (hSt) (Ad An) | exact Ok.pe)) | ((first | apply Ca | (apply Cb; (· exact nxE))); (· first | exact Ok.e0)) | refine Sx ?_ | (refine Sy (fun h => ?_) (fun h => ?_) <;> try (exfalso; omega; done)) | refine Sz (fun h => ?_) (fun h => ?_))
    refine Yb ?_
    (apply Le.headZ (hs := []) [] rfl)
    all_goals (try dsimp only [srcs])
    (case' hfr => (repeat' (first | refine La ?_ ?_ | exact Lc | refine Lo ?_ | refine ⟨⟨_, rfl, ?_⟩, ?_⟩ | refine Lx ?_)))
    all_goals (first | exact Ld | exact trivial | (rfl))
  have hst := hB.m hnp
  have hSt := (l03Star_ac (shT t t.length p q) t.length hst).frzT2 (by rw [TR_len, tabF_len])
  have hpl : (poL (shT t t.length p q) t.length).length = t.length := rowF_len
  have hT : AC Tryz.prog 107 [TL (tabF t.length t.length (starF (entN (shT t t.length p q)) t.length)), .d (.sl 1 (List.replicate t.length [DI 0]))] H0 (own1 1 (poL (shT t t.length p q) t.length).length) (hp1 (IO (poL (shT t t.length p q) t.length))) := by
    rw [← zeroRowM, hpl]
    exact l02Apply_ac (tabF t.length t.length (starF (entN (shT t t.length p q)) t.length)) t.length t.length (fun _ => 0) tabF_rc (by omega) (by omega) (apOk_starM hst)
  have hA := l01All_ac (poL (shT t t.length p q) t.length) (by omega)
  rw [finL_eq] at hA
  have hpl2 : (IR (poL (shT t t.length p q) t.length)).length = t.length := by rw [IR_len, hpl]
  generalize poL (shT t t.length p q) t.length = pt at *
  generalize starF (entN (shT t t.length p q)) t.length = s at *
  generalize shT t t.length p q = sh at *
  clear hst hB hnp
  cases hf : finL pt
  · rw [hf] at hA
    refine .inl ⟨3, by decide, ?_⟩
    refine AC.of_body 0 Tryz.func48 rfl (fun l h => absurd rfl h) (fun C hC => ?_)
    have hD : ∀ l, ¬ C.D0 l := fun l h => (hC l).1 h rfl
    simp only [startFr, Tryz.ntmps48, List.length_cons, List.length_nil, Nat.reduceAdd, Nat.reduceSub, List.replicate_succ, List.replicate_zero, List.cons_append, List.nil_append]
    repeat' (first | ((first | apply Ba | (apply Bb; (· rfl); (· rfl)) | (apply Bc; (· exact nxE)) | (apply Bd; (· rfl); (· rfl); (· exact nxE))); (· first | exact Ok.lenD rfl rfl htl | exact Kz rfl rfl (hQ) (Ad An) | exact Kz rfl rfl (hR) (Aa (Ad (Ad An)) An) | exact Kz rfl rfl (hSh) (Ad (Aa (Ad (Ad An)) An)) | exact Kz rfl rfl (hSt) (Ad An) | exact Ez rfl rfl (hA) (Sw (Sd Sn)) | exact Eo rfl rfl (hT) (Sd (Sw Sn)) | exact Ok.pe)) | ((first | apply Ca | (apply Cb; (· exact nxE))); (· first | exact Eo rfl rfl (hT) (Sd (Sw Sn)) | exact Ok.e0)) | refine Sx ?_ | (refine Sy (fun h => ?_) (fun h => ?_) <;> try (exfalso; omega; done)) | refine Sz (fun h => ?_) (fun h => ?_))
    refine Yb ?_
    (apply Le.headZ (hs := []) [] rfl)
    all_goals (try dsimp only [srcs])
    (case' hfr => (repeat' (first | refine La ?_ ?_ | exact Lc | refine Lo ?_ | refine ⟨⟨_, rfl, ?_⟩, ?_⟩ | refine Lx ?_)))
    all_goals (first | exact Ld | exact trivial | (rfl))
  · rw [hf] at hA
    refine .inr ⟨pt, hpl, hM.pos, hn, fun a ha => ?_, ?_⟩
    · unfold finL at hf
      exact wi_iff.1 (List.all_eq_true.1 hf a ha)
    refine AC.of_body 0 Tryz.func48 rfl (fun l h => absurd rfl h) (fun C hC => ?_)
    have hD : ∀ l, ¬ C.D0 l := fun l h => (hC l).1 h rfl
    simp only [startFr, Tryz.ntmps48, List.length_cons, List.length_nil, Nat.reduceAdd, Nat.reduceSub, List.replicate_succ, List.replicate_zero, List.cons_append, List.nil_append]
    repeat' (first | ((first | apply Ba | (apply Bb; (· rfl); (· rfl)) | (apply Bc; (· exact nxE)) | (apply Bd; (· rfl); (· rfl); (· exact nxE))); (· first | exact Ok.lenD rfl rfl htl | exact Kz rfl rfl (hQ) (Ad An) | exact Kz rfl rfl (hR) (Aa (Ad (Ad An)) An) | exact Kz rfl rfl (hSh) (Ad (Aa (Ad (Ad An)) An)) | exact Kz rfl rfl (hSt) (Ad An) | exact Ez rfl rfl (hA) (Sw (Sd Sn)) | exact Eo rfl rfl (hT) (Sd (Sw Sn)) | exact Ok.pe)) | ((first | apply Ca | (apply Cb; (· exact nxE))); (· first | exact Eo rfl rfl (hT) (Sd (Sw Sn)) | exact Ok.e0)) | refine Sx ?_ | (refine Sy (fun h => ?_) (fun h => ?_) <;> try (exfalso; omega; done)) | refine Sz (fun h => ?_) (fun h => ?_))
    refine Yb ?_
    (apply Le.head [(⟨0, []⟩, _, _)])
    (case' hfr | hob => (repeat' (first | refine La ?_ ?_ | exact Lc | refine Lo ?_ | refine ⟨⟨_, rfl, ?_⟩, ?_⟩ | refine Lx ?_)))
    all_goals (first | exact Ld | (rfl))
end Go.Proofs.YtikadoicplnkgaaGreat
end

section
namespace Go.Proofs.YtikadoicplnkgaaGreat
set_option linter.unusedSimpArgs false
set_option linter.unusedVariables false
open Go Go.RowKit
attribute [local irreducible] AL AD AW OpOk Le AC thenQ blockQ EndQ

set_option maxHeartbeats 4000000 in
theorem l04DrawProof_ex (code : List Int) (hc : CodeOk code) (s : Src) (hs : SrcOk code s) : ∃ (T : List (List Int)) (r : Int × Int) (x : List Int) (s' : Src), TabOk T ∧ T.length ≤ 6 ∧ DrR r ∧ x.length ≤ 1000 ∧ SrcOk code s' ∧ AC Tryz.prog 50 [Bx 3 0] (srcH code s) (.tup [TL T, .agg [I r.1, I r.2], IL x]) (srcH code s') := by
  obtain ⟨T, r, s1, hT, hT6, hr, h1, D1⟩ := l04DrawRatio_ex code hc s hs
  have htl := hT.l
  have hlT : (mRows 1 (TR T)).length = T.length := mTR_len
  have hP := sPotentialOf_ex T r hr (by omega) (fun r h => by have := hT.r r h; omega)
  obtain ⟨p, q⟩ := r
  simp only at D1 hP
  rcases hP with ⟨c, hc0, hP⟩ | ⟨x, hxl, hx1, hx2, hxb, hP⟩
  · obtain ⟨x, s2, hx, h2, D2⟩ := l02DrawVector_ex code hc s1 h1 T.length (by omega)
    refine ⟨T, (p, q), x, s2, hT, hT6, hr, by omega, h2, ?_⟩
    simp only
    show AC _ _ _ (heapL [(⟨0, []⟩, ⟨0, []⟩, srcO code s)]) _ _
    refine AC.of_body 1 Tryz.func50 rfl (fun l h => by simp [heapL, upd] at h; simp [h]) (fun C hC => ?_)
    simp only [startFr, Tryz.ntmps50, List.length_cons, List.length_nil, Nat.reduceAdd, Nat.reduceSub, List.replicate_succ, List.replicate_zero, List.cons_append, List.nil_append]
    have hD : ∀ l, C.D0 l → l = ⟨0, []⟩ := fun l h => by have := (hC l).1 h; simp [heapL, upd] at this; exact this
    repeat' (first | ((first | apply Ba | (apply Bb; (· rfl); (· rfl)) | (apply Bc; (· exact nxE)) | (apply Bd; (· rfl); (· rfl); (· exact nxE))); (· first | exact Kz rfl rfl (hP) (Ad (Aa (Ad (Ad An)) An)) | exact Ok.lenD rfl rfl hlT | exact Zx (args := []) D1 rfl rfl rfl rfl .nil (fun _ => by simp [rn]) | exact Zx (args := [I T.length]) D2 rfl rfl rfl rfl (.cons (.dd _) .nil) (fun _ => by simp [rn]) | exact Ok.pe)) | ((first | apply Ca | (apply Cb; (· exact nxE))); (· first | exact Zx (args := []) D1 rfl rfl rfl rfl .nil (fun _ => by simp [rn]) | exact Zx (args := [I T.length]) D2 rfl rfl rfl rfl (.cons (.dd _) .nil) (fun _ => by simp [rn]) | exact Ok.e0)) | refine Sx ?_ | (refine Sy (fun h => ?_) (fun h => ?_) <;> try (exfalso; omega; done)) | refine Sz (fun h => ?_) (fun h => ?_))
    all_goals
      refine Yc ?_
      (apply Le.headZ (hs := [(⟨0, []⟩, ⟨0, []⟩, _)]) [⟨0, []⟩] rfl)
      all_goals (try dsimp only [srcs])
      (case' hfr | hob => (repeat' (first | refine La ?_ ?_ | exact Lc | refine Lo ?_ | refine ⟨⟨_, rfl, ?_⟩, ?_⟩ | refine Lx ?_)))
      all_goals (first | exact Ld | exact trivial | (rfl))
  obtain ⟨a, s2, a1, a2, h2, q2, N2⟩ := next_ex hc h1 3
  have hxr : (IR x).length = x.length := IR_len
  by_cases ha : a = 0
  case neg =>
    refine ⟨T, (p, q), x, s2, hT, hT6, hr, by omega, h2, ?_⟩
    simp only
    show AC _ _ _ (heapL [(⟨0, []⟩, ⟨0, []⟩, srcO code s)]) _ _
    refine AC.of_body 1 Tryz.func50 rfl (fun l h => by simp [heapL, upd] at h; simp [h]) (fun C hC => ?_)
    simp only [startFr, Tryz.ntmps50, List.length_cons, List.length_nil, Nat.reduceAdd, Nat.reduceSub, List.replicate_succ, List.replicate_zero, List.cons_append, List.nil_append]
    have hD : ∀ l, C.D0 l → l = ⟨0, []⟩ := fun l h => by have := (hC l).1 h; simp [heapL, upd] at this; exact this
    repeat' (first | ((first | apply Ba | (apply Bb; (· rfl); (· rfl)) | (apply Bc; (· exact nxE)) | (apply Bd; (· rfl); (· rfl); (· exact nxE))); (· first | exact Zx (args := []) D1 rfl rfl rfl rfl .nil (fun _ => by simp [rn]) | exact Eo rfl rfl (hP) (Sd (Sa (Sd (Sd Sn)) Sn)) | exact Nx N2 rfl rfl rfl rfl rfl | exact Ok.pe)) | ((first | apply Ca | (apply Cb; (· exact nxE))); (· first | exact Zx (args := []) D1 rfl rfl rfl rfl .nil (fun _ => by simp [rn]) | exact Eo rfl rfl (hP) (Sd (Sa (Sd (Sd Sn)) Sn)) | exact Nx N2 rfl rfl rfl rfl rfl | exact Ok.e0)) | refine Sx ?_ | (refine Sy (fun h => ?_) (fun h => ?_) <;> try (exfalso; omega; done)) | refine Sz (fun h => ?_) (fun h => ?_))
    all_goals
      refine Yc ?_
      (apply Le.headZ (hs := [(⟨0, []⟩, ⟨0, []⟩, _)]) [⟨0, []⟩] rfl)
      all_goals (try dsimp only [srcs])
      (case' hfr | hob => (repeat' (first | refine La ?_ ?_ | refine ARs.agg ?_ | refine ARs.tup ?_ | (exact AR.whole rfl (by simp) (by simp)) | refine La ?_ ?_ | exact Lc | refine Lo ?_ | refine ⟨⟨_, rfl, ?_⟩, ?_⟩ | refine Lx ?_)))
      all_goals (first | exact Ld | exact trivial | (exact AR.whole rfl (by simp) (by simp)))
  obtain ⟨b, s3, b1, b2, h3, q3, N3⟩ := next_ex hc h2 x.length
  obtain ⟨e, s4, e1, e2, h4, q4, N4⟩ := next_ex hc h3 5
  obtain ⟨k, rfl⟩ : ∃ k : Nat, b = k := ⟨b.toNat, by omega⟩
  have hk : k < x.length := by omega
  have hv := hxb _ (List.getElem_mem hk)
  have hcell : (IR x)[k]? = some [DI x[k]] := by simp [hk]
  refine ⟨T, (p, q), x.set k (x[k] + (e - 2)), s4, hT, hT6, hr, by rw [List.length_set]; omega, h4, ?_⟩
  have hset : (IR x).set k [DI (x[k] + (e - 2))] = IR (x.set k (x[k] + (e - 2))) := by simp [List.map_set]
  generalize x[k] = v at *
  simp only
  show AC _ _ _ (heapL [(⟨0, []⟩, ⟨0, []⟩, srcO code s)]) _ _
  refine AC.of_body 1 Tryz.func50 rfl (fun l h => by simp [heapL, upd] at h; simp [h]) (fun C hC => ?_)
  simp only [startFr, Tryz.ntmps50, List.length_cons, List.length_nil, Nat.reduceAdd, Nat.reduceSub, List.replicate_succ, List.replicate_zero, List.cons_append, List.nil_append]
  have hD : ∀ l, C.D0 l → l = ⟨0, []⟩ := fun l h => by have := (hC l).1 h; simp [heapL, upd] at this; exact this
  repeat' (first | ((first | apply Ba | (apply Bb; (· rfl); (· rfl)) | (apply Bc; (· exact nxE)) | (apply Bd; (· rfl); (· rfl); (· exact nxE))); (· first | exact Ok.ld1 rfl rfl rfl hcell | exact Zx (args := []) D1 rfl rfl rfl rfl .nil (fun _ => by simp [rn]) | exact Eo rfl rfl (hP) (Sd (Sa (Sd (Sd Sn)) Sn)) | exact Nx N2 rfl rfl rfl rfl rfl | exact Nx N3 rfl rfl rfl rfl rfl | exact Nx N4 rfl rfl rfl rfl rfl | exact Ok.st1 rfl rfl rfl (by rw [hxr]; omega) (by rw [hcell]; rfl) rfl rfl hset | exact Ok.pe)) | ((first | apply Ca | (apply Cb; (· exact nxE))); (· first | exact Zx (args := []) D1 rfl rfl rfl rfl .nil (fun _ => by simp [rn]) | exact Eo rfl rfl (hP) (Sd (Sa (Sd (Sd Sn)) Sn)) | exact Nx N2 rfl rfl rfl rfl rfl | exact Nx N3 rfl rfl rfl rfl rfl | exact Nx N4 rfl rfl rfl rfl rfl | exact Ok.st1 rfl rfl rfl (by rw [hxr]; omega) (by rw [hcell]; rfl) rfl rfl hset | exact Ok.e0)) | refine Sx ?_ | (refine Sy (fun h => ?_) (fun h => ?_) <;> try (exfalso; omega; done)) | refine Sz (fun h => ?_) (fun h => ?_))
  all_goals
    refine Yc ?_
    (apply Le.headZ (hs := [(⟨0, []⟩, ⟨0, []⟩, _)]) [⟨0, []⟩] rfl)
    all_goals (try dsimp only [srcs])
    (case' hfr | hob => (repeat' (first | refine La ?_ ?_ | refine ARs.agg ?_ | refine ARs.tup ?_ | (exact AR.whole rfl (by simp) (by simp)) | refine La ?_ ?_ | exact Lc | refine Lo ?_ | refine ⟨⟨_, rfl, ?_⟩, ?_⟩ | refine Lx ?_)))
    all_goals (first | exact Ld | exact trivial | (exact AR.whole rfl (by simp) (by simp)))
/-! ### Lists of nodes -/
def nsF (T : List (List Int)) (last : Nat) : Nat → Nat → Nat
  | 0, v => v
  | f + 1, v => if last < (T.getD v []).length ∧ (T.getD v []).getD last 0 = -1000000000000000 then nsF T last f ((v + 1) % T.length) else v
theorem nsF_lt {T : List (List Int)} {last : Nat} (h : 0 < T.length) : ∀ {f v : Nat}, v < T.length → nsF T last f v < T.length
  | 0, v, hv => hv
  | f + 1, v, hv => by
    unfold nsF
    split
    · exact nsF_lt h (Nat.mod_lt _ h)
    · exact hv
abbrev QN := Src × List Nat
def dnF (code : List Int) (T : List (List Int)) (q : QN) : QN := ((nxt code q.1 T.length).2, q.2 ++ [nsF T (lsN q.2) T.length (nxt code q.1 T.length).1.toNat])
theorem dnF_ok {code : List Int} (hc : CodeOk code) {T : List (List Int)} (hT : 0 < T.length) {s : Src} (hs : SrcOk code s) {a : Nat} (ha : a < T.length) (n : Nat) : SrcOk code (itr (dnF code T) n (s, [a])).1 ∧ (itr (dnF code T) n (s, [a])).2.length = n + 1 ∧ ∀ x ∈ (itr (dnF code T) n (s, [a])).2, x < T.length :=
  itr_ok (p := fun k (q : QN) => SrcOk code q.1 ∧ q.2.length = k + 1 ∧ ∀ x ∈ q.2, x < T.length) ⟨hs, rfl, by simpa using ha⟩ (fun k x h => ⟨(nxt_ok hc h.1 _).2.2, by simp [dnF, h.2.1], fun y hy => by
    obtain ⟨b1, b2, _⟩ := nxt_ok hc h.1 T.length
    rcases List.mem_append.1 hy with hy | hy
    · exact h.2.2 y hy
    · simp at hy; subst hy; exact nsF_lt hT (by omega)⟩) n
set_option maxHeartbeats 8000000 in
theorem l03DrawNodes_ex (code : List Int) (hc : CodeOk code) (s : Src) (hs : SrcOk code s) (T : List (List Int)) (hTl : T.length ≤ 100) (hTr : ∀ r ∈ T, r.length ≤ 100000) : ∃ (c : List Int) (s' : Src), c.length ≤ 1000 ∧ SrcOk code s' ∧ AC Tryz.prog 52 [Bx 3 0, TL T] (srcH code s) (IL c) (srcH code s') := by
  have hlT : (mRows 1 (TR T)).length = T.length := mTR_len
  by_cases h0 : T.length = 0
  · refine ⟨[0], s, by simp, hs, ?_⟩
    show AC _ _ _ (heapL [(⟨0, []⟩, ⟨0, []⟩, srcO code s)]) _ _
    refine AC.of_body 1 Tryz.func52 rfl (fun l h => by simp [heapL, upd] at h; simp [h]) (fun C hC => ?_)
    simp only [startFr, Tryz.ntmps52, List.length_cons, List.length_nil, Nat.reduceAdd, Nat.reduceSub, List.replicate_succ, List.replicate_zero, List.cons_append, List.nil_append]
    have hD : ∀ l, C.D0 l → l = ⟨0, []⟩ := fun l h => by have := (hC l).1 h; simp [heapL, upd] at this; exact this
    repeat' (first | ((first | apply Ba | (apply Bb; (· rfl); (· rfl)) | (apply Bc; (· exact nxE)) | (apply Bd; (· rfl); (· rfl); (· exact nxE))); (· first | exact Ok.lenD rfl rfl hlT | exact Ok.pe)) | ((first | apply Ca | (apply Cb; (· exact nxE))); (· first | exact Ok.e0)) | refine Sx ?_ | (refine Sy (fun h => ?_) (fun h => ?_) <;> try (exfalso; omega; done)) | refine Sz (fun h => ?_) (fun h => ?_))
    all_goals
      refine Ya ?_
      (apply Le.headZ (hs := [(⟨0, []⟩, ⟨0, []⟩, _)]) [⟨0, []⟩] rfl)
      all_goals (try dsimp only [srcs])
      (case' hfr | hob => (repeat' (first | refine La ?_ ?_ | refine ARs.agg ?_ | refine ARs.tup ?_ | (exact AR.whole (rows := IR [0]) rfl (by simp) rfl) | refine La ?_ ?_ | exact Lc | refine Lo ?_ | refine ⟨⟨_, rfl, ?_⟩, ?_⟩ | refine Lx ?_)))
      all_goals (first | exact Ld | exact trivial | (exact AR.whole (rows := IR [0]) rfl (by simp) rfl))
  obtain ⟨a, s1, a1, a2, h1, q1, N1⟩ := next_ex hc hs T.length
  obtain ⟨a, rfl⟩ : ∃ n : Nat, a = n := ⟨a.toNat, by omega⟩
  obtain ⟨m, s2, m1, m2, h2, q2, N2⟩ := next_ex hc h1 6
  obtain ⟨m, rfl⟩ : ∃ n : Nat, m = n := ⟨m.toNat, by omega⟩
  have hok := fun n => dnF_ok hc (T := T) (by omega) h2 (a := a) (by omega) n
  obtain ⟨hA, hAl, hAn⟩ := hok m
  generalize hqA : itr (dnF code T) m (s2, [a]) = qA at hA hAl hAn
  obtain ⟨s3, xs⟩ := qA
  simp only at hA hAl hAn
  obtain ⟨y, s4, y1, y2, h4, q4, N4⟩ := next_ex hc hA 40
  obtain ⟨v, s5, hv, h5, p5, q5, K5⟩ := pick_ex hc h4 [-1, (T.length : Int)] 2 rfl
  refine ⟨if y = 0 then cN xs ++ [v] else if y = 1 then [] else cN xs, if y = 0 then s5 else s4, ?_, by split <;> assumption, ?_⟩
  · (repeat' split) <;> (first | (simp; done) | (simp; omega) | omega)
  show AC _ _ _ (heapL [(⟨0, []⟩, ⟨0, []⟩, srcO code s)]) _ _
  refine AC.of_body 1 Tryz.func52 rfl (fun l h => by simp [heapL, upd] at h; simp [h]) (fun C hC => ?_)
  simp only [startFr, Tryz.ntmps52, List.length_cons, List.length_nil, Nat.reduceAdd, Nat.reduceSub, List.replicate_succ, List.replicate_zero, List.cons_append, List.nil_append]
  have hD : ∀ l, C.D0 l → l = ⟨0, []⟩ := fun l h => by have := (hC l).1 h; simp [heapL, upd] at this; exact this
  repeat' (first | ((first | apply Ba | (apply Bb; (· rfl); (· rfl)) | (apply Bc; (· exact nxE)) | (apply Bd; (· rfl); (· rfl); (· exact nxE))); (· first | exact Ok.lenD rfl rfl hlT | exact Nx N1 rfl rfl rfl rfl rfl | exact Nx N2 rfl rfl rfl rfl rfl | exact Ok.pe)) | ((first | apply Ca | (apply Cb; (· exact nxE))); (· first | exact Nx N1 rfl rfl rfl rfl rfl | exact Nx N2 rfl rfl rfl rfl rfl | exact Ok.e0)) | refine Sx ?_ | (refine Sy (fun h => ?_) (fun h => ?_) <;> try (exfalso; omega; done)) | refine Sz (fun h => ?_) (fun h => ?_))
  refine AW.loop (X := {k : Nat // k ≤ m}) (fun k => ⟨[Bx 3 0, TL T, Oo, Oo, Oo, I T.length, .own 1 ⟨1, []⟩ 0 (itr (dnF code T) (k.1 : Nat) (s2, [a])).2.length, I ((m : Int) - (k.1 : Nat)), Oo, Oo, Oo, Oo, Oo, Oo, Oo, Oo, Oo, Oo, Oo, Oo, Oo, Oo, Oo, Oo, Oo, Oo, Oo, Oo, Oo, Oo, Oo, Oo, Oo, Oo, Oo, Oo, Oo, Oo, Oo, Oo, Oo, Oo, Oo, Oo, Oo, Oo, Oo, Oo, Oo, Oo, Oo, Oo, Oo, Oo, Oo, Oo, Oo, Oo, Oo, Oo, Oo, Oo, Oo, Oo, Oo, Oo, Oo, Oo, Oo, Oo, Oo, Oo, Oo, Oo, Oo, Oo, Oo, Oo, Oo, Oo, Oo], heapL [(⟨0, []⟩, ⟨0, []⟩, srcO code (itr (dnF code T) k.1 (s2, [a])).1), (⟨1, []⟩, ⟨1, []⟩, IO (cN (itr (dnF code T) k.1 (s2, [a])).2))], 900⟩) (fun k => m - k.1) ⟨0, Nat.zero_le _⟩ ?_ (fun k => ?_)
  ·
    (apply Le.headZ [_, _] rfl)
    all_goals (try dsimp only [srcs])
    (case' hfr | hob => (repeat' (first | refine La ?_ ?_ | exact Lc | refine Lo ?_ | refine ⟨⟨_, rfl, ?_⟩, ?_⟩ | refine Lx ?_)))
    all_goals (first | (rfl) | exact Ld)
  obtain ⟨w, hw⟩ := k
  simp only
  by_cases hlt : w < m
  · obtain ⟨i1, i2, i3⟩ := hok w
    have hst : itr (dnF code T) (w + 1) (s2, [a]) = dnF code T (itr (dnF code T) w (s2, [a])) := rfl
    generalize itr (dnF code T) w (s2, [a]) = q at i1 i2 i3 hst ⊢
    obtain ⟨s6, ys⟩ := q
    simp only at i1 i2 i3 ⊢
    obtain ⟨b, s7, b1, b2, h7, q7, N7⟩ := next_ex hc i1 T.length
    obtain ⟨b, rfl⟩ : ∃ n : Nat, b = n := ⟨b.toNat, by omega⟩
    have hst := hst.trans (show dnF code T (s6, ys) = (s7, ys ++ [nsF T (lsN ys) T.length b]) by unfold dnF; simp only [q7, Int.toNat_natCast])
    have hyl : (IR (cN ys)).length = ys.length := by simp
    obtain ⟨lst, hlst⟩ : ∃ l, l = lsN ys := ⟨_, rfl⟩
    rw [← hlst] at hst
    have hlg : ys[ys.length - 1]? = some (lsN ys) := by rw [lsN_getD, List.getD_eq_getElem?_getD, List.getElem?_eq_getElem (by omega)]; rfl
    have hlc : (IO (cN ys)).rows[0 + (((ys.length : Nat) : Int) - 1).toNat]? = some [I (lst : Nat)] := by
      rw [show 0 + (((ys.length : Nat) : Int) - 1).toNat = ys.length - 1 by omega, hlst]
      simp [dobj, cN, hlg]
    have hln : lst < T.length := by
      rw [hlst]
      exact i3 _ (List.mem_of_getElem? hlg)
    have hfin := nsF_lt (T := T) (last := lst) (by omega) (f := T.length) (v := b) (by omega)
    obtain ⟨R, hR⟩ : ∃ R, R = nsF T lst T.length b := ⟨_, rfl⟩
    rw [← hR] at hst hfin
    repeat' (first | ((first | apply Ba | (apply Bb; (· rfl); (· rfl)) | (apply Bc; (· exact nxE)) | (apply Bd; (· rfl); (· rfl); (· exact nxE))); (· first | exact OpOk.loadCell rfl rfl rfl rfl hlc rfl | exact Nx N7 rfl rfl rfl rfl rfl | exact Ok.pe)) | ((first | apply Ca | (apply Cb; (· exact nxE))); (· first | exact Nx N7 rfl rfl rfl rfl rfl | exact Ok.e0)) | refine Sx ?_ | (refine Sy (fun h => ?_) (fun h => ?_) <;> try (exfalso; omega; done)) | refine Sz (fun h => ?_) (fun h => ?_))
    refine AW.loop (X := {p : Nat × Nat // p.1 ≤ T.length ∧ p.2 < T.length ∧ R = nsF T lst (T.length - p.1) p.2}) (fun p => ⟨[Bx 3 0, TL T, Oo, Oo, Oo, I T.length, .own 1 ⟨1, []⟩ 0 ys.length, I ((m : Int) - w), I (p.1.2 : Nat), I lst, I (p.1.1 : Nat), Oo, Oo, Oo, Oo, Oo, Oo, Oo, Oo, Oo, Oo, Oo, Oo, Oo, Oo, Oo, Oo, Oo, Oo, Oo, Oo, Oo, Oo, Oo, Oo, Oo, Oo, Oo, Oo, Oo, Oo, Oo, Oo, Oo, Oo, Oo, Oo, Oo, Oo, Oo, Oo, Oo, Oo, Oo, Oo, Oo, Oo, Oo, Oo, Oo, Oo, Oo, Oo, Oo, Oo, Oo, Oo, Oo, Oo, Oo, Oo, Oo, Oo, Oo, Oo, Oo, Oo, Oo, Oo, Oo, Oo], heapL [(⟨0, []⟩, ⟨0, []⟩, srcO code s7), (⟨1, []⟩, ⟨1, []⟩, IO (cN ys))], 950⟩) (fun p => T.length - p.1.1) ⟨(0, b), Nat.zero_le _, by omega, by simpa using hR⟩ ?_ (fun p => ?_)
    ·
      (apply Le.headZ [_, _] rfl)
      all_goals (try dsimp only [srcs])
      (case' hfr | hob => (repeat' (first | refine La ?_ ?_ | exact Lc | refine Lo ?_ | refine ⟨⟨_, rfl, ?_⟩, ?_⟩ | refine Lx ?_)))
      all_goals (first | (rfl) | exact Ld)
    obtain ⟨⟨i, u⟩, g1, g2, g3⟩ := p
    simp only at g1 g2 g3 ⊢
    obtain ⟨row, hrow⟩ : ∃ row, T[u]? = some row := ⟨T[u], by simp⟩
    have hrd : T.getD u [] = row := by rw [List.getD_eq_getElem?_getD, hrow]; rfl
    have hrr := TR_get hrow
    have hrl : (IR row).length = row.length := IR_len
    have hrow5 := hTr row (List.mem_of_getElem? hrow)
    by_cases hc1 : i < T.length ∧ lst < row.length
    case neg =>
      have hRu : R = u := by
        rw [g3]
        by_cases e : i < T.length
        · rw [show T.length - i = (T.length - (i + 1)) + 1 by omega, nsF, if_neg (by rw [hrd]; omega)]
        · rw [show T.length - i = 0 by omega]; rfl
      rw [hRu] at hst hfin
      repeat' (first | ((first | apply Ba | (apply Bb; (· rfl); (· rfl)) | (apply Bc; (· exact nxE)) | (apply Bd; (· rfl); (· rfl); (· exact nxE))); (· first | exact Ok.lenD rfl rfl hrl | exact Ok.append1 (row := [DI (u : Nat)]) rfl rfl (by decide) rfl rfl hyl rfl rfl rfl (by rfl) (by omega) (by omega) | exact Ok.pe)) | ((first | apply Ca | (apply Cb; (· exact nxE))); (· first | exact Ok.append1 (row := [DI (u : Nat)]) rfl rfl (by decide) rfl rfl hyl rfl rfl rfl (by rfl) (by omega) (by omega) | exact Ok.e0)) | refine Sx ?_ | (refine Sy (fun h => ?_) (fun h => ?_) <;> try (exfalso; omega; done)) | refine Sz (fun h => ?_) (fun h => ?_))
      all_goals
        refine ⟨⟨w + 1, by omega⟩, ?_, by simp only; omega⟩
        simp only [hst]
        (apply Le.headZ [_, _] rfl)
        all_goals (try dsimp only [srcs])
        (case' hfr | hob => (repeat' (first | refine La ?_ ?_ | exact Lc | refine Lo ?_ | refine ⟨⟨_, rfl, ?_⟩, ?_⟩ | refine Lx ?_)))
        all_goals (first | ((simp; done)) | exact Ld)
    obtain ⟨c1, c2⟩ := hc1
    obtain ⟨z, hz⟩ : ∃ z, row[lst]? = some z := ⟨row[lst], by simp⟩
    have hzr := IR_get hz
    have hzd : row.getD lst 0 = z := by rw [List.getD_eq_getElem?_getD, hz]; rfl
    have hstp : R = if z = -1000000000000000 then nsF T lst (T.length - (i + 1)) ((u + 1) % T.length) else u := by
      rw [g3, show T.length - i = (T.length - (i + 1)) + 1 by omega, nsF, hrd, hzd]
      simp [c2]
    by_cases hz0 : z = -1000000000000000
    · rw [if_pos hz0] at hstp
      have hmod : (((u : Int) + 1).tmod (T.length : Int)) = ((u + 1) % T.length : Nat) := by rw [Int.tmod_eq_emod_of_nonneg (by omega), Int.natCast_emod, Int.natCast_add]; rfl
      have hml := Nat.mod_lt (u + 1) (show T.length > 0 by omega)
      repeat' (first | ((first | apply Ba | (apply Bb; (· rfl); (· rfl)) | (apply Bc; (· exact nxE)) | (apply Bd; (· rfl); (· rfl); (· exact nxE))); (· first | exact Ok.lenD rfl rfl hrl | exact Ok.rem rfl rfl rfl (by omega) | exact Ok.pe)) | ((first | apply Ca | (apply Cb; (· exact nxE))); (· first | exact Ok.e0)) | refine Sx ?_ | (refine Sy (fun h => ?_) (fun h => ?_) <;> try (exfalso; omega; done)) | refine Sz (fun h => ?_) (fun h => ?_))
      all_goals
        refine ⟨⟨(i + 1, (u + 1) % T.length), by simp only; omega, hml, hstp⟩, ?_, by simp only; omega⟩
        (apply Le.headZ [_, _] rfl)
        all_goals (try dsimp only [srcs])
        (case' hfr | hob => (repeat' (first | refine La ?_ ?_ | exact Lc | refine Lo ?_ | refine ⟨⟨_, rfl, ?_⟩, ?_⟩ | refine Lx ?_)))
        all_goals (first | ((first | exact hmod | rfl | (simp; done))) | exact Ld)
    · rw [if_neg hz0] at hstp
      rw [hstp] at hst hfin
      repeat' (first | ((first | apply Ba | (apply Bb; (· rfl); (· rfl)) | (apply Bc; (· exact nxE)) | (apply Bd; (· rfl); (· rfl); (· exact nxE))); (· first | exact Ok.lenD rfl rfl hrl | exact Ok.append1 (row := [DI (u : Nat)]) rfl rfl (by decide) rfl rfl hyl rfl rfl rfl (by rfl) (by omega) (by omega) | exact Ok.pe)) | ((first | apply Ca | (apply Cb; (· exact nxE))); (· first | exact Ok.append1 (row := [DI (u : Nat)]) rfl rfl (by decide) rfl rfl hyl rfl rfl rfl (by rfl) (by omega) (by omega) | exact Ok.e0)) | refine Sx ?_ | (refine Sy (fun h => ?_) (fun h => ?_) <;> try (exfalso; omega; done)) | refine Sz (fun h => ?_) (fun h => ?_))
      all_goals
        refine ⟨⟨w + 1, by omega⟩, ?_, by simp only; omega⟩
        simp only [hst]
        (apply Le.headZ [_, _] rfl)
        all_goals (try dsimp only [srcs])
        (case' hfr | hob => (repeat' (first | refine La ?_ ?_ | exact Lc | refine Lo ?_ | refine ⟨⟨_, rfl, ?_⟩, ?_⟩ | refine Lx ?_)))
        all_goals (first | ((simp; done)) | exact Ld)
  obtain rfl : w = m := by omega
  rw [hqA]
  simp only
  have hyl2 : (IR (cN xs)).length = xs.length := by simp
  by_cases c0 : y = 0
  · simp only [if_pos c0]
    repeat' (first | ((first | apply Ba | (apply Bb; (· rfl); (· rfl)) | (apply Bc; (· exact nxE)) | (apply Bd; (· rfl); (· rfl); (· exact nxE))); (· first | exact Nx N4 rfl rfl rfl rfl rfl | exact Kx K5 rfl rfl rfl rfl rfl rfl (by decide) | exact Ok.bs2I rfl rfl rfl rfl | exact Ok.append1 (row := [DI v]) rfl rfl (by decide) rfl rfl hyl2 rfl rfl rfl (by rfl) (by omega) (by omega) | exact Ok.pe)) | ((first | apply Ca | (apply Cb; (· exact nxE))); (· first | exact Nx N4 rfl rfl rfl rfl rfl | exact Kx K5 rfl rfl rfl rfl rfl rfl (by decide) | exact Ok.bs2I rfl rfl rfl rfl | exact Ok.append1 (row := [DI v]) rfl rfl (by decide) rfl rfl hyl2 rfl rfl rfl (by rfl) (by omega) (by omega) | exact Ok.e0)) | refine Sx ?_ | (refine Sy (fun h => ?_) (fun h => ?_) <;> try (exfalso; omega; done)) | refine Sz (fun h => ?_) (fun h => ?_))
    refine Ya ?_
    (apply Le.headZ (hs := [(⟨0, []⟩, ⟨0, []⟩, _)]) [⟨0, []⟩] rfl)
    all_goals (try dsimp only [srcs])
    (case' hfr | hob => (repeat' (first | refine La ?_ ?_ | refine ARs.agg ?_ | refine ARs.tup ?_ | (exact AR.whole (rows := IR (cN xs ++ [v])) (by simp; rfl) (by simp) (by simp)) | refine La ?_ ?_ | exact Lc | refine Lo ?_ | refine ⟨⟨_, rfl, ?_⟩, ?_⟩ | refine Lx ?_)))
    all_goals (first | exact Ld | exact trivial | (exact AR.whole (rows := IR (cN xs ++ [v])) (by simp; rfl) (by simp) (by simp)))
  · simp only [if_neg c0]
    by_cases c1 : y = 1
    · simp only [if_pos c1]
      repeat' (first | ((first | apply Ba | (apply Bb; (· rfl); (· rfl)) | (apply Bc; (· exact nxE)) | (apply Bd; (· rfl); (· rfl); (· exact nxE))); (· first | exact Nx N4 rfl rfl rfl rfl rfl | exact Ok.pe)) | ((first | apply Ca | (apply Cb; (· exact nxE))); (· first | exact Nx N4 rfl rfl rfl rfl rfl | exact Ok.e0)) | refine Sx ?_ | (refine Sy (fun h => ?_) (fun h => ?_) <;> try (exfalso; omega; done)) | refine Sz (fun h => ?_) (fun h => ?_))
      refine Ya ?_
      (apply Le.headZ (hs := [(⟨0, []⟩, ⟨0, []⟩, _)]) [⟨0, []⟩] rfl)
      all_goals (try dsimp only [srcs])
      (case' hfr | hob => (repeat' (first | refine La ?_ ?_ | exact Lc | refine Lo ?_ | refine ⟨⟨_, rfl, ?_⟩, ?_⟩ | refine Lx ?_)))
      all_goals (first | exact Ld | exact trivial | (rfl))
    · simp only [if_neg c1]
      repeat' (first | ((first | apply Ba | (apply Bb; (· rfl); (· rfl)) | (apply Bc; (· exact nxE)) | (apply Bd; (· rfl); (· rfl); (· exact nxE))); (· first | exact Nx N4 rfl rfl rfl rfl rfl | exact Ok.pe)) | ((first | apply Ca | (apply Cb; (· exact nxE))); (· first | exact Nx N4 rfl rfl rfl rfl rfl | exact Ok.e0)) | refine Sx ?_ | (refine Sy (fun h => ?_) (fun h => ?_) <;> try (exfalso; omega; done)) | refine Sz (fun h => ?_) (fun h => ?_))
      refine Ya ?_
      (apply Le.headZ (hs := [(⟨0, []⟩, ⟨0, []⟩, _)]) [⟨0, []⟩] rfl)
      all_goals (try dsimp only [srcs])
      (case' hfr | hob => (repeat' (first | refine La ?_ ?_ | refine ARs.agg ?_ | refine ARs.tup ?_ | (exact AR.whole rfl (by simp) (by simp)) | refine La ?_ ?_ | exact Lc | refine Lo ?_ | refine ⟨⟨_, rfl, ?_⟩, ?_⟩ | refine Lx ?_)))
      all_goals (first | exact Ld | exact trivial | (exact AR.whole rfl (by simp) (by simp)))
set_option maxHeartbeats 4000000 in
theorem drawIsMeanCertificate_ex (code : List Int) (hc : CodeOk code) : ∃ (T : List (List Int)) (r : Int × Int) (c x : List Int), TabOk T ∧ T.length ≤ 6 ∧ DrR r ∧ c.length ≤ 1000 ∧ x.length ≤ 1000 ∧ AC Tryz.prog 10 [.d (BD code)] H0 (.tup [TL T, .agg [I r.1, I r.2], IL c, IL x]) H0 := by
  have hF := l01From_ac code hc
  obtain ⟨T, r, x, s1, hT, hT6, hr, hx, h1, D1⟩ := l04DrawProof_ex code hc _ (src0_ok hc)
  have htl := hT.l
  have hB := sBestCycle_ac T (by omega) (fun r h => by have := hT.r r h; omega)
  have hbl : (cN (bmL T)).length ≤ 1000 := by
    simp only [cN, List.length_map]
    unfold bmL
    split
    · have := bkF_len (t := T) (n := T.length) (r := kmR (entN T) T.length) (over := -1)
      omega
    · simp
  obtain ⟨p, q⟩ := r
  simp only at D1
  generalize bmC T = b at *
  generalize cN (bmL T) = l at *
  by_cases hb : b = 0
  · obtain ⟨a, s2, a1, a2, h2, q2, N2⟩ := next_ex hc h1 4
    by_cases ha : a = 0
    · obtain ⟨c, s3, hcl, h3, D3⟩ := l03DrawNodes_ex code hc s2 h2 T htl (fun r h => by have := hT.r r h; omega)
      refine ⟨T, (p, q), c, x, hT, hT6, hr, hcl, hx, ?_⟩
      simp only
      refine AC.of_body 0 Tryz.func10 rfl (fun l h => absurd rfl h) (fun C hC => ?_)
      have hD : ∀ l, ¬ C.D0 l := fun l h => (hC l).1 h rfl
      simp only [startFr, Tryz.ntmps10, List.length_cons, List.length_nil, Nat.reduceAdd, Nat.reduceSub, List.replicate_succ, List.replicate_zero, List.cons_append, List.nil_append]
      repeat' (first | ((first | apply Ba | (apply Bb; (· rfl); (· rfl)) | (apply Bc; (· exact nxE)) | (apply Bd; (· rfl); (· rfl); (· exact nxE))); (· first | exact Kz rfl rfl (hB) (Ad An) | exact Fx hF rfl rfl rfl | exact Zl (args := []) D1 rfl rfl rfl rfl .nil (fun _ => by simp [rn]) | exact Nl N2 rfl rfl rfl rfl rfl | exact Zl (args := [TL T]) D3 rfl rfl rfl rfl (.cons (.dd _) .nil) (fun _ => by simp [rn]) | exact Ok.pe)) | ((first | apply Ca | (apply Cb; (· exact nxE))); (· first | exact Fx hF rfl rfl rfl | exact Zl (args := []) D1 rfl rfl rfl rfl .nil (fun _ => by simp [rn]) | exact Nl N2 rfl rfl rfl rfl rfl | exact Zl (args := [TL T]) D3 rfl rfl rfl rfl (.cons (.dd _) .nil) (fun _ => by simp [rn]) | exact Ok.e0)) | refine Sx ?_ | (refine Sy (fun h => ?_) (fun h => ?_) <;> try (exfalso; omega; done)) | refine Sz (fun h => ?_) (fun h => ?_))
      all_goals
        refine Yd ?_
        (apply Le.headZ (hs := []) [] rfl)
        all_goals (try dsimp only [srcs])
        (case' hfr => (repeat' (first | refine La ?_ ?_ | exact Lc | refine Lo ?_ | refine ⟨⟨_, rfl, ?_⟩, ?_⟩ | refine Lx ?_)))
        all_goals (first | exact Ld | exact trivial | (rfl))
    · refine ⟨T, (p, q), l, x, hT, hT6, hr, hbl, hx, ?_⟩
      simp only
      refine AC.of_body 0 Tryz.func10 rfl (fun l h => absurd rfl h) (fun C hC => ?_)
      have hD : ∀ l, ¬ C.D0 l := fun l h => (hC l).1 h rfl
      simp only [startFr, Tryz.ntmps10, List.length_cons, List.length_nil, Nat.reduceAdd, Nat.reduceSub, List.replicate_succ, List.replicate_zero, List.cons_append, List.nil_append]
      repeat' (first | ((first | apply Ba | (apply Bb; (· rfl); (· rfl)) | (apply Bc; (· exact nxE)) | (apply Bd; (· rfl); (· rfl); (· exact nxE))); (· first | exact Kz rfl rfl (hB) (Ad An) | exact Fx hF rfl rfl rfl | exact Zl (args := []) D1 rfl rfl rfl rfl .nil (fun _ => by simp [rn]) | exact Nl N2 rfl rfl rfl rfl rfl | exact Ok.pe)) | ((first | apply Ca | (apply Cb; (· exact nxE))); (· first | exact Fx hF rfl rfl rfl | exact Zl (args := []) D1 rfl rfl rfl rfl .nil (fun _ => by simp [rn]) | exact Nl N2 rfl rfl rfl rfl rfl | exact Ok.e0)) | refine Sx ?_ | (refine Sy (fun h => ?_) (fun h => ?_) <;> try (exfalso; omega; done)) | refine Sz (fun h => ?_) (fun h => ?_))
      all_goals
        refine Yd ?_
        (apply Le.headZ (hs := []) [] rfl)
        all_goals (try dsimp only [srcs])
        (case' hfr => (repeat' (first | refine La ?_ ?_ | exact Lc | refine Lo ?_ | refine ⟨⟨_, rfl, ?_⟩, ?_⟩ | refine Lx ?_)))
        all_goals (first | exact Ld | exact trivial | (rfl))
  · obtain ⟨c, s3, hcl, h3, D3⟩ := l03DrawNodes_ex code hc s1 h1 T htl (fun r h => by have := hT.r r h; omega)
    refine ⟨T, (p, q), c, x, hT, hT6, hr, hcl, hx, ?_⟩
    simp only
    refine AC.of_body 0 Tryz.func10 rfl (fun l h => absurd rfl h) (fun C hC => ?_)
    have hD : ∀ l, ¬ C.D0 l := fun l h => (hC l).1 h rfl
    simp only [startFr, Tryz.ntmps10, List.length_cons, List.length_nil, Nat.reduceAdd, Nat.reduceSub, List.replicate_succ, List.replicate_zero, List.cons_append, List.nil_append]
    repeat' (first | ((first | apply Ba | (apply Bb; (· rfl); (· rfl)) | (apply Bc; (· exact nxE)) | (apply Bd; (· rfl); (· rfl); (· exact nxE))); (· first | exact Kz rfl rfl (hB) (Ad An) | exact Fx hF rfl rfl rfl | exact Zl (args := []) D1 rfl rfl rfl rfl .nil (fun _ => by simp [rn]) | exact Zl (args := [TL T]) D3 rfl rfl rfl rfl (.cons (.dd _) .nil) (fun _ => by simp [rn]) | exact Ok.pe)) | ((first | apply Ca | (apply Cb; (· exact nxE))); (· first | exact Fx hF rfl rfl rfl | exact Zl (args := []) D1 rfl rfl rfl rfl .nil (fun _ => by simp [rn]) | exact Zl (args := [TL T]) D3 rfl rfl rfl rfl (.cons (.dd _) .nil) (fun _ => by simp [rn]) | exact Ok.e0)) | refine Sx ?_ | (refine Sy (fun h => ?_) (fun h => ?_) <;> try (exfalso; omega; done)) | refine Sz (fun h => ?_) (fun h => ?_))
    all_goals
      refine Yd ?_
      (apply Le.headZ (hs := []) [] rfl)
      all_goals (try dsimp only [srcs])
      (case' hfr => (repeat' (first | refine La ?_ ?_ | exact Lc | refine Lo ?_ | refine ⟨⟨_, rfl, ?_⟩, ?_⟩ | refine Lx ?_)))
      all_goals (first | exact Ld | exact trivial | (rfl))
theorem drawBestCycle_ex (code : List Int) (hc : CodeOk code) : ∃ T : List (List Int), TabOk T ∧ AC Tryz.prog 11 [.d (BD code)] H0 (TL T) H0 := by
  have hF := l01From_ac code hc
  obtain ⟨T, s1, hT, _, h1, D1⟩ := l04Draw_ex code hc _ (src0_ok hc)
  refine ⟨T, hT, ?_⟩
  refine AC.of_body 0 Tryz.func11 rfl (fun l h => absurd rfl h) (fun C hC => ?_)
  have hD : ∀ l, ¬ C.D0 l := fun l h => (hC l).1 h rfl
  simp only [startFr, Tryz.ntmps11, List.length_cons, List.length_nil, Nat.reduceAdd, Nat.reduceSub, List.replicate_succ, List.replicate_zero, List.cons_append, List.nil_append]
  repeat' (first | ((first | apply Ba | (apply Bb; (· rfl); (· rfl)) | (apply Bc; (· exact nxE)) | (apply Bd; (· rfl); (· rfl); (· exact nxE))); (· first | exact Fx hF rfl rfl rfl | exact Zl (args := []) D1 rfl rfl rfl rfl .nil (fun _ => by simp [rn]) | exact Ok.pe)) | ((first | apply Ca | (apply Cb; (· exact nxE))); (· first | exact Fx hF rfl rfl rfl | exact Zl (args := []) D1 rfl rfl rfl rfl .nil (fun _ => by simp [rn]) | exact Ok.e0)) | refine Sx ?_ | (refine Sy (fun h => ?_) (fun h => ?_) <;> try (exfalso; omega; done)) | refine Sz (fun h => ?_) (fun h => ?_))
  refine Ya ?_
  (apply Le.headZ (hs := []) [] rfl)
  all_goals (try dsimp only [srcs])
  (case' hfr => (repeat' (first | refine La ?_ ?_ | exact Lc | refine Lo ?_ | refine ⟨⟨_, rfl, ?_⟩, ?_⟩ | refine Lx ?_)))
  all_goals (first | exact Ld | exact trivial | (rfl))
theorem drawCertifyMean_ex (code : List Int) (hc : CodeOk code) : ∃ T : List (List Int), TabOk T ∧ AC Tryz.prog 7 [.d (BD code)] H0 (TL T) H0 := by
  have hF := l01From_ac code hc
  obtain ⟨T, s1, hT, _, h1, D1⟩ := l04Draw_ex code hc _ (src0_ok hc)
  refine ⟨T, hT, ?_⟩
  refine AC.of_body 0 Tryz.func7 rfl (fun l h => absurd rfl h) (fun C hC => ?_)
  have hD : ∀ l, ¬ C.D0 l := fun l h => (hC l).1 h rfl
  simp only [startFr, Tryz.ntmps7, List.length_cons, List.length_nil, Nat.reduceAdd, Nat.reduceSub, List.replicate_succ, List.replicate_zero, List.cons_append, List.nil_append]
  repeat' (first | ((first | apply Ba | (apply Bb; (· rfl); (· rfl)) | (apply Bc; (· exact nxE)) | (apply Bd; (· rfl); (· rfl); (· exact nxE))); (· first | exact Fx hF rfl rfl rfl | exact Zl (args := []) D1 rfl rfl rfl rfl .nil (fun _ => by simp [rn]) | exact Ok.pe)) | ((first | apply Ca | (apply Cb; (· exact nxE))); (· first | exact Fx hF rfl rfl rfl | exact Zl (args := []) D1 rfl rfl rfl rfl .nil (fun _ => by simp [rn]) | exact Ok.e0)) | refine Sx ?_ | (refine Sy (fun h => ?_) (fun h => ?_) <;> try (exfalso; omega; done)) | refine Sz (fun h => ?_) (fun h => ?_))
  refine Ya ?_
  (apply Le.headZ (hs := []) [] rfl)
  all_goals (try dsimp only [srcs])
  (case' hfr => (repeat' (first | refine La ?_ ?_ | exact Lc | refine Lo ?_ | refine ⟨⟨_, rfl, ?_⟩, ?_⟩ | refine Lx ?_)))
  all_goals (first | exact Ld | exact trivial | (rfl))
end Go.Proofs.YtikadoicplnkgaaGreat
end

section
namespace Go.Proofs.YtikadoicplnkgaaGreat
set_option linter.unusedSimpArgs false
set_option linter.unusedVariables false
open Go Go.RowKit
attribute [local irreducible] AL AD AW OpOk Le AC thenQ blockQ EndQ

/-! ### Rows of truth values -/
/-! ### The search -/
section
variable (a : Nat → Nat → Int)
variable {a}
section
variable {n : Nat} {R : Nat → Prop} (hR : ∀ i k, i < n → k < n → R k → a i k ≠ BOT → R i)
include hR
end
end
end Go.Proofs.YtikadoicplnkgaaGreat
end

section
namespace Go.Proofs.YtikadoicplnkgaaGreat
set_option linter.unusedSimpArgs false
set_option linter.unusedVariables false
open Go Go.RowKit

def RchP (W : Nat → Nat → Int) (n u e : Nat) : Prop := ∃ l : List Nat, (∀ x ∈ l, x < n) ∧ kP W u l ∧ kE u l = e
section
variable {W : Nat → Nat → Int} {n : Nat}
theorem RchP.refl {u : Nat} : RchP W n u u := ⟨[], by simp, trivial, rfl⟩
theorem RchP.one {u v : Nat} (hv : v < n) (h : W v u ≠ BOT) : RchP W n u v := ⟨[v], by simpa using hv, ⟨h, trivial⟩, rfl⟩
theorem RchP.trans {u v w : Nat} (h : RchP W n u v) (h' : RchP W n v w) : RchP W n u w := by
  obtain ⟨a, a1, a2, rfl⟩ := h
  obtain ⟨b, b1, b2, rfl⟩ := h'
  exact ⟨a ++ b, fun x hx => (List.mem_append.1 hx).elim (a1 x) (b1 x), (kP_app a b u).2 ⟨a2, b2⟩, kE_app a b u⟩
/-! ### By middle nodes -/
/-! ### The matrix of the nodes that reach one -/
end
end Go.Proofs.YtikadoicplnkgaaGreat
end

section
namespace Go.Proofs.YtikadoicplnkgaaGreat
set_option linter.unusedSimpArgs false
set_option linter.unusedVariables false
open Go Go.RowKit
attribute [local irreducible] AL AD AW OpOk Le AC thenQ blockQ EndQ

end Go.Proofs.YtikadoicplnkgaaGreat
end
