/-
  Walks in the abstract reading, part 10.
-/
import Derived.Test.YtegfjedklebbfaaKfU7
import Derived.Test.YtegfjedklebbfaaKfU8
import Derived.Test.YtegfjedklebbfaaKfU9
import Derived.Test.YtegfjedklebbfaaKfA3
section
namespace Go.Proofs.Ytegfjedklebbfaa
set_option linter.unusedSimpArgs false
set_option linter.unusedVariables false
open Go Go.RowKit
attribute [local irreducible] AL AD AW OpOk Le AC thenQ blockQ EndQ

/-- A ratio as a cycle time is one. -/
structure RatOk (r : Int × Int) : Prop where
  n : 0 ≤ r.1 ∧ r.1 ≤ 1000000
  d : 1 ≤ r.2 ∧ r.2 ≤ 1000000
  g : Nat.gcd r.1.toNat r.2.toNat = 1
theorem RatOk.small {r : Int × Int} (h : RatOk r) : smallR r := ⟨h.n, by have := h.d; omega⟩
theorem ctR_rat {ev : Int} {xs : List Pl} (h : bcC ev xs = 0) : RatOk (ctR ev xs) := by
  obtain ⟨n, rfl, h1, h2, h3, h4, h5, h6, h8, h9, h10, h11⟩ := bc_star h
  rw [h8]
  have hg := (h5.isMax h2 h6).red
  refine ⟨by omega, by omega, ?_⟩
  obtain ⟨u, hu⟩ : ∃ u : Nat, (maxR xs).1 = u := ⟨(maxR xs).1.toNat, by omega⟩
  obtain ⟨v, hv⟩ : ∃ v : Nat, (maxR xs).2 = v := ⟨(maxR xs).2.toNat, by omega⟩
  rw [hu, hv] at hg ⊢
  simpa [Int.gcd] using hg
set_option maxHeartbeats 1000000 in
theorem iIsRatio_ac (r : Int × Int) (h : RatOk r) : AC Try.prog 130 [.agg [I r.1, I r.2]] H0 (Bo true) H0 := by
  obtain ⟨⟨h1, h2⟩, ⟨h3, h4⟩, h5⟩ := h
  obtain ⟨a, b⟩ := r
  simp only at h1 h2 h3 h4 h5 ⊢
  obtain ⟨u, rfl⟩ : ∃ u : Nat, a = u := ⟨a.toNat, by omega⟩
  obtain ⟨v, rfl⟩ : ∃ v : Nat, b = v := ⟨b.toNat, by omega⟩
  rw [Int.toNat_natCast, Int.toNat_natCast] at h5
  have hF := isFinite_ac (u : Int)
  have hW := within_ac (v : Int) 1 1000000
  have hA := absOf_ac (u : Int) h1
  have hD := divisorOf_ac u v (by omega) (by omega)
  have hD2 : AC Try.prog 214 [I u, I v] H0 (I 1) H0 := by rw [h5] at hD; exact hD
  have w1 : wi (u : Int) (-1000000) 1000000 = true := wi_iff.2 ⟨by omega, by omega⟩
  have w2 : wi (v : Int) 1 1000000 = true := wi_iff.2 ⟨by omega, by omega⟩
  rw [w1] at hF
  rw [w2] at hW
  refine AC.of_body 0 Try.func130 rfl (fun l h => absurd rfl h) (fun C hC => ?_)
  have hD : ∀ l, ¬ C.D0 l := fun l h => (hC l).1 h rfl
  simp only [startFr, Try.ntmps130, List.length_cons, List.length_nil, Nat.reduceAdd, Nat.reduceSub, List.replicate_succ, List.replicate_zero, List.cons_append, List.nil_append]
  repeat' (first | ((first | apply Ba | (apply Bb; (· rfl); (· rfl)) | (apply Bc; (· exact nxE)) | (apply Bd; (· rfl); (· rfl); (· exact nxE))); (· first | exact Kz rfl rfl (hF) (Ad An) | exact Kz rfl rfl (hW) (Ad (Ad (Ad An))) | exact Kz rfl rfl (hA) (Ad An) | exact Kz rfl rfl (hD2) (Ad (Ad An)) | exact Ok.pe)) | ((first | apply Ca | (apply Cb; (· exact nxE))); (· first | exact Ok.e0)) | refine Sx ?_ | (refine Sy (fun h => ?_) (fun h => ?_) <;> try (exfalso; omega; done)) | refine Sz (fun h => ?_) (fun h => ?_))
  refine Ya ?_
  (apply Le.headZ (hs := []) [] rfl)
  all_goals (try dsimp only [srcs])
  (case' hfr => (repeat' (first | refine La ?_ ?_ | exact Lc | refine Lo ?_ | refine ⟨⟨_, rfl, ?_⟩, ?_⟩ | refine Lx ?_)))
  all_goals (first | exact Ld | exact trivial | (rfl))
set_option maxHeartbeats 1000000 in
theorem iCompareRatios_ac (a b : Int × Int) (ha : RatOk a) (hb : RatOk b) : AC Try.prog 27 [.agg [I a.1, I a.2], .agg [I b.1, I b.2]] H0 (.tup [I (crI a b), I 0]) H0 := by
  have h1 := iIsRatio_ac a ha
  have h2 := iIsRatio_ac b hb
  have h3 := compareRatios_ac a b ha.small hb.small
  refine AC.of_body 0 Try.func27 rfl (fun l h => absurd rfl h) (fun C hC => ?_)
  have hD : ∀ l, ¬ C.D0 l := fun l h => (hC l).1 h rfl
  simp only [startFr, Try.ntmps27, List.length_cons, List.length_nil, Nat.reduceAdd, Nat.reduceSub, List.replicate_succ, List.replicate_zero, List.cons_append, List.nil_append]
  repeat' (first | ((first | apply Ba | (apply Bb; (· rfl); (· rfl)) | (apply Bc; (· exact nxE)) | (apply Bd; (· rfl); (· rfl); (· exact nxE))); (· first | exact Kz rfl rfl (h1) (Aa (Ad (Ad An)) An) | exact Kz rfl rfl (h2) (Aa (Ad (Ad An)) An) | exact Kz rfl rfl (h3) (Aa (Ad (Ad An)) (Aa (Ad (Ad An)) An)) | exact Ok.pe)) | ((first | apply Ca | (apply Cb; (· exact nxE))); (· first | exact Ok.e0)) | refine Sx ?_ | (refine Sy (fun h => ?_) (fun h => ?_) <;> try (exfalso; omega; done)) | refine Sz (fun h => ?_) (fun h => ?_))
  refine Yb ?_
  (apply Le.headZ (hs := []) [] rfl)
  all_goals (try dsimp only [srcs])
  (case' hfr => (repeat' (first | refine La ?_ ?_ | exact Lc | refine Lo ?_ | refine ⟨⟨_, rfl, ?_⟩, ?_⟩ | refine Lx ?_)))
  all_goals (first | exact Ld | exact trivial | (rfl))
set_option maxHeartbeats 1000000 in
theorem iCycleTime_ac (ev : Int) (xs : List Pl) (hx : xs.length ≤ 100000000) : AC Try.prog 26 [grD ev xs] H0 (.tup [.agg [I (ctR ev xs).1, I (ctR ev xs).2], I (bcC ev xs)]) H0 := by
  have hE := iIsEventGraph_ac ev xs hx
  cases hg : isEG ev xs
  · rw [(bc_no hg).1, (bc_no hg).2]
    rw [hg] at hE
    refine AC.of_body 0 Try.func26 rfl (fun l h => absurd rfl h) (fun C hC => ?_)
    have hD : ∀ l, ¬ C.D0 l := fun l h => (hC l).1 h rfl
    simp only [startFr, Try.ntmps26, List.length_cons, List.length_nil, Nat.reduceAdd, Nat.reduceSub, List.replicate_succ, List.replicate_zero, List.cons_append, List.nil_append]
    repeat' (first | ((first | apply Ba | (apply Bb; (· rfl); (· rfl)) | (apply Bc; (· exact nxE)) | (apply Bd; (· rfl); (· rfl); (· exact nxE))); (· first | exact Kz rfl rfl (hE) (Aa (Ad (Ad An)) An) | exact Ok.pe)) | ((first | apply Ca | (apply Cb; (· exact nxE))); (· first | exact Ok.e0)) | refine Sx ?_ | (refine Sy (fun h => ?_) (fun h => ?_) <;> try (exfalso; omega; done)) | refine Sz (fun h => ?_) (fun h => ?_))
    refine Yb ?_
    (apply Le.headZ (hs := []) [] rfl)
    all_goals (try dsimp only [srcs])
    (case' hfr => (repeat' (first | refine La ?_ ?_ | exact Lc | refine Lo ?_ | refine ⟨⟨_, rfl, ?_⟩, ?_⟩ | refine Lx ?_)))
    all_goals (first | exact Ld | exact trivial | (rfl))
  · rw [hg] at hE
    obtain ⟨n, rfl, _⟩ := isEG_ok hg
    have hT := cycleTime_ac n xs hg
    refine AC.of_body 0 Try.func26 rfl (fun l h => absurd rfl h) (fun C hC => ?_)
    have hD : ∀ l, ¬ C.D0 l := fun l h => (hC l).1 h rfl
    simp only [startFr, Try.ntmps26, List.length_cons, List.length_nil, Nat.reduceAdd, Nat.reduceSub, List.replicate_succ, List.replicate_zero, List.cons_append, List.nil_append]
    repeat' (first | ((first | apply Ba | (apply Bb; (· rfl); (· rfl)) | (apply Bc; (· exact nxE)) | (apply Bd; (· rfl); (· rfl); (· exact nxE))); (· first | exact Kz rfl rfl (hE) (Aa (Ad (Ad An)) An) | exact Kz rfl rfl (hT) (Aa (Ad (Ad An)) An) | exact Ok.pe)) | ((first | apply Ca | (apply Cb; (· exact nxE))); (· first | exact Ok.e0)) | refine Sx ?_ | (refine Sy (fun h => ?_) (fun h => ?_) <;> try (exfalso; omega; done)) | refine Sz (fun h => ?_) (fun h => ?_))
    refine Yb ?_
    (apply Le.headZ (hs := []) [] rfl)
    all_goals (try dsimp only [srcs])
    (case' hfr => (repeat' (first | refine La ?_ ?_ | exact Lc | refine Lo ?_ | refine ⟨⟨_, rfl, ?_⟩, ?_⟩ | refine Lx ?_)))
    all_goals (first | exact Ld | exact trivial | (rfl))
end Go.Proofs.Ytegfjedklebbfaa
end

section
namespace Go.Proofs.Ytegfjedklebbfaa
set_option linter.unusedSimpArgs false
set_option linter.unusedVariables false
open Go Go.RowKit

theorem fp_rat {ev : Int} {xs : List Pl} {i b : Int} (h : fpC ev xs i b = 0) : RatOk (fpR ev xs i b) := by
  unfold fpC at h
  unfold fpR
  by_cases hq : cqC ev xs (fpIn xs i b) = 0
  · rw [if_pos hq] at h ⊢
    exact ctR_rat h
  · rw [if_neg hq] at h; exact absurd h hq
theorem bp_rat {ev : Int} {xs : List Pl} {b : Int} (h : bpC ev xs b = 0) : RatOk (bpR ev xs b) := by
  unfold bpR
  rw [if_pos h]
  unfold bpC at h
  obtain ⟨_, h2, h3⟩ := cqC_ok h
  rw [wi_iff] at h2
  obtain ⟨n, rfl, _, _, _, _, _, ⟨c, hc⟩, _⟩ := bc_star h3
  have hpos : 0 < xs.length := by
    cases c with
    | nil => exact absurd rfl hc.ne
    | cons i c => have := hc.wk.lt i (by simp); omega
  obtain ⟨i, h4, h5⟩ := bpN_is (ev := n) (xs := xs) (b := b) xs.length hpos
  rw [h5]
  exact ctR_rat (by rw [fasterL_bc0 (bc_eg h3) h4 h2.1]; exact h3)
theorem mt_rat {ev : Int} {xs : List Pl} {i : Int} (h : mtC ev xs i = 0) : RatOk (mtR ev xs i) := by
  unfold mtC at h
  unfold mtR
  by_cases hq : cqC ev xs (wi i 0 ((xs.length : Int) - 1)) = 0
  · rw [if_pos hq] at h ⊢
    by_cases h5 : (plA xs i.toNat).k = 5
    · rw [if_pos h5] at h; exact absurd h (by decide)
    · rw [if_neg h5] at h ⊢
      exact ctR_rat h
  · rw [if_neg hq] at h; exact absurd h hq
end Go.Proofs.Ytegfjedklebbfaa
end

section
namespace Go.Proofs.Ytegfjedklebbfaa
set_option linter.unusedSimpArgs false
set_option linter.unusedVariables false
open Go Go.RowKit
attribute [local irreducible] AL AD AW OpOk Le AC thenQ blockQ EndQ

set_option maxRecDepth 100000 in
set_option maxHeartbeats 8000000 in
theorem lawFnFaster_ac (code : List Int) (hl : code.length ≤ 9223372036854775807) (hb : ∀ b ∈ code, 0 ≤ b ∧ b ≤ 255) : AC Try.prog 3 [.d (BD code)] H0 (Bo true) H0 := by
  have hBig := big_ac code hl
  by_cases hbig : 4096 < (code.length : Int)
  ·
    refine AC.of_body 0 Try.func3 rfl (fun l h => absurd rfl h) (fun C hC => ?_)
    have hD : ∀ l, ¬ C.D0 l := fun l h => (hC l).1 h rfl
    simp only [startFr, Try.ntmps3, List.length_cons, List.length_nil, Nat.reduceAdd, Nat.reduceSub, List.replicate_succ, List.replicate_zero, List.cons_append, List.nil_append]
    repeat' (first | ((first | apply Ba | (apply Bb; (· rfl); (· rfl)) | (apply Bc; (· exact nxE)) | (apply Bd; (· rfl); (· rfl); (· exact nxE))); (· first | exact Kz rfl rfl (hBig) (Ad An) | exact Ok.pe)) | ((first | apply Ca | (apply Cb; (· exact nxE))); (· first | exact Ok.e0)) | refine Sx ?_ | (refine Sy (fun h => ?_) (fun h => ?_) <;> try (exfalso; omega; done)) | refine Sz (fun h => ?_) (fun h => ?_))
    refine Ya ?_
    (apply Le.headZ (hs := []) [] rfl)
    all_goals (try dsimp only [srcs])
    (case' hfr => (repeat' (first | refine La ?_ ?_ | exact Lc | refine Lo ?_ | refine ⟨⟨_, rfl, ?_⟩, ?_⟩ | refine Lx ?_)))
    all_goals (first | exact Ld | exact trivial | (rfl))
  have hc : CodeOk code := ⟨by omega, hb⟩
  obtain ⟨⟨ev1, xs1, s1⟩, i1, b1, hk1, _, _, hG1⟩ := drawFasterPlace_ex code hc
  obtain ⟨ev2, xs2, b2, _, hx2, hG2⟩ := drawBestPlace_ex code hc
  obtain ⟨ev3, xs3, i3, _, hx3, hG3⟩ := drawMoreTokens_ex code hc
  obtain ⟨ev4, xs4, e4, _, hx4, hG4⟩ := drawUseOf_ex code hc
  have hx1 := hk1.len
  simp only at hx1 hG1
  have hI1 := iFasterPlace_ac ev1 xs1 i1 b1 (by omega)
  have hS1 := sFasterPlace_ac ev1 xs1 i1 b1 (by omega)
  have hI2 := iBestPlace_ac ev2 xs2 b2 (by omega)
  have hS2 := sBestPlace_ac ev2 xs2 b2 (by omega)
  have hI3 := iMoreTokens_ac ev3 xs3 i3 (by omega)
  have hS3 := sMoreTokens_ac ev3 xs3 i3 (by omega)
  have hI4 := iUseOf_ac ev4 xs4 e4 (by omega)
  have hS4 := sUseOf_ac ev4 xs4 e4 (by omega)
  have hT1 : fpC ev1 xs1 i1 b1 = 0 → AC Try.prog 26 [grD ev1 xs1] H0 (.tup [.agg [I (ctR ev1 xs1).1, I (ctR ev1 xs1).2], I 0]) H0 := fun h => by
    have := iCycleTime_ac ev1 xs1 (by omega); rwa [(fp_law h).1] at this
  have hR1 : fpC ev1 xs1 i1 b1 = 0 → AC Try.prog 27 [.agg [I (fpR ev1 xs1 i1 b1).1, I (fpR ev1 xs1 i1 b1).2], .agg [I (ctR ev1 xs1).1, I (ctR ev1 xs1).2]] H0 (.tup [I (crI (fpR ev1 xs1 i1 b1) (ctR ev1 xs1)), I 0]) H0 := fun h => iCompareRatios_ac _ _ (fp_rat h) (ctR_rat (fp_law h).1)
  have hL1 : fpC ev1 xs1 i1 b1 = 0 → crI (fpR ev1 xs1 i1 b1) (ctR ev1 xs1) ≤ 0 := fun h => (fp_law h).2
  have hT2 : bpC ev2 xs2 b2 = 0 → AC Try.prog 26 [grD ev2 xs2] H0 (.tup [.agg [I (ctR ev2 xs2).1, I (ctR ev2 xs2).2], I 0]) H0 := fun h => by
    have := iCycleTime_ac ev2 xs2 (by omega); rwa [(bp_law h).1] at this
  have hR2 : bpC ev2 xs2 b2 = 0 → AC Try.prog 27 [.agg [I (bpR ev2 xs2 b2).1, I (bpR ev2 xs2 b2).2], .agg [I (ctR ev2 xs2).1, I (ctR ev2 xs2).2]] H0 (.tup [I (crI (bpR ev2 xs2 b2) (ctR ev2 xs2)), I 0]) H0 := fun h => iCompareRatios_ac _ _ (bp_rat h) (ctR_rat (bp_law h).1)
  have hL2 : bpC ev2 xs2 b2 = 0 → crI (bpR ev2 xs2 b2) (ctR ev2 xs2) ≤ 0 := fun h => (bp_law h).2
  have hT3 : mtC ev3 xs3 i3 = 0 → AC Try.prog 26 [grD ev3 xs3] H0 (.tup [.agg [I (ctR ev3 xs3).1, I (ctR ev3 xs3).2], I 0]) H0 := fun h => by
    have := iCycleTime_ac ev3 xs3 (by omega); rwa [(mt_law h).1] at this
  have hR3 : mtC ev3 xs3 i3 = 0 → AC Try.prog 27 [.agg [I (mtR ev3 xs3 i3).1, I (mtR ev3 xs3 i3).2], .agg [I (ctR ev3 xs3).1, I (ctR ev3 xs3).2]] H0 (.tup [I (crI (mtR ev3 xs3 i3) (ctR ev3 xs3)), I 0]) H0 := fun h => iCompareRatios_ac _ _ (mt_rat h) (ctR_rat (mt_law h).1)
  have hL3 : mtC ev3 xs3 i3 = 0 → crI (mtR ev3 xs3 i3) (ctR ev3 xs3) ≤ 0 := fun h => (mt_law h).2
  have hL4 : useC ev4 xs4 e4 = 0 → (useR ev4 xs4 e4).1 ≤ (useR ev4 xs4 e4).2 := fun h => use_law h
  generalize crI (fpR ev1 xs1 i1 b1) (ctR ev1 xs1) = k1 at *
  generalize crI (bpR ev2 xs2 b2) (ctR ev2 xs2) = k2 at *
  generalize crI (mtR ev3 xs3 i3) (ctR ev3 xs3) = k3 at *
  generalize fpR ev1 xs1 i1 b1 = r1 at *
  generalize bpR ev2 xs2 b2 = r2 at *
  generalize mtR ev3 xs3 i3 = r3 at *
  generalize useR ev4 xs4 e4 = r4 at *
  generalize ctR ev1 xs1 = t1 at *
  generalize ctR ev2 xs2 = t2 at *
  generalize ctR ev3 xs3 = t3 at *
  generalize fpC ev1 xs1 i1 b1 = c1 at *
  generalize bpC ev2 xs2 b2 = c2 at *
  generalize mtC ev3 xs3 i3 = c3 at *
  generalize useC ev4 xs4 e4 = c4 at *
  generalize bpI ev2 xs2 b2 = p2 at *
  refine AC.of_body 0 Try.func3 rfl (fun l h => absurd rfl h) (fun C hC => ?_)
  have hD : ∀ l, ¬ C.D0 l := fun l h => (hC l).1 h rfl
  simp only [startFr, Try.ntmps3, List.length_cons, List.length_nil, Nat.reduceAdd, Nat.reduceSub, List.replicate_succ, List.replicate_zero, List.cons_append, List.nil_append]
  repeat' (first | ((first | apply Ba | (apply Bb; (· rfl); (· rfl)) | (apply Bc; (· exact nxE)) | (apply Bd; (· rfl); (· rfl); (· exact nxE))); (· first | exact Kz rfl rfl (hBig) (Ad An) | exact Kz rfl rfl (hG1) (Ad An) | exact Kz rfl rfl (hG2) (Ad An) | exact Kz rfl rfl (hG3) (Ad An) | exact Kz rfl rfl (hG4) (Ad An) | exact Kz rfl rfl (hI1) (Aa (Ad (Ad An)) (Ad (Ad An))) | exact Kz rfl rfl (hS1) (Aa (Ad (Ad An)) (Ad (Ad An))) | exact Kz rfl rfl (hI2) (Aa (Ad (Ad An)) (Ad An)) | exact Kz rfl rfl (hS2) (Aa (Ad (Ad An)) (Ad An)) | exact Kz rfl rfl (hI3) (Aa (Ad (Ad An)) (Ad An)) | exact Kz rfl rfl (hS3) (Aa (Ad (Ad An)) (Ad An)) | exact Kz rfl rfl (hI4) (Aa (Ad (Ad An)) (Ad An)) | exact Kz rfl rfl (hS4) (Aa (Ad (Ad An)) (Ad An)) | exact Ok.neqRtS rfl rfl rfl | exact Kz rfl rfl (hT1 (by omega)) (Aa (Ad (Ad An)) An) | exact Kz rfl rfl (hT2 (by omega)) (Aa (Ad (Ad An)) An) | exact Kz rfl rfl (hT3 (by omega)) (Aa (Ad (Ad An)) An) | exact Kz rfl rfl (hR1 (by omega)) (Aa (Ad (Ad An)) (Aa (Ad (Ad An)) An)) | exact Kz rfl rfl (hR2 (by omega)) (Aa (Ad (Ad An)) (Aa (Ad (Ad An)) An)) | exact Kz rfl rfl (hR3 (by omega)) (Aa (Ad (Ad An)) (Aa (Ad (Ad An)) An)) | exact Ok.pe)) | ((first | apply Ca | (apply Cb; (· exact nxE))); (· first | exact Ok.e0)) | refine Sx ?_ | (refine Sy (fun h => ?_) (fun h => ?_) <;> try (exfalso; omega; done)) | refine Sz (fun h => ?_) (fun h => ?_))
  all_goals
    refine Ya ?_
    (apply Le.headZ (hs := []) [] rfl)
    all_goals (try dsimp only [srcs])
    (case' hfr => (repeat' (first | refine La ?_ ?_ | exact Lc | refine Lo ?_ | refine ⟨⟨_, rfl, ?_⟩, ?_⟩ | refine Lx ?_)))
    all_goals (first | exact Ld | exact trivial | (first | rfl | exact (decide_eq_true (by omega)).symm))
end Go.Proofs.Ytegfjedklebbfaa
end
