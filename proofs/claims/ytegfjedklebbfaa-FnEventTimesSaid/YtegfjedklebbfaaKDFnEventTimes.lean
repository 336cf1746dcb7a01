/-
  The law FnEventTimes, in the abstract reading.
-/
import Derived.Test.YtegfjedklebbfaaKU8
import Derived.Test.YtegfjedklebbfaaKU10
namespace Go.Proofs.Ytegfjedklebbfaa
set_option linter.unusedSimpArgs false
set_option linter.unusedVariables false
open Go Go.RowKit
attribute [local irreducible] AL AD AW OpOk Le AC thenQ blockQ EndQ

theorem frzI2 {P : Program} {f : FuncId} {args : List AV} {n : Nat} {d : D} {xs : List Int} (hc : AC P f args H0 (.tup [own1 1 n, .d d]) (hp1 (IO xs))) (hn : xs.length = n) : AC P f args H0 (.tup [IL xs, .d d]) H0 :=
  hc.frz (ARs.tup (.cons (AR.whole rfl trivial (by rw [IR_len]; exact hn)) (.cons (.dd _) .nil)))
set_option maxHeartbeats 8000000 in
theorem lawFnEventTimes_ac (code : List Int) (hl : code.length ≤ 9223372036854775807) (hb : ∀ b ∈ code, 0 ≤ b ∧ b ≤ 255) : AC Try.prog 10 [.d (BD code)] H0 (Bo true) H0 := by
  have hBig := big_ac code hl
  by_cases hbig : 4096 < (code.length : Int)
  ·
    refine AC.of_body 0 Try.func10 rfl (fun l h => absurd rfl h) (fun C hC => ?_)
    have hD : ∀ l, ¬ C.D0 l := fun l h => (hC l).1 h rfl
    simp only [startFr, Try.ntmps10, List.length_cons, List.length_nil, Nat.reduceAdd, Nat.reduceSub, List.replicate_succ, List.replicate_zero, List.cons_append, List.nil_append]
    repeat' (first | ((first | apply Ba | (apply Bb; (· rfl); (· rfl)) | (apply Bc; (· exact nxE)) | (apply Bd; (· rfl); (· rfl); (· exact nxE))); (· first | exact Kz rfl rfl (hBig) (Ad An) | exact Ok.pe)) | ((first | apply Ca | (apply Cb; (· exact nxE))); (· first | exact Ok.e0)) | refine Sx ?_ | (refine Sy (fun h => ?_) (fun h => ?_) <;> try (exfalso; omega; done)) | refine Sz (fun h => ?_) (fun h => ?_))
    refine Ya ?_
    (apply Le.headZ (hs := []) [] rfl)
    all_goals (try dsimp only [srcs])
    (case' hfr => (repeat' (first | refine La ?_ ?_ | exact Lc | refine Lo ?_ | refine ⟨⟨_, rfl, ?_⟩, ?_⟩ | refine Lx ?_)))
    all_goals (first | exact Ld | exact trivial | (rfl))
  have hc : CodeOk code := ⟨by omega, hb⟩
  obtain ⟨ev, xs, e, hev, hx, hG⟩ := drawEventTime_ex code hc
  have hI := iEventTime_ac ev xs e (by omega)
  have hS := sEventTime_ac ev xs e (by omega)
  by_cases h0 : evC ev xs e = 0
  case neg =>
    generalize evC ev xs e = c at *
    generalize evR ev xs e = r at *
    obtain ⟨r1, r2⟩ := r
    simp only at hI hS
    refine AC.of_body 0 Try.func10 rfl (fun l h => absurd rfl h) (fun C hC => ?_)
    have hD : ∀ l, ¬ C.D0 l := fun l h => (hC l).1 h rfl
    simp only [startFr, Try.ntmps10, List.length_cons, List.length_nil, Nat.reduceAdd, Nat.reduceSub, List.replicate_succ, List.replicate_zero, List.cons_append, List.nil_append]
    repeat' (first | ((first | apply Ba | (apply Bb; (· rfl); (· rfl)) | (apply Bc; (· exact nxE)) | (apply Bd; (· rfl); (· rfl); (· exact nxE))); (· first | exact Kz rfl rfl (hBig) (Ad An) | exact Kz rfl rfl (hG) (Ad An) | exact Kz rfl rfl (hI) (Aa (Ad (Ad An)) (Ad An)) | exact Kz rfl rfl (hS) (Aa (Ad (Ad An)) (Ad An)) | exact Ok.neqRtS rfl rfl rfl | exact Ok.pe)) | ((first | apply Ca | (apply Cb; (· exact nxE))); (· first | exact Ok.e0)) | refine Sx ?_ | (refine Sy (fun h => ?_) (fun h => ?_) <;> try (exfalso; omega; done)) | refine Sz (fun h => ?_) (fun h => ?_))
    refine Ya ?_
    (apply Le.headZ (hs := []) [] rfl)
    all_goals (try dsimp only [srcs])
    (case' hfr => (repeat' (first | refine La ?_ ?_ | exact Lc | refine Lo ?_ | refine ⟨⟨_, rfl, ?_⟩, ?_⟩ | refine Lx ?_)))
    all_goals (first | exact Ld | exact trivial | (rfl))
  rw [h0] at hI hS
  have hq : evQ ev xs e = 0 := by
    unfold evC at h0
    by_cases h : evQ ev xs e = 0
    · exact h
    · rw [if_neg h] at h0; exact h0
  obtain ⟨n, rfl, g1, g2, g3, g4, g5, g6, g7, i, rfl, g8⟩ := evQ_ok hq
  have h0' : bcC n (upL xs i) = 0 := by unfold evC at h0; rw [if_pos hq, Int.toNat_natCast] at h0; exact h0
  have hR : evR n xs i = ctR n (upL xs i) := by unfold evR; rw [if_pos hq, Int.toNat_natCast]
  obtain ⟨l1, l2⟩ := ev_law g6 h0'
  obtain ⟨t1, t2, e0, t3, t4, t5, t6⟩ := ev_top l1
  have hT := iCycleTime_ac n xs (by omega)
  have hB := frzI2 (iBestCircuit_ac n xs (by omega)) (by simp [cN])
  have hK := iCompareRatios_ac (ctR n (upL xs i)) (ctR n xs) (ctR_rat h0') (ctR_rat l1)
  rw [l1] at hT hB
  rw [hR] at hI hS
  have hw2 : wi (e0 : Int) 0 (IntKind.i64.wrap ((n : Int) - 1)) = true := by rw [wrapE g1 g2, wi_iff]; omega
  have hq2 : evQ n xs e0 = 0 := by unfold evQ codeI; rw [if_neg (by rw [hw2]; simp)]; exact g6
  have hI2 := iEventTime_ac n xs e0 (by omega)
  rw [show evC n xs e0 = 0 by unfold evC; rw [if_pos hq2, Int.toNat_natCast]; exact t5, show evR n xs e0 = ctR n xs by unfold evR; rw [if_pos hq2, Int.toNat_natCast]; exact t6] at hI2
  have hrow := pl_row (n := 0) t2
  have hc0 : (IR (cN (bcL n xs)))[(0 : Int).toNat]? = some [DI ((hdN (bcL n xs) : Nat) : Int)] := by
    cases hbl : bcL n xs with
    | nil => exact absurd hbl t1
    | cons a b => simp [cN, hdN]
  have hc1 : 0 < (IR (cN (bcL n xs))).length := by
    cases hbl : bcL n xs with
    | nil => exact absurd hbl t1
    | cons a b => simp [cN]
  have t3' : (plA xs (hdN (bcL n xs))).f = (e0 : Int) := t3
  rw [t3'] at hrow
  generalize hdN (bcL n xs) = w at *
  generalize cN (bcL n xs) = L at *
  generalize crI (ctR n (upL xs i)) (ctR n xs) = k1 at *
  generalize ctR n (upL xs i) = r at *
  generalize ctR n xs = t at *
  obtain ⟨r1, r2⟩ := r
  obtain ⟨q1, q2⟩ := t
  simp only at hI hS hK hT hI2
  refine AC.of_body 0 Try.func10 rfl (fun l h => absurd rfl h) (fun C hC => ?_)
  have hD : ∀ l, ¬ C.D0 l := fun l h => (hC l).1 h rfl
  simp only [startFr, Try.ntmps10, List.length_cons, List.length_nil, Nat.reduceAdd, Nat.reduceSub, List.replicate_succ, List.replicate_zero, List.cons_append, List.nil_append]
  repeat' (first | ((first | apply Ba | (apply Bb; (· rfl); (· rfl)) | (apply Bc; (· exact nxE)) | (apply Bd; (· rfl); (· rfl); (· exact nxE))); (· first | exact Kz rfl rfl (hBig) (Ad An) | exact Kz rfl rfl (hG) (Ad An) | exact Kz rfl rfl (hI2) (Aa (Ad (Ad An)) (Ad An)) | exact Kz rfl rfl (hI) (Aa (Ad (Ad An)) (Ad An)) | exact Kz rfl rfl (hS) (Aa (Ad (Ad An)) (Ad An)) | exact Ok.neqRtS rfl rfl rfl | exact Ok.eqRtS rfl rfl rfl | exact Kz rfl rfl (hT) (Aa (Ad (Ad An)) An) | exact Kz rfl rfl (hB) (Aa (Ad (Ad An)) An) | exact Kz rfl rfl (hK) (Aa (Ad (Ad An)) (Aa (Ad (Ad An)) An)) | exact Ok.pe)) | ((first | apply Ca | (apply Cb; (· exact nxE))); (· first | exact Ok.e0)) | refine Sx ?_ | (refine Sy (fun h => ?_) (fun h => ?_) <;> try (exfalso; omega; done)) | refine Sz (fun h => ?_) (fun h => ?_))
  all_goals
    refine Ya ?_
    (apply Le.headZ (hs := []) [] rfl)
    all_goals (try dsimp only [srcs])
    (case' hfr => (repeat' (first | refine La ?_ ?_ | exact Lc | refine Lo ?_ | refine ⟨⟨_, rfl, ?_⟩, ?_⟩ | refine Lx ?_)))
    all_goals (first | exact Ld | exact trivial | (rfl))
end Go.Proofs.Ytegfjedklebbfaa
