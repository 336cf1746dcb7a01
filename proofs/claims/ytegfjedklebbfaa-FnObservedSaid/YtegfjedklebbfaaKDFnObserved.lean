/-
  The law FnObserved, in the abstract reading.
-/
import Derived.Test.YtegfjedklebbfaaKU12
import Derived.Test.YtegfjedklebbfaaKC16
namespace Go.Proofs.Ytegfjedklebbfaa
set_option linter.unusedSimpArgs false
set_option linter.unusedVariables false
open Go Go.RowKit
attribute [local irreducible] AL AD AW OpOk Le AC thenQ blockQ EndQ

theorem frzL2 {P : Program} {f : FuncId} {args : List AV} {n : Nat} {d : D} {xs : List Int} (hc : AC P f args H0 (.tup [own1 1 n, .d d]) (hp1 (IO xs))) (hn : xs.length = n) : AC P f args H0 (.tup [IL xs, .d d]) H0 :=
  hc.frz (ARs.tup (.cons (AR.whole rfl trivial (by rw [IR_len]; exact hn)) (.cons (.dd _) .nil)))
theorem alOut_sz {ev : Int} {xs : List Pl} {t : List (List Int)} : (alOut ev xs t).length ≤ t.length ∧ ∀ r ∈ alOut ev xs t, r.length ≤ ev.toNat := by
  unfold alOut
  split
  · have : alTab t xs t.length ev.toNat = tabF t.length ev.toNat (alFn t xs) := rfl
    rw [this]
    exact ⟨by rw [tabF_len]; omega, fun r hr => by rw [tabF_row2 r hr]; omega⟩
  · simp
theorem hbOut_sz {ev : Int} {xs : List Pl} {t : List (List Int)} : (hbOut ev xs t).length ≤ t.length ∧ ∀ r ∈ hbOut ev xs t, r.length ≤ ev.toNat := by
  unfold hbOut
  split
  · unfold hbTab
    exact ⟨by rw [tabF_len]; omega, fun r hr => by rw [tabF_row2 r hr]; omega⟩
  · simp
theorem earT_le2 {c : Nat → Nat → Bool} {n : Nat} : ∀ K, (earT c n K).length ≤ n * K
  | 0 => by simp [earT]
  | K + 1 => by
    have h1 := earT_le2 (c := c) (n := n) K
    have h2 : (earR c K n).length ≤ n := earR_le
    have h3 : earT c n (K + 1) = earT c n K ++ earR c K n := by simp [earT, List.range_succ]
    rw [h3, List.length_append, Nat.mul_succ]; omega
theorem eaOut_sz {ev : Int} {xs : List Pl} {t : List (List Int)} : (eaOut ev xs t).length ≤ ev.toNat * t.length ∧ ∀ r ∈ eaOut ev xs t, r.length ≤ 2 := by
  unfold eaOut
  split
  · exact ⟨earT_le2 _, fun r hr => by rw [earT_rows r hr]; omega⟩
  · simp
theorem sumF_pos {g : Nat → Int} (h : ∀ a, 0 ≤ g a ∧ g a ≤ 1000000) {k : Nat} : ∀ m, k < m → g k ≤ sumF g m
  | 0, hk => by omega
  | m + 1, hk => by
    have h1 := (sumF_le h m).1
    simp only [sumF]
    by_cases e : k = m
    · subst e; omega
    · have := sumF_pos h m (by omega : k < m)
      have := h m
      omega
theorem susF_any {g : Nat → Int} {n e : Nat} (he : e < n) : (susF g n).any (fun x => decide (x = (e : Int))) = decide (0 < g e) := by
  rw [Bool.eq_iff_iff, List.any_eq_true]
  simp only [decide_eq_true_eq, susF, List.mem_map, List.mem_filter, List.mem_range]
  constructor
  · rintro ⟨x, ⟨j, ⟨_, h⟩, rfl⟩, hx⟩
    have : j = e := by omega
    subst this; exact h
  · intro h; exact ⟨e, ⟨e, ⟨he, h⟩, rfl⟩, rfl⟩
set_option maxRecDepth 100000 in
set_option maxHeartbeats 4000000 in
theorem lawFnObserved_ac (code : List Int) (hl : code.length ≤ 9223372036854775807) (hb : ∀ b ∈ code, 0 ≤ b ∧ b ≤ 255) : AC Try.prog 6 [.d (BD code)] H0 (Bo true) H0 := by
  have hBig := big_ac code hl
  by_cases hbig : 4096 < (code.length : Int)
  ·
    refine AC.of_body 0 Try.func6 rfl (fun l h => absurd rfl h) (fun C hC => ?_)
    have hD : ∀ l, ¬ C.D0 l := fun l h => (hC l).1 h rfl
    simp only [startFr, Try.ntmps6, List.length_cons, List.length_nil, Nat.reduceAdd, Nat.reduceSub, List.replicate_succ, List.replicate_zero, List.cons_append, List.nil_append]
    repeat' (first | refine Qa ?_ | ((first | apply Ba | (apply Bb; (· rfl); (· rfl)) | (apply Bc; (· exact nxE)) | (apply Bd; (· rfl); (· rfl); (· exact nxE))); (· first | exact Kz rfl rfl (hBig) (Ad An) | exact Ok.pe); (first | refine Na ?_ | refine Nb ?_)) | ((first | apply Ca | (apply Cb; (· exact nxE))); (· first | exact Ok.e0); (first | refine Nc ?_ | refine Nd ?_)) | refine Oa ?_ | refine Ob ?_ | ((first | refine Ga (fun h => ?_) (fun h => ?_) | refine AD.gsplit rfl rfl (fun h => ?_) (fun h => ?_)) <;> try (exfalso; omega; done)) | (first | refine AL.gsplitB rfl rfl (fun h => ?_) (fun h => ?_) | refine AD.gsplitB rfl rfl (fun h => ?_) (fun h => ?_)) | refine Fa ?_ | refine Qb ?_ | refine Qc ?_ | refine Qd ?_ | refine Fb ?_ | refine Qe ?_ | refine Wa ?_ | refine Wb ?_ | (refine AW.ite rfl (fun h => ?_) (fun h => ?_) <;> try (exfalso; omega; done)) | refine AW.cond _ rfl (fun h => ?_) (fun h => ?_) | refine Qf ?_ | refine Qg ?_ | refine Qh ?_ | refine Qi ?_ | refine Xa ?_ | refine Xb ?_ | refine Xc ?_ | refine Xd ?_ | refine Fc ?_)
    refine Ya ?_
    (apply Le.headZ (hs := []) [] rfl)
    all_goals (try dsimp only [srcs])
    (case' hfr => (repeat' (first | refine La ?_ ?_ | exact Lc | refine Lo ?_ | refine ⟨⟨_, rfl, ?_⟩, ?_⟩ | refine ObA.box ?_ | refine ObA.frE ?_ | refine ObA.dataE ?_ | refine ARs.agg ?_ | refine ARs.tup ?_ | refine AR.b ?_ | refine AR.iE ?_ | refine AR.e ?_ | refine AR.clo' ARs.nil ?_)))
    all_goals (first | exact Ld | exact trivial | (rfl))
  have hc : CodeOk code := ⟨by omega, hb⟩
  obtain ⟨⟨ev, xs, s1⟩, T, h1, h2, hG⟩ := drawHeldBy_ex code hc
  obtain ⟨hev, _, hxl, _⟩ := h1
  obtain ⟨hTl, hTr⟩ := h2
  simp only at hev hxl hG
  have hTr' : ∀ r ∈ T, r.length ≤ 100000000 := fun r h => by have := hTr r h; omega
  have hx' : xs.length ≤ 100000000 := by omega
  have hT' : T.length ≤ 100000000 := by omega
  have hH1 := (iHeldBy_ac ev xs T hx' hT' hTr').frzT2 (by rw [TR_len])
  have hH2 := sHeldBy_ac ev xs T hx' hT' hTr'
  have hA1 := (iAllowedTimes_ac ev xs T hx' hT' hTr').frzT2 (by rw [TR_len])
  have hA2 := sAllowedTimes_ac ev xs T hx' hT' hTr'
  have hE1 := (iEarlyFirings_ac ev xs T hx' hT' hTr').frzT2 (by rw [TR_len])
  have hE2 := sEarlyFirings_ac ev xs T hx' hT' hTr'
  have hS1 := frzL2 (iSuspectsOf_ac ev xs T hx' hT' hTr') rfl
  have hS2 := sSuspectsOf_ac ev xs T hx' hT' hTr'
  have hB1 := frzL2 (iBlameOf_ac ev xs T hx' hT' hTr') rfl
  have hB2 := sBlameOf_ac ev xs T hx' hT' hTr'
  have z1 := hbOut_sz (ev := ev) (xs := xs) (t := T)
  have z2 := alOut_sz (ev := ev) (xs := xs) (t := T)
  have z3 := eaOut_sz (ev := ev) (xs := xs) (t := T)
  have hev2 : ev.toNat ≤ 11 := by omega
  have hm3 : ev.toNat * T.length ≤ 11 * 100 := Nat.mul_le_mul hev2 hTl
  have z4 : (suOut ev xs T).length ≤ 100 := by
    unfold suOut; split
    · have := susF_le (g := blMix (hbFn T xs) T.length 0) (k := ev.toNat); omega
    · simp
  have z5 : (blOut ev xs T).length ≤ 100 := by
    unfold blOut; split
    · rw [blRow_len]; omega
    · simp
  have l1 := likeTables9_refl (hbOut ev xs T) (by omega) (fun r hr => by have := z1.2 r hr; omega)
  have l2 := likeTables9_refl (alOut ev xs T) (by omega) (fun r hr => by have := z2.2 r hr; omega)
  have l3 := likeTables9_refl (eaOut ev xs T) (by omega) (fun r hr => by have := z3.2 r hr; omega)
  have l4 := likeInts_refl (suOut ev xs T) (by omega)
  have l5 := likeInts_refl (blOut ev xs T) (by omega)
  by_cases h0 : goodI ev xs T = 0
  case neg =>
    clear z1 z2 z3 z4 z5
    generalize goodI ev xs T = c at *
    generalize hbOut ev xs T = X1 at *
    generalize alOut ev xs T = X2 at *
    generalize eaOut ev xs T = X3 at *
    generalize suOut ev xs T = X4 at *
    generalize blOut ev xs T = X5 at *
    refine AC.of_body 0 Try.func6 rfl (fun l h => absurd rfl h) (fun C hC => ?_)
    have hD : ∀ l, ¬ C.D0 l := fun l h => (hC l).1 h rfl
    simp only [startFr, Try.ntmps6, List.length_cons, List.length_nil, Nat.reduceAdd, Nat.reduceSub, List.replicate_succ, List.replicate_zero, List.cons_append, List.nil_append]
    repeat' (first | refine Qa ?_ | ((first | apply Ba | (apply Bb; (· rfl); (· rfl)) | (apply Bc; (· exact nxE)) | (apply Bd; (· rfl); (· rfl); (· exact nxE))); (· first | exact Kz rfl rfl (hBig) (Ad An) | exact Kz rfl rfl (hG) (Ad An) | exact Kz rfl rfl (hH1) (Aa (Ad (Ad An)) (Ad An)) | exact Kz rfl rfl (hH2) (Aa (Ad (Ad An)) (Ad An)) | exact Kz rfl rfl (hA1) (Aa (Ad (Ad An)) (Ad An)) | exact Kz rfl rfl (hA2) (Aa (Ad (Ad An)) (Ad An)) | exact Kz rfl rfl (hE1) (Aa (Ad (Ad An)) (Ad An)) | exact Kz rfl rfl (hE2) (Aa (Ad (Ad An)) (Ad An)) | exact Kz rfl rfl (hS1) (Aa (Ad (Ad An)) (Ad An)) | exact Kz rfl rfl (hS2) (Aa (Ad (Ad An)) (Ad An)) | exact Kz rfl rfl (hB1) (Aa (Ad (Ad An)) (Ad An)) | exact Kz rfl rfl (hB2) (Aa (Ad (Ad An)) (Ad An)) | exact Kz rfl rfl (l1) (Ad (Ad An)) | exact Kz rfl rfl (l2) (Ad (Ad An)) | exact Kz rfl rfl (l3) (Ad (Ad An)) | exact Kz rfl rfl (l4) (Ad (Ad An)) | exact Kz rfl rfl (l5) (Ad (Ad An)) | exact Ok.pe); (first | refine Na ?_ | refine Nb ?_)) | ((first | apply Ca | (apply Cb; (· exact nxE))); (· first | exact Ok.e0); (first | refine Nc ?_ | refine Nd ?_)) | refine Oa ?_ | refine Ob ?_ | ((first | refine Ga (fun h => ?_) (fun h => ?_) | refine AD.gsplit rfl rfl (fun h => ?_) (fun h => ?_)) <;> try (exfalso; omega; done)) | (first | refine AL.gsplitB rfl rfl (fun h => ?_) (fun h => ?_) | refine AD.gsplitB rfl rfl (fun h => ?_) (fun h => ?_)) | refine Fa ?_ | refine Qb ?_ | refine Qc ?_ | refine Qd ?_ | refine Fb ?_ | refine Qe ?_ | refine Wa ?_ | refine Wb ?_ | (refine AW.ite rfl (fun h => ?_) (fun h => ?_) <;> try (exfalso; omega; done)) | refine AW.cond _ rfl (fun h => ?_) (fun h => ?_) | refine Qf ?_ | refine Qg ?_ | refine Qh ?_ | refine Qi ?_ | refine Xa ?_ | refine Xb ?_ | refine Xc ?_ | refine Xd ?_ | refine Fc ?_)
    all_goals
      refine Ya ?_
      (apply Le.headZ (hs := []) [] rfl)
      all_goals (try dsimp only [srcs])
      (case' hfr => (repeat' (first | refine La ?_ ?_ | exact Lc | refine Lo ?_ | refine ⟨⟨_, rfl, ?_⟩, ?_⟩ | refine ObA.box ?_ | refine ObA.frE ?_ | refine ObA.dataE ?_ | refine ARs.agg ?_ | refine ARs.tup ?_ | refine AR.b ?_ | refine AR.iE ?_ | refine AR.e ?_ | refine AR.clo' ARs.nil ?_)))
      all_goals (first | exact Ld | exact trivial | (simp))
  obtain ⟨n, rfl, e1, e2, e3, e4, e5, e6⟩ := code_ok h0
  obtain ⟨hrc, hm50, hbnd⟩ := dueB_ok e5
  have hself := tabF_self hrc
  rw [h0] at hH1 hH2 hA1 hA2 hE1 hE2 hS1 hS2 hB1 hB2
  have q1 : hbOut n xs T = tabF T.length n (hbFn T xs) := by unfold hbOut; rw [if_pos h0]; rfl
  have q2 : alOut n xs T = tabF T.length n (alFn T xs) := by unfold alOut; rw [if_pos h0]; rfl
  have q3 : eaOut n xs T = earT (eaC T (alFn T xs)) n T.length := by unfold eaOut; rw [if_pos h0]; rfl
  have q4 : suOut n xs T = susF (blMix (hbFn T xs) T.length 0) n := by unfold suOut; rw [if_pos h0]; rfl
  have q5 : blOut n xs T = rowF n (blMix (hbFn T xs) T.length 0) := by unfold blOut; rw [if_pos h0]; rfl
  rw [q1] at hH1 hH2 l1
  rw [q2] at hA1 hA2 l2
  rw [q3] at hE1 hE2 l3 z3
  rw [q4] at hS1 hS2 l4 z4
  rw [q5] at hB1 hB2 l5
  clear q1 q2 q3 q4 q5 z1 z2 z5
  have hw : ∀ a b, hbFn T xs a b = max 0 (entN T a b - alFn T xs a b) := fun a b => rfl
  have hg : ∀ e, blMix (hbFn T xs) T.length 0 e = sumF (fun a => hbFn T xs a e) T.length := fun e => by simp [blMix]
  have hpos : ∀ k e, k < T.length → 0 < hbFn T xs k e → 0 < blMix (hbFn T xs) T.length 0 e := fun k e hk h => by
    rw [hg]
    have := sumF_pos (g := fun a => hbFn T xs a e) (fun a => hbFn_le hbnd e4 a e) T.length hk
    omega
  have halb : ∀ a b, 0 ≤ alFn T xs a b ∧ alFn T xs a b ≤ 1010000 := fun a b => by
    have := alT_le (n := n) (t := T) (r := a + 1) (e := b) (xs := xs) (B := 1000000) (by omega) (fun i j => (hbnd i j).2) e4
    exact this
  have hHas : ∀ e, e < n → AC Try.prog 55 [IL (susF (blMix (hbFn T xs) T.length 0) n), I e] H0 (Bo (decide (0 < blMix (hbFn T xs) T.length 0 e))) H0 := fun e he => by
    have := hasInt_ac (susF (blMix (hbFn T xs) T.length 0) n) e (by omega)
    rwa [susF_any he] at this
  have hTg : ∀ k, k < T.length → T[k]? = some (rowF n (entN T k)) := fun k hk => by
    have := tabF_get (m := T.length) (n := n) (f := entN T) hk
    rwa [hself] at this
  generalize blMix (hbFn T xs) T.length 0 = gB at *
  generalize hbFn T xs = fH at *
  obtain ⟨c, hcc⟩ : ∃ c, c = eaC T (alFn T xs) := ⟨_, rfl⟩
  rw [← hcc] at hE1 hE2 l3 z3
  have hcv : ∀ k e, c k e = decide (entN T k e < alFn T xs k e) := fun k e => by rw [hcc]
  generalize alFn T xs = fA at *
  have hTl' : (mRows 1 (TR T)).length = T.length := by simp
  have hsL : (IR (susF gB n)).length = (susF gB n).length := IR_len
  refine AC.of_body 0 Try.func6 rfl (fun l h => absurd rfl h) (fun C hC => ?_)
  have hD : ∀ l, ¬ C.D0 l := fun l h => (hC l).1 h rfl
  simp only [startFr, Try.ntmps6, List.length_cons, List.length_nil, Nat.reduceAdd, Nat.reduceSub, List.replicate_succ, List.replicate_zero, List.cons_append, List.nil_append]
  repeat' (first | refine Qa ?_ | ((first | apply Ba | (apply Bb; (· rfl); (· rfl)) | (apply Bc; (· exact nxE)) | (apply Bd; (· rfl); (· rfl); (· exact nxE))); (· first | exact Kz rfl rfl (hBig) (Ad An) | exact Kz rfl rfl (hG) (Ad An) | exact Kz rfl rfl (hH1) (Aa (Ad (Ad An)) (Ad An)) | exact Kz rfl rfl (hH2) (Aa (Ad (Ad An)) (Ad An)) | exact Kz rfl rfl (hA1) (Aa (Ad (Ad An)) (Ad An)) | exact Kz rfl rfl (hA2) (Aa (Ad (Ad An)) (Ad An)) | exact Kz rfl rfl (hE1) (Aa (Ad (Ad An)) (Ad An)) | exact Kz rfl rfl (hE2) (Aa (Ad (Ad An)) (Ad An)) | exact Kz rfl rfl (hS1) (Aa (Ad (Ad An)) (Ad An)) | exact Kz rfl rfl (hS2) (Aa (Ad (Ad An)) (Ad An)) | exact Kz rfl rfl (hB1) (Aa (Ad (Ad An)) (Ad An)) | exact Kz rfl rfl (hB2) (Aa (Ad (Ad An)) (Ad An)) | exact Kz rfl rfl (l1) (Ad (Ad An)) | exact Kz rfl rfl (l2) (Ad (Ad An)) | exact Kz rfl rfl (l3) (Ad (Ad An)) | exact Kz rfl rfl (l4) (Ad (Ad An)) | exact Kz rfl rfl (l5) (Ad (Ad An)) | exact Ok.pe); (first | refine Na ?_ | refine Nb ?_)) | ((first | apply Ca | (apply Cb; (· exact nxE))); (· first | exact Ok.e0); (first | refine Nc ?_ | refine Nd ?_)) | refine Oa ?_ | refine Ob ?_ | ((first | refine Ga (fun h => ?_) (fun h => ?_) | refine AD.gsplit rfl rfl (fun h => ?_) (fun h => ?_)) <;> try (exfalso; omega; done)) | (first | refine AL.gsplitB rfl rfl (fun h => ?_) (fun h => ?_) | refine AD.gsplitB rfl rfl (fun h => ?_) (fun h => ?_)) | refine Fa ?_ | refine Qb ?_ | refine Qc ?_ | refine Qd ?_ | refine Fb ?_ | refine Qe ?_ | refine Wa ?_ | refine Wb ?_ | (refine AW.ite rfl (fun h => ?_) (fun h => ?_) <;> try (exfalso; omega; done)) | refine AW.cond _ rfl (fun h => ?_) (fun h => ?_) | refine Qf ?_ | refine Qg ?_ | refine Qh ?_ | refine Qi ?_ | refine Xa ?_ | refine Xb ?_ | refine Xc ?_ | refine Xd ?_ | refine Fc ?_)
  refine AW.loop (X := {k : Nat // k ≤ T.length}) (fun k => ⟨[Oo, Oo, Oo, Bx 2 0, TL T, TL (tabF T.length n fH), Oo, Oo, Oo, TL (tabF T.length n fA), Oo, Oo, Oo, TL (earT c n T.length), Oo, Oo, Oo, IL (susF gB n), Oo, Oo, Oo, IL (rowF n gB), Oo, Oo, Oo, I (earP c n (k.1 : Nat) 0).length, I (k.1 : Nat), Oo, Oo, Oo, Oo, Oo, Oo, Oo, Oo, Oo, Oo, Oo, Oo, Oo, Oo, Oo, Oo, Oo, Oo, Oo, Oo, Oo, Oo, Oo, Oo, Oo, Oo, Oo, Oo, Oo, Oo, Oo, Oo, Oo, Oo, Oo, Oo, Oo, Oo, Oo, Oo, Oo, Oo, Oo, Oo, Oo, Oo, Oo, Oo, Oo, Oo, Oo, Oo, Oo, Oo, Oo, Oo, Oo, Oo, Oo, Oo, Oo, Oo, Oo, Oo, Oo, Oo, Oo, Oo, Oo, Oo, Oo, Oo, Oo, Oo, Oo, Oo, Oo, Oo, Oo, Oo, Oo, Oo, Oo, Oo, Oo, Oo, Oo, Oo, Oo, Oo, Oo, Oo, Oo, Oo, Oo, Oo, Oo, Oo, Oo, Oo, Oo, Oo, Oo, Oo, Oo, Oo, Oo, Oo, Oo, Oo, Oo, Oo, Oo, Oo, Oo, Oo, Oo, Oo, Oo, Oo, Oo, Oo, Oo, Oo, Oo, Oo, Oo, Oo, Oo, Oo, Oo, Oo, Oo, Oo, Oo, Oo, Oo, Oo, Oo, Oo, Oo, Oo, Oo, Oo, Oo, Oo, Oo, Oo, Oo, Oo, Oo, Oo, Oo, Oo, Oo, Oo, Oo, Oo, Oo, Oo, Oo, Oo, Oo, Oo, Oo, Oo, Oo, Oo, Oo, Oo, Oo, Oo, Oo, Oo, Oo, Oo, Oo, Oo, Oo, Oo, Oo, Oo, Oo, Oo, Oo, Oo, Oo, Oo, Oo, Oo, Oo, Oo, Oo, Oo, Oo, Oo, Oo, Oo, Oo, Oo, Oo, Oo, Oo, Oo, Oo, Oo, Oo, Oo, Oo, Oo, Oo, Oo, Oo, Oo, Oo, Oo, Oo, Oo, Oo, Oo, Oo, Oo, Oo, Oo, Oo, Oo, Oo, Oo, Oo, Oo, Oo, Oo, Oo], heapL [(⟨0, []⟩, ⟨0, []⟩, ⟨2, [[I n, PL xs]]⟩)], 900⟩) (fun k => T.length - k.1) ⟨0, Nat.zero_le _⟩ ?_ (fun k => ?_)
  ·
    (apply Le.headZ [_] rfl)
    all_goals (try dsimp only [srcs])
    (case' hfr | hob => (repeat' (first | refine La ?_ ?_ | exact Lc | refine Lo ?_ | refine ⟨⟨_, rfl, ?_⟩, ?_⟩ | refine ObA.box ?_ | refine ObA.frE ?_ | refine ObA.dataE ?_ | refine ARs.agg ?_ | refine ARs.tup ?_ | refine AR.b ?_ | refine AR.iE ?_ | refine AR.e ?_ | refine AR.clo' ARs.nil ?_)))
    all_goals (first | (rfl) | exact Ld)
  obtain ⟨i, hk⟩ := k
  simp only
  by_cases hlt : i < T.length
  · have r1 := TR_get (hTg i hlt)
    have r2 := tabF_get2 (n := n) (f := fH) hlt
    have r3 := tabF_get2 (n := n) (f := fA) hlt
    have hrl : (rowF n (entN T i)).length = n := rowF_len
    repeat' (first | refine Qa ?_ | ((first | apply Ba | (apply Bb; (· rfl); (· rfl)) | (apply Bc; (· exact nxE)) | (apply Bd; (· rfl); (· rfl); (· exact nxE))); (· first | exact Ok.pe); (first | refine Na ?_ | refine Nb ?_)) | ((first | apply Ca | (apply Cb; (· exact nxE))); (· first | exact Ok.e0); (first | refine Nc ?_ | refine Nd ?_)) | refine Oa ?_ | refine Ob ?_ | ((first | refine Ga (fun h => ?_) (fun h => ?_) | refine AD.gsplit rfl rfl (fun h => ?_) (fun h => ?_)) <;> try (exfalso; omega; done)) | (first | refine AL.gsplitB rfl rfl (fun h => ?_) (fun h => ?_) | refine AD.gsplitB rfl rfl (fun h => ?_) (fun h => ?_)) | refine Fa ?_ | refine Qb ?_ | refine Qc ?_ | refine Qd ?_ | refine Fb ?_ | refine Qe ?_ | refine Wa ?_ | refine Wb ?_ | (refine AW.ite rfl (fun h => ?_) (fun h => ?_) <;> try (exfalso; omega; done)) | refine AW.cond _ rfl (fun h => ?_) (fun h => ?_) | refine Qf ?_ | refine Qg ?_ | refine Qh ?_ | refine Qi ?_ | refine Xa ?_ | refine Xb ?_ | refine Xc ?_ | refine Xd ?_ | refine Fc ?_)
    refine AW.loop (X := {k : Nat // k ≤ n}) (fun k => ⟨[Oo, Oo, Oo, Bx 2 0, TL T, TL (tabF T.length n fH), Oo, Oo, Oo, TL (tabF T.length n fA), Oo, Oo, Oo, TL (earT c n T.length), Oo, Oo, Oo, IL (susF gB n), Oo, Oo, Oo, IL (rowF n gB), Oo, Oo, Oo, I (earP c n i (k.1 : Nat)).length, I i, I (k.1 : Nat), Oo, Oo, Oo, Oo, Oo, Oo, Oo, Oo, Oo, Oo, Oo, Oo, Oo, Oo, Oo, Oo, Oo, Oo, Oo, Oo, Oo, Oo, Oo, Oo, Oo, Oo, Oo, Oo, Oo, Oo, Oo, Oo, Oo, Oo, Oo, Oo, Oo, Oo, Oo, Oo, Oo, Oo, Oo, Oo, Oo, Oo, Oo, Oo, Oo, Oo, Oo, Oo, Oo, Oo, Oo, Oo, Oo, Oo, Oo, Oo, Oo, Oo, Oo, Oo, Oo, Oo, Oo, Oo, Oo, Oo, Oo, Oo, Oo, Oo, Oo, Oo, Oo, Oo, Oo, Oo, Oo, Oo, Oo, Oo, Oo, Oo, Oo, Oo, Oo, Oo, Oo, Oo, Oo, Oo, Oo, Oo, Oo, Oo, Oo, Oo, Oo, Oo, Oo, Oo, Oo, Oo, Oo, Oo, Oo, Oo, Oo, Oo, Oo, Oo, Oo, Oo, Oo, Oo, Oo, Oo, Oo, Oo, Oo, Oo, Oo, Oo, Oo, Oo, Oo, Oo, Oo, Oo, Oo, Oo, Oo, Oo, Oo, Oo, Oo, Oo, Oo, Oo, Oo, Oo, Oo, Oo, Oo, Oo, Oo, Oo, Oo, Oo, Oo, Oo, Oo, Oo, Oo, Oo, Oo, Oo, Oo, Oo, Oo, Oo, Oo, Oo, Oo, Oo, Oo, Oo, Oo, Oo, Oo, Oo, Oo, Oo, Oo, Oo, Oo, Oo, Oo, Oo, Oo, Oo, Oo, Oo, Oo, Oo, Oo, Oo, Oo, Oo, Oo, Oo, Oo, Oo, Oo, Oo, Oo, Oo, Oo, Oo, Oo, Oo, Oo, Oo, Oo, Oo, Oo, Oo, Oo, Oo, Oo, Oo, Oo, Oo, Oo, Oo, Oo, Oo, Oo, Oo, Oo, Oo, Oo, Oo, Oo, Oo, Oo, Oo, Oo, Oo], heapL [(⟨0, []⟩, ⟨0, []⟩, ⟨2, [[I n, PL xs]]⟩)], 900⟩) (fun k => n - k.1) ⟨0, Nat.zero_le _⟩ ?_ (fun k => ?_)
    ·
      (apply Le.headZ [_] rfl)
      all_goals (try dsimp only [srcs])
      (case' hfr | hob => (repeat' (first | refine La ?_ ?_ | exact Lc | refine Lo ?_ | refine ⟨⟨_, rfl, ?_⟩, ?_⟩ | refine ObA.box ?_ | refine ObA.frE ?_ | refine ObA.dataE ?_ | refine ARs.agg ?_ | refine ARs.tup ?_ | refine AR.b ?_ | refine AR.iE ?_ | refine AR.e ?_ | refine AR.clo' ARs.nil ?_)))
      all_goals (first | ((simp [earP_00]; done)) | exact Ld)
    obtain ⟨e, he⟩ := k
    simp only
    by_cases hlt2 : e < n
    · have c1 := rowI_get (g := entN T i) hlt2
      have c2 := rowI_get (g := fH i) hlt2
      have c3 := rowI_get (g := fA i) hlt2
      have hwv := hw i e
      have hb1 := hbnd i e
      have hb2 := halb i e
      have hle := earP_le (c := c) e2 i e
      have hHe := hHas e hlt2
      have hpe := hpos i e hlt
      have hst : (earP c n i (e + 1)).length = (earP c n i e).length + (if entN T i e < fA i e then 1 else 0) := by
        by_cases h : entN T i e < fA i e
        · rw [earP_yes (by rw [hcv]; exact decide_eq_true h), if_pos h]; simp
        · rw [earP_no (by rw [hcv]; exact decide_eq_false h), if_neg h]; rfl
      generalize entN T i e = u at *
      generalize fA i e = v at *
      generalize fH i e = w at *
      by_cases hw0 : 0 < w
      · rw [decide_eq_true (hpe hw0)] at hHe
        repeat' (first | refine Qa ?_ | ((first | apply Ba | (apply Bb; (· rfl); (· rfl)) | (apply Bc; (· exact nxE)) | (apply Bd; (· rfl); (· rfl); (· exact nxE))); (· first | exact Kz rfl rfl (hHe) (Ad (Ad An)) | exact Ok.pe); (first | refine Na ?_ | refine Nb ?_)) | ((first | apply Ca | (apply Cb; (· exact nxE))); (· first | exact Ok.e0); (first | refine Nc ?_ | refine Nd ?_)) | refine Oa ?_ | refine Ob ?_ | ((first | refine Ga (fun h => ?_) (fun h => ?_) | refine AD.gsplit rfl rfl (fun h => ?_) (fun h => ?_)) <;> try (exfalso; omega; done)) | (first | refine AL.gsplitB rfl rfl (fun h => ?_) (fun h => ?_) | refine AD.gsplitB rfl rfl (fun h => ?_) (fun h => ?_)) | refine Fa ?_ | refine Qb ?_ | refine Qc ?_ | refine Qd ?_ | refine Fb ?_ | refine Qe ?_ | refine Wa ?_ | refine Wb ?_ | (refine AW.ite rfl (fun h => ?_) (fun h => ?_) <;> try (exfalso; omega; done)) | refine AW.cond _ rfl (fun h => ?_) (fun h => ?_) | refine Qf ?_ | refine Qg ?_ | refine Qh ?_ | refine Qi ?_ | refine Xa ?_ | refine Xb ?_ | refine Xc ?_ | refine Xd ?_ | refine Fc ?_)
        all_goals
          refine ⟨⟨e + 1, by omega⟩, ?_, by simp only; omega⟩
          (apply Le.headZ [_] rfl)
          all_goals (try dsimp only [srcs])
          (case' hfr | hob => (repeat' (first | refine La ?_ ?_ | exact Lc | refine Lo ?_ | refine ⟨⟨_, rfl, ?_⟩, ?_⟩ | refine ObA.box ?_ | refine ObA.frE ?_ | refine ObA.dataE ?_ | refine ARs.agg ?_ | refine ARs.tup ?_ | refine AR.b ?_ | refine AR.iE ?_ | refine AR.e ?_ | refine AR.clo' ARs.nil ?_)))
          all_goals (first | (first | (rw [hst, if_pos (by assumption)]; rfl) | (rw [hst, if_neg (by assumption)]; rfl)) | exact Ld)
      ·
        repeat' (first | refine Qa ?_ | ((first | apply Ba | (apply Bb; (· rfl); (· rfl)) | (apply Bc; (· exact nxE)) | (apply Bd; (· rfl); (· rfl); (· exact nxE))); (· first | exact Kz rfl rfl (hHe) (Ad (Ad An)) | exact Ok.pe); (first | refine Na ?_ | refine Nb ?_)) | ((first | apply Ca | (apply Cb; (· exact nxE))); (· first | exact Ok.e0); (first | refine Nc ?_ | refine Nd ?_)) | refine Oa ?_ | refine Ob ?_ | ((first | refine Ga (fun h => ?_) (fun h => ?_) | refine AD.gsplit rfl rfl (fun h => ?_) (fun h => ?_)) <;> try (exfalso; omega; done)) | (first | refine AL.gsplitB rfl rfl (fun h => ?_) (fun h => ?_) | refine AD.gsplitB rfl rfl (fun h => ?_) (fun h => ?_)) | refine Fa ?_ | refine Qb ?_ | refine Qc ?_ | refine Qd ?_ | refine Fb ?_ | refine Qe ?_ | refine Wa ?_ | refine Wb ?_ | (refine AW.ite rfl (fun h => ?_) (fun h => ?_) <;> try (exfalso; omega; done)) | refine AW.cond _ rfl (fun h => ?_) (fun h => ?_) | refine Qf ?_ | refine Qg ?_ | refine Qh ?_ | refine Qi ?_ | refine Xa ?_ | refine Xb ?_ | refine Xc ?_ | refine Xd ?_ | refine Fc ?_)
        all_goals
          refine ⟨⟨e + 1, by omega⟩, ?_, by simp only; omega⟩
          (apply Le.headZ [_] rfl)
          all_goals (try dsimp only [srcs])
          (case' hfr | hob => (repeat' (first | refine La ?_ ?_ | exact Lc | refine Lo ?_ | refine ⟨⟨_, rfl, ?_⟩, ?_⟩ | refine ObA.box ?_ | refine ObA.frE ?_ | refine ObA.dataE ?_ | refine ARs.agg ?_ | refine ARs.tup ?_ | refine AR.b ?_ | refine AR.iE ?_ | refine AR.e ?_ | refine AR.clo' ARs.nil ?_)))
          all_goals (first | (first | (rw [hst, if_pos (by assumption)]; rfl) | (rw [hst, if_neg (by assumption)]; rfl)) | exact Ld)
    · obtain rfl : e = n := by omega
      rw [earP_row]
      repeat' (first | refine Qa ?_ | ((first | apply Ba | (apply Bb; (· rfl); (· rfl)) | (apply Bc; (· exact nxE)) | (apply Bd; (· rfl); (· rfl); (· exact nxE))); (· first | exact Ok.pe); (first | refine Na ?_ | refine Nb ?_)) | ((first | apply Ca | (apply Cb; (· exact nxE))); (· first | exact Ok.e0); (first | refine Nc ?_ | refine Nd ?_)) | refine Oa ?_ | refine Ob ?_ | ((first | refine Ga (fun h => ?_) (fun h => ?_) | refine AD.gsplit rfl rfl (fun h => ?_) (fun h => ?_)) <;> try (exfalso; omega; done)) | (first | refine AL.gsplitB rfl rfl (fun h => ?_) (fun h => ?_) | refine AD.gsplitB rfl rfl (fun h => ?_) (fun h => ?_)) | refine Fa ?_ | refine Qb ?_ | refine Qc ?_ | refine Qd ?_ | refine Fb ?_ | refine Qe ?_ | refine Wa ?_ | refine Wb ?_ | (refine AW.ite rfl (fun h => ?_) (fun h => ?_) <;> try (exfalso; omega; done)) | refine AW.cond _ rfl (fun h => ?_) (fun h => ?_) | refine Qf ?_ | refine Qg ?_ | refine Qh ?_ | refine Qi ?_ | refine Xa ?_ | refine Xb ?_ | refine Xc ?_ | refine Xd ?_ | refine Fc ?_)
      refine ⟨⟨i + 1, by omega⟩, ?_, by simp only; omega⟩
      (apply Le.headZ [_] rfl)
      all_goals (try dsimp only [srcs])
      (case' hfr | hob => (repeat' (first | refine La ?_ ?_ | exact Lc | refine Lo ?_ | refine ⟨⟨_, rfl, ?_⟩, ?_⟩ | refine ObA.box ?_ | refine ObA.frE ?_ | refine ObA.dataE ?_ | refine ARs.agg ?_ | refine ARs.tup ?_ | refine AR.b ?_ | refine AR.iE ?_ | refine AR.e ?_ | refine AR.clo' ARs.nil ?_)))
      all_goals (first | (rfl) | exact Ld)
  obtain rfl : i = T.length := by omega
  rw [earP_00]
  repeat' (first | refine Qa ?_ | ((first | apply Ba | (apply Bb; (· rfl); (· rfl)) | (apply Bc; (· exact nxE)) | (apply Bd; (· rfl); (· rfl); (· exact nxE))); (· first | exact Ok.pe); (first | refine Na ?_ | refine Nb ?_)) | ((first | apply Ca | (apply Cb; (· exact nxE))); (· first | exact Ok.e0); (first | refine Nc ?_ | refine Nd ?_)) | refine Oa ?_ | refine Ob ?_ | ((first | refine Ga (fun h => ?_) (fun h => ?_) | refine AD.gsplit rfl rfl (fun h => ?_) (fun h => ?_)) <;> try (exfalso; omega; done)) | (first | refine AL.gsplitB rfl rfl (fun h => ?_) (fun h => ?_) | refine AD.gsplitB rfl rfl (fun h => ?_) (fun h => ?_)) | refine Fa ?_ | refine Qb ?_ | refine Qc ?_ | refine Qd ?_ | refine Fb ?_ | refine Qe ?_ | refine Wa ?_ | refine Wb ?_ | (refine AW.ite rfl (fun h => ?_) (fun h => ?_) <;> try (exfalso; omega; done)) | refine AW.cond _ rfl (fun h => ?_) (fun h => ?_) | refine Qf ?_ | refine Qg ?_ | refine Qh ?_ | refine Qi ?_ | refine Xa ?_ | refine Xb ?_ | refine Xc ?_ | refine Xd ?_ | refine Fc ?_)
  refine AW.loop (X := {k : Nat // k ≤ n}) (fun k => ⟨[Oo, Oo, Oo, Bx 2 0, Oo, Oo, Oo, Oo, Oo, Oo, Oo, Oo, Oo, TL (earT c n T.length), Oo, Oo, Oo, IL (susF gB n), Oo, Oo, Oo, IL (rowF n gB), Oo, Oo, Oo, I (earT c n T.length).length, Oo, Oo, I (k.1 : Nat), Oo, Oo, Oo, Oo, Oo, Oo, Oo, Oo, Oo, Oo, Oo, Oo, Oo, Oo, Oo, Oo, Oo, Oo, Oo, Oo, Oo, Oo, Oo, Oo, Oo, Oo, Oo, Oo, Oo, Oo, Oo, Oo, Oo, Oo, Oo, Oo, Oo, Oo, Oo, Oo, Oo, Oo, Oo, Oo, Oo, Oo, Oo, Oo, Oo, Oo, Oo, Oo, Oo, Oo, Oo, Oo, Oo, Oo, Oo, Oo, Oo, Oo, Oo, Oo, Oo, Oo, Oo, Oo, Oo, Oo, Oo, Oo, Oo, Oo, Oo, Oo, Oo, Oo, Oo, Oo, Oo, Oo, Oo, Oo, Oo, Oo, Oo, Oo, Oo, Oo, Oo, Oo, Oo, Oo, Oo, Oo, Oo, Oo, Oo, Oo, Oo, Oo, Oo, Oo, Oo, Oo, Oo, Oo, Oo, Oo, Oo, Oo, Oo, Oo, Oo, Oo, Oo, Oo, Oo, Oo, Oo, Oo, Oo, Oo, Oo, Oo, Oo, Oo, Oo, Oo, Oo, Oo, Oo, Oo, Oo, Oo, Oo, Oo, Oo, Oo, Oo, Oo, Oo, Oo, Oo, Oo, Oo, Oo, Oo, Oo, Oo, Oo, Oo, Oo, Oo, Oo, Oo, Oo, Oo, Oo, Oo, Oo, Oo, Oo, Oo, Oo, Oo, Oo, Oo, Oo, Oo, Oo, Oo, Oo, Oo, Oo, Oo, Oo, Oo, Oo, Oo, Oo, Oo, Oo, Oo, Oo, Oo, Oo, Oo, Oo, Oo, Oo, Oo, Oo, Oo, Oo, Oo, Oo, Oo, Oo, Oo, Oo, Oo, Oo, Oo, Oo, Oo, Oo, Oo, Oo, Oo, Oo, Oo, Oo, Oo, Oo, Oo, Oo, Oo, Oo, Oo, Oo, Oo, Oo, Oo, Oo, Oo, Oo, Oo, Oo, Oo], heapL [(⟨0, []⟩, ⟨0, []⟩, ⟨2, [[I n, PL xs]]⟩)], 900⟩) (fun k => n - k.1) ⟨0, Nat.zero_le _⟩ ?_ (fun k => ?_)
  ·
    (apply Le.headZ [_] rfl)
    all_goals (try dsimp only [srcs])
    (case' hfr | hob => (repeat' (first | refine La ?_ ?_ | exact Lc | refine Lo ?_ | refine ⟨⟨_, rfl, ?_⟩, ?_⟩ | refine ObA.box ?_ | refine ObA.frE ?_ | refine ObA.dataE ?_ | refine ARs.agg ?_ | refine ARs.tup ?_ | refine AR.b ?_ | refine AR.iE ?_ | refine AR.e ?_ | refine AR.clo' ARs.nil ?_)))
    all_goals (first | (rfl) | exact Ld)
  obtain ⟨e, he⟩ := k
  simp only
  by_cases hlt2 : e < n
  · have c1 := rowI_get (g := gB) hlt2
    have hHe := hHas e hlt2
    repeat' (first | refine Qa ?_ | ((first | apply Ba | (apply Bb; (· rfl); (· rfl)) | (apply Bc; (· exact nxE)) | (apply Bd; (· rfl); (· rfl); (· exact nxE))); (· first | exact Kz rfl rfl (hHe) (Ad (Ad An)) | exact Ok.bneS rfl rfl rfl (by kernel_rfl) | exact Ok.pe); (first | refine Na ?_ | refine Nb ?_)) | ((first | apply Ca | (apply Cb; (· exact nxE))); (· first | exact Ok.e0); (first | refine Nc ?_ | refine Nd ?_)) | refine Oa ?_ | refine Ob ?_ | ((first | refine Ga (fun h => ?_) (fun h => ?_) | refine AD.gsplit rfl rfl (fun h => ?_) (fun h => ?_)) <;> try (exfalso; omega; done)) | (first | refine AL.gsplitB rfl rfl (fun h => ?_) (fun h => ?_) | refine AD.gsplitB rfl rfl (fun h => ?_) (fun h => ?_)) | refine Fa ?_ | refine Qb ?_ | refine Qc ?_ | refine Qd ?_ | refine Fb ?_ | refine Qe ?_ | refine Wa ?_ | refine Wb ?_ | (refine AW.ite rfl (fun h => ?_) (fun h => ?_) <;> try (exfalso; omega; done)) | refine AW.cond _ rfl (fun h => ?_) (fun h => ?_) | refine Qf ?_ | refine Qg ?_ | refine Qh ?_ | refine Qi ?_ | refine Xa ?_ | refine Xb ?_ | refine Xc ?_ | refine Xd ?_ | refine Fc ?_)
    refine ⟨⟨e + 1, by omega⟩, ?_, by simp only; omega⟩
    (apply Le.headZ [_] rfl)
    all_goals (try dsimp only [srcs])
    (case' hfr | hob => (repeat' (first | refine La ?_ ?_ | exact Lc | refine Lo ?_ | refine ⟨⟨_, rfl, ?_⟩, ?_⟩ | refine ObA.box ?_ | refine ObA.frE ?_ | refine ObA.dataE ?_ | refine ARs.agg ?_ | refine ARs.tup ?_ | refine AR.b ?_ | refine AR.iE ?_ | refine AR.e ?_ | refine AR.clo' ARs.nil ?_)))
    all_goals (first | (rfl) | exact Ld)
  · obtain rfl : e = n := by omega
    repeat' (first | refine Qa ?_ | ((first | apply Ba | (apply Bb; (· rfl); (· rfl)) | (apply Bc; (· exact nxE)) | (apply Bd; (· rfl); (· rfl); (· exact nxE))); (· first | exact Ok.pe); (first | refine Na ?_ | refine Nb ?_)) | ((first | apply Ca | (apply Cb; (· exact nxE))); (· first | exact Ok.e0); (first | refine Nc ?_ | refine Nd ?_)) | refine Oa ?_ | refine Ob ?_ | ((first | refine Ga (fun h => ?_) (fun h => ?_) | refine AD.gsplit rfl rfl (fun h => ?_) (fun h => ?_)) <;> try (exfalso; omega; done)) | (first | refine AL.gsplitB rfl rfl (fun h => ?_) (fun h => ?_) | refine AD.gsplitB rfl rfl (fun h => ?_) (fun h => ?_)) | refine Fa ?_ | refine Qb ?_ | refine Qc ?_ | refine Qd ?_ | refine Fb ?_ | refine Qe ?_ | refine Wa ?_ | refine Wb ?_ | (refine AW.ite rfl (fun h => ?_) (fun h => ?_) <;> try (exfalso; omega; done)) | refine AW.cond _ rfl (fun h => ?_) (fun h => ?_) | refine Qf ?_ | refine Qg ?_ | refine Qh ?_ | refine Qi ?_ | refine Xa ?_ | refine Xb ?_ | refine Xc ?_ | refine Xd ?_ | refine Fc ?_)
    refine Ya ?_
    (apply Le.headZ (hs := []) [] rfl)
    all_goals (try dsimp only [srcs])
    (case' hfr => (repeat' (first | refine La ?_ ?_ | exact Lc | refine Lo ?_ | refine ⟨⟨_, rfl, ?_⟩, ?_⟩ | refine ObA.box ?_ | refine ObA.frE ?_ | refine ObA.dataE ?_ | refine ARs.agg ?_ | refine ARs.tup ?_ | refine AR.b ?_ | refine AR.iE ?_ | refine AR.e ?_ | refine AR.clo' ARs.nil ?_)))
    all_goals (first | exact Ld | exact trivial | ((simp; done)))
end Go.Proofs.Ytegfjedklebbfaa
