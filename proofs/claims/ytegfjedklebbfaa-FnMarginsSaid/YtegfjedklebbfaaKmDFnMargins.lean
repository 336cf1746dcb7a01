/-
  The law FnMargins, in the abstract reading.
-/
import Derived.Test.YtegfjedklebbfaaKmU8
import Derived.Test.YtegfjedklebbfaaKmU9
import Derived.Test.YtegfjedklebbfaaKmU11
namespace Go.Proofs.Ytegfjedklebbfaa
set_option linter.unusedSimpArgs false
set_option linter.unusedVariables false
open Go Go.RowKit
attribute [local irreducible] AL AD AW OpOk Le AC thenQ blockQ EndQ

theorem frzI2 {P : Program} {f : FuncId} {args : List AV} {n : Nat} {d : D} {xs : List Int} (hc : AC P f args H0 (.tup [own1 1 n, .d d]) (hp1 (IO xs))) (hn : xs.length = n) : AC P f args H0 (.tup [IL xs, .d d]) H0 :=
  hc.frz (ARs.tup (.cons (AR.whole rfl trivial (by rw [IR_len]; exact hn)) (.cons (.dd _) .nil)))
theorem criF_get {g : Nat → Int} {n k : Nat} (h : k < (criF g n).length) : ∃ i, i < n ∧ g i = 0 ∧ (criF g n)[k]? = some (i : Int) := by
  unfold criF cN at *
  rw [List.length_map] at h
  have hm := List.getElem_mem h
  rw [List.mem_filter, List.mem_range, decide_eq_true_eq] at hm
  exact ⟨_, hm.1, hm.2, by rw [List.getElem?_map, List.getElem?_eq_getElem h]; rfl⟩
set_option maxRecDepth 100000 in
set_option maxHeartbeats 8000000 in
theorem lawFnMargins_ac (code : List Int) (hl : code.length ≤ 9223372036854775807) (hb : ∀ b ∈ code, 0 ≤ b ∧ b ≤ 255) : AC Try.prog 4 [.d (BD code)] H0 (Bo true) H0 := by
  have hBig := big_ac code hl
  by_cases hbig : 4096 < (code.length : Int)
  ·
    refine AC.of_body 0 Try.func4 rfl (fun l h => absurd rfl h) (fun C hC => ?_)
    have hD : ∀ l, ¬ C.D0 l := fun l h => (hC l).1 h rfl
    simp only [startFr, Try.ntmps4, List.length_cons, List.length_nil, Nat.reduceAdd, Nat.reduceSub, List.replicate_succ, List.replicate_zero, List.cons_append, List.nil_append]
    repeat' (first | ((first | apply Ba | (apply Bb; (· rfl); (· rfl)) | (apply Bc; (· exact nxE)) | (apply Bd; (· rfl); (· rfl); (· exact nxE))); (· first | exact Kz rfl rfl (hBig) (Ad An) | exact Ok.pe)) | ((first | apply Ca | (apply Cb; (· exact nxE))); (· first | exact Ok.e0)) | refine Sx ?_ | (refine Sy (fun h => ?_) (fun h => ?_) <;> try (exfalso; omega; done)) | refine Sz (fun h => ?_) (fun h => ?_))
    refine Ya ?_
    (apply Le.headZ (hs := []) [] rfl)
    all_goals (try dsimp only [srcs])
    (case' hfr => (repeat' (first | refine La ?_ ?_ | exact Lc | refine Lo ?_ | refine ⟨⟨_, rfl, ?_⟩, ?_⟩ | refine Lx ?_)))
    all_goals (first | exact Ld | exact trivial | (rfl))
  have hc : CodeOk code := ⟨by omega, hb⟩
  obtain ⟨ev, xs, hev, hx, hG1⟩ := drawMarginsOf_ex code hc
  obtain ⟨ev2, ys, j, _, hy, hG2⟩ := drawMarginOf_ex code hc
  have hI1 := frzI2 (iMarginsOfZ_ac ev xs (by omega)) rfl
  have hS1 := sMarginsOf_ac ev xs (by omega)
  have hI2 := iMarginOf_ac ev2 ys j (by omega)
  have hS2 := sMarginOf_ac ev2 ys j (by omega)
  have hI3 := frzI2 (iCriticalPlacesZ_ac ev xs (by omega)) rfl
  have hS3 := sCriticalPlaces_ac ev xs (by omega)
  have hmg : (mgL ev xs).length ≤ 1000 := by unfold mgL; split <;> simp [rowF_len]; omega
  have hcg : (crL ev xs).length ≤ 1000 := by
    unfold crL
    split
    · have := criF_le (g := mgG ev xs) (k := xs.length); omega
    · simp
  have hL1 := likeInts_refl (mgL ev xs) (by omega)
  have hL2 := likeInts_refl (crL ev xs) (by omega)
  generalize moV ev2 ys j = v2 at *
  generalize cqC ev2 ys (wi j 0 ((ys.length : Int) - 1)) = c2 at *
  by_cases h0 : cqC ev xs true = 0
  case neg =>
    generalize cqC ev xs true = c at *
    generalize mgL ev xs = M at *
    generalize crL ev xs = L at *
    refine AC.of_body 0 Try.func4 rfl (fun l h => absurd rfl h) (fun C hC => ?_)
    have hD : ∀ l, ¬ C.D0 l := fun l h => (hC l).1 h rfl
    simp only [startFr, Try.ntmps4, List.length_cons, List.length_nil, Nat.reduceAdd, Nat.reduceSub, List.replicate_succ, List.replicate_zero, List.cons_append, List.nil_append]
    repeat' (first | ((first | apply Ba | (apply Bb; (· rfl); (· rfl)) | (apply Bc; (· exact nxE)) | (apply Bd; (· rfl); (· rfl); (· exact nxE))); (· first | exact Kz rfl rfl (hBig) (Ad An) | exact Kz rfl rfl (hG1) (Ad An) | exact Kz rfl rfl (hG2) (Ad An) | exact Kz rfl rfl (hI1) (Aa (Ad (Ad An)) An) | exact Kz rfl rfl (hS1) (Aa (Ad (Ad An)) An) | exact Kz rfl rfl (hI2) (Aa (Ad (Ad An)) (Ad An)) | exact Kz rfl rfl (hS2) (Aa (Ad (Ad An)) (Ad An)) | exact Kz rfl rfl (hI3) (Aa (Ad (Ad An)) An) | exact Kz rfl rfl (hS3) (Aa (Ad (Ad An)) An) | exact Kz rfl rfl (hL1) (Ad (Ad An)) | exact Kz rfl rfl (hL2) (Ad (Ad An)) | exact Ok.pe)) | ((first | apply Ca | (apply Cb; (· exact nxE))); (· first | exact Ok.e0)) | refine Sx ?_ | (refine Sy (fun h => ?_) (fun h => ?_) <;> try (exfalso; omega; done)) | refine Sz (fun h => ?_) (fun h => ?_))
    refine Ya ?_
    (apply Le.headZ (hs := []) [] rfl)
    all_goals (try dsimp only [srcs])
    (case' hfr => (repeat' (first | refine La ?_ ?_ | exact Lc | refine Lo ?_ | refine ⟨⟨_, rfl, ?_⟩, ?_⟩ | refine Lx ?_)))
    all_goals (first | exact Ld | exact trivial | (rfl))
  have hbc : bcC ev xs = 0 := by rw [← in_yes]; exact h0
  have hg := bc_eg hbc
  have hM : mgL ev xs = rowF xs.length (mgN ev xs) := by unfold mgL; rw [if_pos h0]
  have hC : crL ev xs = criF (mgG ev xs) xs.length := by unfold crL; rw [if_pos h0]
  have hpos : 0 < xs.length := by
    obtain ⟨t1, t2, _⟩ := ev_top hbc
    omega
  have hcr : ∀ k, k < (crL ev xs).length → ∃ i, i < xs.length ∧ mgN ev xs i = 0 ∧ (crL ev xs)[k]? = some (i : Int) := fun k hk => by
    rw [hC] at hk ⊢
    obtain ⟨i, i1, i2, i3⟩ := criF_get hk
    exact ⟨i, i1, crit_zero hbc i1 i2, i3⟩
  have hMg : ∀ i, i < xs.length → (IR (mgL ev xs))[((i : Nat) : Int).toNat]? = some [DI (mgN ev xs i)] := fun i hi => by rw [hM, Int.toNat_natCast]; exact IRF_get hi
  have hMl : (mgL ev xs).length = xs.length := by rw [hM, rowF_len]
  have hMl2 : (IR (mgL ev xs)).length = xs.length := by rw [IR_len, hMl]
  have hT1 := iCycleTime_ac ev xs (by omega)
  have hRo := roll_ac code hc
  obtain ⟨q', di, dh, q1, q2, hBe⟩ := below_ex code hc (rollF code code.length) ((mgL ev xs).length : Int) (by omega)
  obtain ⟨q, rfl⟩ : ∃ q : Nat, q' = q := ⟨q'.toNat, by omega⟩
  have hq : q < xs.length := by omega
  obtain ⟨m1, m2, m3, m4, _⟩ := mar_d hbc hq
  have hP1 := iChangePlace_ac ev xs q (mgN ev xs q) ((plA xs q).d + mgN ev xs q) hg hq m3 rfl m4
  obtain ⟨o1, o2⟩ := margin_ok hbc hq
  have hT2 := iCycleTime_ac ev (slowL xs q (mgN ev xs q)) (by rw [slowL_len]; omega)
  rw [hbc] at hT1
  rw [o1, o2] at hT2
  rw [h0] at hI1 hS1 hI3 hS3
  have hrow := pl_row (n := 0) hq
  have hMq := hMg q hq
  by_cases hd : (plA xs q).d + mgN ev xs q < 1000
  · obtain ⟨n1, n2⟩ := margin_more hbc hq hd
    have hP2 := iChangePlace_ac ev xs q (mgN ev xs q + 1) ((plA xs q).d + mgN ev xs q + 1) hg hq (by omega) (by omega) (by omega)
    have hT3 := iCycleTime_ac ev (slowL xs q (mgN ev xs q + 1)) (by rw [slowL_len]; omega)
    have hK := iCompareRatios_ac (ctR ev (slowL xs q (mgN ev xs q + 1))) (ctR ev xs) (ctR_rat n1) (ctR_rat hbc)
    rw [n1] at hT3
    generalize slowL xs q (mgN ev xs q + 1) = ws at *
    generalize slowL xs q (mgN ev xs q) = zs at *
    generalize crI (ctR ev ws) (ctR ev xs) = kk at *
    generalize ctR ev ws = r2 at *
    generalize ctR ev xs = r1 at *
    generalize mgN ev xs = mN at *
    generalize mgL ev xs = M at *
    generalize crL ev xs = L at *
    generalize hpq : plA xs q = p at *
    obtain ⟨pf, pt, pd, pk⟩ := p
    obtain ⟨r11, r12⟩ := r1
    obtain ⟨r21, r22⟩ := r2
    simp only at hrow hP1 hP2 hT1 hT2 hT3 hK hd m1 m2 m4
    refine AC.of_body 0 Try.func4 rfl (fun l h => absurd rfl h) (fun C hC => ?_)
    have hD : ∀ l, ¬ C.D0 l := fun l h => (hC l).1 h rfl
    simp only [startFr, Try.ntmps4, List.length_cons, List.length_nil, Nat.reduceAdd, Nat.reduceSub, List.replicate_succ, List.replicate_zero, List.cons_append, List.nil_append]
    repeat' (first | ((first | apply Ba | (apply Bb; (· rfl); (· rfl)) | (apply Bc; (· exact nxE)) | (apply Bd; (· rfl); (· rfl); (· exact nxE))); (· first | exact Kz rfl rfl (hBig) (Ad An) | exact Kz rfl rfl (hG1) (Ad An) | exact Kz rfl rfl (hG2) (Ad An) | exact Kz rfl rfl (hI1) (Aa (Ad (Ad An)) An) | exact Kz rfl rfl (hS1) (Aa (Ad (Ad An)) An) | exact Kz rfl rfl (hI2) (Aa (Ad (Ad An)) (Ad An)) | exact Kz rfl rfl (hS2) (Aa (Ad (Ad An)) (Ad An)) | exact Kz rfl rfl (hI3) (Aa (Ad (Ad An)) An) | exact Kz rfl rfl (hS3) (Aa (Ad (Ad An)) An) | exact Kz rfl rfl (hL1) (Ad (Ad An)) | exact Kz rfl rfl (hL2) (Ad (Ad An)) | exact Kz rfl rfl (hT1) (Aa (Ad (Ad An)) An) | exact Ok.pe)) | ((first | apply Ca | (apply Cb; (· exact nxE))); (· first | exact Ok.e0)) | refine Sx ?_ | (refine Sy (fun h => ?_) (fun h => ?_) <;> try (exfalso; omega; done)) | refine Sz (fun h => ?_) (fun h => ?_))
    refine AW.loop (X := {k : Nat // k ≤ L.length}) (fun k => ⟨[.d (BD code), Oo, Oo, Bx 2 0, IL M, Oo, Oo, Oo, Oo, Oo, Oo, Oo, Oo, Oo, IL L, Oo, Oo, Oo, Bx 2 1, I 0, I (k.1 : Nat), Oo, Oo, Oo, Oo, Oo, Oo, Oo, Oo, Oo, Oo, Oo, Oo, Oo, Oo, Oo, Oo, Oo, Oo, Oo, Oo, Oo, Oo, Oo, Oo, Oo, Oo, Oo, Oo, Oo, Oo, Oo, Oo, Oo, Oo, Oo, Oo, Oo, Oo, Oo, Oo, Oo, Oo, Oo, Oo, Oo, Oo, Oo, Oo, Oo, Oo, Oo, Oo, Oo, Oo, Oo, Oo, Oo, Oo, Oo, Oo, Oo, Oo, Oo, Oo, Oo, Oo, Oo, Oo, Oo, Oo, Oo, Oo, Oo, Oo, Oo, Oo, Oo, Oo, Oo, Oo, Oo, Oo, Oo, Oo, Oo, Oo, Oo, Oo, Oo, Oo, Oo, Oo, Oo, Oo, Oo, Oo, Oo, Oo, Oo, Oo, Oo, Oo, Oo, Oo, Oo, Oo, Oo, Oo, Oo, Oo, Oo, Oo, Oo, Oo, Oo, Oo, Oo, Oo, Oo, Oo, Oo, Oo, Oo, Oo, Oo, Oo, Oo, Oo, Oo, Oo, Oo, Oo, Oo, Oo, Oo, Oo, Oo, Oo, Oo, Oo, Oo, Oo, Oo, Oo, Oo, Oo, Oo, Oo, Oo, Oo, Oo, Oo, Oo, Oo, Oo, Oo, Oo, Oo, Oo, Oo, Oo, Oo, Oo, Oo, Oo, Oo, Oo, Oo, Oo, Oo, Oo, Oo, Oo, Oo, Oo, Oo, Oo, Oo, Oo, Oo, Oo, Oo, Oo, Oo, Oo, Oo, Oo, Oo, Oo, Oo, Oo, Oo, Oo, Oo, Oo, Oo, Oo, Oo, Oo, Oo, Oo], heapL [(⟨0, []⟩, ⟨0, []⟩, ⟨2, [[I ev, PL xs]]⟩), (⟨1, []⟩, ⟨1, []⟩, ⟨2, [[I r11, I r12]]⟩)], 900⟩) (fun k => L.length - k.1) ⟨0, Nat.zero_le _⟩ ?_ (fun k => ?_)
    ·
      (apply Le.headZ [_, _] rfl)
      all_goals (try dsimp only [srcs])
      (case' hfr | hob => (repeat' (first | refine La ?_ ?_ | exact Lc | refine Lo ?_ | refine ⟨⟨_, rfl, ?_⟩, ?_⟩ | refine Lx ?_)))
      all_goals (first | (rfl) | exact Ld)
    obtain ⟨w, hw⟩ := k
    simp only
    by_cases hlt : w < L.length
    · obtain ⟨i, i1, i2, i3⟩ := hcr w hlt
      have hcell := IR_get i3
      have hMi := hMg i i1
      rw [i2] at hMi
      repeat' (first | ((first | apply Ba | (apply Bb; (· rfl); (· rfl)) | (apply Bc; (· exact nxE)) | (apply Bd; (· rfl); (· rfl); (· exact nxE))); (· first | exact Ok.pe)) | ((first | apply Ca | (apply Cb; (· exact nxE))); (· first | exact Ok.e0)) | refine Sx ?_ | (refine Sy (fun h => ?_) (fun h => ?_) <;> try (exfalso; omega; done)) | refine Sz (fun h => ?_) (fun h => ?_))
      refine ⟨⟨w + 1, by omega⟩, ?_, by simp only; omega⟩
      (apply Le.headZ [_, _] rfl)
      all_goals (try dsimp only [srcs])
      (case' hfr | hob => (repeat' (first | refine La ?_ ?_ | exact Lc | refine Lo ?_ | refine ⟨⟨_, rfl, ?_⟩, ?_⟩ | refine Lx ?_)))
      all_goals (first | (rfl) | exact Ld)
    · obtain rfl : w = L.length := by omega
      repeat' (first | ((first | apply Ba | (apply Bb; (· rfl); (· rfl)) | (apply Bc; (· exact nxE)) | (apply Bd; (· rfl); (· rfl); (· exact nxE))); (· first | exact Ok.neqRtS rfl rfl rfl | exact Kz rfl rfl (hP1) (Aa (Ad (Ad An)) (Ad (Ad (Ad An)))) | exact Kz rfl rfl (hP2) (Aa (Ad (Ad An)) (Ad (Ad (Ad An)))) | exact Kz rfl rfl (hT2) (Aa (Ad (Ad An)) An) | exact Kz rfl rfl (hT3) (Aa (Ad (Ad An)) An) | exact Kz rfl rfl (hK) (Aa (Ad (Ad An)) (Aa (Ad (Ad An)) An)) | exact Fo hRo rfl rfl rfl ⟨_, rfl⟩ rfl | exact Ol hBe rfl rfl rfl rfl rfl | exact Ok.pe)) | ((first | apply Ca | (apply Cb; (· exact nxE))); (· first | exact Fo hRo rfl rfl rfl ⟨_, rfl⟩ rfl | exact Ol hBe rfl rfl rfl rfl rfl | exact Ok.e0)) | refine Sx ?_ | (refine Sy (fun h => ?_) (fun h => ?_) <;> try (exfalso; omega; done)) | refine Sz (fun h => ?_) (fun h => ?_))
      all_goals
        refine Ya ?_
        (apply Le.headZ (hs := []) [] rfl)
        all_goals (try dsimp only [srcs])
        (case' hfr => (repeat' (first | refine La ?_ ?_ | exact Lc | refine Lo ?_ | refine ⟨⟨_, rfl, ?_⟩, ?_⟩ | refine Lx ?_)))
        all_goals (first | exact Ld | exact trivial | (first | rfl | exact (decide_eq_true (by omega)).symm))
  · have hP2 := iChangePlaceN_ac ev xs q ((plA xs q).d + mgN ev xs q + 1) hg hq (by omega)
    generalize slowL xs q (mgN ev xs q) = zs at *
    generalize ctR ev xs = r1 at *
    generalize mgN ev xs = mN at *
    generalize mgL ev xs = M at *
    generalize crL ev xs = L at *
    generalize hpq : plA xs q = p at *
    obtain ⟨pf, pt, pd, pk⟩ := p
    obtain ⟨r11, r12⟩ := r1
    simp only at hrow hP1 hP2 hT1 hT2 hd m1 m2 m4
    refine AC.of_body 0 Try.func4 rfl (fun l h => absurd rfl h) (fun C hC => ?_)
    have hD : ∀ l, ¬ C.D0 l := fun l h => (hC l).1 h rfl
    simp only [startFr, Try.ntmps4, List.length_cons, List.length_nil, Nat.reduceAdd, Nat.reduceSub, List.replicate_succ, List.replicate_zero, List.cons_append, List.nil_append]
    repeat' (first | ((first | apply Ba | (apply Bb; (· rfl); (· rfl)) | (apply Bc; (· exact nxE)) | (apply Bd; (· rfl); (· rfl); (· exact nxE))); (· first | exact Kz rfl rfl (hBig) (Ad An) | exact Kz rfl rfl (hG1) (Ad An) | exact Kz rfl rfl (hG2) (Ad An) | exact Kz rfl rfl (hI1) (Aa (Ad (Ad An)) An) | exact Kz rfl rfl (hS1) (Aa (Ad (Ad An)) An) | exact Kz rfl rfl (hI2) (Aa (Ad (Ad An)) (Ad An)) | exact Kz rfl rfl (hS2) (Aa (Ad (Ad An)) (Ad An)) | exact Kz rfl rfl (hI3) (Aa (Ad (Ad An)) An) | exact Kz rfl rfl (hS3) (Aa (Ad (Ad An)) An) | exact Kz rfl rfl (hL1) (Ad (Ad An)) | exact Kz rfl rfl (hL2) (Ad (Ad An)) | exact Kz rfl rfl (hT1) (Aa (Ad (Ad An)) An) | exact Ok.pe)) | ((first | apply Ca | (apply Cb; (· exact nxE))); (· first | exact Ok.e0)) | refine Sx ?_ | (refine Sy (fun h => ?_) (fun h => ?_) <;> try (exfalso; omega; done)) | refine Sz (fun h => ?_) (fun h => ?_))
    refine AW.loop (X := {k : Nat // k ≤ L.length}) (fun k => ⟨[.d (BD code), Oo, Oo, Bx 2 0, IL M, Oo, Oo, Oo, Oo, Oo, Oo, Oo, Oo, Oo, IL L, Oo, Oo, Oo, Bx 2 1, I 0, I (k.1 : Nat), Oo, Oo, Oo, Oo, Oo, Oo, Oo, Oo, Oo, Oo, Oo, Oo, Oo, Oo, Oo, Oo, Oo, Oo, Oo, Oo, Oo, Oo, Oo, Oo, Oo, Oo, Oo, Oo, Oo, Oo, Oo, Oo, Oo, Oo, Oo, Oo, Oo, Oo, Oo, Oo, Oo, Oo, Oo, Oo, Oo, Oo, Oo, Oo, Oo, Oo, Oo, Oo, Oo, Oo, Oo, Oo, Oo, Oo, Oo, Oo, Oo, Oo, Oo, Oo, Oo, Oo, Oo, Oo, Oo, Oo, Oo, Oo, Oo, Oo, Oo, Oo, Oo, Oo, Oo, Oo, Oo, Oo, Oo, Oo, Oo, Oo, Oo, Oo, Oo, Oo, Oo, Oo, Oo, Oo, Oo, Oo, Oo, Oo, Oo, Oo, Oo, Oo, Oo, Oo, Oo, Oo, Oo, Oo, Oo, Oo, Oo, Oo, Oo, Oo, Oo, Oo, Oo, Oo, Oo, Oo, Oo, Oo, Oo, Oo, Oo, Oo, Oo, Oo, Oo, Oo, Oo, Oo, Oo, Oo, Oo, Oo, Oo, Oo, Oo, Oo, Oo, Oo, Oo, Oo, Oo, Oo, Oo, Oo, Oo, Oo, Oo, Oo, Oo, Oo, Oo, Oo, Oo, Oo, Oo, Oo, Oo, Oo, Oo, Oo, Oo, Oo, Oo, Oo, Oo, Oo, Oo, Oo, Oo, Oo, Oo, Oo, Oo, Oo, Oo, Oo, Oo, Oo, Oo, Oo, Oo, Oo, Oo, Oo, Oo, Oo, Oo, Oo, Oo, Oo, Oo, Oo, Oo, Oo, Oo, Oo, Oo], heapL [(⟨0, []⟩, ⟨0, []⟩, ⟨2, [[I ev, PL xs]]⟩), (⟨1, []⟩, ⟨1, []⟩, ⟨2, [[I r11, I r12]]⟩)], 900⟩) (fun k => L.length - k.1) ⟨0, Nat.zero_le _⟩ ?_ (fun k => ?_)
    ·
      (apply Le.headZ [_, _] rfl)
      all_goals (try dsimp only [srcs])
      (case' hfr | hob => (repeat' (first | refine La ?_ ?_ | exact Lc | refine Lo ?_ | refine ⟨⟨_, rfl, ?_⟩, ?_⟩ | refine Lx ?_)))
      all_goals (first | (rfl) | exact Ld)
    obtain ⟨w, hw⟩ := k
    simp only
    by_cases hlt : w < L.length
    · obtain ⟨i, i1, i2, i3⟩ := hcr w hlt
      have hcell := IR_get i3
      have hMi := hMg i i1
      rw [i2] at hMi
      repeat' (first | ((first | apply Ba | (apply Bb; (· rfl); (· rfl)) | (apply Bc; (· exact nxE)) | (apply Bd; (· rfl); (· rfl); (· exact nxE))); (· first | exact Ok.pe)) | ((first | apply Ca | (apply Cb; (· exact nxE))); (· first | exact Ok.e0)) | refine Sx ?_ | (refine Sy (fun h => ?_) (fun h => ?_) <;> try (exfalso; omega; done)) | refine Sz (fun h => ?_) (fun h => ?_))
      refine ⟨⟨w + 1, by omega⟩, ?_, by simp only; omega⟩
      (apply Le.headZ [_, _] rfl)
      all_goals (try dsimp only [srcs])
      (case' hfr | hob => (repeat' (first | refine La ?_ ?_ | exact Lc | refine Lo ?_ | refine ⟨⟨_, rfl, ?_⟩, ?_⟩ | refine Lx ?_)))
      all_goals (first | (rfl) | exact Ld)
    · obtain rfl : w = L.length := by omega
      repeat' (first | ((first | apply Ba | (apply Bb; (· rfl); (· rfl)) | (apply Bc; (· exact nxE)) | (apply Bd; (· rfl); (· rfl); (· exact nxE))); (· first | exact Ok.neqRtS rfl rfl rfl | exact Kz rfl rfl (hP1) (Aa (Ad (Ad An)) (Ad (Ad (Ad An)))) | exact Kz rfl rfl (hP2) (Aa (Ad (Ad An)) (Ad (Ad (Ad An)))) | exact Kz rfl rfl (hT2) (Aa (Ad (Ad An)) An) | exact Fo hRo rfl rfl rfl ⟨_, rfl⟩ rfl | exact Ol hBe rfl rfl rfl rfl rfl | exact Ok.pe)) | ((first | apply Ca | (apply Cb; (· exact nxE))); (· first | exact Fo hRo rfl rfl rfl ⟨_, rfl⟩ rfl | exact Ol hBe rfl rfl rfl rfl rfl | exact Ok.e0)) | refine Sx ?_ | (refine Sy (fun h => ?_) (fun h => ?_) <;> try (exfalso; omega; done)) | refine Sz (fun h => ?_) (fun h => ?_))
      all_goals
        refine Ya ?_
        (apply Le.headZ (hs := []) [] rfl)
        all_goals (try dsimp only [srcs])
        (case' hfr => (repeat' (first | refine La ?_ ?_ | exact Lc | refine Lo ?_ | refine ⟨⟨_, rfl, ?_⟩, ?_⟩ | refine Lx ?_)))
        all_goals (first | exact Ld | exact trivial | (first | rfl | exact (decide_eq_true (by omega)).symm))
end Go.Proofs.Ytegfjedklebbfaa
