/-
  Walks in the abstract reading, part 10.
-/
import Derived.Test.YtegfjedklebbfaaKmU9
import Derived.Test.YtegfjedklebbfaaKmU8
import Derived.Test.YtegfjedklebbfaaKmA3
import Derived.Test.YtegfjedklebbfaaKmU5
import Derived.Test.YtegfjedklebbfaaKmU3
section
namespace Go.Proofs.Ytegfjedklebbfaa
set_option linter.unusedSimpArgs false
set_option linter.unusedVariables false
open Go Go.RowKit
attribute [local irreducible] AL AD AW OpOk Le AC thenQ blockQ EndQ

theorem bc_star {ev : Int} {xs : List Pl} (hC : bcC ev xs = 0) : ∃ n : Nat, ev = n ∧ 1 ≤ n ∧ n ≤ 10 ∧ xs.length ≤ 30 ∧ (∀ p ∈ xs, okPl n p) ∧ Live xs n ∧ hasC xs ∧ ctR ev xs = maxR xs ∧ (0 ≤ (maxR xs).1 ∧ (maxR xs).1 ≤ 100000) ∧ (0 < (maxR xs).2 ∧ (maxR xs).2 ≤ 50) ∧ StarM (wmT n xs (maxR xs)) n := by
  have h0 : liveI ev xs = 0 := by
    unfold bcC at hC
    by_cases h : liveI ev xs = 0
    · exact h
    · rw [if_neg h] at hC; exact hC
  have hc : hasC xs := by
    unfold bcC at hC
    rw [if_pos h0] at hC
    exact Classical.byContradiction fun h => by rw [if_neg h] at hC; exact absurd hC (by decide)
  obtain ⟨n, rfl, h1, h2, h3, h4, h5⟩ := live_ok h0
  obtain ⟨c, e1, e2, e3⟩ := h5.best h2 hc
  obtain ⟨g1, g2, g3⟩ := h5.circ e2
  obtain ⟨q1, q2, _⟩ := h5.red h2 g1 e2.wk.lt g3.1
  rw [e3] at q1 q2
  exact ⟨n, rfl, h1, h2, h3, h4, h5, hc, by unfold ctR; rw [if_pos hC], q1, q2, starM_wm h2 h1 h4 (h5.isMax h2 hc) q1 ⟨by omega, q2.2⟩⟩
noncomputable def mgG (ev : Int) (xs : List Pl) : Nat → Int := gapI xs (maxR xs).1 (maxR xs).2 (starF (entN (wmT ev.toNat xs (maxR xs))) ev.toNat)
noncomputable def mgN (ev : Int) (xs : List Pl) : Nat → Int := marI xs (maxR xs).2 (mgG ev xs)
noncomputable def moV (ev : Int) (xs : List Pl) (i : Int) : Int := if cqC ev xs (wi i 0 ((xs.length : Int) - 1)) = 0 then mgN ev xs i.toNat else 0
set_option maxHeartbeats 2000000 in
theorem sMarginOf_ac (ev : Int) (xs : List Pl) (i : Int) (hx : xs.length ≤ 100000000) : AC Try.prog 33 [grD ev xs, I i] H0 (.tup [I (moV ev xs i), I (cqC ev xs (wi i 0 ((xs.length : Int) - 1)))]) H0 := by
  have hI := l01In_ac i 0 ((xs.length : Int) - 1)
  have hq := l27Code_ac ev xs (wi i 0 ((xs.length : Int) - 1)) hx
  unfold moV
  by_cases hc : cqC ev xs (wi i 0 ((xs.length : Int) - 1)) = 0
  · rw [if_pos hc]
    obtain ⟨c1, c2, c3⟩ := cqC_ok hc
    obtain ⟨i', rfl⟩ : ∃ n : Nat, i = n := ⟨i.toNat, by have := wi_iff.1 c2; omega⟩
    have hi : i' < xs.length := by have := wi_iff.1 c2; omega
    have hr : cqR ev xs (wi i' 0 ((xs.length : Int) - 1)) = maxR xs := by
      obtain ⟨n, rfl, _, _, _, _, _, _, h8, _⟩ := bc_star c3
      unfold cqR
      rw [if_pos, h8]
      unfold cqC at hc
      by_cases h : codeI n xs (wi i' 0 ((xs.length : Int) - 1)) = 0
      · exact h
      · rw [if_neg h] at hc; exact absurd hc h
    rw [hr] at hq
    rw [hc] at hq ⊢
    obtain ⟨n, rfl, h1, h2, h3, h4, h5, h6, h8, h9, h10, h11⟩ := bc_star c3
    have hM := (l27Margins_ac n xs (maxR xs).1 (maxR xs).2 (by omega) h4 h9 h10 h11).frz (AR.whole (lent := fun _ => True) rfl trivial (by rw [IR_len, rowF_len]))
    have hg : marI xs (maxR xs).2 (gapI xs (maxR xs).1 (maxR xs).2 (starF (entN (wmT n xs ((maxR xs).1, (maxR xs).2))) n)) = mgN n xs := by
      unfold mgN mgG; rw [Int.toNat_natCast]
    rw [hg] at hM
    rw [Int.toNat_natCast]
    have hgl : (IR (rowF xs.length (mgN n xs))).length = xs.length := by rw [IR_len, rowF_len]
    have hcell : (IR (rowF xs.length (mgN n xs)))[((i' : Nat) : Int).toNat]? = some [DI (mgN n xs i')] := IRF_get hi
    generalize mgN n xs = g at *
    generalize maxR xs = r at *
    refine AC.of_body 0 Try.func33 rfl (fun l h => absurd rfl h) (fun C hC => ?_)
    have hD : ∀ l, ¬ C.D0 l := fun l h => (hC l).1 h rfl
    simp only [startFr, Try.ntmps33, List.length_cons, List.length_nil, Nat.reduceAdd, Nat.reduceSub, List.replicate_succ, List.replicate_zero, List.cons_append, List.nil_append]
    repeat' (first | ((first | apply Ba | (apply Bb; (· rfl); (· rfl)) | (apply Bc; (· exact nxE)) | (apply Bd; (· rfl); (· rfl); (· exact nxE))); (· first | exact Kz rfl rfl (hI) (Ad (Ad (Ad An))) | exact Kz rfl rfl (hq) (Aa (Ad (Ad An)) (Ad An)) | exact Kz rfl rfl (hM) (Aa (Ad (Ad An)) (Aa (Ad (Ad An)) An)) | exact Ok.pe)) | ((first | apply Ca | (apply Cb; (· exact nxE))); (· first | exact Ok.e0)) | refine Sx ?_ | (refine Sy (fun h => ?_) (fun h => ?_) <;> try (exfalso; omega; done)) | refine Sz (fun h => ?_) (fun h => ?_))
    refine Yb ?_
    (apply Le.headZ (hs := []) [] rfl)
    all_goals (try dsimp only [srcs])
    (case' hfr => (repeat' (first | refine La ?_ ?_ | exact Lc | refine Lo ?_ | refine ⟨⟨_, rfl, ?_⟩, ?_⟩ | refine Lx ?_)))
    all_goals (first | exact Ld | exact trivial | (rfl))
  · rw [if_neg hc]
    generalize wi i 0 ((xs.length : Int) - 1) = vb at *
    refine AC.of_body 0 Try.func33 rfl (fun l h => absurd rfl h) (fun C hC => ?_)
    have hD : ∀ l, ¬ C.D0 l := fun l h => (hC l).1 h rfl
    simp only [startFr, Try.ntmps33, List.length_cons, List.length_nil, Nat.reduceAdd, Nat.reduceSub, List.replicate_succ, List.replicate_zero, List.cons_append, List.nil_append]
    repeat' (first | ((first | apply Ba | (apply Bb; (· rfl); (· rfl)) | (apply Bc; (· exact nxE)) | (apply Bd; (· rfl); (· rfl); (· exact nxE))); (· first | exact Kz rfl rfl (hI) (Ad (Ad (Ad An))) | exact Kz rfl rfl (hq) (Aa (Ad (Ad An)) (Ad An)) | exact Ok.pe)) | ((first | apply Ca | (apply Cb; (· exact nxE))); (· first | exact Ok.e0)) | refine Sx ?_ | (refine Sy (fun h => ?_) (fun h => ?_) <;> try (exfalso; omega; done)) | refine Sz (fun h => ?_) (fun h => ?_))
    refine Yb ?_
    (apply Le.headZ (hs := []) [] rfl)
    all_goals (try dsimp only [srcs])
    (case' hfr => (repeat' (first | refine La ?_ ?_ | exact Lc | refine Lo ?_ | refine ⟨⟨_, rfl, ?_⟩, ?_⟩ | refine Lx ?_)))
    all_goals (first | exact Ld | exact trivial | (rfl))
end Go.Proofs.Ytegfjedklebbfaa
end

section
namespace Go.Proofs.Ytegfjedklebbfaa
set_option linter.unusedSimpArgs false
set_option linter.unusedVariables false
open Go Go.RowKit
attribute [local irreducible] AL AD AW OpOk Le AC thenQ blockQ EndQ

noncomputable def mgL (ev : Int) (xs : List Pl) : List Int := if cqC ev xs true = 0 then rowF xs.length (mgN ev xs) else []
/-- What a code of 0 tells of both calls. -/
theorem cq_star {ev : Int} {xs : List Pl} (hc : cqC ev xs true = 0) : cqR ev xs true = maxR xs ∧ bcC ev xs = 0 := by
  obtain ⟨c1, c2, c3⟩ := cqC_ok hc
  refine ⟨?_, c3⟩
  obtain ⟨n, rfl, _, _, _, _, _, _, h8, _⟩ := bc_star c3
  unfold cqR
  rw [if_pos, h8]
  unfold cqC at hc
  by_cases h : codeI n xs true = 0
  · exact h
  · rw [if_neg h] at hc; exact absurd hc h
set_option maxHeartbeats 2000000 in
theorem sMarginsOf_ac (ev : Int) (xs : List Pl) (hx : xs.length ≤ 100000000) : AC Try.prog 30 [grD ev xs] H0 (.tup [IL (mgL ev xs), I (cqC ev xs true)]) H0 := by
  have hq := l27Code_ac ev xs true hx
  unfold mgL
  by_cases hc : cqC ev xs true = 0
  · rw [if_pos hc]
    obtain ⟨hr, c3⟩ := cq_star hc
    rw [hr] at hq
    rw [hc] at hq ⊢
    obtain ⟨n, rfl, h1, h2, h3, h4, h5, h6, h8, h9, h10, h11⟩ := bc_star c3
    have hM := (l27Margins_ac n xs (maxR xs).1 (maxR xs).2 (by omega) h4 h9 h10 h11).frz (AR.whole (lent := fun _ => True) rfl trivial (by rw [IR_len, rowF_len]))
    have hg : marI xs (maxR xs).2 (gapI xs (maxR xs).1 (maxR xs).2 (starF (entN (wmT n xs ((maxR xs).1, (maxR xs).2))) n)) = mgN n xs := by
      unfold mgN mgG; rw [Int.toNat_natCast]
    rw [hg] at hM
    have hgl : (IR (rowF xs.length (mgN n xs))).length = xs.length := by rw [IR_len, rowF_len]
    generalize mgN n xs = g at *
    generalize maxR xs = r at *
    refine AC.of_body 0 Try.func30 rfl (fun l h => absurd rfl h) (fun C hC => ?_)
    have hD : ∀ l, ¬ C.D0 l := fun l h => (hC l).1 h rfl
    simp only [startFr, Try.ntmps30, List.length_cons, List.length_nil, Nat.reduceAdd, Nat.reduceSub, List.replicate_succ, List.replicate_zero, List.cons_append, List.nil_append]
    repeat' (first | ((first | apply Ba | (apply Bb; (· rfl); (· rfl)) | (apply Bc; (· exact nxE)) | (apply Bd; (· rfl); (· rfl); (· exact nxE))); (· first | exact Kz rfl rfl (hq) (Aa (Ad (Ad An)) (Ad An)) | exact Kz rfl rfl (hM) (Aa (Ad (Ad An)) (Aa (Ad (Ad An)) An)) | exact Ok.pe)) | ((first | apply Ca | (apply Cb; (· exact nxE))); (· first | exact Ok.e0)) | refine Sx ?_ | (refine Sy (fun h => ?_) (fun h => ?_) <;> try (exfalso; omega; done)) | refine Sz (fun h => ?_) (fun h => ?_))
    refine Yb ?_
    (apply Le.headZ (hs := []) [] rfl)
    all_goals (try dsimp only [srcs])
    (case' hfr => (repeat' (first | refine La ?_ ?_ | exact Lc | refine Lo ?_ | refine ⟨⟨_, rfl, ?_⟩, ?_⟩ | refine Lx ?_)))
    all_goals (first | exact Ld | exact trivial | (rfl))
  · rw [if_neg hc]
    refine AC.of_body 0 Try.func30 rfl (fun l h => absurd rfl h) (fun C hC => ?_)
    have hD : ∀ l, ¬ C.D0 l := fun l h => (hC l).1 h rfl
    simp only [startFr, Try.ntmps30, List.length_cons, List.length_nil, Nat.reduceAdd, Nat.reduceSub, List.replicate_succ, List.replicate_zero, List.cons_append, List.nil_append]
    repeat' (first | ((first | apply Ba | (apply Bb; (· rfl); (· rfl)) | (apply Bc; (· exact nxE)) | (apply Bd; (· rfl); (· rfl); (· exact nxE))); (· first | exact Kz rfl rfl (hq) (Aa (Ad (Ad An)) (Ad An)) | exact Ok.pe)) | ((first | apply Ca | (apply Cb; (· exact nxE))); (· first | exact Ok.e0)) | refine Sx ?_ | (refine Sy (fun h => ?_) (fun h => ?_) <;> try (exfalso; omega; done)) | refine Sz (fun h => ?_) (fun h => ?_))
    refine Yb ?_
    (apply Le.headZ (hs := []) [] rfl)
    all_goals (try dsimp only [srcs])
    (case' hfr => (repeat' (first | refine La ?_ ?_ | exact Lc | refine Lo ?_ | refine ⟨⟨_, rfl, ?_⟩, ?_⟩ | refine Lx ?_)))
    all_goals (first | exact Ld | exact trivial | (rfl))
def criF (g : Nat → Int) (k : Nat) : List Int := cN ((List.range k).filter fun e => decide (g e = 0))
theorem criF_yes {g : Nat → Int} {k : Nat} (h : g k = 0) : criF g (k + 1) = criF g k ++ [(k : Int)] := by simp [criF, List.range_succ, List.filter_append, h]
theorem criF_no {g : Nat → Int} {k : Nat} (h : ¬ g k = 0) : criF g (k + 1) = criF g k := by simp [criF, List.range_succ, List.filter_append, h]
theorem criF_le {g : Nat → Int} {k : Nat} : (criF g k).length ≤ k := by
  unfold criF
  simp only [List.length_map]
  exact Nat.le_trans (List.length_filter_le _ _) (by simp)
noncomputable def crL (ev : Int) (xs : List Pl) : List Int := if cqC ev xs true = 0 then criF (mgG ev xs) xs.length else []
set_option maxHeartbeats 2000000 in
theorem sCriticalPlaces_ac (ev : Int) (xs : List Pl) (hx : xs.length ≤ 100000000) : AC Try.prog 35 [grD ev xs] H0 (.tup [IL (crL ev xs), I (cqC ev xs true)]) H0 := by
  have hq := l27Code_ac ev xs true hx
  unfold crL
  by_cases hc : cqC ev xs true = 0
  · rw [if_pos hc]
    obtain ⟨hr, c3⟩ := cq_star hc
    rw [hr] at hq
    rw [hc] at hq ⊢
    obtain ⟨n, rfl, h1, h2, h3, h4, h5, h6, h8, h9, h10, h11⟩ := bc_star c3
    have hM := (l27Gaps_ac n xs (maxR xs).1 (maxR xs).2 (by omega) h4 h9 ⟨by omega, h10.2⟩ h11).frz (AR.whole (lent := fun _ => True) rfl trivial (by rw [IR_len, rowF_len]))
    have hg : gapI xs (maxR xs).1 (maxR xs).2 (starF (entN (wmT n xs ((maxR xs).1, (maxR xs).2))) n) = mgG n xs := by
      unfold mgG; rw [Int.toNat_natCast]
    rw [hg] at hM
    have hgl : (IR (rowF xs.length (mgG n xs))).length = xs.length := by rw [IR_len, rowF_len]
    have hgl2 : (rowF xs.length (mgG n xs)).length = xs.length := rowF_len
    generalize mgG n xs = g at *
    generalize maxR xs = r at *
    refine AC.of_body 0 Try.func35 rfl (fun l h => absurd rfl h) (fun C hC => ?_)
    have hD : ∀ l, ¬ C.D0 l := fun l h => (hC l).1 h rfl
    simp only [startFr, Try.ntmps35, List.length_cons, List.length_nil, Nat.reduceAdd, Nat.reduceSub, List.replicate_succ, List.replicate_zero, List.cons_append, List.nil_append]
    repeat' (first | ((first | apply Ba | (apply Bb; (· rfl); (· rfl)) | (apply Bc; (· exact nxE)) | (apply Bd; (· rfl); (· rfl); (· exact nxE))); (· first | exact Kz rfl rfl (hq) (Aa (Ad (Ad An)) (Ad An)) | exact Kz rfl rfl (hM) (Aa (Ad (Ad An)) (Aa (Ad (Ad An)) An)) | exact Ok.pe)) | ((first | apply Ca | (apply Cb; (· exact nxE))); (· first | exact Ok.e0)) | refine Sx ?_ | (refine Sy (fun h => ?_) (fun h => ?_) <;> try (exfalso; omega; done)) | refine Sz (fun h => ?_) (fun h => ?_))
    refine AW.loop (X := {k : Nat // k ≤ xs.length}) (fun k => ⟨[Oo, Oo, Oo, Oo, Oo, Oo, IL (rowF xs.length g), .own 1 ⟨1, []⟩ 0 (criF g (k.1 : Nat)).length, I (k.1 : Nat), Oo, Oo, Oo, Oo, Oo, Oo, Oo, Oo, Oo, Oo, Oo, Oo, Oo, Oo, Oo, Oo, Oo, Oo, Oo, Oo, Oo, Oo, Oo, Oo, Oo, Oo, Oo, Oo], heapL [(⟨1, []⟩, ⟨1, []⟩, IO (criF g k.1))], 900⟩) (fun k => xs.length - k.1) ⟨0, Nat.zero_le _⟩ ?_ (fun k => ?_)
    ·
      (apply Le.headZ [_] rfl)
      all_goals (try dsimp only [srcs])
      (case' hfr | hob => (repeat' (first | refine La ?_ ?_ | exact Lc | refine Lo ?_ | refine ⟨⟨_, rfl, ?_⟩, ?_⟩ | refine Lx ?_)))
      all_goals (first | (rfl) | exact Ld)
    obtain ⟨k, hk⟩ := k
    simp only
    by_cases hlt : k < xs.length
    ·
      have hcell : (IR (rowF xs.length g))[((k : Nat) : Int).toNat]? = some [DI (g k)] := IRF_get hlt
      have hle := criF_le (g := g) (k := k)
      repeat' (first | ((first | apply Ba | (apply Bb; (· rfl); (· rfl)) | (apply Bc; (· exact nxE)) | (apply Bd; (· rfl); (· rfl); (· exact nxE))); (· first | exact Ok.append1 (row := [DI k]) rfl rfl (by decide) rfl rfl (by simp; done) rfl rfl rfl (by rfl) (by omega) (by omega) | exact Ok.pe)) | ((first | apply Ca | (apply Cb; (· exact nxE))); (· first | exact Ok.append1 (row := [DI k]) rfl rfl (by decide) rfl rfl (by simp; done) rfl rfl rfl (by rfl) (by omega) (by omega) | exact Ok.e0)) | refine Sx ?_ | (refine Sy (fun h => ?_) (fun h => ?_) <;> try (exfalso; omega; done)) | refine Sz (fun h => ?_) (fun h => ?_))
      · refine ⟨⟨k + 1, by omega⟩, ?_, by simp only; omega⟩
        (apply Le.headZ [_] rfl)
        all_goals (try dsimp only [srcs])
        (case' hfr | hob => (repeat' (first | refine La ?_ ?_ | exact Lc | refine Lo ?_ | refine ⟨⟨_, rfl, ?_⟩, ?_⟩ | refine Lx ?_)))
        all_goals (first | ((first | (rw [criF_yes (by simpa using h)]; simp; done) | (rw [criF_yes (by simpa using h)]; rw [IR_app]; done))) | exact Ld)
      · refine ⟨⟨k + 1, by omega⟩, ?_, by simp only; omega⟩
        (apply Le.headZ [_] rfl)
        all_goals (try dsimp only [srcs])
        (case' hfr | hob => (repeat' (first | refine La ?_ ?_ | exact Lc | refine Lo ?_ | refine ⟨⟨_, rfl, ?_⟩, ?_⟩ | refine Lx ?_)))
        all_goals (first | ((rw [criF_no (by simpa using h)]; done)) | exact Ld)
    ·
      obtain rfl : k = xs.length := by omega
      repeat' (first | ((first | apply Ba | (apply Bb; (· rfl); (· rfl)) | (apply Bc; (· exact nxE)) | (apply Bd; (· rfl); (· rfl); (· exact nxE))); (· first | exact Ok.pe)) | ((first | apply Ca | (apply Cb; (· exact nxE))); (· first | exact Ok.e0)) | refine Sx ?_ | (refine Sy (fun h => ?_) (fun h => ?_) <;> try (exfalso; omega; done)) | refine Sz (fun h => ?_) (fun h => ?_))
      refine Yb ?_
      (apply Le.headZ (hs := []) [] rfl)
      all_goals (try dsimp only [srcs])
      (case' hfr => (repeat' (first | refine La ?_ ?_ | exact Lc | refine Lo ?_ | refine ⟨⟨_, rfl, ?_⟩, ?_⟩ | refine Lx ?_)))
      all_goals (first | exact Ld | exact trivial | (rfl))
  · rw [if_neg hc]
    refine AC.of_body 0 Try.func35 rfl (fun l h => absurd rfl h) (fun C hC => ?_)
    have hD : ∀ l, ¬ C.D0 l := fun l h => (hC l).1 h rfl
    simp only [startFr, Try.ntmps35, List.length_cons, List.length_nil, Nat.reduceAdd, Nat.reduceSub, List.replicate_succ, List.replicate_zero, List.cons_append, List.nil_append]
    repeat' (first | ((first | apply Ba | (apply Bb; (· rfl); (· rfl)) | (apply Bc; (· exact nxE)) | (apply Bd; (· rfl); (· rfl); (· exact nxE))); (· first | exact Kz rfl rfl (hq) (Aa (Ad (Ad An)) (Ad An)) | exact Ok.pe)) | ((first | apply Ca | (apply Cb; (· exact nxE))); (· first | exact Ok.e0)) | refine Sx ?_ | (refine Sy (fun h => ?_) (fun h => ?_) <;> try (exfalso; omega; done)) | refine Sz (fun h => ?_) (fun h => ?_))
    refine Yb ?_
    (apply Le.headZ (hs := []) [] rfl)
    all_goals (try dsimp only [srcs])
    (case' hfr => (repeat' (first | refine La ?_ ?_ | exact Lc | refine Lo ?_ | refine ⟨⟨_, rfl, ?_⟩, ?_⟩ | refine Lx ?_)))
    all_goals (first | exact Ld | exact trivial | (rfl))
end Go.Proofs.Ytegfjedklebbfaa
end

section
namespace Go.Proofs.Ytegfjedklebbfaa
set_option linter.unusedSimpArgs false
set_option linter.unusedVariables false
open Go Go.RowKit
attribute [local irreducible] AL AD AW OpOk Le AC thenQ blockQ EndQ

theorem bc_no {ev : Int} {xs : List Pl} (h : isEG ev xs = false) : bcC ev xs = 1 ∧ ctR ev xs = (0, 0) := by
  have h1 : liveI ev xs = 1 := by unfold liveI; rw [h]; rfl
  have h2 : bcC ev xs = 1 := by unfold bcC; rw [h1]; rfl
  exact ⟨h2, by unfold ctR; rw [h2]; rfl⟩
theorem timeOf_ac (n : Int) (xs : List Pl) (hx : xs.length ≤ 100000000) : AC Try.prog 131 [grD n xs] H0 (.tup [.agg [I (ctR n xs).1, I (ctR n xs).2], I (bcC n xs)]) H0 := by
  have hE := iIsEventGraph_ac n xs hx
  cases hg : isEG n xs
  · rw [(bc_no hg).1, (bc_no hg).2]
    rw [hg] at hE
    refine AC.of_body 0 Try.func131 rfl (fun l h => absurd rfl h) (fun C hC => ?_)
    have hD : ∀ l, ¬ C.D0 l := fun l h => (hC l).1 h rfl
    simp only [startFr, Try.ntmps131, List.length_cons, List.length_nil, Nat.reduceAdd, Nat.reduceSub, List.replicate_succ, List.replicate_zero, List.cons_append, List.nil_append]
    repeat' (first | ((first | apply Ba | (apply Bb; (· rfl); (· rfl)) | (apply Bc; (· exact nxE)) | (apply Bd; (· rfl); (· rfl); (· exact nxE))); (· first | exact Kz rfl rfl (hE) (Aa (Ad (Ad An)) An) | exact Ok.pe)) | ((first | apply Ca | (apply Cb; (· exact nxE))); (· first | exact Ok.e0)) | refine Sx ?_ | (refine Sy (fun h => ?_) (fun h => ?_) <;> try (exfalso; omega; done)) | refine Sz (fun h => ?_) (fun h => ?_))
    refine Yb ?_
    (apply Le.headZ (hs := []) [] rfl)
    all_goals (try dsimp only [srcs])
    (case' hfr => (repeat' (first | refine La ?_ ?_ | exact Lc | refine Lo ?_ | refine ⟨⟨_, rfl, ?_⟩, ?_⟩ | refine Lx ?_)))
    all_goals (first | exact Ld | exact trivial | (rfl))
  · rw [hg] at hE
    obtain ⟨n, rfl, _⟩ := isEG_ok hg
    have hT := cycleTime_ac n xs hg
    generalize ctR n xs = r at *
    refine AC.of_body 0 Try.func131 rfl (fun l h => absurd rfl h) (fun C hC => ?_)
    have hD : ∀ l, ¬ C.D0 l := fun l h => (hC l).1 h rfl
    simp only [startFr, Try.ntmps131, List.length_cons, List.length_nil, Nat.reduceAdd, Nat.reduceSub, List.replicate_succ, List.replicate_zero, List.cons_append, List.nil_append]
    repeat' (first | ((first | apply Ba | (apply Bb; (· rfl); (· rfl)) | (apply Bc; (· exact nxE)) | (apply Bd; (· rfl); (· rfl); (· exact nxE))); (· first | exact Kz rfl rfl (hE) (Aa (Ad (Ad An)) An) | exact Kz rfl rfl (hT) (Aa (Ad (Ad An)) An) | exact Ok.pe)) | ((first | apply Ca | (apply Cb; (· exact nxE))); (· first | exact Ok.e0)) | refine Sx ?_ | (refine Sy (fun h => ?_) (fun h => ?_) <;> try (exfalso; omega; done)) | refine Sz (fun h => ?_) (fun h => ?_))
    refine Yb ?_
    (apply Le.headZ (hs := []) [] rfl)
    all_goals (try dsimp only [srcs])
    (case' hfr => (repeat' (first | refine La ?_ ?_ | exact Lc | refine Lo ?_ | refine ⟨⟨_, rfl, ?_⟩, ?_⟩ | refine Lx ?_)))
    all_goals (first | exact Ld | exact trivial | (rfl))
end Go.Proofs.Ytegfjedklebbfaa
end

section
namespace Go.Proofs.Ytegfjedklebbfaa
set_option linter.unusedSimpArgs false
set_option linter.unusedVariables false
open Go Go.RowKit

theorem bc_eg {ev : Int} {xs : List Pl} (h : bcC ev xs = 0) : isEG ev xs = true := by
  cases hg : isEG ev xs
  · have := (bc_no hg).1; omega
  · rfl
end Go.Proofs.Ytegfjedklebbfaa
end

section
namespace Go.Proofs.Ytegfjedklebbfaa
set_option linter.unusedSimpArgs false
set_option linter.unusedVariables false
open Go Go.RowKit

end Go.Proofs.Ytegfjedklebbfaa
end

section
namespace Go.Proofs.Ytegfjedklebbfaa
set_option linter.unusedSimpArgs false
set_option linter.unusedVariables false
open Go Go.RowKit
attribute [local irreducible] AL AD AW OpOk Le AC thenQ blockQ EndQ

/-- A ratio as a cycle time is one. -/
structure RatOk (r : Int × Int) : Prop where
  n : 0 ≤ r.1 ∧ r.1 ≤ 1000000
  d : 1 ≤ r.2 ∧ r.2 ≤ 1000000
  g : Nat.gcd r.1.toNat r.2.toNat = 1
theorem RatOk.small {r : Int × Int} (h : RatOk r) : smallR r := ⟨h.n, by have := h.d; omega⟩
theorem ctR_rat {ev : Int} {xs : List Pl} (h : bcC ev xs = 0) : RatOk (ctR ev xs) := by
  obtain ⟨n, rfl, h1, h2, h3, h4, h5, h6, h8, h9, h10, h11⟩ := bc_star h
  rw [h8]
  have hg := (h5.isMax h2 h6).red
  refine ⟨by omega, by omega, ?_⟩
  obtain ⟨u, hu⟩ : ∃ u : Nat, (maxR xs).1 = u := ⟨(maxR xs).1.toNat, by omega⟩
  obtain ⟨v, hv⟩ : ∃ v : Nat, (maxR xs).2 = v := ⟨(maxR xs).2.toNat, by omega⟩
  rw [hu, hv] at hg ⊢
  simpa [Int.gcd] using hg
set_option maxHeartbeats 1000000 in
theorem iIsRatio_ac (r : Int × Int) (h : RatOk r) : AC Try.prog 130 [.agg [I r.1, I r.2]] H0 (Bo true) H0 := by
  obtain ⟨⟨h1, h2⟩, ⟨h3, h4⟩, h5⟩ := h
  obtain ⟨a, b⟩ := r
  simp only at h1 h2 h3 h4 h5 ⊢
  obtain ⟨u, rfl⟩ : ∃ u : Nat, a = u := ⟨a.toNat, by omega⟩
  obtain ⟨v, rfl⟩ : ∃ v : Nat, b = v := ⟨b.toNat, by omega⟩
  rw [Int.toNat_natCast, Int.toNat_natCast] at h5
  have hF := isFinite_ac (u : Int)
  have hW := within_ac (v : Int) 1 1000000
  have hA := absOf_ac (u : Int) h1
  have hD := divisorOf_ac u v (by omega) (by omega)
  have hD2 : AC Try.prog 214 [I u, I v] H0 (I 1) H0 := by rw [h5] at hD; exact hD
  have w1 : wi (u : Int) (-1000000) 1000000 = true := wi_iff.2 ⟨by omega, by omega⟩
  have w2 : wi (v : Int) 1 1000000 = true := wi_iff.2 ⟨by omega, by omega⟩
  rw [w1] at hF
  rw [w2] at hW
  refine AC.of_body 0 Try.func130 rfl (fun l h => absurd rfl h) (fun C hC => ?_)
  have hD : ∀ l, ¬ C.D0 l := fun l h => (hC l).1 h rfl
  simp only [startFr, Try.ntmps130, List.length_cons, List.length_nil, Nat.reduceAdd, Nat.reduceSub, List.replicate_succ, List.replicate_zero, List.cons_append, List.nil_append]
  repeat' (first | ((first | apply Ba | (apply Bb; (· rfl); (· rfl)) | (apply Bc; (· exact nxE)) | (apply Bd; (· rfl); (· rfl); (· exact nxE))); (· first | exact Kz rfl rfl (hF) (Ad An) | exact Kz rfl rfl (hW) (Ad (Ad (Ad An))) | exact Kz rfl rfl (hA) (Ad An) | exact Kz rfl rfl (hD2) (Ad (Ad An)) | exact Ok.pe)) | ((first | apply Ca | (apply Cb; (· exact nxE))); (· first | exact Ok.e0)) | refine Sx ?_ | (refine Sy (fun h => ?_) (fun h => ?_) <;> try (exfalso; omega; done)) | refine Sz (fun h => ?_) (fun h => ?_))
  refine Ya ?_
  (apply Le.headZ (hs := []) [] rfl)
  all_goals (try dsimp only [srcs])
  (case' hfr => (repeat' (first | refine La ?_ ?_ | exact Lc | refine Lo ?_ | refine ⟨⟨_, rfl, ?_⟩, ?_⟩ | refine Lx ?_)))
  all_goals (first | exact Ld | exact trivial | (rfl))
set_option maxHeartbeats 1000000 in
theorem iCompareRatios_ac (a b : Int × Int) (ha : RatOk a) (hb : RatOk b) : AC Try.prog 27 [.agg [I a.1, I a.2], .agg [I b.1, I b.2]] H0 (.tup [I (crI a b), I 0]) H0 := by
  have h1 := iIsRatio_ac a ha
  have h2 := iIsRatio_ac b hb
  have h3 := compareRatios_ac a b ha.small hb.small
  refine AC.of_body 0 Try.func27 rfl (fun l h => absurd rfl h) (fun C hC => ?_)
  have hD : ∀ l, ¬ C.D0 l := fun l h => (hC l).1 h rfl
  simp only [startFr, Try.ntmps27, List.length_cons, List.length_nil, Nat.reduceAdd, Nat.reduceSub, List.replicate_succ, List.replicate_zero, List.cons_append, List.nil_append]
  repeat' (first | ((first | apply Ba | (apply Bb; (· rfl); (· rfl)) | (apply Bc; (· exact nxE)) | (apply Bd; (· rfl); (· rfl); (· exact nxE))); (· first | exact Kz rfl rfl (h1) (Aa (Ad (Ad An)) An) | exact Kz rfl rfl (h2) (Aa (Ad (Ad An)) An) | exact Kz rfl rfl (h3) (Aa (Ad (Ad An)) (Aa (Ad (Ad An)) An)) | exact Ok.pe)) | ((first | apply Ca | (apply Cb; (· exact nxE))); (· first | exact Ok.e0)) | refine Sx ?_ | (refine Sy (fun h => ?_) (fun h => ?_) <;> try (exfalso; omega; done)) | refine Sz (fun h => ?_) (fun h => ?_))
  refine Yb ?_
  (apply Le.headZ (hs := []) [] rfl)
  all_goals (try dsimp only [srcs])
  (case' hfr => (repeat' (first | refine La ?_ ?_ | exact Lc | refine Lo ?_ | refine ⟨⟨_, rfl, ?_⟩, ?_⟩ | refine Lx ?_)))
  all_goals (first | exact Ld | exact trivial | (rfl))
set_option maxHeartbeats 1000000 in
theorem iCycleTime_ac (ev : Int) (xs : List Pl) (hx : xs.length ≤ 100000000) : AC Try.prog 26 [grD ev xs] H0 (.tup [.agg [I (ctR ev xs).1, I (ctR ev xs).2], I (bcC ev xs)]) H0 := by
  have hE := iIsEventGraph_ac ev xs hx
  cases hg : isEG ev xs
  · rw [(bc_no hg).1, (bc_no hg).2]
    rw [hg] at hE
    refine AC.of_body 0 Try.func26 rfl (fun l h => absurd rfl h) (fun C hC => ?_)
    have hD : ∀ l, ¬ C.D0 l := fun l h => (hC l).1 h rfl
    simp only [startFr, Try.ntmps26, List.length_cons, List.length_nil, Nat.reduceAdd, Nat.reduceSub, List.replicate_succ, List.replicate_zero, List.cons_append, List.nil_append]
    repeat' (first | ((first | apply Ba | (apply Bb; (· rfl); (· rfl)) | (apply Bc; (· exact nxE)) | (apply Bd; (· rfl); (· rfl); (· exact nxE))); (· first | exact Kz rfl rfl (hE) (Aa (Ad (Ad An)) An) | exact Ok.pe)) | ((first | apply Ca | (apply Cb; (· exact nxE))); (· first | exact Ok.e0)) | refine Sx ?_ | (refine Sy (fun h => ?_) (fun h => ?_) <;> try (exfalso; omega; done)) | refine Sz (fun h => ?_) (fun h => ?_))
    refine Yb ?_
    (apply Le.headZ (hs := []) [] rfl)
    all_goals (try dsimp only [srcs])
    (case' hfr => (repeat' (first | refine La ?_ ?_ | exact Lc | refine Lo ?_ | refine ⟨⟨_, rfl, ?_⟩, ?_⟩ | refine Lx ?_)))
    all_goals (first | exact Ld | exact trivial | (rfl))
  · rw [hg] at hE
    obtain ⟨n, rfl, _⟩ := isEG_ok hg
    have hT := cycleTime_ac n xs hg
    refine AC.of_body 0 Try.func26 rfl (fun l h => absurd rfl h) (fun C hC => ?_)
    have hD : ∀ l, ¬ C.D0 l := fun l h => (hC l).1 h rfl
    simp only [startFr, Try.ntmps26, List.length_cons, List.length_nil, Nat.reduceAdd, Nat.reduceSub, List.replicate_succ, List.replicate_zero, List.cons_append, List.nil_append]
    repeat' (first | ((first | apply Ba | (apply Bb; (· rfl); (· rfl)) | (apply Bc; (· exact nxE)) | (apply Bd; (· rfl); (· rfl); (· exact nxE))); (· first | exact Kz rfl rfl (hE) (Aa (Ad (Ad An)) An) | exact Kz rfl rfl (hT) (Aa (Ad (Ad An)) An) | exact Ok.pe)) | ((first | apply Ca | (apply Cb; (· exact nxE))); (· first | exact Ok.e0)) | refine Sx ?_ | (refine Sy (fun h => ?_) (fun h => ?_) <;> try (exfalso; omega; done)) | refine Sz (fun h => ?_) (fun h => ?_))
    refine Yb ?_
    (apply Le.headZ (hs := []) [] rfl)
    all_goals (try dsimp only [srcs])
    (case' hfr => (repeat' (first | refine La ?_ ?_ | exact Lc | refine Lo ?_ | refine ⟨⟨_, rfl, ?_⟩, ?_⟩ | refine Lx ?_)))
    all_goals (first | exact Ld | exact trivial | (rfl))
end Go.Proofs.Ytegfjedklebbfaa
end

section
namespace Go.Proofs.Ytegfjedklebbfaa
set_option linter.unusedSimpArgs false
set_option linter.unusedVariables false
open Go Go.RowKit

end Go.Proofs.Ytegfjedklebbfaa
end

section
namespace Go.Proofs.Ytegfjedklebbfaa
set_option linter.unusedSimpArgs false
set_option linter.unusedVariables false
open Go Go.RowKit

noncomputable def upB (xs : List Pl) (e : Nat) (p : Pl) : Bool := decide (0 ≤ tdF xs p.t e)
/-- The places from whose ends an event can be reached. -/
noncomputable def upL (xs : List Pl) (e : Nat) : List Pl := xs.filter (upB xs e)
theorem wgt_map {xs ys : List Pl} {rn rd : Int} : ∀ {c c' : List Nat}, c'.map (plA xs) = c.map (plA ys) → wgt xs rn rd c' = wgt ys rn rd c
  | [], [], _ => rfl
  | [], _ :: _, h => by simp at h
  | _ :: _, [], h => by simp at h
  | i :: c, j :: c', h => by
    simp only [List.map_cons, List.cons.injEq] at h
    simp only [wgt, h.1, wgt_map h.2]
theorem Wk.sub {xs ys : List Pl} {q : Pl → Prop} (hm : ∀ j, j < ys.length → q (plA ys j) → ∃ i, i < xs.length ∧ plA xs i = plA ys j) : ∀ {c : List Nat} {u v : Int}, Wk ys u c v → (∀ j ∈ c, q (plA ys j)) → ∃ c', Wk xs u c' v ∧ c'.map (plA xs) = c.map (plA ys)
  | [], u, v, h, _ => ⟨[], h, rfl⟩
  | j :: c, u, v, h, hq => by
    obtain ⟨h1, h2, h3⟩ := h
    obtain ⟨i, hi, e⟩ := hm j h1 (hq j (by simp))
    obtain ⟨c', k1, k2⟩ := Wk.sub hm h3 (fun j hj => hq j (by simp [hj]))
    exact ⟨i :: c', ⟨hi, by rw [e]; exact h2, by rw [e]; exact k1⟩, by simp [e, k2]⟩
theorem up_dn {xs : List Pl} {P : Pl → Bool} (j : Nat) (hj : j < (xs.filter P).length) : ∃ i, i < xs.length ∧ plA xs i = plA (xs.filter P) j := by
  obtain ⟨h1, _⟩ := List.mem_filter.1 (List.getElem_mem hj)
  obtain ⟨i, hi, e⟩ := List.getElem_of_mem h1
  exact ⟨i, hi, by simp [plA, hi, hj, e]⟩
theorem up_up {xs : List Pl} {P : Pl → Bool} (i : Nat) (hi : i < xs.length) (hp : P (plA xs i) = true) : ∃ j, j < (xs.filter P).length ∧ plA (xs.filter P) j = plA xs i := by
  have e1 : plA xs i = xs[i] := by simp [plA, hi]
  obtain ⟨j, hj, e⟩ := List.getElem_of_mem (List.mem_filter.2 ⟨List.getElem_mem hi, by rw [← e1]; exact hp⟩)
  exact ⟨j, hj, by rw [e1, ← e]; simp [plA, hj]⟩
theorem up_live {n : Nat} {xs : List Pl} {P : Pl → Bool} (hv : ∀ p ∈ xs, okPl n p) (hl : liveB n xs = true) : liveB n (xs.filter P) = true := by
  have hv' : ∀ p ∈ xs.filter P, okPl n p := fun p hp => hv p (List.mem_filter.1 hp).1
  have h1 := liveB_ord hv
  rw [hl] at h1
  obtain ⟨ord, ho⟩ := Option.isSome_iff_exists.1 h1.symm
  obtain ⟨_, h2, _⟩ := ord_idx ho
  unfold liveB
  rw [Int.toNat_natCast]
  apply decide_eq_true
  apply Classical.byContradiction
  intro hd
  unfold deadC at hd
  obtain ⟨c1, c2, c3, c4⟩ := overF_cyc hd
  generalize overF (entN (freeT n (xs.filter P))) n (-1) = c at *
  have ha : ∀ {u v : Nat}, u < n → v < n → entN (freeT n (xs.filter P)) u v ≠ BOT → ord.idxOf v < ord.idxOf u := fun {u v} hu hv2 h => by
    unfold freeT at h
    rw [free_entN (Sq.bot n) hv' hu hv2, entN_bot hu hv2] at h
    by_cases hw : wPl (xs.filter P) u v = true
    · refine h2 u v hu hv2 ?_
      unfold wPl at hw ⊢
      rw [List.any_eq_true] at hw ⊢
      obtain ⟨p, hp, h3⟩ := hw
      exact ⟨p, (List.mem_filter.1 hp).1, h3⟩
    · rw [if_neg hw] at h; exact absurd rfl h
  have hlt : ∀ k, k < c.length → c.getD k 0 < n := fun k hk => c2 _ (by rw [List.getD_eq_getElem?_getD, List.getElem?_eq_getElem hk]; exact List.getElem_mem hk)
  have h0 : 0 < c.length := List.length_pos_iff.2 c1
  have mono : ∀ k, k < c.length → ord.idxOf (c.getD 0 0) ≤ ord.idxOf (c.getD k 0) := fun k => by
    induction k with
    | zero => intro _; exact Nat.le_refl _
    | succ k ih =>
      intro hk
      have := ih (by omega)
      have := ha (hlt (k + 1) hk) (hlt k (by omega)) (c3 k hk)
      omega
  have hm := mono (c.length - 1) (by omega)
  rw [hdN_getD, lsN_getD] at c4
  have := ha (hlt 0 h0) (hlt (c.length - 1) (by omega)) c4
  omega
theorem up_eg {ev : Int} {xs : List Pl} {P : Pl → Bool} (h : isEG ev xs = true) : isEG ev (xs.filter P) = true := by
  simp only [isEG, Bool.and_eq_true, decide_eq_true_eq, List.all_eq_true, wi_iff] at h ⊢
  obtain ⟨⟨⟨h1, h2⟩, h3⟩, h4⟩ := h
  exact ⟨⟨⟨h1, h2⟩, Nat.le_trans (List.length_filter_le _ _) h3⟩, fun p hp => h4 p (List.mem_filter.1 hp).1⟩
theorem liveI_eg {ev : Int} {xs : List Pl} (h : liveI ev xs = 0) : isEG ev xs = true := by
  unfold liveI at h
  by_cases hg : isEG ev xs = true
  · exact hg
  · rw [if_neg hg] at h; exact absurd h (by decide)
theorem up_liveI {ev : Int} {xs : List Pl} {P : Pl → Bool} (h : liveI ev xs = 0) : liveI ev (xs.filter P) = 0 := by
  have hg := liveI_eg h
  obtain ⟨n, rfl, _, _, _, h4⟩ := isEG_ok hg
  unfold liveI at h ⊢
  rw [if_pos hg] at h
  rw [if_pos (up_eg hg)]
  cases hl : liveB n xs
  · rw [hl] at h; simp at h
  · rw [up_live h4 hl]; rfl
theorem map_ne {α β : Type} {f g : α → β} {c c' : List α} (h : c'.map f = c.map g) (hc : c ≠ []) : c' ≠ [] := by
  rintro rfl
  cases c with
  | nil => exact hc rfl
  | cons a c => simp at h
theorem ev_top {ev : Int} {xs : List Pl} (hb : bcC ev xs = 0) : bcL ev xs ≠ [] ∧ hdN (bcL ev xs) < xs.length ∧ ∃ e : Nat, firstF xs (bcL ev xs) = e ∧ (e : Int) < ev ∧ bcC ev (upL xs e) = 0 ∧ ctR ev (upL xs e) = ctR ev xs := by
  obtain ⟨n, rfl, k1, k2, k3, k4, k5, k6, k8, k9, k10, k11⟩ := bc_star hb
  have hl : liveI n xs = 0 := by
    unfold bcC at hb
    by_cases h : liveI n xs = 0
    · exact h
    · rw [if_neg h] at hb; exact absurd hb h
  obtain ⟨c, b1, b2, b3⟩ := k5.best k2 k6
  have hbl : bcL n xs = c := by unfold bcL; rw [if_pos hb, Int.toNat_natCast]; exact b1
  rw [hbl]
  have hhd : hdN c ∈ c := by
    cases c with
    | nil => exact absurd rfl b2.ne
    | cons i c => simp [hdN]
  have hlt := b2.wk.lt
  have hf : 0 ≤ firstF xs c ∧ firstF xs c < n := (k5.pl _ (hlt _ hhd)).1
  refine ⟨b2.ne, hlt _ hhd, (firstF xs c).toNat, by omega, by omega, ?_⟩
  generalize he : (firstF xs c).toNat = e
  have hfe : firstF xs c = e := by omega
  have hup : ∀ i ∈ c, upB xs e (plA xs i) = true := fun i hi => by
    obtain ⟨a, b, rfl⟩ := List.append_of_mem hi
    obtain ⟨m, w1, w2⟩ := Wk.app.1 b2.wk
    have hi2 := (k5.pl _ (hlt i hi)).2.1
    obtain ⟨t, ht⟩ : ∃ t : Nat, (plA xs i).t = t := ⟨(plA xs i).t.toNat, by omega⟩
    have hw := w2.2.2
    rw [hfe, ht] at hw
    have := ((tdOk k4 k2 (show t < n by omega)).all e b hw).1
    unfold upB
    rw [ht]
    exact decide_eq_true this
  have hly : liveI n (upL xs e) = 0 := up_liveI hl
  obtain ⟨n', hev, h1, h2, h3, h4, h5⟩ := live_ok hly
  obtain rfl : n = n' := by omega
  have hmx := k5.isMax k2 k6
  obtain ⟨c', w1, w2⟩ := Wk.sub (xs := upL xs e) (ys := xs) (q := fun p => upB xs e p = true) (fun i hi hp => up_up i hi hp) b2.wk hup
  have hy : hasC (upL xs e) := hasC_of_walk (fun i hi => (h5.pl i hi).2.2.1.1) (map_ne w2 b2.ne) w1
  have hby : bcC n (upL xs e) = 0 := by unfold bcC; rw [if_pos hly, if_pos hy]
  refine ⟨hby, ?_⟩
  have hm : MaxR (upL xs e) (maxR xs) := MaxR.of_walk hmx.pos hmx.red (fun d hd => by
    obtain ⟨d', v1, v2⟩ := Wk.sub (xs := xs) (ys := upL xs e) (q := fun _ => True) (fun j hj _ => up_dn j hj) hd.wk (fun _ _ => trivial)
    rw [← wgt_map v2]
    exact hmx.walks v1) (map_ne w2 b2.ne) w1 (by
    have hz := wgt_redR (k5.circ b2).2.2.1
    rw [b3] at hz
    rw [wgt_map w2, hz]
    exact Int.le_refl 0)
  rw [k8]
  unfold ctR
  rw [if_pos hby]
  exact maxR_eq h5 hm
end Go.Proofs.Ytegfjedklebbfaa
end

section
namespace Go.Proofs.Ytegfjedklebbfaa
set_option linter.unusedSimpArgs false
set_option linter.unusedVariables false
open Go Go.RowKit
attribute [local irreducible] AL AD AW OpOk Le AC thenQ blockQ EndQ

theorem floorDiv_ac (a b : Int) (ha : 0 ≤ a ∧ a ≤ 9223372036854775807) (hb : 0 < b) : AC Try.prog 134 [I a, I b] H0 (I (a / b)) H0 := by
  have hq := ediv_in ha.1 hb
  have hm := Int.emod_nonneg a (show b ≠ 0 by omega)
  rw [← Int.tmod_eq_emod_of_nonneg ha.1] at hm
  rw [← Int.tdiv_eq_ediv_of_nonneg ha.1] at hq ⊢
  refine AC.of_body 0 Try.func134 rfl (fun l h => absurd rfl h) (fun C hC => ?_)
  have hD : ∀ l, ¬ C.D0 l := fun l h => (hC l).1 h rfl
  simp only [startFr, Try.ntmps134, List.length_cons, List.length_nil, Nat.reduceAdd, Nat.reduceSub, List.replicate_succ, List.replicate_zero, List.cons_append, List.nil_append]
  repeat' (first | ((first | apply Ba | (apply Bb; (· rfl); (· rfl)) | (apply Bc; (· exact nxE)) | (apply Bd; (· rfl); (· rfl); (· exact nxE))); (· first | exact Ok.quo rfl rfl rfl hb (by omega) (by omega) | exact Ok.rem rfl rfl rfl (by omega) | exact Ok.pe)) | ((first | apply Ca | (apply Cb; (· exact nxE))); (· first | exact Ok.e0)) | refine Sx ?_ | (refine Sy (fun h => ?_) (fun h => ?_) <;> try (exfalso; omega; done)) | refine Sz (fun h => ?_) (fun h => ?_))
  all_goals
    refine Ya ?_
    (apply Le.headZ (hs := []) [] rfl)
    all_goals (try dsimp only [srcs])
    (case' hfr => (repeat' (first | refine La ?_ ?_ | exact Lc | refine Lo ?_ | refine ⟨⟨_, rfl, ?_⟩, ?_⟩ | refine Lx ?_)))
    all_goals (first | exact Ld | exact trivial | (rfl))
end Go.Proofs.Ytegfjedklebbfaa
end

section
namespace Go.Proofs.Ytegfjedklebbfaa
set_option linter.unusedSimpArgs false
set_option linter.unusedVariables false
open Go Go.RowKit

theorem gap_nn {n : Nat} {xs : List Pl} {r : Int × Int} {t : List (List Int)} (hw : WmOk n xs r t) (hnp : NoPos (entN t) n) {s : Nat → Nat → Int} (hs : StarOk (entN t) n s) {f u : Nat} (hf : f < n) (hu : u < n) {p : Pl} (hp : p ∈ xs) (h1 : p.f = f) (h2 : p.t = u) (hne : s f u ≠ BOT) : pw r.1 r.2 p + s f u ≤ 0 := by
  have ha := hw.all p hp
  rw [h1, h2, Int.toNat_natCast, Int.toNat_natCast] at ha
  have hwm : WM (entN t) f [] u := ha.1
  have hwv : wM (entN t) f [] u = entN t u f := rfl
  rcases hs.some u f hu hf with e | ⟨e1, e2⟩ | ⟨c, c1, c2, c3⟩
  · exact absurd e hne
  · subst e1
    have := hnp u [] hu (by simp) hwm
    omega
  · have h3 : WM (entN t) u (c ++ f :: []) u := WM.app.2 ⟨c1, hwm⟩
    have h4 := hnp u _ hu (fun x hx => by
      rcases List.mem_append.1 hx with h | h
      · exact c2 x h
      · simp at h; omega) h3
    rw [wM_app] at h4
    omega
end Go.Proofs.Ytegfjedklebbfaa
end

section
namespace Go.Proofs.Ytegfjedklebbfaa
set_option linter.unusedSimpArgs false
set_option linter.unusedVariables false
open Go Go.RowKit
attribute [local irreducible] AL AD AW OpOk Le AC thenQ blockQ EndQ

end Go.Proofs.Ytegfjedklebbfaa
end

section
namespace Go.Proofs.Ytegfjedklebbfaa
set_option linter.unusedSimpArgs false
set_option linter.unusedVariables false
open Go Go.RowKit
attribute [local irreducible] AL AD AW OpOk Le AC thenQ blockQ EndQ

def mkF (k : Int) : Nat → Int := fun j => k + (j : Int)
def mixR (f g : Nat → Int) (K : Nat) : Nat → Int := fun j => if j < K then f j else g j
theorem mixR_0 {f g : Nat → Int} {n : Nat} : rowF n (mixR f g 0) = rowF n g := rowF_congr fun j _ => by simp [mixR]
theorem mixR_all {f g : Nat → Int} {n : Nat} : rowF n (mixR f g n) = rowF n f := rowF_congr fun j hj => by simp [mixR, hj]
theorem mixR_set {f g : Nat → Int} {n K : Nat} : (rowF n (mixR f g K)).set K (f K) = rowF n (mixR f g (K + 1)) := by
  rw [rowF_set]
  refine rowF_congr fun b _ => ?_
  unfold mixR
  by_cases e : b = K
  · subst e; simp
  · rw [if_neg e]
    by_cases h : b < K
    · rw [if_pos h, if_pos (by omega)]
    · rw [if_neg h, if_neg (by omega)]
def offT (t : List (List Int)) (i : Nat) : Nat := ((t.take i).map List.length).sum
def mkRow (k : Int) (r : List Int) : List Int := rowF r.length (mkF k)
def mkAt (t : List (List Int)) (k : Int) (i : Nat) : List (List Int) := t.mapIdx fun j r => if j < i then mkRow (k + offT t j) r else r
theorem mkAt_len {t : List (List Int)} {k : Int} {i : Nat} : (mkAt t k i).length = t.length := by simp [mkAt]
end Go.Proofs.Ytegfjedklebbfaa
end

section
namespace Go.Proofs.Ytegfjedklebbfaa
set_option linter.unusedSimpArgs false
set_option linter.unusedVariables false
open Go Go.RowKit
attribute [local irreducible] AL AD AW OpOk Le AC thenQ blockQ EndQ

theorem mgF_0 {n : Nat} {f : Nat → Int} : dobj 1 (List.replicate n [DI 0]) = IO (rowF n (mixR f (fun _ => 0) 0)) := by
  rw [mixR_0]
  unfold IO dobj
  simp [rowF, List.map_const']
/-- The gap of a place of the program's walk. -/
theorem gap_wm {n : Nat} {xs : List Pl} {r : Int × Int} (hv : ∀ p ∈ xs, okPl n p) (h1 : 0 ≤ r.1 ∧ r.1 ≤ 100000) (h2 : 0 ≤ r.2 ∧ r.2 ≤ 50) (hst : StarM (wmT n xs r) n) {i : Nat} (hi : i < xs.length) (hne : starF (entN (wmT n xs r)) n (plA xs i).f.toNat (plA xs i).t.toNat ≠ BOT) : pw r.1 r.2 (plA xs i) + starF (entN (wmT n xs r)) n (plA xs i).f.toNat (plA xs i).t.toNat ≤ 0 := by
  have hb := wm_bnd hv h1 h2
  have hw : WmOk n xs r (wmT n xs r) := wm_ok (M := 500000) (by decide) xs (fun p hp => ⟨hv p hp, (hb p hp).1⟩)
  have hp : plA xs i ∈ xs := by
    have e : plA xs i = xs[i] := by simp [plA, hi]
    rw [e]; exact List.getElem_mem hi
  obtain ⟨⟨g1, g2⟩, ⟨g3, g4⟩, _⟩ := hv _ hp
  exact gap_nn hw hst.np hst.ok (f := (plA xs i).f.toNat) (u := (plA xs i).t.toNat) (by omega) (by omega) hp (by omega) (by omega) hne
set_option maxHeartbeats 4000000 in
theorem iMarginsOf_ac (ev : Nat) (xs : List Pl) (hx : xs.length ≤ 100000000) : AC Try.prog 29 [grD ev xs] H0 (.tup [own1 1 (mgL ev xs).length, I (cqC ev xs true)]) (hp1 (IO (mgL ev xs))) := by
  have hq := timeOf_ac ev xs hx
  rw [in_yes]
  unfold mgL
  rw [in_yes]
  by_cases hc : bcC ev xs = 0
  · rw [if_pos hc]
    rw [hc] at hq ⊢
    obtain ⟨n, hev, h1, h2, h3, h4, h5, h6, h8, h9, h10, h11⟩ := bc_star hc
    obtain rfl : ev = n := by omega
    rw [h8] at hq
    have hW := (weightMatrix_ac ev xs (maxR xs).1 (maxR xs).2 (by omega) (by omega) h4 h9 ⟨by omega, h10.2⟩).frzT (by rw [TR_len]; exact h11.rc.l)
    have hS := (starOf_ac (wmT ev xs (maxR xs)) ev h11).frzT2 (by rw [TR_len, tabF_len])
    have hg : mgN ev xs = marI xs (maxR xs).2 (gapI xs (maxR xs).1 (maxR xs).2 (starF (entN (wmT ev xs ((maxR xs).1, (maxR xs).2))) ev)) := by
      unfold mgN mgG; rw [Int.toNat_natCast]
    have hgap := fun {i} (hi : i < xs.length) hne => gap_wm h4 h9 (show 0 ≤ (maxR xs).2 ∧ (maxR xs).2 ≤ 50 by omega) h11 hi hne
    have hB := fun {i j} => h11.starB (i := i) (j := j)
    have hpw := plW_le h4 h9 (show 0 ≤ (maxR xs).2 ∧ (maxR xs).2 ≤ 50 by omega)
    rw [hg, rowF_len]
    have hlW : (wmT ev xs (maxR xs)).length = ev := h11.rc.l
    have hm : ∀ i, marI xs (maxR xs).2 (gapI xs (maxR xs).1 (maxR xs).2 (starF (entN (wmT ev xs ((maxR xs).1, (maxR xs).2))) ev)) i = if starF (entN (wmT ev xs (maxR xs))) ev (plA xs i).f.toNat (plA xs i).t.toNat = BOT then 1000 - (plA xs i).d else if 0 ≤ gapI xs (maxR xs).1 (maxR xs).2 (starF (entN (wmT ev xs (maxR xs))) ev) i then min (1000 - (plA xs i).d) ((- pw (maxR xs).1 (maxR xs).2 (plA xs i) - starF (entN (wmT ev xs (maxR xs))) ev (plA xs i).f.toNat (plA xs i).t.toNat) / (maxR xs).2) else 1000 - (plA xs i).d := by
      intro i
      unfold marI gapI pw
      by_cases e : starF (entN (wmT ev xs (maxR xs))) ev (plA xs i).f.toNat (plA xs i).t.toNat = BOT
      · simp [e]
      · simp only [if_neg e]
        rw [show (maxR xs).1 * (plA xs i).k - (maxR xs).2 * (plA xs i).d - starF (entN (wmT ev xs (maxR xs))) ev (plA xs i).f.toNat (plA xs i).t.toNat = -((maxR xs).2 * (plA xs i).d - (maxR xs).1 * (plA xs i).k) - starF (entN (wmT ev xs (maxR xs))) ev (plA xs i).f.toNat (plA xs i).t.toNat by omega]
    have hm2 : ∀ i, i < xs.length → marI xs (maxR xs).2 (gapI xs (maxR xs).1 (maxR xs).2 (starF (entN (wmT ev xs ((maxR xs).1, (maxR xs).2))) ev)) i = if starF (entN (wmT ev xs (maxR xs))) ev (plA xs i).f.toNat (plA xs i).t.toNat = BOT then 1000 - (plA xs i).d else min (1000 - (plA xs i).d) ((- pw (maxR xs).1 (maxR xs).2 (plA xs i) - starF (entN (wmT ev xs (maxR xs))) ev (plA xs i).f.toNat (plA xs i).t.toNat) / (maxR xs).2) := by
      intro i hi
      rw [hm]
      by_cases e : starF (entN (wmT ev xs (maxR xs))) ev (plA xs i).f.toNat (plA xs i).t.toNat = BOT
      · rw [if_pos e, if_pos e]
      · have := hgap hi e
        rw [if_neg e, if_neg e, if_pos]
        unfold gapI; rw [if_neg e]
        unfold pw at this
        omega
    clear hm hg
    generalize marI xs (maxR xs).2 (gapI xs (maxR xs).1 (maxR xs).2 (starF (entN (wmT ev xs ((maxR xs).1, (maxR xs).2))) ev)) = f at *
    generalize starF (entN (wmT ev xs (maxR xs))) ev = s at *
    have hWl : (mRows 1 (TR (wmT ev xs (maxR xs)))).length = ev := by rw [mTR_len]; exact hlW
    generalize hwm : wmT ev xs (maxR xs) = wm at *
    generalize maxR xs = r at *
    obtain ⟨u1, u2⟩ := r
    simp only at hW hS hm2 hgap hpw h9 h10
    have hz := mgF_0 (n := xs.length) (f := f)
    have hPW := fun i hi => placeWeight_ac (plA xs i) u1 u2 (by have := hpw i hi; omega) (by have := hpw i hi; omega)
    refine AC.of_body 0 Try.func29 rfl (fun l h => absurd rfl h) (fun C hC => ?_)
    have hD : ∀ l, ¬ C.D0 l := fun l h => (hC l).1 h rfl
    simp only [startFr, Try.ntmps29, List.length_cons, List.length_nil, Nat.reduceAdd, Nat.reduceSub, List.replicate_succ, List.replicate_zero, List.cons_append, List.nil_append]
    repeat' (first | ((first | apply Ba | (apply Bb; (· rfl); (· rfl)) | (apply Bc; (· exact nxE)) | (apply Bd; (· rfl); (· rfl); (· exact nxE))); (· first | exact Kz rfl rfl (hq) (Aa (Ad (Ad An)) An) | exact Kz rfl rfl (hW) (Aa (Ad (Ad An)) (Aa (Ad (Ad An)) An)) | exact Kz rfl rfl (hS) (Ad An) | exact Ok.pe)) | ((first | apply Ca | (apply Cb; (· exact nxE))); (· first | exact Ok.e0)) | refine Sx ?_ | (refine Sy (fun h => ?_) (fun h => ?_) <;> try (exfalso; omega; done)) | refine Sz (fun h => ?_) (fun h => ?_))
    refine AW.loop (X := {k : Nat // k ≤ xs.length}) (fun k => ⟨[Oo, Oo, Oo, Oo, Bx 2 0, Oo, TL (tabF ev ev s), Oo, .own 1 ⟨1, []⟩ 0 xs.length, Oo, Oo, Oo, Oo, Oo, Oo, Oo, Oo, Oo, Oo, Oo, Oo, Oo, Oo, Oo, Oo, Oo, Oo, Oo, Oo, Oo, Oo, Oo, PL xs, I xs.length, I (k.1 : Nat), Oo, Oo, Oo, Oo, Oo, Oo, Oo, Oo, Oo, Oo, Oo, Oo, Oo, Oo, Oo, Oo, Oo, Oo, Oo, Oo, Oo, Oo, Oo, Oo, Oo, Oo, Oo, Oo, Oo, Oo, Oo, Oo, Oo, Oo, Oo, Oo, Oo, Oo, Oo, Oo], heapL [(⟨0, []⟩, ⟨0, []⟩, ⟨2, [[I u1, I u2]]⟩), (⟨1, []⟩, ⟨1, []⟩, IO (rowF xs.length (mixR f (fun _ => 0) k.1)))], 900⟩) (fun k => xs.length - k.1) ⟨0, Nat.zero_le _⟩ ?_ (fun k => ?_)
    ·
      (apply Le.headZ [_, _] rfl)
      all_goals (try dsimp only [srcs])
      (case' hfr | hob => (repeat' (first | refine La ?_ ?_ | exact Lc | refine Lo ?_ | refine ⟨⟨_, rfl, ?_⟩, ?_⟩ | refine Lx ?_)))
      all_goals (first | ((first | exact hz | (rw [hz]; done))) | exact Ld)
    obtain ⟨k, hk⟩ := k
    simp only
    by_cases hlt : k < xs.length
    · have hrow := pl_row (n := 0) hlt
      have hpwk := hpw k hlt
      have hPW := hPW k hlt
      have hfk := hm2 k hlt
      have hgk := hgap hlt
      obtain ⟨⟨g1, g2⟩, ⟨g3, g4⟩, ⟨g5, g6⟩, _⟩ := okPl_at h4 k hlt
      have hpwb : -1000000 ≤ pw u1 u2 (plA xs k) ∧ pw u1 u2 (plA xs k) ≤ 1000000 := by unfold pw; omega
      generalize hw : pw u1 u2 (plA xs k) = w at *
      generalize plA xs k = p at *
      obtain ⟨pf, pt, pd, pk⟩ := p
      obtain ⟨a, rfl⟩ : ∃ f : Nat, pf = f := ⟨pf.toNat, by simp at g1; omega⟩
      obtain ⟨t, rfl⟩ : ∃ t : Nat, pt = t := ⟨pt.toNat, by simp at g3; omega⟩
      simp only [Int.toNat_natCast] at hrow g2 g4 g5 g6 hpwk hfk hgk
      obtain ⟨rr, hr1, hr2, hr3⟩ := (tabF_rc (m := ev) (n := ev) (f := s)).get (show a < ev by omega) (show t < ev by omega)
      rw [tabF_ent (by omega) (by omega)] at hr2
      have hr1' := TR_get hr1
      have hrf := IR_get hr2
      have hrl : (IR rr).length = ev := by rw [IR_len, hr3]
      have hb := hB (i := a) (j := t) (by omega) (by omega)
      have hc0 := IRF_get (g := mixR f (fun _ => 0) k) hlt
      have hs1 : (IR (rowF xs.length (mixR f (fun _ => 0) k))).set k [DI (1000 - pd)] = IR (rowF xs.length (fun b => if b = k then 1000 - pd else mixR f (fun _ => 0) k b)) := by rw [IR_set, rowF_set]
      have hc1 := IRF_get (g := fun b => if b = k then 1000 - pd else mixR f (fun _ => 0) k b) hlt
      simp only [if_true] at hc1
      have hnx : ∀ v, f k = v → rowF xs.length (fun b => if b = k then v else mixR f (fun _ => 0) k b) = rowF xs.length (mixR f (fun _ => 0) (k + 1)) := by
        intro v hv
        rw [← mixR_set, rowF_set, hv]
      by_cases hbot : s a t = BOT
      · rw [if_pos hbot] at hfk
        rw [hbot] at hrf
        unfold BOT at hrf
        rw [hnx _ hfk] at hs1
        repeat' (first | ((first | apply Ba | (apply Bb; (· rfl); (· rfl)) | (apply Bc; (· exact nxE)) | (apply Bd; (· rfl); (· rfl); (· exact nxE))); (· first | exact Ok.st1 rfl rfl rfl (by simp [rowF_len]; omega) (by rw [hc0]; rfl) rfl rfl hs1 | exact Ok.pe)) | ((first | apply Ca | (apply Cb; (· exact nxE))); (· first | exact Ok.st1 rfl rfl rfl (by simp [rowF_len]; omega) (by rw [hc0]; rfl) rfl rfl hs1 | exact Ok.e0)) | refine Sx ?_ | (refine Sy (fun h => ?_) (fun h => ?_) <;> try (exfalso; omega; done)) | refine Sz (fun h => ?_) (fun h => ?_))
        refine ⟨⟨k + 1, by omega⟩, ?_, by simp only; omega⟩
        (apply Le.headZ [_, _] rfl)
        all_goals (try dsimp only [srcs])
        (case' hfr | hob => (repeat' (first | refine La ?_ ?_ | exact Lc | refine Lo ?_ | refine ⟨⟨_, rfl, ?_⟩, ?_⟩ | refine Lx ?_)))
        all_goals (first | (rfl) | exact Ld)
      · rw [if_neg hbot] at hfk
        have hb2 := hb.resolve_left hbot
        have hg2 := hgk hbot
        unfold BOT at hbot
        have hF := floorDiv_ac (-w - s a t) u2 (by omega) h10.1
        have hq := ediv_in (show 0 ≤ -w - s a t by omega) h10.1
        generalize (-w - s a t) / u2 = q at *
        have hs2 : (IR (rowF xs.length (fun b => if b = k then 1000 - pd else mixR f (fun _ => 0) k b))).set k [DI (min (1000 - pd) q)] = IR (rowF xs.length (mixR f (fun _ => 0) (k + 1))) := by
          rw [IR_set, rowF_set, ← hnx _ hfk]
          congr 1
          refine rowF_congr fun j _ => ?_
          by_cases e : j = k <;> simp [e]
        repeat' (first | ((first | apply Ba | (apply Bb; (· rfl); (· rfl)) | (apply Bc; (· exact nxE)) | (apply Bd; (· rfl); (· rfl); (· exact nxE))); (· first | exact Ok.ld1 rfl rfl rfl hc1 | exact Kz rfl rfl (hPW) (Aa (Ad (Ad (Ad (Ad An)))) (Aa (Ad (Ad An)) An)) | exact Kz rfl rfl (hF) (Ad (Ad An)) | exact Ok.st1 rfl rfl rfl (by simp [rowF_len]; omega) (by rw [hc0]; rfl) rfl rfl hs1 | exact Ok.st1 rfl rfl rfl (by simp [rowF_len]; omega) (by rw [hc1]; rfl) rfl rfl hs2 | exact Ok.pe)) | ((first | apply Ca | (apply Cb; (· exact nxE))); (· first | exact Ok.st1 rfl rfl rfl (by simp [rowF_len]; omega) (by rw [hc0]; rfl) rfl rfl hs1 | exact Ok.st1 rfl rfl rfl (by simp [rowF_len]; omega) (by rw [hc1]; rfl) rfl rfl hs2 | exact Ok.e0)) | refine Sx ?_ | (refine Sy (fun h => ?_) (fun h => ?_) <;> try (exfalso; omega; done)) | refine Sz (fun h => ?_) (fun h => ?_))
        refine ⟨⟨k + 1, by omega⟩, ?_, by simp only; omega⟩
        (apply Le.headZ [_, _] rfl)
        all_goals (try dsimp only [srcs])
        (case' hfr | hob => (repeat' (first | refine La ?_ ?_ | exact Lc | refine Lo ?_ | refine ⟨⟨_, rfl, ?_⟩, ?_⟩ | refine Lx ?_)))
        all_goals (first | (rfl) | exact Ld)
    ·
      obtain rfl : k = xs.length := by omega
      rw [mixR_all]
      repeat' (first | ((first | apply Ba | (apply Bb; (· rfl); (· rfl)) | (apply Bc; (· exact nxE)) | (apply Bd; (· rfl); (· rfl); (· exact nxE))); (· first | exact Ok.pe)) | ((first | apply Ca | (apply Cb; (· exact nxE))); (· first | exact Ok.e0)) | refine Sx ?_ | (refine Sy (fun h => ?_) (fun h => ?_) <;> try (exfalso; omega; done)) | refine Sz (fun h => ?_) (fun h => ?_))
      refine Yb ?_
      (apply Le.head [(⟨0, []⟩, _, _)])
      (case' hfr | hob => (repeat' (first | refine La ?_ ?_ | exact Lc | refine Lo ?_ | refine ⟨⟨_, rfl, ?_⟩, ?_⟩ | refine Lx ?_)))
      all_goals (first | exact Ld | (rfl))
  · rw [if_neg hc]
    have hbc : bcC ev xs ≠ 0 := hc
    generalize ctR ev xs = r at *
    generalize bcC ev xs = bc at *
    refine AC.of_body 0 Try.func29 rfl (fun l h => absurd rfl h) (fun C hC => ?_)
    have hD : ∀ l, ¬ C.D0 l := fun l h => (hC l).1 h rfl
    simp only [startFr, Try.ntmps29, List.length_cons, List.length_nil, Nat.reduceAdd, Nat.reduceSub, List.replicate_succ, List.replicate_zero, List.cons_append, List.nil_append]
    repeat' (first | ((first | apply Ba | (apply Bb; (· rfl); (· rfl)) | (apply Bc; (· exact nxE)) | (apply Bd; (· rfl); (· rfl); (· exact nxE))); (· first | exact Kz rfl rfl (hq) (Aa (Ad (Ad An)) An) | exact Ok.pe)) | ((first | apply Ca | (apply Cb; (· exact nxE))); (· first | exact Ok.e0)) | refine Sx ?_ | (refine Sy (fun h => ?_) (fun h => ?_) <;> try (exfalso; omega; done)) | refine Sz (fun h => ?_) (fun h => ?_))
    exact end2nil (.inl rfl) rfl (rT rfl) (rT rfl) hD
end Go.Proofs.Ytegfjedklebbfaa
end
