/-
  Walks in the abstract reading, part 11.
-/
import Derived.Test.YtegfjedklebbfaaKmU10
import Derived.Test.YtegfjedklebbfaaKmA3
import Derived.Test.YtegfjedklebbfaaKmU9
section
namespace Go.Proofs.Ytegfjedklebbfaa
set_option linter.unusedSimpArgs false
set_option linter.unusedVariables false
open Go Go.RowKit
attribute [local irreducible] AL AD AW OpOk Le AC thenQ blockQ EndQ

abbrev hsCr (n : Nat) (s : Nat → Nat → Int) (u1 u2 : Int) : HL := [(⟨20, []⟩, ⟨20, []⟩, ⟨1, [[TL (tabF n n s)]]⟩), (⟨8, []⟩, ⟨8, []⟩, ⟨2, [[I u1, I u2]]⟩)]
theorem hsCr_ok {n : Nat} {s : Nat → Nat → Int} {u1 u2 : Int} : HOk (hsCr n s u1 u2) := by
  intro p hp r hr c hc
  simp at hp
  rcases hp with rfl | rfl
  · simp at hr; subst hr; simp at hc; subst hc; exact .d _
  · simp at hr; subst hr; simp at hc; rcases hc with rfl | rfl <;> exact .d _
def isCr (s : Nat → Nat → Int) (u1 u2 : Int) (p : Pl) : Bool := !decide (s p.f.toNat p.t.toNat = BOT) && decide (pw u1 u2 p + s p.f.toNat p.t.toNat = 0)
set_option maxHeartbeats 1000000 in
theorem critFn_ac (n : Nat) (s : Nat → Nat → Int) (u1 u2 : Int) (p : Pl) (hp : okPl n p) (h1 : 0 ≤ u2 * p.d ∧ u2 * p.d ≤ 1000000) (h2 : 0 ≤ u1 * p.k ∧ u1 * p.k ≤ 1000000) (hb : s p.f.toNat p.t.toNat = BOT ∨ (-102400000000000 ≤ s p.f.toNat p.t.toNat ∧ s p.f.toNat p.t.toNat ≤ 1000000000000)) : AC Try.prog 138 [p.av, Bx 1 20, Bx 2 8] (heapL (hsCr n s u1 u2)) (Bo (isCr s u1 u2 p)) (heapL (hsCr n s u1 u2)) := by
  obtain ⟨⟨g1, g2⟩, ⟨g3, g4⟩, _⟩ := hp
  have hPW := placeWeight_ac p u1 u2 (by omega) (by omega)
  have hpwb : -1000000 ≤ pw u1 u2 p ∧ pw u1 u2 p ≤ 1000000 := by unfold pw; omega
  unfold isCr
  generalize hw : pw u1 u2 p = w at *
  obtain ⟨pf, pt, pd, pk⟩ := p
  obtain ⟨a, rfl⟩ : ∃ f : Nat, pf = f := ⟨pf.toNat, by simp at g1; omega⟩
  obtain ⟨t, rfl⟩ : ∃ t : Nat, pt = t := ⟨pt.toNat, by simp at g3; omega⟩
  simp only [Int.toNat_natCast] at g2 g4 hb ⊢
  obtain ⟨rr, hr1, hr2, hr3⟩ := (tabF_rc (m := n) (n := n) (f := s)).get (show a < n by omega) (show t < n by omega)
  rw [tabF_ent (by omega) (by omega)] at hr2
  have hr1' := TR_get hr1
  have hrf := IR_get hr2
  have hrl : (IR rr).length = n := by rw [IR_len, hr3]
  by_cases hbot : s a t = BOT
  · rw [hbot] at hrf
    rw [decide_eq_true hbot]
    unfold BOT at hrf
    simp only [Bool.not_true, Bool.false_and]
    refine AC.of_body 21 Try.func138 rfl (fun l h => by simp [heapL, upd] at h; (repeat' split at h) <;> simp_all) (fun C hC => ?_)
    simp only [startFr, Try.ntmps138, List.length_cons, List.length_nil, Nat.reduceAdd, Nat.reduceSub, List.replicate_succ, List.replicate_zero, List.cons_append, List.nil_append]
    have hD : ∀ l, C.D0 l → l = ⟨20, []⟩ ∨ l = ⟨8, []⟩ := fun l h => by have := (hC l).1 h; simp [heapL, upd] at this; (repeat' split at this) <;> simp_all
    repeat' (first | ((first | apply Ba | (apply Bb; (· rfl); (· rfl)) | (apply Bc; (· exact nxE)) | (apply Bd; (· rfl); (· rfl); (· exact nxE))); (· first | exact Ok.pe)) | ((first | apply Ca | (apply Cb; (· exact nxE))); (· first | exact Ok.e0)) | refine Sx ?_ | (refine Sy (fun h => ?_) (fun h => ?_) <;> try (exfalso; omega; done)) | refine Sz (fun h => ?_) (fun h => ?_))
    (refine end1p (by first | exact .inl rfl | exact .inr rfl) rfl (by first | exact rT rfl | exact rCA rfl rfl rfl rfl (by simp) | exact rCC rfl rfl rfl rfl rfl) ?_ (Le.head ([(⟨20, []⟩, ⟨20, []⟩, ⟨1, [[TL (tabF n n s)]]⟩), (⟨8, []⟩, ⟨8, []⟩, ⟨2, [[I u1, I u2]]⟩)]) (by first | exact fun l h => absurd h (hD l) | (intro l h; rcases hD l h with rfl; simp [tauL]) | (intro l h; rcases hD l h with rfl | rfl <;> simp [tauL]; done) | (intro l h; rcases hD l h with rfl | rfl | rfl <;> simp [tauL])) ?_ ?_ (by simp) (by simp) (by simp [AllP]) (n' := 1000)); (· rfl)) <;> (repeat' (first | exact trivial | exact ARs.nil | refine ARs.cons ?_ ?_ | exact AR.dead _ | exact AR.dd _ | exact AR.i (by (try dsimp only); omega) | exact AR.ptr _ _ _ _ (by simp [heapL, upd]) | exact AR.own _ _ _ _ (by simp [heapL, upd]) | refine AR.ownE _ _ _ ?_ (by simp [heapL, upd]) | refine ⟨⟨_, rfl, ?_⟩, ?_⟩ | exact ObA.data | refine ObA.box ?_ | refine ObA.frE ?_ | refine ObA.dataE ?_ | refine ARs.agg ?_ | refine ARs.tup ?_ | exact AR.clo' ARs.nil ARs.nil | exact AR.clo' ARs.nil (hca _ _)))
  · rw [decide_eq_false hbot]
    have hb2 := hb.resolve_left hbot
    simp only [Bool.not_false, Bool.true_and]
    unfold BOT at hbot
    refine AC.of_body 21 Try.func138 rfl (fun l h => by simp [heapL, upd] at h; (repeat' split at h) <;> simp_all) (fun C hC => ?_)
    simp only [startFr, Try.ntmps138, List.length_cons, List.length_nil, Nat.reduceAdd, Nat.reduceSub, List.replicate_succ, List.replicate_zero, List.cons_append, List.nil_append]
    have hD : ∀ l, C.D0 l → l = ⟨20, []⟩ ∨ l = ⟨8, []⟩ := fun l h => by have := (hC l).1 h; simp [heapL, upd] at this; (repeat' split at this) <;> simp_all
    repeat' (first | ((first | apply Ba | (apply Bb; (· rfl); (· rfl)) | (apply Bc; (· exact nxE)) | (apply Bd; (· rfl); (· rfl); (· exact nxE))); (· first | exact Kz rfl rfl (hPW) (Aa (Ad (Ad (Ad (Ad An)))) (Aa (Ad (Ad An)) An)) | exact Ok.pe)) | ((first | apply Ca | (apply Cb; (· exact nxE))); (· first | exact Ok.e0)) | refine Sx ?_ | (refine Sy (fun h => ?_) (fun h => ?_) <;> try (exfalso; omega; done)) | refine Sz (fun h => ?_) (fun h => ?_))
    all_goals
      (refine end1p (by first | exact .inl rfl | exact .inr rfl) rfl (by first | exact rT rfl | exact rCA rfl rfl rfl rfl (by simp) | exact rCC rfl rfl rfl rfl rfl) ?_ (Le.head ([(⟨20, []⟩, ⟨20, []⟩, ⟨1, [[TL (tabF n n s)]]⟩), (⟨8, []⟩, ⟨8, []⟩, ⟨2, [[I u1, I u2]]⟩)]) (by first | exact fun l h => absurd h (hD l) | (intro l h; rcases hD l h with rfl; simp [tauL]) | (intro l h; rcases hD l h with rfl | rfl <;> simp [tauL]; done) | (intro l h; rcases hD l h with rfl | rfl | rfl <;> simp [tauL])) ?_ ?_ (by simp) (by simp) (by simp [AllP]) (n' := 1000)); (· rfl)) <;> (repeat' (first | exact trivial | exact ARs.nil | refine ARs.cons ?_ ?_ | exact AR.dead _ | exact AR.dd _ | exact AR.i (by (try dsimp only); omega) | exact AR.ptr _ _ _ _ (by simp [heapL, upd]) | exact AR.own _ _ _ _ (by simp [heapL, upd]) | refine AR.ownE _ _ _ ?_ (by simp [heapL, upd]) | refine ⟨⟨_, rfl, ?_⟩, ?_⟩ | exact ObA.data | refine ObA.box ?_ | refine ObA.frE ?_ | refine ObA.dataE ?_ | refine ARs.agg ?_ | refine ARs.tup ?_ | exact AR.clo' ARs.nil ARs.nil | exact AR.clo' ARs.nil (hca _ _)))
/-- The places with a property, by their numbers. -/
def pwL (f : Pl → Bool) (xs : List Pl) (k : Nat) : List Int := cN ((List.range k).filter fun e => f (plA xs e))
theorem pwL_yes {f : Pl → Bool} {xs : List Pl} {k : Nat} (h : f (plA xs k) = true) : pwL f xs (k + 1) = pwL f xs k ++ [(k : Int)] := by simp [pwL, List.range_succ, List.filter_append, h]
theorem pwL_no {f : Pl → Bool} {xs : List Pl} {k : Nat} (h : f (plA xs k) = false) : pwL f xs (k + 1) = pwL f xs k := by simp [pwL, List.range_succ, List.filter_append, h]
theorem pwL_le {f : Pl → Bool} {xs : List Pl} {k : Nat} : (pwL f xs k).length ≤ k := by
  unfold pwL
  simp only [List.length_map]
  exact Nat.le_trans (List.length_filter_le _ _) (by simp)
set_option maxHeartbeats 2000000 in
theorem placesCr_ac (n : Nat) (xs : List Pl) (s : Nat → Nat → Int) (u1 u2 : Int) (hx : xs.length ≤ 100000) (hv : ∀ p ∈ xs, okPl n p) (hpw : ∀ i, i < xs.length → (0 ≤ u2 * (plA xs i).d ∧ u2 * (plA xs i).d ≤ 500000) ∧ (0 ≤ u1 * (plA xs i).k ∧ u1 * (plA xs i).k ≤ 500000)) (hB : ∀ {i j}, i < n → j < n → s i j = BOT ∨ (-102400000000000 ≤ s i j ∧ s i j ≤ 1000000000000)) : AC Try.prog 137 [grD n xs, .clo (.func 138) [] [Bx 1 20, Bx 2 8]] (heapL (hsCr n s u1 u2)) (.own 1 ⟨21, []⟩ 0 (pwL (isCr s u1 u2) xs xs.length).length) (heapL ((⟨21, []⟩, ⟨21, []⟩, IO (pwL (isCr s u1 u2) xs xs.length)) :: hsCr n s u1 u2)) := by
  refine AC.of_body 21 Try.func137 rfl (fun l h => by simp [heapL, upd] at h; (repeat' split at h) <;> simp_all) (fun C hC => ?_)
  simp only [startFr, Try.ntmps137, List.length_cons, List.length_nil, Nat.reduceAdd, Nat.reduceSub, List.replicate_succ, List.replicate_zero, List.cons_append, List.nil_append]
  have hD : ∀ l, C.D0 l → l = ⟨20, []⟩ ∨ l = ⟨8, []⟩ := fun l h => by have := (hC l).1 h; simp [heapL, upd] at this; (repeat' split at this) <;> simp_all
  repeat' (first | ((first | apply Ba | (apply Bb; (· rfl); (· rfl)) | (apply Bc; (· exact nxE)) | (apply Bd; (· rfl); (· rfl); (· exact nxE))); (· first | exact Ok.pe)) | ((first | apply Ca | (apply Cb; (· exact nxE))); (· first | exact Ok.e0)) | refine Sx ?_ | (refine Sy (fun h => ?_) (fun h => ?_) <;> try (exfalso; omega; done)) | refine Sz (fun h => ?_) (fun h => ?_))
  refine AW.loop (X := {k : Nat // k ≤ xs.length}) (fun k => ⟨[Oo, .clo (.func 138) [] [Bx 1 20, Bx 2 8], Oo, Oo, Oo, .own 1 ⟨21, []⟩ 0 (pwL (isCr s u1 u2) xs (k.1 : Nat)).length, Oo, Oo, Oo, PL xs, I xs.length, I (k.1 : Nat), Oo, Oo, Oo, Oo, Oo, Oo, Oo, Oo, Oo, Oo, Oo, Oo, Oo], heapL [(⟨21, []⟩, ⟨21, []⟩, IO (pwL (isCr s u1 u2) xs k.1)), (⟨20, []⟩, ⟨20, []⟩, ⟨1, [[TL (tabF n n s)]]⟩), (⟨8, []⟩, ⟨8, []⟩, ⟨2, [[I u1, I u2]]⟩)], 900⟩) (fun k => xs.length - k.1) ⟨0, Nat.zero_le _⟩ ?_ (fun k => ?_)
  ·
    refine (Le.nil 5 1 rfl).trans ?_
    (apply Le.headZ [_, _, _] rfl)
    all_goals (try dsimp only [srcs])
    (case' hfr | hob => (repeat' (first | refine La ?_ ?_ | exact Lc | refine Lo ?_ | refine ⟨⟨_, rfl, ?_⟩, ?_⟩ | refine Lx ?_)))
    all_goals (first | (rfl) | exact Ld)
  obtain ⟨k, hk⟩ := k
  simp only
  by_cases hlt : k < xs.length
  · have hrow := pl_row (n := 0) hlt
    have hpwk := hpw k hlt
    obtain ⟨⟨g1, g2⟩, ⟨g3, g4⟩, g5⟩ := okPl_at hv k hlt
    have hF := critFn_ac n s u1 u2 (plA xs k) ⟨⟨g1, g2⟩, ⟨g3, g4⟩, g5⟩ (by omega) (by omega) (hB (by omega) (by omega))
    have hyes := pwL_yes (f := isCr s u1 u2) (xs := xs) (k := k)
    have hno := pwL_no (f := isCr s u1 u2) (xs := xs) (k := k)
    have hle := pwL_le (f := isCr s u1 u2) (xs := xs) (k := k)
    generalize isCr s u1 u2 (plA xs k) = cr at hF hyes hno
    generalize plA xs k = p at *
    obtain ⟨pf, pt, pd, pk⟩ := p
    cases cr
    ·
      repeat' (first | ((first | apply Ba | (apply Bb; (· rfl); (· rfl)) | (apply Bc; (· exact nxE)) | (apply Bd; (· rfl); (· rfl); (· exact nxE))); (· first | exact OpOk.callS (hsCr n s u1 u2) rfl rfl hF (by intro p hp; simp only [List.mem_cons, List.not_mem_nil, or_false] at hp; rcases hp with rfl | rfl <;> rfl) hsCr_ok (.d _) (.cons (ARs.agg (.cons (.dd _) (.cons (.dd _) (.cons (.dd _) (.cons (.dd _) .nil))))) (.cons (AR.ptr _ _ _ _ (by simp)) (.cons (AR.ptr _ _ _ _ (by simp)) .nil))) | exact Ok.pe)) | ((first | apply Ca | (apply Cb; (· exact nxE))); (· first | exact Ok.e0)) | refine Sx ?_ | (refine Sy (fun h => ?_) (fun h => ?_) <;> try (exfalso; omega; done)) | refine Sz (fun h => ?_) (fun h => ?_))
      refine ⟨⟨k + 1, by omega⟩, ?_, by simp only; omega⟩
      simp only
      rw [hno rfl]
      (apply Le.headZ [_, _, _] rfl)
      all_goals (try dsimp only [srcs])
      (case' hfr | hob => (repeat' (first | refine La ?_ ?_ | exact Lc | refine Lo ?_ | refine ⟨⟨_, rfl, ?_⟩, ?_⟩ | refine Lx ?_)))
      all_goals (first | (rfl) | exact Ld)
    ·
      repeat' (first | ((first | apply Ba | (apply Bb; (· rfl); (· rfl)) | (apply Bc; (· exact nxE)) | (apply Bd; (· rfl); (· rfl); (· exact nxE))); (· first | exact OpOk.callS (hsCr n s u1 u2) rfl rfl hF (by intro p hp; simp only [List.mem_cons, List.not_mem_nil, or_false] at hp; rcases hp with rfl | rfl <;> rfl) hsCr_ok (.d _) (.cons (ARs.agg (.cons (.dd _) (.cons (.dd _) (.cons (.dd _) (.cons (.dd _) .nil))))) (.cons (AR.ptr _ _ _ _ (by simp)) (.cons (AR.ptr _ _ _ _ (by simp)) .nil))) | exact Ok.append1 (row := [DI k]) rfl rfl (by decide) rfl rfl (by simp; done) rfl rfl rfl (by rfl) (by omega) (by omega) | exact Ok.pe)) | ((first | apply Ca | (apply Cb; (· exact nxE))); (· first | exact Ok.append1 (row := [DI k]) rfl rfl (by decide) rfl rfl (by simp; done) rfl rfl rfl (by rfl) (by omega) (by omega) | exact Ok.e0)) | refine Sx ?_ | (refine Sy (fun h => ?_) (fun h => ?_) <;> try (exfalso; omega; done)) | refine Sz (fun h => ?_) (fun h => ?_))
      refine ⟨⟨k + 1, by omega⟩, ?_, by simp only; omega⟩
      simp only
      rw [hyes rfl]
      (apply Le.headZ [_, _, _] rfl)
      all_goals (try dsimp only [srcs])
      (case' hfr | hob => (repeat' (first | refine La ?_ ?_ | exact Lc | refine Lo ?_ | refine ⟨⟨_, rfl, ?_⟩, ?_⟩ | refine Lx ?_)))
      all_goals (first | ((first | rfl | (simp; done) | (rw [IR_app]; done))) | exact Ld)
  ·
    obtain rfl : k = xs.length := by omega
    repeat' (first | ((first | apply Ba | (apply Bb; (· rfl); (· rfl)) | (apply Bc; (· exact nxE)) | (apply Bd; (· rfl); (· rfl); (· exact nxE))); (· first | exact Ok.pe)) | ((first | apply Ca | (apply Cb; (· exact nxE))); (· first | exact Ok.e0)) | refine Sx ?_ | (refine Sy (fun h => ?_) (fun h => ?_) <;> try (exfalso; omega; done)) | refine Sz (fun h => ?_) (fun h => ?_))
    (refine end1p (by first | exact .inl rfl | exact .inr rfl) rfl (by first | exact rT rfl | exact rCA rfl rfl rfl rfl (by simp) | exact rCC rfl rfl rfl rfl rfl) ?_ (Le.head ([(⟨21, []⟩, ⟨21, []⟩, IO (pwL (isCr s u1 u2) xs xs.length)), (⟨20, []⟩, ⟨20, []⟩, ⟨1, [[TL (tabF n n s)]]⟩), (⟨8, []⟩, ⟨8, []⟩, ⟨2, [[I u1, I u2]]⟩)]) (by first | exact fun l h => absurd h (hD l) | (intro l h; rcases hD l h with rfl; simp [tauL]) | (intro l h; rcases hD l h with rfl | rfl <;> simp [tauL]; done) | (intro l h; rcases hD l h with rfl | rfl | rfl <;> simp [tauL])) ?_ ?_ (by simp) (by simp) (by simp [AllP]) (n' := 1000)); (· rfl)) <;> (repeat' (first | exact trivial | exact ARs.nil | refine ARs.cons ?_ ?_ | exact AR.dead _ | exact AR.dd _ | exact AR.i (by (try dsimp only); omega) | exact AR.ptr _ _ _ _ (by simp [heapL, upd]) | exact AR.own _ _ _ _ (by simp [heapL, upd]) | refine AR.ownE _ _ _ ?_ (by simp [heapL, upd]) | refine ⟨⟨_, rfl, ?_⟩, ?_⟩ | exact ObA.data | refine ObA.box ?_ | refine ObA.frE ?_ | refine ObA.dataE ?_ | refine ARs.agg ?_ | refine ARs.tup ?_ | exact AR.clo' ARs.nil ARs.nil | exact AR.clo' ARs.nil (hca _ _)))
set_option maxHeartbeats 4000000 in
theorem iCriticalPlaces_ac (ev : Nat) (xs : List Pl) (hx : xs.length ≤ 100000000) : AC Try.prog 34 [grD ev xs] H0 (.tup [own1 1 (crL ev xs).length, I (cqC ev xs true)]) (hp1 (IO (crL ev xs))) := by
  have hq := timeOf_ac ev xs hx
  rw [in_yes]
  unfold crL
  rw [in_yes]
  by_cases hc : bcC ev xs = 0
  · rw [if_pos hc]
    rw [hc] at hq ⊢
    obtain ⟨n, hev, h1, h2, h3, h4, h5, h6, h8, h9, h10, h11⟩ := bc_star hc
    obtain rfl : ev = n := by omega
    rw [h8] at hq
    have hW := (weightMatrix_ac ev xs (maxR xs).1 (maxR xs).2 (by omega) (by omega) h4 h9 ⟨by omega, h10.2⟩).frzT (by rw [TR_len]; exact h11.rc.l)
    have hS := (starOf_ac (wmT ev xs (maxR xs)) ev h11).frzT2 (by rw [TR_len, tabF_len])
    have hB := fun {i j} => h11.starB (i := i) (j := j)
    have hpw := plW_le h4 h9 (show 0 ≤ (maxR xs).2 ∧ (maxR xs).2 ≤ 50 by omega)
    have hlW : (wmT ev xs (maxR xs)).length = ev := h11.rc.l
    have hP := placesCr_ac ev xs (starF (entN (wmT ev xs (maxR xs))) ev) (maxR xs).1 (maxR xs).2 (by omega) h4 hpw hB
    have hcr : criF (mgG ev xs) xs.length = pwL (isCr (starF (entN (wmT ev xs (maxR xs))) ev) (maxR xs).1 (maxR xs).2) xs xs.length := by
      unfold criF pwL
      congr 1
      refine List.filter_congr fun i hi => ?_
      unfold mgG gapI isCr pw
      rw [Int.toNat_natCast]
      by_cases e : starF (entN (wmT ev xs (maxR xs))) ev (plA xs i).f.toNat (plA xs i).t.toNat = BOT
      · rw [if_pos e, decide_eq_true e]; rfl
      · rw [if_neg e, decide_eq_false e]
        simp only [Bool.not_false, Bool.true_and]
        exact decide_eq_decide.2 (by omega)
    rw [hcr]
    generalize starF (entN (wmT ev xs (maxR xs))) ev = s at *
    have hWl : (mRows 1 (TR (wmT ev xs (maxR xs)))).length = ev := by rw [mTR_len]; exact hlW
    generalize hwm : wmT ev xs (maxR xs) = wm at *
    generalize maxR xs = r at *
    obtain ⟨u1, u2⟩ := r
    simp only at hW hS hP ⊢
    have hrl : (pwL (isCr s u1 u2) xs xs.length).length ≤ xs.length := pwL_le
    generalize pwL (isCr s u1 u2) xs xs.length = out at *
    refine AC.of_body 0 Try.func34 rfl (fun l h => absurd rfl h) (fun C hC => ?_)
    have hD : ∀ l, ¬ C.D0 l := fun l h => (hC l).1 h rfl
    simp only [startFr, Try.ntmps34, List.length_cons, List.length_nil, Nat.reduceAdd, Nat.reduceSub, List.replicate_succ, List.replicate_zero, List.cons_append, List.nil_append]
    repeat' (first | ((first | apply Ba | (apply Bb; (· rfl); (· rfl)) | (apply Bc; (· exact nxE)) | (apply Bd; (· rfl); (· rfl); (· exact nxE))); (· first | exact Kz rfl rfl (hq) (Aa (Ad (Ad An)) An) | exact Kz rfl rfl (hW) (Aa (Ad (Ad An)) (Aa (Ad (Ad An)) An)) | exact Kz rfl rfl (hS) (Ad An) | exact OpOk.callSR (hsCr ev s u1 u2) ⟨21, []⟩ (IO out) rfl rfl hP (by intro p hp; simp only [List.mem_cons, List.not_mem_nil, or_false] at hp; rcases hp with rfl | rfl <;> rfl) hsCr_ok (by simp) (fun _ => rnO_dobj _ _ _) (.cons (ARs.agg (.cons (.dd _) (.cons (.dd _) .nil))) (.cons (AR.clo' .nil (.cons (AR.ptr _ _ _ _ (by simp)) (.cons (AR.ptr _ _ _ _ (by simp)) .nil))) .nil)) (by simp [rn, emb]; rfl) | exact Ok.pe)) | ((first | apply Ca | (apply Cb; (· exact nxE))); (· first | exact OpOk.callSR (hsCr ev s u1 u2) ⟨21, []⟩ (IO out) rfl rfl hP (by intro p hp; simp only [List.mem_cons, List.not_mem_nil, or_false] at hp; rcases hp with rfl | rfl <;> rfl) hsCr_ok (by simp) (fun _ => rnO_dobj _ _ _) (.cons (ARs.agg (.cons (.dd _) (.cons (.dd _) .nil))) (.cons (AR.clo' .nil (.cons (AR.ptr _ _ _ _ (by simp)) (.cons (AR.ptr _ _ _ _ (by simp)) .nil))) .nil)) (by simp [rn, emb]; rfl) | exact Ok.e0)) | refine Sx ?_ | (refine Sy (fun h => ?_) (fun h => ?_) <;> try (exfalso; omega; done)) | refine Sz (fun h => ?_) (fun h => ?_))
    refine Yb ?_
    (apply Le.head [(⟨0, []⟩, _, _)])
    (case' hfr | hob => (repeat' (first | refine La ?_ ?_ | exact Lc | refine Lo ?_ | refine ⟨⟨_, rfl, ?_⟩, ?_⟩ | refine Lx ?_)))
    all_goals (first | exact Ld | (rfl))
  · rw [if_neg hc]
    have hbc : bcC ev xs ≠ 0 := hc
    generalize ctR ev xs = r at *
    generalize bcC ev xs = bc at *
    refine AC.of_body 0 Try.func34 rfl (fun l h => absurd rfl h) (fun C hC => ?_)
    have hD : ∀ l, ¬ C.D0 l := fun l h => (hC l).1 h rfl
    simp only [startFr, Try.ntmps34, List.length_cons, List.length_nil, Nat.reduceAdd, Nat.reduceSub, List.replicate_succ, List.replicate_zero, List.cons_append, List.nil_append]
    repeat' (first | ((first | apply Ba | (apply Bb; (· rfl); (· rfl)) | (apply Bc; (· exact nxE)) | (apply Bd; (· rfl); (· rfl); (· exact nxE))); (· first | exact Kz rfl rfl (hq) (Aa (Ad (Ad An)) An) | exact Ok.pe)) | ((first | apply Ca | (apply Cb; (· exact nxE))); (· first | exact Ok.e0)) | refine Sx ?_ | (refine Sy (fun h => ?_) (fun h => ?_) <;> try (exfalso; omega; done)) | refine Sz (fun h => ?_) (fun h => ?_))
    exact end2nil (.inl rfl) rfl (rT rfl) (rT rfl) hD
set_option maxHeartbeats 2000000 in
theorem iMarginOf_ac (ev : Int) (xs : List Pl) (i : Int) (hx : xs.length ≤ 100000000) : AC Try.prog 32 [grD ev xs, I i] H0 (.tup [I (moV ev xs i), I (cqC ev xs (wi i 0 ((xs.length : Int) - 1)))]) H0 := by
  have hE := iIsEventGraph_ac ev xs hx
  have hI := within_ac i 0 ((xs.length : Int) - 1)
  unfold moV
  cases hg : isEG ev xs
  · rw [eg_no hg, if_neg (by decide)]
    rw [hg] at hE
    refine AC.of_body 0 Try.func32 rfl (fun l h => absurd rfl h) (fun C hC => ?_)
    have hD : ∀ l, ¬ C.D0 l := fun l h => (hC l).1 h rfl
    simp only [startFr, Try.ntmps32, List.length_cons, List.length_nil, Nat.reduceAdd, Nat.reduceSub, List.replicate_succ, List.replicate_zero, List.cons_append, List.nil_append]
    repeat' (first | ((first | apply Ba | (apply Bb; (· rfl); (· rfl)) | (apply Bc; (· exact nxE)) | (apply Bd; (· rfl); (· rfl); (· exact nxE))); (· first | exact Kz rfl rfl (hE) (Aa (Ad (Ad An)) An) | exact Ok.pe)) | ((first | apply Ca | (apply Cb; (· exact nxE))); (· first | exact Ok.e0)) | refine Sx ?_ | (refine Sy (fun h => ?_) (fun h => ?_) <;> try (exfalso; omega; done)) | refine Sz (fun h => ?_) (fun h => ?_))
    refine Yb ?_
    (apply Le.headZ (hs := []) [] rfl)
    all_goals (try dsimp only [srcs])
    (case' hfr => (repeat' (first | refine La ?_ ?_ | exact Lc | refine Lo ?_ | refine ⟨⟨_, rfl, ?_⟩, ?_⟩ | refine Lx ?_)))
    all_goals (first | exact Ld | exact trivial | (rfl))
  rw [hg] at hE
  cases h1 : wi i 0 ((xs.length : Int) - 1)
  · rw [in_no hg, if_neg (by decide)]
    rw [h1] at hI
    refine AC.of_body 0 Try.func32 rfl (fun l h => absurd rfl h) (fun C hC => ?_)
    have hD : ∀ l, ¬ C.D0 l := fun l h => (hC l).1 h rfl
    simp only [startFr, Try.ntmps32, List.length_cons, List.length_nil, Nat.reduceAdd, Nat.reduceSub, List.replicate_succ, List.replicate_zero, List.cons_append, List.nil_append]
    repeat' (first | ((first | apply Ba | (apply Bb; (· rfl); (· rfl)) | (apply Bc; (· exact nxE)) | (apply Bd; (· rfl); (· rfl); (· exact nxE))); (· first | exact Kz rfl rfl (hE) (Aa (Ad (Ad An)) An) | exact Kz rfl rfl (hI) (Ad (Ad (Ad An))) | exact Ok.pe)) | ((first | apply Ca | (apply Cb; (· exact nxE))); (· first | exact Ok.e0)) | refine Sx ?_ | (refine Sy (fun h => ?_) (fun h => ?_) <;> try (exfalso; omega; done)) | refine Sz (fun h => ?_) (fun h => ?_))
    refine Yb ?_
    (apply Le.headZ (hs := []) [] rfl)
    all_goals (try dsimp only [srcs])
    (case' hfr => (repeat' (first | refine La ?_ ?_ | exact Lc | refine Lo ?_ | refine ⟨⟨_, rfl, ?_⟩, ?_⟩ | refine Lx ?_)))
    all_goals (first | exact Ld | exact trivial | (rfl))
  · rw [h1] at hI
    obtain ⟨i', rfl⟩ : ∃ n : Nat, i = n := ⟨i.toNat, by have := wi_iff.1 h1; omega⟩
    have hi : i' < xs.length := by have := wi_iff.1 h1; omega
    obtain ⟨n, rfl, g1, g2, g3, g4⟩ := isEG_ok hg
    have hM := iMarginsOf_ac n xs hx
    rw [Int.toNat_natCast]
    unfold mgL at hM
    by_cases hc : cqC n xs true = 0
    · rw [if_pos hc] at hM ⊢
      rw [hc] at hM ⊢
      have hcell : (IR (rowF xs.length (mgN n xs)))[i']? = some [DI (mgN n xs i')] := IRF_get hi
      generalize mgN n xs = g at *
      rw [rowF_len] at hM
      refine AC.of_body 0 Try.func32 rfl (fun l h => absurd rfl h) (fun C hC => ?_)
      have hD : ∀ l, ¬ C.D0 l := fun l h => (hC l).1 h rfl
      simp only [startFr, Try.ntmps32, List.length_cons, List.length_nil, Nat.reduceAdd, Nat.reduceSub, List.replicate_succ, List.replicate_zero, List.cons_append, List.nil_append]
      repeat' (first | ((first | apply Ba | (apply Bb; (· rfl); (· rfl)) | (apply Bc; (· exact nxE)) | (apply Bd; (· rfl); (· rfl); (· exact nxE))); (· first | exact Kz rfl rfl (hE) (Aa (Ad (Ad An)) An) | exact Kz rfl rfl (hI) (Ad (Ad (Ad An))) | exact Ok.ld1 rfl rfl rfl hcell | exact Eo rfl rfl (hM) (Sa (Sd (Sd Sn)) Sn) | exact Ok.pe)) | ((first | apply Ca | (apply Cb; (· exact nxE))); (· first | exact Eo rfl rfl (hM) (Sa (Sd (Sd Sn)) Sn) | exact Ok.e0)) | refine Sx ?_ | (refine Sy (fun h => ?_) (fun h => ?_) <;> try (exfalso; omega; done)) | refine Sz (fun h => ?_) (fun h => ?_))
      refine Yb ?_
      (apply Le.headZ (hs := []) [] rfl)
      all_goals (try dsimp only [srcs])
      (case' hfr => (repeat' (first | refine La ?_ ?_ | exact Lc | refine Lo ?_ | refine ⟨⟨_, rfl, ?_⟩, ?_⟩ | refine Lx ?_)))
      all_goals (first | exact Ld | exact trivial | (rfl))
    · rw [if_neg hc] at hM ⊢
      generalize cqC n xs true = bc at *
      refine AC.of_body 0 Try.func32 rfl (fun l h => absurd rfl h) (fun C hC => ?_)
      have hD : ∀ l, ¬ C.D0 l := fun l h => (hC l).1 h rfl
      simp only [startFr, Try.ntmps32, List.length_cons, List.length_nil, Nat.reduceAdd, Nat.reduceSub, List.replicate_succ, List.replicate_zero, List.cons_append, List.nil_append]
      repeat' (first | ((first | apply Ba | (apply Bb; (· rfl); (· rfl)) | (apply Bc; (· exact nxE)) | (apply Bd; (· rfl); (· rfl); (· exact nxE))); (· first | exact Kz rfl rfl (hE) (Aa (Ad (Ad An)) An) | exact Kz rfl rfl (hI) (Ad (Ad (Ad An))) | exact Eo rfl rfl (hM) (Sa (Sd (Sd Sn)) Sn) | exact Ok.pe)) | ((first | apply Ca | (apply Cb; (· exact nxE))); (· first | exact Eo rfl rfl (hM) (Sa (Sd (Sd Sn)) Sn) | exact Ok.e0)) | refine Sx ?_ | (refine Sy (fun h => ?_) (fun h => ?_) <;> try (exfalso; omega; done)) | refine Sz (fun h => ?_) (fun h => ?_))
      refine Yb ?_
      (apply Le.headZ (hs := []) [] rfl)
      all_goals (try dsimp only [srcs])
      (case' hfr => (repeat' (first | refine La ?_ ?_ | exact Lc | refine Lo ?_ | refine ⟨⟨_, rfl, ?_⟩, ?_⟩ | refine Lx ?_)))
      all_goals (first | exact Ld | exact trivial | (rfl))
theorem eg_neg {ev : Int} {xs : List Pl} (h : ¬ 0 ≤ ev) : isEG ev xs = false := by
  cases hg : isEG ev xs
  · rfl
  · obtain ⟨n, rfl, _⟩ := isEG_ok hg; omega
theorem iMarginsOfZ_ac (ev : Int) (xs : List Pl) (hx : xs.length ≤ 100000000) : AC Try.prog 29 [grD ev xs] H0 (.tup [own1 1 (mgL ev xs).length, I (cqC ev xs true)]) (hp1 (IO (mgL ev xs))) := by
  by_cases h : 0 ≤ ev
  · obtain ⟨n, rfl⟩ : ∃ n : Nat, ev = n := ⟨ev.toNat, by omega⟩
    exact iMarginsOf_ac n xs hx
  · have hg := eg_neg (xs := xs) h
    have hq := timeOf_ac ev xs hx
    unfold mgL
    rw [eg_no hg, if_neg (by decide)]
    rw [(bc_no hg).1, (bc_no hg).2] at hq
    refine AC.of_body 0 Try.func29 rfl (fun l h => absurd rfl h) (fun C hC => ?_)
    have hD : ∀ l, ¬ C.D0 l := fun l h => (hC l).1 h rfl
    simp only [startFr, Try.ntmps29, List.length_cons, List.length_nil, Nat.reduceAdd, Nat.reduceSub, List.replicate_succ, List.replicate_zero, List.cons_append, List.nil_append]
    repeat' (first | ((first | apply Ba | (apply Bb; (· rfl); (· rfl)) | (apply Bc; (· exact nxE)) | (apply Bd; (· rfl); (· rfl); (· exact nxE))); (· first | exact Kz rfl rfl (hq) (Aa (Ad (Ad An)) An) | exact Ok.pe)) | ((first | apply Ca | (apply Cb; (· exact nxE))); (· first | exact Ok.e0)) | refine Sx ?_ | (refine Sy (fun h => ?_) (fun h => ?_) <;> try (exfalso; omega; done)) | refine Sz (fun h => ?_) (fun h => ?_))
    exact end2nil (.inl rfl) rfl (rT rfl) (rT rfl) hD
theorem iCriticalPlacesZ_ac (ev : Int) (xs : List Pl) (hx : xs.length ≤ 100000000) : AC Try.prog 34 [grD ev xs] H0 (.tup [own1 1 (crL ev xs).length, I (cqC ev xs true)]) (hp1 (IO (crL ev xs))) := by
  by_cases h : 0 ≤ ev
  · obtain ⟨n, rfl⟩ : ∃ n : Nat, ev = n := ⟨ev.toNat, by omega⟩
    exact iCriticalPlaces_ac n xs hx
  · have hg := eg_neg (xs := xs) h
    have hq := timeOf_ac ev xs hx
    unfold crL
    rw [eg_no hg, if_neg (by decide)]
    rw [(bc_no hg).1, (bc_no hg).2] at hq
    refine AC.of_body 0 Try.func34 rfl (fun l h => absurd rfl h) (fun C hC => ?_)
    have hD : ∀ l, ¬ C.D0 l := fun l h => (hC l).1 h rfl
    simp only [startFr, Try.ntmps34, List.length_cons, List.length_nil, Nat.reduceAdd, Nat.reduceSub, List.replicate_succ, List.replicate_zero, List.cons_append, List.nil_append]
    repeat' (first | ((first | apply Ba | (apply Bb; (· rfl); (· rfl)) | (apply Bc; (· exact nxE)) | (apply Bd; (· rfl); (· rfl); (· exact nxE))); (· first | exact Kz rfl rfl (hq) (Aa (Ad (Ad An)) An) | exact Ok.pe)) | ((first | apply Ca | (apply Cb; (· exact nxE))); (· first | exact Ok.e0)) | refine Sx ?_ | (refine Sy (fun h => ?_) (fun h => ?_) <;> try (exfalso; omega; done)) | refine Sz (fun h => ?_) (fun h => ?_))
    exact end2nil (.inl rfl) rfl (rT rfl) (rT rfl) hD
end Go.Proofs.Ytegfjedklebbfaa
end

section
namespace Go.Proofs.Ytegfjedklebbfaa
set_option linter.unusedSimpArgs false
set_option linter.unusedVariables false
open Go Go.RowKit

theorem growC_pre {xs : List Pl} {rn rd over : Int} : ∀ {k : Nat} {l : List Nat}, growC xs rn rd over k l ≠ [] → ∃ e, growC xs rn rd over k l = l ++ e
  | 0, _, h => by simp [growC] at h
  | k + 1, l, h => by
    unfold growC at h ⊢
    split
    · rename_i h1
      rw [if_pos h1] at h
      split
      · exact ⟨[], by simp⟩
      · rename_i h2; rw [if_neg h2] at h; exact absurd rfl h
    · rename_i h1
      rw [if_neg h1] at h
      obtain ⟨i, hi, h2, h3⟩ := tryAll_mem h
      rw [h3]
      split at h2
      · exact absurd rfl h2
      · rename_i hs
        rw [if_neg hs]
        obtain ⟨e, he⟩ := growC_pre h2
        exact ⟨i :: e, by rw [he]; simp⟩
theorem tryAll_congr {α : Type} {f g : Nat → List α} : ∀ {l : List Nat}, (∀ v ∈ l, f v = g v) → tryAll f l = tryAll g l
  | [], _ => rfl
  | v :: r, h => by
    unfold tryAll
    rw [h v (by simp), tryAll_congr fun x hx => h x (by simp [hx])]
theorem star_super {W : Nat → Nat → Int} {n : Nat} {s : Nat → Nat → Int} (hs : StarOk W n s) {u m v : Nat} (hu : u < n) (hm : m < n) (hv : v < n) (h1 : s m u ≠ BOT) (h2 : s v m ≠ BOT) : s v u ≠ BOT ∧ s m u + s v m ≤ s v u := by
  rcases hs.some u m hu hm with e | ⟨e, e2⟩ | ⟨c, c1, c2, c3⟩
  · exact absurd e h1
  · subst e; exact ⟨h2, by omega⟩
  · rcases hs.some m v hm hv with e | ⟨e, e2⟩ | ⟨c', d1, d2, d3⟩
    · exact absurd e h2
    · subst e; exact ⟨h1, by omega⟩
    · have := hs.all u v (c ++ m :: c') hu hv (fun x hx => by
        rcases List.mem_append.1 hx with h | h
        · exact c2 x h
        · rcases List.mem_cons.1 h with rfl | h
          · exact hm
          · exact d2 x h) (WM.app.2 ⟨c1, d1⟩)
      rw [wM_app] at this
      exact ⟨this.1, by omega⟩
theorem wk_wm {n : Nat} {xs : List Pl} {r : Int × Int} {t : List (List Int)} (hw : WmOk n xs r t) (hv : ∀ p ∈ xs, okPl n p) : ∀ {c : List Nat} {u v : Int}, Wk xs u c v → c ≠ [] → ∃ c', WM (entN t) u.toNat c' v.toNat ∧ (∀ x ∈ c', x < n) ∧ wgt xs r.1 r.2 c ≤ wM (entN t) u.toNat c' v.toNat
  | [], _, _, _, h => absurd rfl h
  | [i], u, v, ⟨h1, h2, h3⟩, _ => by
    have hp : plA xs i ∈ xs := by
      have e : plA xs i = xs[i] := by simp [plA, h1]
      rw [e]; exact List.getElem_mem h1
    have ha := hw.all _ hp
    have h3' : (plA xs i).t = v := h3
    subst h2 h3'
    exact ⟨[], ha.1, by simp, by simp only [wgt, wM]; omega⟩
  | i :: j :: c, u, v, ⟨h1, h2, h3⟩, _ => by
    have hp : plA xs i ∈ xs := by
      have e : plA xs i = xs[i] := by simp [plA, h1]
      rw [e]; exact List.getElem_mem h1
    have ha := hw.all _ hp
    obtain ⟨c', g1, g2, g3⟩ := wk_wm hw hv h3 (by simp)
    obtain ⟨_, ⟨k1, k2⟩, _⟩ := hv _ hp
    subst h2
    refine ⟨(plA xs i).t.toNat :: c', ⟨ha.1, g1⟩, fun x hx => ?_, ?_⟩
    · rcases List.mem_cons.1 hx with rfl | h
      · omega
      · exact g2 x h
    · have e : wgt xs r.1 r.2 (i :: j :: c) = pw r.1 r.2 (plA xs i) + wgt xs r.1 r.2 (j :: c) := rfl
      rw [e]
      simp only [wM]
      omega
/-- What is held of the weights, their star and the greatest ratio. -/
structure CrOk (xs : List Pl) (n : Nat) (r : Int × Int) (s : Nat → Nat → Int) : Prop where
  v : ∀ p ∈ xs, okPl n p
  mx : MaxR xs r
  w : WmOk n xs r (wmT n xs r)
  np : NoPos (entN (wmT n xs r)) n
  st : StarOk (entN (wmT n xs r)) n s
abbrev crB (xs : List Pl) (r : Int × Int) (s : Nat → Nat → Int) (i : Nat) : Bool := isCr s r.1 r.2 (plA xs i)
theorem crB_iff {xs : List Pl} {r : Int × Int} {s : Nat → Nat → Int} {i : Nat} : crB xs r s i = true ↔ s (plA xs i).f.toNat (plA xs i).t.toNat ≠ BOT ∧ pw r.1 r.2 (plA xs i) + s (plA xs i).f.toNat (plA xs i).t.toNat = 0 := by
  unfold crB isCr
  simp
theorem CrOk.at {xs : List Pl} {n : Nat} {r : Int × Int} {s : Nat → Nat → Int} (h : CrOk xs n r s) {i : Nat} (hi : i < xs.length) : (0 ≤ (plA xs i).f ∧ (plA xs i).f.toNat < n) ∧ (0 ≤ (plA xs i).t ∧ (plA xs i).t.toNat < n) ∧ plA xs i ∈ xs := by
  have hp : plA xs i ∈ xs := by
    have e : plA xs i = xs[i] := by simp [plA, hi]
    rw [e]; exact List.getElem_mem hi
  obtain ⟨⟨k1, k2⟩, ⟨k3, k4⟩, _⟩ := h.v _ hp
  exact ⟨⟨k1, by omega⟩, ⟨k3, by omega⟩, hp⟩
theorem CrOk.crit {xs : List Pl} {n : Nat} {r : Int × Int} {s : Nat → Nat → Int} (h : CrOk xs n r s) {c : List Nat} (hc : Circ xs c) (hz : wgt xs r.1 r.2 c = 0) {i : Nat} (hi : i ∈ c) : crB xs r s i = true := by
  have hil := hc.wk.lt i hi
  obtain ⟨⟨k1, k2⟩, ⟨k3, k4⟩, hp⟩ := h.at hil
  obtain ⟨a, b, rfl⟩ := List.append_of_mem hi
  obtain ⟨m, w1, w2, w3, w4⟩ := Wk.app.1 hc.wk
  have hwk : Wk xs (plA xs i).t (b ++ a) (plA xs i).f := Wk.app.2 ⟨_, w4, w3 ▸ w1⟩
  have hwt : wgt xs r.1 r.2 (b ++ a) = - pw r.1 r.2 (plA xs i) := by
    rw [wgt_app] at hz ⊢
    have e : wgt xs r.1 r.2 (i :: b) = pw r.1 r.2 (plA xs i) + wgt xs r.1 r.2 b := rfl
    omega
  rw [crB_iff]
  by_cases hne : b ++ a = []
  · rw [hne] at hwk hwt
    have e : (plA xs i).t = (plA xs i).f := hwk
    have hd := star_dia0 h.np h.st.some h.st.dia k2
    have hd2 := (h.st.dia _ k2).1
    rw [e, hd]
    have e0 : wgt xs r.1 r.2 ([] : List Nat) = 0 := rfl
    exact ⟨by decide, by omega⟩
  · obtain ⟨c', g1, g2, g3⟩ := wk_wm h.w h.v hwk hne
    have ha := h.st.all _ _ c' k4 k2 g2 g1
    have hg := gap_nn h.w h.np h.st (f := (plA xs i).f.toNat) (u := (plA xs i).t.toNat) k2 k4 hp (by omega) (by omega) ha.1
    exact ⟨ha.1, by omega⟩
theorem CrOk.back {xs : List Pl} {n : Nat} {r : Int × Int} {s : Nat → Nat → Int} (h : CrOk xs n r s) : ∀ {c : List Nat} {u v : Int}, Wk xs u c v → c ≠ [] → (∀ i ∈ c, crB xs r s i = true) → (v.toNat < n) ∧ s u.toNat v.toNat ≠ BOT ∧ - wgt xs r.1 r.2 c ≤ s u.toNat v.toNat
  | [], _, _, _, hn, _ => absurd rfl hn
  | [i], u, v, ⟨h1, h2, h3⟩, _, ha => by
    have h3' : (plA xs i).t = v := h3
    subst h2 h3'
    have hcr := crB_iff.1 (ha i (by simp))
    refine ⟨(h.at h1).2.1.2, hcr.1, ?_⟩
    have e : wgt xs r.1 r.2 [i] = pw r.1 r.2 (plA xs i) + 0 := rfl
    omega
  | i :: j :: c, u, v, ⟨h1, h2, h3⟩, _, ha => by
    obtain ⟨g0, g1, g2⟩ := h.back h3 (by simp) (fun x hx => ha x (by simp [hx]))
    obtain ⟨⟨k1, k2⟩, ⟨k3, k4⟩, hp⟩ := h.at h1
    have hcr := crB_iff.1 (ha i (by simp))
    subst h2
    have := star_super h.st (u := v.toNat) (m := (plA xs i).t.toNat) (v := (plA xs i).f.toNat) g0 k4 k2 g1 hcr.1
    have e : wgt xs r.1 r.2 (i :: j :: c) = pw r.1 r.2 (plA xs i) + wgt xs r.1 r.2 (j :: c) := rfl
    exact ⟨g0, this.1, by omega⟩
theorem CrOk.zero {xs : List Pl} {n : Nat} {r : Int × Int} {s : Nat → Nat → Int} (h : CrOk xs n r s) {c : List Nat} (hc : Circ xs c) (ha : ∀ i ∈ c, crB xs r s i = true) : wgt xs r.1 r.2 c = 0 := by
  obtain ⟨g0, g1, g2⟩ := h.back hc.wk hc.ne ha
  have hd := star_dia0 h.np h.st.some h.st.dia g0
  have := h.mx.le c hc
  omega
def goC (xs : List Pl) (cr : Nat → Bool) : Nat → List Nat → List Nat
  | 0, _ => []
  | k + 1, l => tryAll (fun i => if cr i = false ∨ skipC xs l i then [] else if (plA xs i).t = firstF xs l then l ++ [i] else goC xs cr k (l ++ [i])) (List.range' 0 xs.length)
def bestC (xs : List Pl) (cr : Nat → Bool) (n : Nat) : List Nat :=
  tryAll (fun i => if cr i = false then [] else if (plA xs i).t = (plA xs i).f then [i] else if (plA xs i).t < (plA xs i).f then [] else goC xs cr n [i]) (List.range' 0 xs.length)
theorem lastT_snoc {xs : List Pl} {l : List Nat} {i : Nat} : lastT xs (l ++ [i]) = (plA xs i).t := by unfold lastT; rw [lsN_snoc]
theorem firstF_snoc {xs : List Pl} {l : List Nat} {i : Nat} (h : l ≠ []) : firstF xs (l ++ [i]) = firstF xs l := by
  cases l with
  | nil => exact absurd rfl h
  | cons a l => rfl
theorem CrOk.none {xs : List Pl} {n : Nat} {r : Int × Int} {s : Nat → Nat → Int} (h : CrOk xs n r s) {k : Nat} {l : List Nat} (hp : PathC xs l) {i : Nat} (hi : i ∈ l) (hcr : crB xs r s i = false) : growC xs r.1 r.2 (-1) k l = [] := by
  refine Classical.byContradiction fun hne => ?_
  obtain ⟨g1, g2⟩ := growC_sound hp hne
  obtain ⟨e, he⟩ := growC_pre hne
  have hz : wgt xs r.1 r.2 (growC xs r.1 r.2 (-1) k l) = 0 := by
    have := h.mx.le _ g1; omega
  have := h.crit g1 hz (i := i) (by rw [he]; simp [hi])
  rw [hcr] at this; cases this
theorem PathC.circ {xs : List Pl} {l : List Nat} (hp : PathC xs l) (h : lastT xs l = firstF xs l) : Circ xs l := ⟨hp.ne, by have := hp.wk; rwa [h] at this, hp.nd, hp.mn⟩
theorem CrOk.grow {xs : List Pl} {n : Nat} {r : Int × Int} {s : Nat → Nat → Int} (h : CrOk xs n r s) : ∀ (k : Nat) (l : List Nat), PathC xs l → lastT xs l ≠ firstF xs l → (∀ j ∈ l, crB xs r s j = true) → k + l.length = n + 1 → growC xs r.1 r.2 (-1) k l = goC xs (crB xs r s) k l
  | 0, _, _, _, _, _ => rfl
  | k + 1, l, hp, hne, ha, hk => by
    unfold growC goC
    rw [if_neg hne]
    refine tryAll_congr fun i hi => ?_
    simp only [List.mem_range'_1] at hi
    by_cases hs : skipC xs l i
    · rw [if_pos hs, if_pos (.inr hs)]
    · have hp2 := hp.snoc (by omega) hne hs
      rw [if_neg hs]
      cases hcr : crB xs r s i with
      | false =>
        rw [if_pos (.inl rfl)]
        exact h.none hp2 (by simp) hcr
      | true =>
        rw [if_neg (by rintro (h | h); cases h; exact hs h)]
        have ha2 : ∀ j ∈ l ++ [i], crB xs r s j = true := fun j hj => by
          rcases List.mem_append.1 hj with hj | hj
          · exact ha j hj
          · simp at hj; subst hj; exact hcr
        by_cases hcl : (plA xs i).t = firstF xs l
        · rw [if_pos hcl]
          have hcl2 : lastT xs (l ++ [i]) = firstF xs (l ++ [i]) := by rw [lastT_snoc, firstF_snoc hp.ne, hcl]
          have hci := hp2.circ hcl2
          have hln := hci.len (n := n) (fun j hj => by have := h.at hj; omega)
          simp at hln
          obtain ⟨k', rfl⟩ : ∃ k', k = k' + 1 := ⟨k - 1, by omega⟩
          unfold growC
          rw [if_pos hcl2, if_pos (by rw [h.zero hci ha2]; decide)]
        · rw [if_neg hcl]
          exact h.grow k (l ++ [i]) hp2 (by rw [lastT_snoc, firstF_snoc hp.ne]; exact hcl) ha2 (by simp; omega)
theorem CrOk.best {xs : List Pl} {n : Nat} {r : Int × Int} {s : Nat → Nat → Int} (h : CrOk xs n r s) (h0 : 0 < n) : overC xs r.1 r.2 (-1) n = bestC xs (crB xs r s) n := by
  unfold overC bestC
  refine tryAll_congr fun i hi => ?_
  simp only [List.mem_range'_1] at hi
  by_cases hlt : (plA xs i).t < (plA xs i).f
  · rw [if_pos hlt]
    by_cases hc0 : crB xs r s i = false
    · rw [if_pos hc0]
    · rw [if_neg hc0, if_neg (by omega), if_pos hlt]
  · rw [if_neg hlt]
    have hp : PathC xs [i] := PathC.one (by omega) hlt
    cases hcr : crB xs r s i with
    | false =>
      rw [if_pos rfl]
      exact h.none hp (by simp) hcr
    | true =>
      rw [if_neg (by decide)]
      have ha : ∀ j ∈ [i], crB xs r s j = true := fun j hj => by simp at hj; subst hj; exact hcr
      by_cases heq : (plA xs i).t = (plA xs i).f
      · rw [if_pos heq]
        obtain ⟨k, rfl⟩ : ∃ k, n = k + 1 := ⟨n - 1, by omega⟩
        have hcl : lastT xs [i] = firstF xs [i] := heq
        unfold growC
        rw [if_pos hcl, if_pos (by rw [h.zero (hp.circ hcl) ha]; decide)]
      · rw [if_neg heq, if_neg hlt]
        exact h.grow n [i] hp heq ha (by simp)
end Go.Proofs.Ytegfjedklebbfaa
end

section
namespace Go.Proofs.Ytegfjedklebbfaa
set_option linter.unusedSimpArgs false
set_option linter.unusedVariables false
open Go Go.RowKit

/-- The graph with one place slower. -/
def slowL (xs : List Pl) (i : Nat) (m : Int) : List Pl := xs.set i ⟨(plA xs i).f, (plA xs i).t, (plA xs i).d + m, (plA xs i).k⟩
theorem slowL_len {xs : List Pl} {i : Nat} {m : Int} : (slowL xs i m).length = xs.length := by simp [slowL]
theorem slowL_same {xs : List Pl} {i : Nat} {m : Int} (hi : i < xs.length) (j : Nat) : (plA (slowL xs i m) j).f = (plA xs j).f ∧ (plA (slowL xs i m) j).t = (plA xs j).t := by
  unfold slowL
  rw [plA_set hi]
  split
  · rename_i e; subst e; exact ⟨rfl, rfl⟩
  · exact ⟨rfl, rfl⟩
theorem slowL_bc {ev : Int} {xs : List Pl} {i : Nat} {m : Int} (h : isEG ev xs = true) (hi : i < xs.length) (hm : 0 ≤ m ∧ (plA xs i).d + m ≤ 1000) : bcC ev (slowL xs i m) = bcC ev xs := by
  have h2 := hasC_same (xs := xs) (ys := slowL xs i m) slowL_len (slowL_same hi)
  have hp := plB_at h hi
  have hg : isEG ev (slowL xs i m) = true := isEG_set h (by simp only [plB, Bool.and_eq_true, wi_iff] at hp ⊢; omega)
  have hl : liveB ev (slowL xs i m) = liveB ev xs := by
    unfold liveB deadC freeT slowL
    rw [fold_set (f := freeS) (p := ⟨(plA xs i).f, (plA xs i).t, (plA xs i).d + m, (plA xs i).k⟩) (q := plA xs i) (fun t => rfl) (by simp [plA, hi])]
  have e : liveI ev (slowL xs i m) = liveI ev xs := by unfold liveI; rw [hg, h, hl]
  unfold bcC
  rw [e]
  by_cases h3 : hasC xs
  · rw [if_pos h3, if_pos (h2.2 h3)]
  · rw [if_neg h3, if_neg (fun h4 => h3 (h2.1 h4))]
/-- How often a place is passed. -/
def cntI (i : Nat) : List Nat → Int
  | [] => 0
  | j :: c => (if j = i then 1 else 0) + cntI i c
theorem cntI_nn {i : Nat} : ∀ c, 0 ≤ cntI i c
  | [] => Int.le_refl _
  | j :: c => by have := cntI_nn (i := i) c; simp only [cntI]; split <;> omega
theorem cntI_no {i : Nat} : ∀ {c : List Nat}, i ∉ c → cntI i c = 0
  | [], _ => rfl
  | j :: c, h => by
    simp only [List.mem_cons, not_or] at h
    simp only [cntI, cntI_no h.2]
    rw [if_neg (fun e => h.1 e.symm)]
    rfl
theorem cntI_app {i : Nat} : ∀ a b, cntI i (a ++ b) = cntI i a + cntI i b
  | [], b => by simp [cntI]
  | j :: a, b => by simp only [List.cons_append, cntI, cntI_app a b]; omega
theorem slow_wgt {xs : List Pl} {i : Nat} {m rn rd : Int} (hi : i < xs.length) : ∀ c, wgt (slowL xs i m) rn rd c = wgt xs rn rd c + rd * m * cntI i c
  | [] => by simp [wgt, cntI]
  | j :: c => by
    simp only [wgt, slow_wgt hi c, cntI]
    unfold slowL
    rw [plA_set hi]
    by_cases e : j = i
    · subst e
      rw [if_pos rfl, if_pos rfl]
      simp only [pw, Int.mul_add]
      omega
    · rw [if_neg e, if_neg e]
      simp only [Int.mul_add]
      omega
/-- The gap of a place: no closed walk through it weighs more than minus its gap; some weighs so. -/
structure GapOk (xs : List Pl) (r : Int × Int) (i : Nat) (g : Int) : Prop where
  le : ∀ c, Wk xs (plA xs i).t c (plA xs i).f → 0 ≤ g ∧ pw r.1 r.2 (plA xs i) + wgt xs r.1 r.2 c ≤ -g
  eq : 0 ≤ g → ∃ c, Wk xs (plA xs i).t c (plA xs i).f ∧ pw r.1 r.2 (plA xs i) + wgt xs r.1 r.2 c = -g
theorem gap_ok {ev : Int} {xs : List Pl} (hb : bcC ev xs = 0) {i : Nat} (hi : i < xs.length) : GapOk xs (maxR xs) i (mgG ev xs i) := by
  obtain ⟨n, rfl, h1, h2, h3, h4, h5, h6, h8, h9, h10, h11⟩ := bc_star hb
  have hmx := h5.isMax h2 h6
  have hw : WmOk n xs (maxR xs) (wmT n xs (maxR xs)) := wm_ok (M := 500000) (by omega) xs (fun p hp => ⟨h4 p hp, (wm_bnd h4 h9 ⟨by omega, h10.2⟩ p hp).1⟩)
  have hnp : NoPos (entN (wmT n xs (maxR xs))) n := wm_noPos hw hmx
  have hst : StarOk (entN (wmT n xs (maxR xs))) n (starF (entN (wmT n xs (maxR xs))) n) := h11.ok
  obtain ⟨⟨k1, k2⟩, ⟨k3, k4⟩, _⟩ := okPl_at h4 i hi
  have hp : plA xs i ∈ xs := by
    have e : plA xs i = xs[i] := by simp [plA, hi]
    rw [e]; exact List.getElem_mem hi
  unfold mgG
  rw [Int.toNat_natCast]
  generalize starF (entN (wmT n xs (maxR xs))) n = s at *
  have hpw : pw (maxR xs).1 (maxR xs).2 (plA xs i) = (maxR xs).2 * (plA xs i).d - (maxR xs).1 * (plA xs i).k := rfl
  have hall : ∀ c, Wk xs (plA xs i).t c (plA xs i).f → s (plA xs i).f.toNat (plA xs i).t.toNat ≠ BOT ∧ wgt xs (maxR xs).1 (maxR xs).2 c ≤ s (plA xs i).f.toNat (plA xs i).t.toNat := fun c hc => by
    by_cases hne : c = []
    · subst hne
      have e : (plA xs i).t = (plA xs i).f := hc
      rw [e]
      have := hst.dia (plA xs i).f.toNat (by omega)
      exact this
    · obtain ⟨c', g1, g2, g3⟩ := wk_wm hw h4 hc hne
      have := hst.all _ _ c' (show (plA xs i).t.toNat < n by omega) (show (plA xs i).f.toNat < n by omega) g2 g1
      exact ⟨this.1, by omega⟩
  have hex : s (plA xs i).f.toNat (plA xs i).t.toNat ≠ BOT → ∃ c, Wk xs (plA xs i).t c (plA xs i).f ∧ wgt xs (maxR xs).1 (maxR xs).2 c = s (plA xs i).f.toNat (plA xs i).t.toNat := fun hne => by
    rcases hst.some (plA xs i).t.toNat (plA xs i).f.toNat (by omega) (by omega) with e | ⟨e1, e2⟩ | ⟨c, c1, c2, c3⟩
    · exact absurd e hne
    · exact ⟨[], by show (plA xs i).t = (plA xs i).f; omega, by rw [e2]; rfl⟩
    · obtain ⟨d, d1, _, d3⟩ := wm_walk hw (by omega) (by omega) c2 c1
      refine ⟨d, ?_, by rw [c3, d3]⟩
      rwa [Int.toNat_of_nonneg k3, Int.toNat_of_nonneg k1] at d1
  have hnn : ∀ c, Wk xs (plA xs i).t c (plA xs i).f → pw (maxR xs).1 (maxR xs).2 (plA xs i) + wgt xs (maxR xs).1 (maxR xs).2 c ≤ 0 := fun c hc =>
    hmx.walks (u := (plA xs i).f) (c := i :: c) ⟨hi, rfl, hc⟩
  unfold gapI
  by_cases e : s (plA xs i).f.toNat (plA xs i).t.toNat = BOT
  · rw [if_pos e]
    exact ⟨fun c hc => absurd e (hall c hc).1, fun h => absurd h (by decide)⟩
  · rw [if_neg e]
    obtain ⟨d, d1, d2⟩ := hex e
    have hd := hnn d d1
    refine ⟨fun c hc => ?_, fun _ => ⟨d, d1, ?_⟩⟩
    · have := (hall c hc).2
      omega
    · omega
theorem circ_cut {xs : List Pl} {c : List Nat} (hc : Circ xs c) {i : Nat} (hi : i ∈ c) {rn rd : Int} : ∃ d, Wk xs (plA xs i).t d (plA xs i).f ∧ wgt xs rn rd c = pw rn rd (plA xs i) + wgt xs rn rd d ∧ cntI i c = 1 := by
  obtain ⟨a, b, rfl⟩ := List.append_of_mem hi
  obtain ⟨m, w1, w2, w3, w4⟩ := Wk.app.1 hc.wk
  refine ⟨b ++ a, Wk.app.2 ⟨_, w4, w3 ▸ w1⟩, ?_, ?_⟩
  · rw [wgt_app, wgt_app]
    have e : wgt xs rn rd (i :: b) = pw rn rd (plA xs i) + wgt xs rn rd b := rfl
    omega
  · have hnd := hc.nd
    rw [List.map_append, List.map_cons, List.nodup_append] at hnd
    obtain ⟨_, n2, n3⟩ := hnd
    rw [List.nodup_cons] at n2
    have ha : i ∉ a := fun h => n3 _ (List.mem_map.2 ⟨i, h, rfl⟩) _ (by simp) rfl
    have hb : i ∉ b := fun h => n2.1 (List.mem_map.2 ⟨i, h, rfl⟩)
    rw [cntI_app]
    simp only [cntI, if_true, cntI_no ha, cntI_no hb]
    rfl
theorem mar_d {ev : Int} {xs : List Pl} (hb : bcC ev xs = 0) {i : Nat} (hi : i < xs.length) : 0 ≤ (plA xs i).d ∧ (plA xs i).d ≤ 1000 ∧ 0 ≤ mgN ev xs i ∧ (plA xs i).d + mgN ev xs i ≤ 1000 ∧ (0 ≤ mgG ev xs i → (maxR xs).2 * mgN ev xs i ≤ mgG ev xs i) ∧ ((plA xs i).d + mgN ev xs i < 1000 → 0 ≤ mgG ev xs i ∧ mgG ev xs i < (maxR xs).2 * (mgN ev xs i + 1)) := by
  have hp := plB_at (bc_eg hb) hi
  simp only [plB, Bool.and_eq_true, wi_iff] at hp
  obtain ⟨n, rfl, h1, h2, h3, h4, h5, h6, h8, h9, h10, h11⟩ := bc_star hb
  unfold mgN marI
  generalize mgG n xs i = g
  have hu := h10.1
  generalize (maxR xs).2 = u at *
  by_cases hg : 0 ≤ g
  · rw [if_pos hg]
    have e1 := Int.mul_ediv_self_le (x := g) (k := u) (by omega)
    have e2 := Int.lt_mul_ediv_self_add (x := g) (k := u) hu
    have e3 := ediv_in hg hu
    refine ⟨by omega, by omega, by omega, by omega, fun _ => ?_, fun h => ⟨hg, ?_⟩⟩
    · rcases Int.le_total (1000 - (plA xs i).d) (g / u) with h | h
      · rw [Int.min_eq_left h]
        exact Int.le_trans (Int.mul_le_mul_of_nonneg_left h (by omega)) e1
      · rw [Int.min_eq_right h]; exact e1
    · rw [Int.min_eq_right (by omega), Int.mul_add]
      omega
  · rw [if_neg hg]
    exact ⟨by omega, by omega, by omega, by omega, fun h => absurd h hg, fun h => by omega⟩
theorem margin_ok {ev : Int} {xs : List Pl} (hb : bcC ev xs = 0) {i : Nat} (hi : i < xs.length) : bcC ev (slowL xs i (mgN ev xs i)) = 0 ∧ ctR ev (slowL xs i (mgN ev xs i)) = ctR ev xs := by
  obtain ⟨m1, m2, m3, m4, m5, _⟩ := mar_d hb hi
  have hby := (slowL_bc (bc_eg hb) hi ⟨m3, m4⟩).trans hb
  refine ⟨hby, ?_⟩
  have hg := gap_ok hb hi
  obtain ⟨n, rfl, h1, h2, h3, h4, h5, h6, h8, h9, h10, h11⟩ := bc_star hb
  obtain ⟨n', hev, k1, k2, k3, k4, k5, k6, k8, k9, k10, k11⟩ := bc_star hby
  obtain rfl : n = n' := by omega
  have hmx := h5.isMax h2 h6
  rw [k8, h8]
  refine maxR_eq k5 ⟨hmx.pos, hmx.red, fun c hc => ?_, ?_⟩
  · have hcx : Circ xs c := hc.same slowL_len.symm fun j => ⟨(slowL_same hi j).1.symm, (slowL_same hi j).2.symm⟩
    rw [slow_wgt hi]
    by_cases hic : i ∈ c
    · obtain ⟨d, d1, d2, d3⟩ := circ_cut hcx hic (rn := (maxR xs).1) (rd := (maxR xs).2)
      obtain ⟨g1, g2⟩ := hg.le d d1
      have := m5 g1
      rw [d3, d2]; omega
    · rw [cntI_no hic]
      have := hmx.le c hcx
      omega
  · obtain ⟨c, hc, hz⟩ := hmx.eq
    refine ⟨c, hc.same slowL_len (slowL_same hi), ?_⟩
    rw [slow_wgt hi, hz]
    by_cases hic : i ∈ c
    · obtain ⟨d, d1, d2, d3⟩ := circ_cut hc hic (rn := (maxR xs).1) (rd := (maxR xs).2)
      obtain ⟨g1, g2⟩ := hg.le d d1
      have h5' := m5 g1
      have h6' := Int.mul_nonneg (Int.le_of_lt hmx.pos) m3
      rw [d3]; omega
    · rw [cntI_no hic]; simp
theorem margin_more {ev : Int} {xs : List Pl} (hb : bcC ev xs = 0) {i : Nat} (hi : i < xs.length) (hd : (plA xs i).d + mgN ev xs i < 1000) : bcC ev (slowL xs i (mgN ev xs i + 1)) = 0 ∧ 0 < crI (ctR ev (slowL xs i (mgN ev xs i + 1))) (ctR ev xs) := by
  obtain ⟨m1, m2, m3, m4, m5, m6⟩ := mar_d hb hi
  obtain ⟨m7, m8⟩ := m6 hd
  obtain ⟨m, hm⟩ : ∃ m, m = mgN ev xs i + 1 := ⟨_, rfl⟩
  rw [← hm] at m8 ⊢
  have hby := (slowL_bc (bc_eg hb) hi (m := m) ⟨by omega, by omega⟩).trans hb
  refine ⟨hby, ?_⟩
  obtain ⟨c, c1, c2⟩ := (gap_ok hb hi).eq m7
  generalize mgG ev xs i = g at *
  obtain ⟨n, rfl, h1, h2, h3, h4, h5, h6, h8, h9, h10, h11⟩ := bc_star hb
  obtain ⟨n', hev, k1, k2, k3, k4, k5, k6, k8, k9, k10, k11⟩ := bc_star hby
  obtain rfl : n = n' := by omega
  have hmy := k5.isMax k2 k6
  have hcl : Wk xs (plA xs i).f (i :: c) (plA xs i).f := ⟨hi, rfl, c1⟩
  have hcy : Wk (slowL xs i m) (plA xs i).f (i :: c) (plA xs i).f := hcl.same slowL_len (slowL_same hi)
  have hpos : 0 < wgt (slowL xs i m) (maxR xs).1 (maxR xs).2 (i :: c) := by
    rw [slow_wgt hi]
    have e : wgt xs (maxR xs).1 (maxR xs).2 (i :: c) = pw (maxR xs).1 (maxR xs).2 (plA xs i) + wgt xs (maxR xs).1 (maxR xs).2 c := rfl
    have hn := cntI_nn (i := i) c
    have hm0 : 0 ≤ (maxR xs).2 * m := Int.mul_nonneg (by omega) (by omega)
    have := Int.mul_nonneg hm0 hn
    simp only [cntI, if_true, Int.mul_add, Int.mul_one]
    omega
  have hle := hmy.walks hcy
  have hk := k5.tok (i :: c) _ (by simp) hcy
  rw [wgt_sums] at hpos hle
  rw [k8, h8]
  generalize sumD (slowL xs i m) (i :: c) = D at *
  generalize sumT (slowL xs i m) (i :: c) = K at *
  have hu := h10.1
  have hu' := k10.1
  generalize maxR (slowL xs i m) = r at *
  generalize maxR xs = s at *
  -- s.2 * D > s.1 * K, r.2 * D ≤ r.1 * K
  have e1 : r.2 * (s.1 * K) < r.2 * (s.2 * D) := Int.mul_lt_mul_of_pos_left (by omega) hu'
  have e2 : s.2 * (r.2 * D) ≤ s.2 * (r.1 * K) := Int.mul_le_mul_of_nonneg_left (by omega) (by omega)
  have e3 : r.2 * (s.2 * D) = s.2 * (r.2 * D) := Int.mul_left_comm _ _ _
  have e4 : r.2 * (s.1 * K) = s.1 * r.2 * K := by rw [← Int.mul_assoc, Int.mul_comm r.2 s.1]
  have e5 : s.2 * (r.1 * K) = r.1 * s.2 * K := by rw [← Int.mul_assoc, Int.mul_comm s.2 r.1]
  have e6 : s.1 * r.2 * K < r.1 * s.2 * K := by omega
  have e7 : s.1 * r.2 < r.1 * s.2 := Int.lt_of_mul_lt_mul_right e6 (by omega)
  unfold crI cmpI
  rw [if_neg (by omega), if_pos (by omega)]
  decide
theorem crit_zero {ev : Int} {xs : List Pl} (hb : bcC ev xs = 0) {i : Nat} (hi : i < xs.length) (h : mgG ev xs i = 0) : mgN ev xs i = 0 := by
  obtain ⟨m1, m2, m3, m4, m5, m6⟩ := mar_d hb hi
  unfold mgN marI
  rw [h, if_pos (Int.le_refl 0), Int.zero_ediv, Int.min_eq_right (by omega)]
end Go.Proofs.Ytegfjedklebbfaa
end

section
namespace Go.Proofs.Ytegfjedklebbfaa
set_option linter.unusedSimpArgs false
set_option linter.unusedVariables false
open Go Go.RowKit
attribute [local irreducible] AL AD AW OpOk Le AC thenQ blockQ EndQ

set_option maxHeartbeats 4000000 in
theorem iChangePlace_ac (ev : Int) (xs : List Pl) (i : Nat) (m d' : Int) (hg : isEG ev xs = true) (hi : i < xs.length) (hm : 0 ≤ m) (hd : d' = (plA xs i).d + m) (hd2 : d' ≤ 1000) : AC Try.prog 39 [grD ev xs, I i, I d', I (plA xs i).k] H0 (.tup [grD ev (slowL xs i m), I 0]) H0 := by
  have hp := plB_at hg hi
  simp only [plB, Bool.and_eq_true, wi_iff] at hp
  obtain ⟨n, rfl, g1, g2, g3, g4⟩ := isEG_ok hg
  have hE := iIsEventGraph_ac n xs (by omega)
  rw [hg] at hE
  have hW1 := within_ac (i : Int) 0 ((xs.length : Int) - 1)
  have hW2 := within_ac d' 0 1000
  have hW3 := within_ac (plA xs i).k 0 5
  rw [wi_iff.2 (by omega)] at hW1
  rw [wi_iff.2 (by omega)] at hW2
  rw [wi_iff.2 (by omega)] at hW3
  have hO := cloneGraph_ac n xs (by omega)
  have hr := ownPl_row hi
  have hs := ownPl_set (xs := xs) (i := i) (p := ⟨(plA xs i).f, (plA xs i).t, d', (plA xs i).k⟩)
  have hr2 := ownPl_row (xs := xs.set i ⟨(plA xs i).f, (plA xs i).t, d', (plA xs i).k⟩) (i := i) (by simpa using hi)
  rw [plA_set hi, if_pos rfl] at hr2
  have hs2 := ownPl_set (xs := xs.set i ⟨(plA xs i).f, (plA xs i).t, d', (plA xs i).k⟩) (i := i) (p := ⟨(plA xs i).f, (plA xs i).t, d', (plA xs i).k⟩)
  rw [List.set_set] at hs2
  have hsl : slowL xs i m = xs.set i ⟨(plA xs i).f, (plA xs i).t, d', (plA xs i).k⟩ := by unfold slowL; rw [hd]
  rw [hsl]
  have hl : (dobj 4 (xs.map Pl.row)).rows.length = xs.length := by simp [dobj]
  clear hsl
  generalize plA xs i = p at *
  obtain ⟨pf, pt, pd, pk⟩ := p
  simp only at hr hs hr2 hs2 hW3 ⊢
  refine AC.of_body 0 Try.func39 rfl (fun l h => absurd rfl h) (fun C hC => ?_)
  have hD : ∀ l, ¬ C.D0 l := fun l h => (hC l).1 h rfl
  simp only [startFr, Try.ntmps39, List.length_cons, List.length_nil, Nat.reduceAdd, Nat.reduceSub, List.replicate_succ, List.replicate_zero, List.cons_append, List.nil_append]
  repeat' (first | ((first | apply Ba | (apply Bb; (· rfl); (· rfl)) | (apply Bc; (· exact nxE)) | (apply Bd; (· rfl); (· rfl); (· exact nxE))); (· first | exact Kz rfl rfl (hE) (Aa (Ad (Ad An)) An) | exact Kz rfl rfl (hW1) (Ad (Ad (Ad An))) | exact Kz rfl rfl (hW2) (Ad (Ad (Ad An))) | exact Kz rfl rfl (hW3) (Ad (Ad (Ad An))) | exact Eo rfl rfl (hO) (Sa (Sd (Sd Sn)) Sn) | exact Ok.storeC rfl rfl rfl rfl hr (by simp only [List.length_cons, List.length_nil, Nat.reduceAdd, Nat.reduceLT]) (by conv => lhs; whnf) (by rfl) (by rfl) hs | exact Ok.storeC rfl rfl rfl rfl hr2 (by simp only [List.length_cons, List.length_nil, Nat.reduceAdd, Nat.reduceLT]) (by conv => lhs; whnf) (by rfl) (by rfl) hs2 | exact Ok.pe)) | ((first | apply Ca | (apply Cb; (· exact nxE))); (· first | exact Eo rfl rfl (hO) (Sa (Sd (Sd Sn)) Sn) | exact Ok.storeC rfl rfl rfl rfl hr (by simp only [List.length_cons, List.length_nil, Nat.reduceAdd, Nat.reduceLT]) (by conv => lhs; whnf) (by rfl) (by rfl) hs | exact Ok.storeC rfl rfl rfl rfl hr2 (by simp only [List.length_cons, List.length_nil, Nat.reduceAdd, Nat.reduceLT]) (by conv => lhs; whnf) (by rfl) (by rfl) hs2 | exact Ok.e0)) | refine Sx ?_ | (refine Sy (fun h => ?_) (fun h => ?_) <;> try (exfalso; omega; done)) | refine Sz (fun h => ?_) (fun h => ?_))
  refine Yb ?_
  (apply Le.headZ (hs := []) [] rfl)
  all_goals (try dsimp only [srcs])
  (case' hfr => (repeat' (first | refine La ?_ ?_ | exact Lc | refine Lo ?_ | refine ⟨⟨_, rfl, ?_⟩, ?_⟩ | refine Lx ?_)))
  all_goals (first | exact Ld | exact trivial | (rfl))
set_option maxHeartbeats 4000000 in
theorem iChangePlaceN_ac (ev : Int) (xs : List Pl) (i : Nat) (d' : Int) (hg : isEG ev xs = true) (hi : i < xs.length) (hd2 : 1000 < d') : AC Try.prog 39 [grD ev xs, I i, I d', I (plA xs i).k] H0 (.tup [grD 0 [], I 2]) H0 := by
  obtain ⟨n, rfl, g1, g2, g3, g4⟩ := isEG_ok hg
  have hE := iIsEventGraph_ac n xs (by omega)
  rw [hg] at hE
  have hW1 := within_ac (i : Int) 0 ((xs.length : Int) - 1)
  have hW2 := within_ac d' 0 1000
  rw [wi_iff.2 (by omega)] at hW1
  rw [show wi d' 0 1000 = false by cases h : wi d' 0 1000; rfl; rw [wi_iff] at h; omega] at hW2
  refine AC.of_body 0 Try.func39 rfl (fun l h => absurd rfl h) (fun C hC => ?_)
  have hD : ∀ l, ¬ C.D0 l := fun l h => (hC l).1 h rfl
  simp only [startFr, Try.ntmps39, List.length_cons, List.length_nil, Nat.reduceAdd, Nat.reduceSub, List.replicate_succ, List.replicate_zero, List.cons_append, List.nil_append]
  repeat' (first | ((first | apply Ba | (apply Bb; (· rfl); (· rfl)) | (apply Bc; (· exact nxE)) | (apply Bd; (· rfl); (· rfl); (· exact nxE))); (· first | exact Kz rfl rfl (hE) (Aa (Ad (Ad An)) An) | exact Kz rfl rfl (hW1) (Ad (Ad (Ad An))) | exact Kz rfl rfl (hW2) (Ad (Ad (Ad An))) | exact Ok.pe)) | ((first | apply Ca | (apply Cb; (· exact nxE))); (· first | exact Ok.e0)) | refine Sx ?_ | (refine Sy (fun h => ?_) (fun h => ?_) <;> try (exfalso; omega; done)) | refine Sz (fun h => ?_) (fun h => ?_))
  refine Yb ?_
  (apply Le.headZ (hs := []) [] rfl)
  all_goals (try dsimp only [srcs])
  (case' hfr => (repeat' (first | refine La ?_ ?_ | exact Lc | refine Lo ?_ | refine ⟨⟨_, rfl, ?_⟩, ?_⟩ | refine Lx ?_)))
  all_goals (first | exact Ld | exact trivial | (rfl))
end Go.Proofs.Ytegfjedklebbfaa
end
