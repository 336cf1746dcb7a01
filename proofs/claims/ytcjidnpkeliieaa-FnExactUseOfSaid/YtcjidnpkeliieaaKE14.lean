/-
  Walks in the abstract reading: StationLoad and UseOf of both sides.
-/
import Derived.Test.YtcjidnpkeliieaaKE13
namespace Go.Proofs.Ytcjidnpkeliieaa
set_option linter.unusedSimpArgs false
set_option linter.unusedVariables false
open Go Go.RowKit
attribute [local irreducible] AL AD AW OpOk Le AC thenQ blockQ EndQ

theorem redR_small {d m : Int} (hd : 0 ≤ d) (hm : 0 < m) : (0 ≤ (redR d m).1 ∧ (redR d m).1 ≤ d) ∧ (0 < (redR d m).2 ∧ (redR d m).2 ≤ m) := by
  obtain ⟨g1, g2, g3, g4, g5⟩ := redR_ok (d := d) hm
  generalize (Int.gcd d m : Int) = g at g3 g4 g5
  generalize redR d m = s at *
  have a1 : 0 ≤ s.1 := by
    apply Classical.byContradiction
    intro hneg
    have := Int.mul_le_mul_of_nonneg_left (show s.1 ≤ -1 by omega) (show 0 ≤ g by omega)
    omega
  have a2 := Int.mul_le_mul_of_nonneg_right (show (1 : Int) ≤ g by omega) a1
  have a3 := Int.mul_le_mul_of_nonneg_right (show (1 : Int) ≤ g by omega) (show 0 ≤ s.2 by omega)
  refine ⟨⟨a1, ?_⟩, ⟨g1, ?_⟩⟩ <;> omega
/-- The load of an event, off the first k places; false: none yet. -/
def stN (xs : List Pl) (e : Int) : Nat → Bool × (Int × Int)
  | 0 => (false, (0, 0))
  | k + 1 => if ((plA xs k).f = e ∧ (plA xs k).t = e ∧ (plA xs k).k ≠ 0) ∧ ((stN xs e k).1 = false ∨ 0 < crI (redR (plA xs k).d (plA xs k).k) (stN xs e k).2) then (true, redR (plA xs k).d (plA xs k).k) else stN xs e k
theorem stN_small {n : Nat} {xs : List Pl} (hv : ∀ p ∈ xs, okPl n p) {e : Int} : ∀ k, k ≤ xs.length → ((0 ≤ (stN xs e k).2.1 ∧ (stN xs e k).2.1 ≤ 10000) ∧ (0 ≤ (stN xs e k).2.2 ∧ (stN xs e k).2.2 ≤ 5)) ∧ ((stN xs e k).1 = true → 0 < (stN xs e k).2.2)
  | 0, _ => ⟨⟨⟨Int.le_refl _, by simp [stN]⟩, ⟨Int.le_refl _, by simp [stN]⟩⟩, fun h => by simp [stN] at h⟩
  | k + 1, hk => by
    rw [stN]
    split
    · rename_i h
      obtain ⟨_, _, ⟨g1, g2⟩, ⟨g3, g4⟩⟩ := okPl_at hv k (by omega)
      have := redR_small g1 (m := (plA xs k).k) (by have := h.1.2.2; omega)
      simp only
      exact ⟨⟨⟨this.1.1, by omega⟩, ⟨by omega, by omega⟩⟩, fun _ => this.2.1⟩
    · exact stN_small hv k (by omega)
theorem wrapE {n : Nat} (h1 : 1 ≤ n) (h2 : n ≤ 10) : IntKind.i64.wrap ((n : Int) - 1) = n - 1 := wrap_in (by omega) (by omega)
def eventC (ev : Int) (xs : List Pl) (e : Int) : Int := if isEG ev xs = true then (if wi e 0 (IntKind.i64.wrap (ev - 1)) = true then 0 else 2) else 1
theorem l11Event_ac (ev : Int) (xs : List Pl) (e : Int) (hx : xs.length ≤ 100000000) : AC Try.prog 143 [grD ev xs, I e] H0 (I (eventC ev xs e)) H0 := by
  have hE := sIsEventGraph_ac ev xs hx
  have hI := l01In_ac e 0 (IntKind.i64.wrap (ev - 1))
  unfold eventC
  cases hg : isEG ev xs
  · rw [hg] at hE
    refine AC.of_body 0 Try.func143 rfl (fun l h => absurd rfl h) (fun C hC => ?_)
    have hD : ∀ l, ¬ C.D0 l := fun l h => (hC l).1 h rfl
    simp only [startFr, Try.ntmps143, List.length_cons, List.length_nil, Nat.reduceAdd, Nat.reduceSub, List.replicate_succ, List.replicate_zero, List.cons_append, List.nil_append]
    repeat' (first | refine Qa ?_ | ((first | apply Ba | (apply Bb; (· rfl); (· rfl)) | (apply Bc; (· exact nxE)) | (apply Bd; (· rfl); (· rfl); (· exact nxE))); (· first | exact Kz rfl rfl (hE) (Aa (Ad (Ad An)) An) | exact Ok.pe); (first | refine Na ?_ | refine Nb ?_)) | ((first | apply Ca | (apply Cb; (· exact nxE))); (· first | exact Ok.e0); (first | refine Nc ?_ | refine Nd ?_)) | refine Oa ?_ | refine Ob ?_ | ((first | refine Ga (fun h => ?_) (fun h => ?_) | refine AD.gsplit rfl rfl (fun h => ?_) (fun h => ?_)) <;> try (exfalso; omega; done)) | (first | refine AL.gsplitB rfl rfl (fun h => ?_) (fun h => ?_) | refine AD.gsplitB rfl rfl (fun h => ?_) (fun h => ?_)) | refine Fa ?_ | refine Qb ?_ | refine Qc ?_ | refine Qd ?_ | refine Fb ?_ | refine Qe ?_ | refine Wa ?_ | refine Wb ?_ | (refine AW.ite rfl (fun h => ?_) (fun h => ?_) <;> try (exfalso; omega; done)) | refine AW.cond _ rfl (fun h => ?_) (fun h => ?_) | refine Qf ?_ | refine Qg ?_ | refine Qh ?_ | refine Qi ?_ | refine Xa ?_ | refine Xb ?_ | refine Xc ?_ | refine Xd ?_ | refine Fc ?_)
    refine Ya ?_
    (apply Le.headZ (hs := []) [] rfl)
    all_goals (try dsimp only [srcs])
    (case' hfr => (repeat' (first | refine La ?_ ?_ | exact Lc | refine Lo ?_ | refine ⟨⟨_, rfl, ?_⟩, ?_⟩ | refine ObA.box ?_ | refine ObA.frE ?_ | refine ObA.dataE ?_ | refine ARs.agg ?_ | refine ARs.tup ?_ | refine AR.b ?_ | refine AR.iE ?_ | refine AR.e ?_ | refine AR.clo' ARs.nil ?_)))
    all_goals (first | exact Ld | exact trivial | (rfl))
  · rw [hg] at hE
    cases hw : wi e 0 (IntKind.i64.wrap (ev - 1))
    all_goals
      rw [hw] at hI
      refine AC.of_body 0 Try.func143 rfl (fun l h => absurd rfl h) (fun C hC => ?_)
      have hD : ∀ l, ¬ C.D0 l := fun l h => (hC l).1 h rfl
      simp only [startFr, Try.ntmps143, List.length_cons, List.length_nil, Nat.reduceAdd, Nat.reduceSub, List.replicate_succ, List.replicate_zero, List.cons_append, List.nil_append]
      repeat' (first | refine Qa ?_ | ((first | apply Ba | (apply Bb; (· rfl); (· rfl)) | (apply Bc; (· exact nxE)) | (apply Bd; (· rfl); (· rfl); (· exact nxE))); (· first | exact Kz rfl rfl (hE) (Aa (Ad (Ad An)) An) | exact Ok.subW rfl rfl rfl | exact Kz rfl rfl (hI) (Ad (Ad (Ad An))) | exact Ok.pe); (first | refine Na ?_ | refine Nb ?_)) | ((first | apply Ca | (apply Cb; (· exact nxE))); (· first | exact Ok.e0); (first | refine Nc ?_ | refine Nd ?_)) | refine Oa ?_ | refine Ob ?_ | ((first | refine Ga (fun h => ?_) (fun h => ?_) | refine AD.gsplit rfl rfl (fun h => ?_) (fun h => ?_)) <;> try (exfalso; omega; done)) | (first | refine AL.gsplitB rfl rfl (fun h => ?_) (fun h => ?_) | refine AD.gsplitB rfl rfl (fun h => ?_) (fun h => ?_)) | refine Fa ?_ | refine Qb ?_ | refine Qc ?_ | refine Qd ?_ | refine Fb ?_ | refine Qe ?_ | refine Wa ?_ | refine Wb ?_ | (refine AW.ite rfl (fun h => ?_) (fun h => ?_) <;> try (exfalso; omega; done)) | refine AW.cond _ rfl (fun h => ?_) (fun h => ?_) | refine Qf ?_ | refine Qg ?_ | refine Qh ?_ | refine Qi ?_ | refine Xa ?_ | refine Xb ?_ | refine Xc ?_ | refine Xd ?_ | refine Fc ?_)
      refine Ya ?_
      (apply Le.headZ (hs := []) [] rfl)
      all_goals (try dsimp only [srcs])
      (case' hfr => (repeat' (first | refine La ?_ ?_ | exact Lc | refine Lo ?_ | refine ⟨⟨_, rfl, ?_⟩, ?_⟩ | refine ObA.box ?_ | refine ObA.frE ?_ | refine ObA.dataE ?_ | refine ARs.agg ?_ | refine ARs.tup ?_ | refine AR.b ?_ | refine AR.iE ?_ | refine AR.e ?_ | refine AR.clo' ARs.nil ?_)))
      all_goals (first | exact Ld | exact trivial | (rfl))
theorem checkEvent_ac (ev : Int) (xs : List Pl) (e : Int) (hx : xs.length ≤ 100000000) : AC Try.prog 75 [grD ev xs, I e] H0 (I (eventC ev xs e)) H0 := by
  have hE := iIsEventGraph_ac ev xs hx
  have hI := isEvent_ac ev xs e
  unfold eventC
  cases hg : isEG ev xs
  · rw [hg] at hE
    refine AC.of_body 0 Try.func75 rfl (fun l h => absurd rfl h) (fun C hC => ?_)
    have hD : ∀ l, ¬ C.D0 l := fun l h => (hC l).1 h rfl
    simp only [startFr, Try.ntmps75, List.length_cons, List.length_nil, Nat.reduceAdd, Nat.reduceSub, List.replicate_succ, List.replicate_zero, List.cons_append, List.nil_append]
    repeat' (first | refine Qa ?_ | ((first | apply Ba | (apply Bb; (· rfl); (· rfl)) | (apply Bc; (· exact nxE)) | (apply Bd; (· rfl); (· rfl); (· exact nxE))); (· first | exact Kz rfl rfl (hE) (Aa (Ad (Ad An)) An) | exact Ok.pe); (first | refine Na ?_ | refine Nb ?_)) | ((first | apply Ca | (apply Cb; (· exact nxE))); (· first | exact Ok.e0); (first | refine Nc ?_ | refine Nd ?_)) | refine Oa ?_ | refine Ob ?_ | ((first | refine Ga (fun h => ?_) (fun h => ?_) | refine AD.gsplit rfl rfl (fun h => ?_) (fun h => ?_)) <;> try (exfalso; omega; done)) | (first | refine AL.gsplitB rfl rfl (fun h => ?_) (fun h => ?_) | refine AD.gsplitB rfl rfl (fun h => ?_) (fun h => ?_)) | refine Fa ?_ | refine Qb ?_ | refine Qc ?_ | refine Qd ?_ | refine Fb ?_ | refine Qe ?_ | refine Wa ?_ | refine Wb ?_ | (refine AW.ite rfl (fun h => ?_) (fun h => ?_) <;> try (exfalso; omega; done)) | refine AW.cond _ rfl (fun h => ?_) (fun h => ?_) | refine Qf ?_ | refine Qg ?_ | refine Qh ?_ | refine Qi ?_ | refine Xa ?_ | refine Xb ?_ | refine Xc ?_ | refine Xd ?_ | refine Fc ?_)
    refine Ya ?_
    (apply Le.headZ (hs := []) [] rfl)
    all_goals (try dsimp only [srcs])
    (case' hfr => (repeat' (first | refine La ?_ ?_ | exact Lc | refine Lo ?_ | refine ⟨⟨_, rfl, ?_⟩, ?_⟩ | refine ObA.box ?_ | refine ObA.frE ?_ | refine ObA.dataE ?_ | refine ARs.agg ?_ | refine ARs.tup ?_ | refine AR.b ?_ | refine AR.iE ?_ | refine AR.e ?_ | refine AR.clo' ARs.nil ?_)))
    all_goals (first | exact Ld | exact trivial | (rfl))
  · rw [hg] at hE
    cases hw : wi e 0 (IntKind.i64.wrap (ev - 1))
    all_goals
      rw [hw] at hI
      refine AC.of_body 0 Try.func75 rfl (fun l h => absurd rfl h) (fun C hC => ?_)
      have hD : ∀ l, ¬ C.D0 l := fun l h => (hC l).1 h rfl
      simp only [startFr, Try.ntmps75, List.length_cons, List.length_nil, Nat.reduceAdd, Nat.reduceSub, List.replicate_succ, List.replicate_zero, List.cons_append, List.nil_append]
      repeat' (first | refine Qa ?_ | ((first | apply Ba | (apply Bb; (· rfl); (· rfl)) | (apply Bc; (· exact nxE)) | (apply Bd; (· rfl); (· rfl); (· exact nxE))); (· first | exact Kz rfl rfl (hE) (Aa (Ad (Ad An)) An) | exact Kz rfl rfl (hI) (Aa (Ad (Ad An)) (Ad An)) | exact Ok.pe); (first | refine Na ?_ | refine Nb ?_)) | ((first | apply Ca | (apply Cb; (· exact nxE))); (· first | exact Ok.e0); (first | refine Nc ?_ | refine Nd ?_)) | refine Oa ?_ | refine Ob ?_ | ((first | refine Ga (fun h => ?_) (fun h => ?_) | refine AD.gsplit rfl rfl (fun h => ?_) (fun h => ?_)) <;> try (exfalso; omega; done)) | (first | refine AL.gsplitB rfl rfl (fun h => ?_) (fun h => ?_) | refine AD.gsplitB rfl rfl (fun h => ?_) (fun h => ?_)) | refine Fa ?_ | refine Qb ?_ | refine Qc ?_ | refine Qd ?_ | refine Fb ?_ | refine Qe ?_ | refine Wa ?_ | refine Wb ?_ | (refine AW.ite rfl (fun h => ?_) (fun h => ?_) <;> try (exfalso; omega; done)) | refine AW.cond _ rfl (fun h => ?_) (fun h => ?_) | refine Qf ?_ | refine Qg ?_ | refine Qh ?_ | refine Qi ?_ | refine Xa ?_ | refine Xb ?_ | refine Xc ?_ | refine Xd ?_ | refine Fc ?_)
      refine Ya ?_
      (apply Le.headZ (hs := []) [] rfl)
      all_goals (try dsimp only [srcs])
      (case' hfr => (repeat' (first | refine La ?_ ?_ | exact Lc | refine Lo ?_ | refine ⟨⟨_, rfl, ?_⟩, ?_⟩ | refine ObA.box ?_ | refine ObA.frE ?_ | refine ObA.dataE ?_ | refine ARs.agg ?_ | refine ARs.tup ?_ | refine AR.b ?_ | refine AR.iE ?_ | refine AR.e ?_ | refine AR.clo' ARs.nil ?_)))
      all_goals (first | exact Ld | exact trivial | (rfl))
def slR (xs : List Pl) (e : Int) : Int × Int := if (stN xs e xs.length).1 = true then (stN xs e xs.length).2 else (0, 0)
def slC (xs : List Pl) (e : Int) : Int := if (stN xs e xs.length).1 = true then 0 else 4
set_option maxHeartbeats 2000000 in
theorem sStationLoad_ac (n : Nat) (xs : List Pl) (e : Int) (hx : xs.length ≤ 1000) (hv : ∀ p ∈ xs, okPl n p) (he : eventC n xs e = 0) : AC Try.prog 73 [grD n xs, I e] H0 (.tup [.agg [I (slR xs e).1, I (slR xs e).2], I (slC xs e)]) H0 := by
  have hE := l11Event_ac n xs e (by omega)
  rw [he] at hE
  refine AC.of_body 0 Try.func73 rfl (fun l h => absurd rfl h) (fun C hC => ?_)
  have hD : ∀ l, ¬ C.D0 l := fun l h => (hC l).1 h rfl
  simp only [startFr, Try.ntmps73, List.length_cons, List.length_nil, Nat.reduceAdd, Nat.reduceSub, List.replicate_succ, List.replicate_zero, List.cons_append, List.nil_append]
  repeat' (first | refine Qa ?_ | ((first | apply Ba | (apply Bb; (· rfl); (· rfl)) | (apply Bc; (· exact nxE)) | (apply Bd; (· rfl); (· rfl); (· exact nxE))); (· first | exact Kz rfl rfl (hE) (Aa (Ad (Ad An)) (Ad An)) | exact Ok.pe); (first | refine Na ?_ | refine Nb ?_)) | ((first | apply Ca | (apply Cb; (· exact nxE))); (· first | exact Ok.e0); (first | refine Nc ?_ | refine Nd ?_)) | refine Oa ?_ | refine Ob ?_ | ((first | refine Ga (fun h => ?_) (fun h => ?_) | refine AD.gsplit rfl rfl (fun h => ?_) (fun h => ?_)) <;> try (exfalso; omega; done)) | (first | refine AL.gsplitB rfl rfl (fun h => ?_) (fun h => ?_) | refine AD.gsplitB rfl rfl (fun h => ?_) (fun h => ?_)) | refine Fa ?_ | refine Qb ?_ | refine Qc ?_ | refine Qd ?_ | refine Fb ?_ | refine Qe ?_ | refine Wa ?_ | refine Wb ?_ | (refine AW.ite rfl (fun h => ?_) (fun h => ?_) <;> try (exfalso; omega; done)) | refine AW.cond _ rfl (fun h => ?_) (fun h => ?_) | refine Qf ?_ | refine Qg ?_ | refine Qh ?_ | refine Qi ?_ | refine Xa ?_ | refine Xb ?_ | refine Xc ?_ | refine Xd ?_ | refine Fc ?_)
  refine AW.loop (X := {k : Nat // k ≤ xs.length}) (fun k => ⟨[Oo, I e, Bx 2 0, Oo, Bx 2 1, Oo, Oo, Bx 2 2, Bo (stN xs e k.1).1, I (k.1 : Nat), Oo, Oo, Oo, Oo, Oo, Oo, Oo, Oo, Oo, Oo, Oo, Oo, Oo, Oo, Oo, Oo, Oo, Oo, Oo, Oo, Oo, Oo, Oo, Oo, Oo, Oo, Oo, Oo, Oo, Oo, Oo, Oo, Oo, Oo, Oo, Oo, Oo, Oo, Oo, Oo, Oo, Oo, Oo, Oo, Oo, Oo, Oo, Oo, Oo, Oo, Oo, Oo, Oo, Oo, Oo], heapL [(⟨0, []⟩, ⟨0, []⟩, ⟨2, [[I n, PL xs]]⟩), (⟨1, []⟩, ⟨1, []⟩, ⟨2, [[I 0, I 0]]⟩), (⟨2, []⟩, ⟨2, []⟩, ⟨2, [[I (stN xs e k.1).2.1, I (stN xs e k.1).2.2]]⟩)], 900⟩) (fun k => xs.length - k.1) ⟨0, Nat.zero_le _⟩ ?_ (fun k => ?_)
  ·
    (apply Le.headZ [_, _, _] rfl)
    all_goals (try dsimp only [srcs])
    (case' hfr | hob => (repeat' (first | refine La ?_ ?_ | exact Lc | refine Lo ?_ | refine ⟨⟨_, rfl, ?_⟩, ?_⟩ | refine ObA.box ?_ | refine ObA.frE ?_ | refine ObA.dataE ?_ | refine ARs.agg ?_ | refine ARs.tup ?_ | refine AR.b ?_ | refine AR.iE ?_ | refine AR.e ?_ | refine AR.clo' ARs.nil ?_)))
    all_goals (first | (rfl) | exact Ld)
  obtain ⟨i, hi⟩ := k
  simp only
  have hsm := stN_small hv (e := e) i hi
  by_cases hlt : i < xs.length
  ·
    have hrow := pl_row (n := 0) hlt
    obtain ⟨_, _, ⟨g1, g2⟩, ⟨g3, g4⟩⟩ := okPl_at hv i hlt
    have hb : stN xs e (i + 1) = if ((plA xs i).f = e ∧ (plA xs i).t = e ∧ (plA xs i).k ≠ 0) ∧ ((stN xs e i).1 = false ∨ 0 < crI (redR (plA xs i).d (plA xs i).k) (stN xs e i).2) then (true, redR (plA xs i).d (plA xs i).k) else stN xs e i := rfl
    by_cases hok : (plA xs i).f = e ∧ (plA xs i).t = e ∧ (plA xs i).k ≠ 0
    · have hR := l01Ratio_ac (plA xs i).d (plA xs i).k (by omega) (by omega)
      have hrs := redR_small g1 (m := (plA xs i).k) (by omega)
      have hC := l01Compare_ac (redR (plA xs i).d (plA xs i).k) (stN xs e i).2 ⟨⟨hrs.1.1, by omega⟩, ⟨by omega, by omega⟩⟩ ⟨⟨hsm.1.1.1, by omega⟩, ⟨hsm.1.2.1, by omega⟩⟩
      have hcmp := hC
      clear hC
      generalize crI (redR (plA xs i).d (plA xs i).k) (stN xs e i).2 = cr at *
      generalize redR (plA xs i).d (plA xs i).k = r at *
      generalize stN xs e i = s at *
      generalize plA xs i = p at *
      obtain ⟨pf, pt, pd, pk⟩ := p
      obtain ⟨r1, r2⟩ := r
      obtain ⟨s0, s1, s2⟩ := s
      simp only at hcmp hR hb hrow hok ⊢
      cases s0
      all_goals
        repeat' (first | refine Qa ?_ | ((first | apply Ba | (apply Bb; (· rfl); (· rfl)) | (apply Bc; (· exact nxE)) | (apply Bd; (· rfl); (· rfl); (· exact nxE))); (· first | exact Kz rfl rfl (hR) (Ad (Ad An)) | exact Kz rfl rfl (hcmp) (Aa (Ad (Ad An)) (Aa (Ad (Ad An)) An)) | exact Ok.pe); (first | refine Na ?_ | refine Nb ?_)) | ((first | apply Ca | (apply Cb; (· exact nxE))); (· first | exact Ok.e0); (first | refine Nc ?_ | refine Nd ?_)) | refine Oa ?_ | refine Ob ?_ | ((first | refine Ga (fun h => ?_) (fun h => ?_) | refine AD.gsplit rfl rfl (fun h => ?_) (fun h => ?_)) <;> try (exfalso; omega; done)) | (first | refine AL.gsplitB rfl rfl (fun h => ?_) (fun h => ?_) | refine AD.gsplitB rfl rfl (fun h => ?_) (fun h => ?_)) | refine Fa ?_ | refine Qb ?_ | refine Qc ?_ | refine Qd ?_ | refine Fb ?_ | refine Qe ?_ | refine Wa ?_ | refine Wb ?_ | (refine AW.ite rfl (fun h => ?_) (fun h => ?_) <;> try (exfalso; omega; done)) | refine AW.cond _ rfl (fun h => ?_) (fun h => ?_) | refine Qf ?_ | refine Qg ?_ | refine Qh ?_ | refine Qi ?_ | refine Xa ?_ | refine Xb ?_ | refine Xc ?_ | refine Xd ?_ | refine Fc ?_)
      all_goals first
        | (rw [if_pos ⟨hok, by first | exact .inl rfl | exact .inr (by omega)⟩] at hb
           refine ⟨⟨i + 1, by omega⟩, ?_, by simp only; omega⟩
           simp only
           rw [hb]
           (apply Le.headZ [_, _, _] rfl)
           all_goals (try dsimp only [srcs])
           (case' hfr | hob => (repeat' (first | refine La ?_ ?_ | exact Lc | refine Lo ?_ | refine ⟨⟨_, rfl, ?_⟩, ?_⟩ | refine ObA.box ?_ | refine ObA.frE ?_ | refine ObA.dataE ?_ | refine ARs.agg ?_ | refine ARs.tup ?_ | refine AR.b ?_ | refine AR.iE ?_ | refine AR.e ?_ | refine AR.clo' ARs.nil ?_)))
           all_goals (first | (rfl) | exact Ld)
           done)
        | (rw [if_neg (by rintro ⟨_, h5 | h5⟩ <;> first | cases h5 | omega)] at hb
           refine ⟨⟨i + 1, by omega⟩, ?_, by simp only; omega⟩
           simp only
           rw [hb]
           (apply Le.headZ [_, _, _] rfl)
           all_goals (try dsimp only [srcs])
           (case' hfr | hob => (repeat' (first | refine La ?_ ?_ | exact Lc | refine Lo ?_ | refine ⟨⟨_, rfl, ?_⟩, ?_⟩ | refine ObA.box ?_ | refine ObA.frE ?_ | refine ObA.dataE ?_ | refine ARs.agg ?_ | refine ARs.tup ?_ | refine AR.b ?_ | refine AR.iE ?_ | refine AR.e ?_ | refine AR.clo' ARs.nil ?_)))
           all_goals (first | (rfl) | exact Ld)
           done)
    · rw [if_neg (fun h5 => hok h5.1)] at hb
      generalize stN xs e i = s at *
      generalize plA xs i = p at *
      obtain ⟨pf, pt, pd, pk⟩ := p
      obtain ⟨s0, s1, s2⟩ := s
      simp only at hrow hok hb ⊢
      repeat' (first | refine Qa ?_ | ((first | apply Ba | (apply Bb; (· rfl); (· rfl)) | (apply Bc; (· exact nxE)) | (apply Bd; (· rfl); (· rfl); (· exact nxE))); (· first | exact Ok.pe); (first | refine Na ?_ | refine Nb ?_)) | ((first | apply Ca | (apply Cb; (· exact nxE))); (· first | exact Ok.e0); (first | refine Nc ?_ | refine Nd ?_)) | refine Oa ?_ | refine Ob ?_ | ((first | refine Ga (fun h => ?_) (fun h => ?_) | refine AD.gsplit rfl rfl (fun h => ?_) (fun h => ?_)) <;> try (exfalso; omega; done)) | (first | refine AL.gsplitB rfl rfl (fun h => ?_) (fun h => ?_) | refine AD.gsplitB rfl rfl (fun h => ?_) (fun h => ?_)) | refine Fa ?_ | refine Qb ?_ | refine Qc ?_ | refine Qd ?_ | refine Fb ?_ | refine Qe ?_ | refine Wa ?_ | refine Wb ?_ | (refine AW.ite rfl (fun h => ?_) (fun h => ?_) <;> try (exfalso; omega; done)) | refine AW.cond _ rfl (fun h => ?_) (fun h => ?_) | refine Qf ?_ | refine Qg ?_ | refine Qh ?_ | refine Qi ?_ | refine Xa ?_ | refine Xb ?_ | refine Xc ?_ | refine Xd ?_ | refine Fc ?_)
      all_goals try (exfalso; omega)
      all_goals
        refine ⟨⟨i + 1, by omega⟩, ?_, by simp only; omega⟩
        simp only
        rw [hb]
        (apply Le.headZ [_, _, _] rfl)
        all_goals (try dsimp only [srcs])
        (case' hfr | hob => (repeat' (first | refine La ?_ ?_ | exact Lc | refine Lo ?_ | refine ⟨⟨_, rfl, ?_⟩, ?_⟩ | refine ObA.box ?_ | refine ObA.frE ?_ | refine ObA.dataE ?_ | refine ARs.agg ?_ | refine ARs.tup ?_ | refine AR.b ?_ | refine AR.iE ?_ | refine AR.e ?_ | refine AR.clo' ARs.nil ?_)))
        all_goals (first | (rfl) | exact Ld)
  ·
    obtain rfl : i = xs.length := by omega
    unfold slR slC
    generalize stN xs e xs.length = s at *
    obtain ⟨s0, s1, s2⟩ := s
    cases s0
    all_goals
      repeat' (first | refine Qa ?_ | ((first | apply Ba | (apply Bb; (· rfl); (· rfl)) | (apply Bc; (· exact nxE)) | (apply Bd; (· rfl); (· rfl); (· exact nxE))); (· first | exact Ok.pe); (first | refine Na ?_ | refine Nb ?_)) | ((first | apply Ca | (apply Cb; (· exact nxE))); (· first | exact Ok.e0); (first | refine Nc ?_ | refine Nd ?_)) | refine Oa ?_ | refine Ob ?_ | ((first | refine Ga (fun h => ?_) (fun h => ?_) | refine AD.gsplit rfl rfl (fun h => ?_) (fun h => ?_)) <;> try (exfalso; omega; done)) | (first | refine AL.gsplitB rfl rfl (fun h => ?_) (fun h => ?_) | refine AD.gsplitB rfl rfl (fun h => ?_) (fun h => ?_)) | refine Fa ?_ | refine Qb ?_ | refine Qc ?_ | refine Qd ?_ | refine Fb ?_ | refine Qe ?_ | refine Wa ?_ | refine Wb ?_ | (refine AW.ite rfl (fun h => ?_) (fun h => ?_) <;> try (exfalso; omega; done)) | refine AW.cond _ rfl (fun h => ?_) (fun h => ?_) | refine Qf ?_ | refine Qg ?_ | refine Qh ?_ | refine Qi ?_ | refine Xa ?_ | refine Xb ?_ | refine Xc ?_ | refine Xd ?_ | refine Fc ?_)
      refine Yb ?_
      (apply Le.headZ (hs := []) [] rfl)
      all_goals (try dsimp only [srcs])
      (case' hfr => (repeat' (first | refine La ?_ ?_ | exact Lc | refine Lo ?_ | refine ⟨⟨_, rfl, ?_⟩, ?_⟩ | refine ObA.box ?_ | refine ObA.frE ?_ | refine ObA.dataE ?_ | refine ARs.agg ?_ | refine ARs.tup ?_ | refine AR.b ?_ | refine AR.iE ?_ | refine AR.e ?_ | refine AR.clo' ARs.nil ?_)))
      all_goals (first | exact Ld | exact trivial | (rfl))
set_option maxHeartbeats 2000000 in
theorem iStationLoad_ac (n : Nat) (xs : List Pl) (e : Int) (hx : xs.length ≤ 1000) (hv : ∀ p ∈ xs, okPl n p) (he : eventC n xs e = 0) : AC Try.prog 76 [grD n xs, I e] H0 (.tup [.agg [I (slR xs e).1, I (slR xs e).2], I (slC xs e)]) H0 := by
  have hE := checkEvent_ac n xs e (by omega)
  rw [he] at hE
  refine AC.of_body 0 Try.func76 rfl (fun l h => absurd rfl h) (fun C hC => ?_)
  have hD : ∀ l, ¬ C.D0 l := fun l h => (hC l).1 h rfl
  simp only [startFr, Try.ntmps76, List.length_cons, List.length_nil, Nat.reduceAdd, Nat.reduceSub, List.replicate_succ, List.replicate_zero, List.cons_append, List.nil_append]
  repeat' (first | refine Qa ?_ | ((first | apply Ba | (apply Bb; (· rfl); (· rfl)) | (apply Bc; (· exact nxE)) | (apply Bd; (· rfl); (· rfl); (· exact nxE))); (· first | exact Kz rfl rfl (hE) (Aa (Ad (Ad An)) (Ad An)) | exact Ok.pe); (first | refine Na ?_ | refine Nb ?_)) | ((first | apply Ca | (apply Cb; (· exact nxE))); (· first | exact Ok.e0); (first | refine Nc ?_ | refine Nd ?_)) | refine Oa ?_ | refine Ob ?_ | ((first | refine Ga (fun h => ?_) (fun h => ?_) | refine AD.gsplit rfl rfl (fun h => ?_) (fun h => ?_)) <;> try (exfalso; omega; done)) | (first | refine AL.gsplitB rfl rfl (fun h => ?_) (fun h => ?_) | refine AD.gsplitB rfl rfl (fun h => ?_) (fun h => ?_)) | refine Fa ?_ | refine Qb ?_ | refine Qc ?_ | refine Qd ?_ | refine Fb ?_ | refine Qe ?_ | refine Wa ?_ | refine Wb ?_ | (refine AW.ite rfl (fun h => ?_) (fun h => ?_) <;> try (exfalso; omega; done)) | refine AW.cond _ rfl (fun h => ?_) (fun h => ?_) | refine Qf ?_ | refine Qg ?_ | refine Qh ?_ | refine Qi ?_ | refine Xa ?_ | refine Xb ?_ | refine Xc ?_ | refine Xd ?_ | refine Fc ?_)
  refine AW.loop (X := {k : Nat // k ≤ xs.length}) (fun k => ⟨[Oo, I e, Oo, Oo, Bx 2 1, Oo, Oo, Bx 2 2, Bo (stN xs e k.1).1, Oo, Oo, Oo, Oo, Oo, Oo, Oo, Oo, Oo, Oo, Oo, PL xs, I xs.length, I (k.1 : Nat), Oo, Oo, Oo, Oo, Oo, Oo, Oo, Oo, Oo, Oo, Oo, Oo, Oo, Oo, Oo, Oo, Oo, Oo, Oo, Oo, Oo, Oo, Oo, Oo, Oo, Oo, Oo, Oo, Oo, Oo, Oo, Oo, Oo, Oo, Oo, Oo, Oo], heapL [(⟨1, []⟩, ⟨1, []⟩, ⟨2, [[I 0, I 0]]⟩), (⟨2, []⟩, ⟨2, []⟩, ⟨2, [[I (stN xs e k.1).2.1, I (stN xs e k.1).2.2]]⟩)], 900⟩) (fun k => xs.length - k.1) ⟨0, Nat.zero_le _⟩ ?_ (fun k => ?_)
  ·
    (apply Le.headZ [_, _] rfl)
    all_goals (try dsimp only [srcs])
    (case' hfr | hob => (repeat' (first | refine La ?_ ?_ | exact Lc | refine Lo ?_ | refine ⟨⟨_, rfl, ?_⟩, ?_⟩ | refine ObA.box ?_ | refine ObA.frE ?_ | refine ObA.dataE ?_ | refine ARs.agg ?_ | refine ARs.tup ?_ | refine AR.b ?_ | refine AR.iE ?_ | refine AR.e ?_ | refine AR.clo' ARs.nil ?_)))
    all_goals (first | (rfl) | exact Ld)
  obtain ⟨i, hi⟩ := k
  simp only
  have hsm := stN_small hv (e := e) i hi
  by_cases hlt : i < xs.length
  ·
    have hrow := pl_row (n := 0) hlt
    obtain ⟨_, _, ⟨g1, g2⟩, ⟨g3, g4⟩⟩ := okPl_at hv i hlt
    have hb : stN xs e (i + 1) = if ((plA xs i).f = e ∧ (plA xs i).t = e ∧ (plA xs i).k ≠ 0) ∧ ((stN xs e i).1 = false ∨ 0 < crI (redR (plA xs i).d (plA xs i).k) (stN xs e i).2) then (true, redR (plA xs i).d (plA xs i).k) else stN xs e i := rfl
    by_cases hok : (plA xs i).f = e ∧ (plA xs i).t = e ∧ (plA xs i).k ≠ 0
    · have hR := ratioOf_ac (plA xs i).d (plA xs i).k (by omega) (by omega)
      have hrs := redR_small g1 (m := (plA xs i).k) (by omega)
      have hC := compareRatios_ac (redR (plA xs i).d (plA xs i).k) (stN xs e i).2 ⟨⟨hrs.1.1, by omega⟩, ⟨by omega, by omega⟩⟩ ⟨⟨hsm.1.1.1, by omega⟩, ⟨hsm.1.2.1, by omega⟩⟩
      have hcmp := hC
      clear hC
      generalize crI (redR (plA xs i).d (plA xs i).k) (stN xs e i).2 = cr at *
      generalize redR (plA xs i).d (plA xs i).k = r at *
      generalize stN xs e i = s at *
      generalize plA xs i = p at *
      obtain ⟨pf, pt, pd, pk⟩ := p
      obtain ⟨r1, r2⟩ := r
      obtain ⟨s0, s1, s2⟩ := s
      simp only at hcmp hR hb hrow hok ⊢
      cases s0
      all_goals
        repeat' (first | refine Qa ?_ | ((first | apply Ba | (apply Bb; (· rfl); (· rfl)) | (apply Bc; (· exact nxE)) | (apply Bd; (· rfl); (· rfl); (· exact nxE))); (· first | exact Kz rfl rfl (hR) (Ad (Ad An)) | exact Kz rfl rfl (hcmp) (Aa (Ad (Ad An)) (Aa (Ad (Ad An)) An)) | exact Ok.pe); (first | refine Na ?_ | refine Nb ?_)) | ((first | apply Ca | (apply Cb; (· exact nxE))); (· first | exact Ok.e0); (first | refine Nc ?_ | refine Nd ?_)) | refine Oa ?_ | refine Ob ?_ | ((first | refine Ga (fun h => ?_) (fun h => ?_) | refine AD.gsplit rfl rfl (fun h => ?_) (fun h => ?_)) <;> try (exfalso; omega; done)) | (first | refine AL.gsplitB rfl rfl (fun h => ?_) (fun h => ?_) | refine AD.gsplitB rfl rfl (fun h => ?_) (fun h => ?_)) | refine Fa ?_ | refine Qb ?_ | refine Qc ?_ | refine Qd ?_ | refine Fb ?_ | refine Qe ?_ | refine Wa ?_ | refine Wb ?_ | (refine AW.ite rfl (fun h => ?_) (fun h => ?_) <;> try (exfalso; omega; done)) | refine AW.cond _ rfl (fun h => ?_) (fun h => ?_) | refine Qf ?_ | refine Qg ?_ | refine Qh ?_ | refine Qi ?_ | refine Xa ?_ | refine Xb ?_ | refine Xc ?_ | refine Xd ?_ | refine Fc ?_)
      all_goals first
        | (rw [if_pos ⟨hok, by first | exact .inl rfl | exact .inr (by omega)⟩] at hb
           refine ⟨⟨i + 1, by omega⟩, ?_, by simp only; omega⟩
           simp only
           rw [hb]
           (apply Le.headZ [_, _] rfl)
           all_goals (try dsimp only [srcs])
           (case' hfr | hob => (repeat' (first | refine La ?_ ?_ | exact Lc | refine Lo ?_ | refine ⟨⟨_, rfl, ?_⟩, ?_⟩ | refine ObA.box ?_ | refine ObA.frE ?_ | refine ObA.dataE ?_ | refine ARs.agg ?_ | refine ARs.tup ?_ | refine AR.b ?_ | refine AR.iE ?_ | refine AR.e ?_ | refine AR.clo' ARs.nil ?_)))
           all_goals (first | (rfl) | exact Ld)
           done)
        | (rw [if_neg (by rintro ⟨_, h5 | h5⟩ <;> first | cases h5 | omega)] at hb
           refine ⟨⟨i + 1, by omega⟩, ?_, by simp only; omega⟩
           simp only
           rw [hb]
           (apply Le.headZ [_, _] rfl)
           all_goals (try dsimp only [srcs])
           (case' hfr | hob => (repeat' (first | refine La ?_ ?_ | exact Lc | refine Lo ?_ | refine ⟨⟨_, rfl, ?_⟩, ?_⟩ | refine ObA.box ?_ | refine ObA.frE ?_ | refine ObA.dataE ?_ | refine ARs.agg ?_ | refine ARs.tup ?_ | refine AR.b ?_ | refine AR.iE ?_ | refine AR.e ?_ | refine AR.clo' ARs.nil ?_)))
           all_goals (first | (rfl) | exact Ld)
           done)
    · rw [if_neg (fun h5 => hok h5.1)] at hb
      generalize stN xs e i = s at *
      generalize plA xs i = p at *
      obtain ⟨pf, pt, pd, pk⟩ := p
      obtain ⟨s0, s1, s2⟩ := s
      simp only at hrow hok hb ⊢
      repeat' (first | refine Qa ?_ | ((first | apply Ba | (apply Bb; (· rfl); (· rfl)) | (apply Bc; (· exact nxE)) | (apply Bd; (· rfl); (· rfl); (· exact nxE))); (· first | exact Ok.pe); (first | refine Na ?_ | refine Nb ?_)) | ((first | apply Ca | (apply Cb; (· exact nxE))); (· first | exact Ok.e0); (first | refine Nc ?_ | refine Nd ?_)) | refine Oa ?_ | refine Ob ?_ | ((first | refine Ga (fun h => ?_) (fun h => ?_) | refine AD.gsplit rfl rfl (fun h => ?_) (fun h => ?_)) <;> try (exfalso; omega; done)) | (first | refine AL.gsplitB rfl rfl (fun h => ?_) (fun h => ?_) | refine AD.gsplitB rfl rfl (fun h => ?_) (fun h => ?_)) | refine Fa ?_ | refine Qb ?_ | refine Qc ?_ | refine Qd ?_ | refine Fb ?_ | refine Qe ?_ | refine Wa ?_ | refine Wb ?_ | (refine AW.ite rfl (fun h => ?_) (fun h => ?_) <;> try (exfalso; omega; done)) | refine AW.cond _ rfl (fun h => ?_) (fun h => ?_) | refine Qf ?_ | refine Qg ?_ | refine Qh ?_ | refine Qi ?_ | refine Xa ?_ | refine Xb ?_ | refine Xc ?_ | refine Xd ?_ | refine Fc ?_)
      all_goals try (exfalso; omega)
      all_goals
        refine ⟨⟨i + 1, by omega⟩, ?_, by simp only; omega⟩
        simp only
        rw [hb]
        (apply Le.headZ [_, _] rfl)
        all_goals (try dsimp only [srcs])
        (case' hfr | hob => (repeat' (first | refine La ?_ ?_ | exact Lc | refine Lo ?_ | refine ⟨⟨_, rfl, ?_⟩, ?_⟩ | refine ObA.box ?_ | refine ObA.frE ?_ | refine ObA.dataE ?_ | refine ARs.agg ?_ | refine ARs.tup ?_ | refine AR.b ?_ | refine AR.iE ?_ | refine AR.e ?_ | refine AR.clo' ARs.nil ?_)))
        all_goals (first | (rfl) | exact Ld)
  ·
    obtain rfl : i = xs.length := by omega
    unfold slR slC
    generalize stN xs e xs.length = s at *
    obtain ⟨s0, s1, s2⟩ := s
    cases s0
    all_goals
      repeat' (first | refine Qa ?_ | ((first | apply Ba | (apply Bb; (· rfl); (· rfl)) | (apply Bc; (· exact nxE)) | (apply Bd; (· rfl); (· rfl); (· exact nxE))); (· first | exact Ok.pe); (first | refine Na ?_ | refine Nb ?_)) | ((first | apply Ca | (apply Cb; (· exact nxE))); (· first | exact Ok.e0); (first | refine Nc ?_ | refine Nd ?_)) | refine Oa ?_ | refine Ob ?_ | ((first | refine Ga (fun h => ?_) (fun h => ?_) | refine AD.gsplit rfl rfl (fun h => ?_) (fun h => ?_)) <;> try (exfalso; omega; done)) | (first | refine AL.gsplitB rfl rfl (fun h => ?_) (fun h => ?_) | refine AD.gsplitB rfl rfl (fun h => ?_) (fun h => ?_)) | refine Fa ?_ | refine Qb ?_ | refine Qc ?_ | refine Qd ?_ | refine Fb ?_ | refine Qe ?_ | refine Wa ?_ | refine Wb ?_ | (refine AW.ite rfl (fun h => ?_) (fun h => ?_) <;> try (exfalso; omega; done)) | refine AW.cond _ rfl (fun h => ?_) (fun h => ?_) | refine Qf ?_ | refine Qg ?_ | refine Qh ?_ | refine Qi ?_ | refine Xa ?_ | refine Xb ?_ | refine Xc ?_ | refine Xd ?_ | refine Fc ?_)
      refine Yb ?_
      (apply Le.headZ (hs := []) [] rfl)
      all_goals (try dsimp only [srcs])
      (case' hfr => (repeat' (first | refine La ?_ ?_ | exact Lc | refine Lo ?_ | refine ⟨⟨_, rfl, ?_⟩, ?_⟩ | refine ObA.box ?_ | refine ObA.frE ?_ | refine ObA.dataE ?_ | refine ARs.agg ?_ | refine ARs.tup ?_ | refine AR.b ?_ | refine AR.iE ?_ | refine AR.e ?_ | refine AR.clo' ARs.nil ?_)))
      all_goals (first | exact Ld | exact trivial | (rfl))
/-! ### UseOf -/
noncomputable def useQ (ev : Int) (xs : List Pl) (e : Int) : Int := cqC ev xs (wi e 0 (IntKind.i64.wrap (ev - 1)))
noncomputable def useC (ev : Int) (xs : List Pl) (e : Int) : Int := if useQ ev xs e = 0 then (if slC xs e = 0 ∧ (ctR ev xs).1 ≠ 0 then 0 else 4) else useQ ev xs e
noncomputable def useR (ev : Int) (xs : List Pl) (e : Int) : Int × Int := if useQ ev xs e = 0 then (if slC xs e = 0 ∧ (ctR ev xs).1 ≠ 0 then redR ((slR xs e).1 * (ctR ev xs).2) ((slR xs e).2 * (ctR ev xs).1) else (0, 0)) else (0, 0)
theorem sl_small {n : Nat} {xs : List Pl} (hv : ∀ p ∈ xs, okPl n p) {e : Int} : ((0 ≤ (slR xs e).1 ∧ (slR xs e).1 ≤ 10000) ∧ (0 ≤ (slR xs e).2 ∧ (slR xs e).2 ≤ 5)) ∧ (slC xs e = 0 → 0 < (slR xs e).2) := by
  have h := stN_small hv (e := e) xs.length (Nat.le_refl _)
  unfold slR slC
  by_cases hb : (stN xs e xs.length).1 = true
  · rw [if_pos hb, if_pos hb]; exact ⟨h.1, fun _ => h.2 hb⟩
  · rw [if_neg hb, if_neg hb]; exact ⟨⟨by decide, by decide⟩, fun h => by cases h⟩
theorem pos_mul {a b : Int} (ha : 0 < a) (hb : 0 < b) : 0 < a * b := Int.mul_pos ha hb
theorem slC_01 {xs : List Pl} {e : Int} : slC xs e = 0 ∨ slC xs e = 4 := by unfold slC; split <;> simp
set_option maxHeartbeats 2000000 in
theorem sUseOf_ac (ev : Int) (xs : List Pl) (e : Int) (hx : xs.length ≤ 100000000) : AC Try.prog 21 [grD ev xs, I e] H0 (.tup [.agg [I (useR ev xs e).1, I (useR ev xs e).2], I (useC ev xs e)]) H0 := by
  have hI := l01In_ac e 0 (IntKind.i64.wrap (ev - 1))
  have hq := l27Code_ac ev xs (wi e 0 (IntKind.i64.wrap (ev - 1))) hx
  unfold useR useC useQ
  by_cases hc : cqC ev xs (wi e 0 (IntKind.i64.wrap (ev - 1))) = 0
  · rw [if_pos hc, if_pos hc]
    obtain ⟨c1, c2, c3⟩ := cqC_ok hc
    obtain ⟨c4, _⟩ := codeI_ok (show codeI ev xs true = 0 by rw [c2] at hc; unfold cqC at hc; by_cases h : codeI ev xs true = 0; exact h; rw [if_neg h] at hc; exact hc)
    have hcr : cqR ev xs (wi e 0 (IntKind.i64.wrap (ev - 1))) = ctR ev xs := by
      rw [c2]; unfold cqR
      rw [if_pos (by rw [c2] at hc; unfold cqC at hc; by_cases h : codeI ev xs true = 0; exact h; rw [if_neg h] at hc; exact hc)]
    rw [hc, hcr] at hq
    obtain ⟨n, rfl, g1, g2, g3, g4, g5⟩ := live_ok c1
    have heg : isEG n xs = true := by
      unfold liveI at c1
      by_cases h : isEG n xs = true
      · exact h
      · rw [if_neg h] at c1; exact absurd c1 (by decide)
    have hev : eventC n xs e = 0 := by unfold eventC; rw [if_pos heg, if_pos c2]
    have hS := sStationLoad_ac n xs e (by omega) g4 hev
    have hsm := sl_small g4 (e := e)
    have hct := ctR_small (ev := n) (xs := xs)
    have h01 := slC_01 (xs := xs) (e := e)
    rw [c2] at hI hq
    rw [wrapE g1 g2] at hI
    by_cases hu : slC xs e = 0 ∧ (ctR n xs).1 ≠ 0
    · rw [if_pos hu, if_pos hu]
      obtain ⟨u1, u2⟩ := hu
      have hm1 := mul_in hsm.1.1 hct.2
      have hm2 := mul_in hsm.1.2 hct.1
      have hm3 := pos_mul (hsm.2 u1) (show 0 < (ctR n xs).1 by have := hct.1; omega)
      have hR := l01Ratio_ac ((slR xs e).1 * (ctR n xs).2) ((slR xs e).2 * (ctR n xs).1) (by omega) (by omega)
      rw [u1] at hS
      generalize redR ((slR xs e).1 * (ctR n xs).2) ((slR xs e).2 * (ctR n xs).1) = res at *
      generalize ctR n xs = r at *
      generalize slR xs e = l at *
      obtain ⟨r1, r2⟩ := r
      obtain ⟨l1, l2⟩ := l
      simp only at hR hS hq hm1 hm2 hm3 u2
      refine AC.of_body 0 Try.func21 rfl (fun l h => absurd rfl h) (fun C hC => ?_)
      have hD : ∀ l, ¬ C.D0 l := fun l h => (hC l).1 h rfl
      simp only [startFr, Try.ntmps21, List.length_cons, List.length_nil, Nat.reduceAdd, Nat.reduceSub, List.replicate_succ, List.replicate_zero, List.cons_append, List.nil_append]
      repeat' (first | refine Qa ?_ | ((first | apply Ba | (apply Bb; (· rfl); (· rfl)) | (apply Bc; (· exact nxE)) | (apply Bd; (· rfl); (· rfl); (· exact nxE))); (· first | exact Kz rfl rfl (hI) (Ad (Ad (Ad An))) | exact Kz rfl rfl (hq) (Aa (Ad (Ad An)) (Ad An)) | exact Kz rfl rfl (hS) (Aa (Ad (Ad An)) (Ad An)) | exact Kz rfl rfl (hR) (Ad (Ad An)) | exact Ok.pe); (first | refine Na ?_ | refine Nb ?_)) | ((first | apply Ca | (apply Cb; (· exact nxE))); (· first | exact Ok.e0); (first | refine Nc ?_ | refine Nd ?_)) | refine Oa ?_ | refine Ob ?_ | ((first | refine Ga (fun h => ?_) (fun h => ?_) | refine AD.gsplit rfl rfl (fun h => ?_) (fun h => ?_)) <;> try (exfalso; omega; done)) | (first | refine AL.gsplitB rfl rfl (fun h => ?_) (fun h => ?_) | refine AD.gsplitB rfl rfl (fun h => ?_) (fun h => ?_)) | refine Fa ?_ | refine Qb ?_ | refine Qc ?_ | refine Qd ?_ | refine Fb ?_ | refine Qe ?_ | refine Wa ?_ | refine Wb ?_ | (refine AW.ite rfl (fun h => ?_) (fun h => ?_) <;> try (exfalso; omega; done)) | refine AW.cond _ rfl (fun h => ?_) (fun h => ?_) | refine Qf ?_ | refine Qg ?_ | refine Qh ?_ | refine Qi ?_ | refine Xa ?_ | refine Xb ?_ | refine Xc ?_ | refine Xd ?_ | refine Fc ?_)
      refine Yb ?_
      (apply Le.headZ (hs := []) [] rfl)
      all_goals (try dsimp only [srcs])
      (case' hfr => (repeat' (first | refine La ?_ ?_ | exact Lc | refine Lo ?_ | refine ⟨⟨_, rfl, ?_⟩, ?_⟩ | refine ObA.box ?_ | refine ObA.frE ?_ | refine ObA.dataE ?_ | refine ARs.agg ?_ | refine ARs.tup ?_ | refine AR.b ?_ | refine AR.iE ?_ | refine AR.e ?_ | refine AR.clo' ARs.nil ?_)))
      all_goals (first | exact Ld | exact trivial | (rfl))
    · rw [if_neg hu, if_neg hu]
      generalize slC xs e = sc at *
      generalize ctR n xs = r at *
      generalize slR xs e = l at *
      obtain ⟨r1, r2⟩ := r
      simp only at hu
      refine AC.of_body 0 Try.func21 rfl (fun l h => absurd rfl h) (fun C hC => ?_)
      have hD : ∀ l, ¬ C.D0 l := fun l h => (hC l).1 h rfl
      simp only [startFr, Try.ntmps21, List.length_cons, List.length_nil, Nat.reduceAdd, Nat.reduceSub, List.replicate_succ, List.replicate_zero, List.cons_append, List.nil_append]
      repeat' (first | refine Qa ?_ | ((first | apply Ba | (apply Bb; (· rfl); (· rfl)) | (apply Bc; (· exact nxE)) | (apply Bd; (· rfl); (· rfl); (· exact nxE))); (· first | exact Kz rfl rfl (hI) (Ad (Ad (Ad An))) | exact Kz rfl rfl (hq) (Aa (Ad (Ad An)) (Ad An)) | exact Kz rfl rfl (hS) (Aa (Ad (Ad An)) (Ad An)) | exact Ok.pe); (first | refine Na ?_ | refine Nb ?_)) | ((first | apply Ca | (apply Cb; (· exact nxE))); (· first | exact Ok.e0); (first | refine Nc ?_ | refine Nd ?_)) | refine Oa ?_ | refine Ob ?_ | ((first | refine Ga (fun h => ?_) (fun h => ?_) | refine AD.gsplit rfl rfl (fun h => ?_) (fun h => ?_)) <;> try (exfalso; omega; done)) | (first | refine AL.gsplitB rfl rfl (fun h => ?_) (fun h => ?_) | refine AD.gsplitB rfl rfl (fun h => ?_) (fun h => ?_)) | refine Fa ?_ | refine Qb ?_ | refine Qc ?_ | refine Qd ?_ | refine Fb ?_ | refine Qe ?_ | refine Wa ?_ | refine Wb ?_ | (refine AW.ite rfl (fun h => ?_) (fun h => ?_) <;> try (exfalso; omega; done)) | refine AW.cond _ rfl (fun h => ?_) (fun h => ?_) | refine Qf ?_ | refine Qg ?_ | refine Qh ?_ | refine Qi ?_ | refine Xa ?_ | refine Xb ?_ | refine Xc ?_ | refine Xd ?_ | refine Fc ?_)
      all_goals try (exfalso; omega)
      all_goals
        refine Yb ?_
        (apply Le.headZ (hs := []) [] rfl)
        all_goals (try dsimp only [srcs])
        (case' hfr => (repeat' (first | refine La ?_ ?_ | exact Lc | refine Lo ?_ | refine ⟨⟨_, rfl, ?_⟩, ?_⟩ | refine ObA.box ?_ | refine ObA.frE ?_ | refine ObA.dataE ?_ | refine ARs.agg ?_ | refine ARs.tup ?_ | refine AR.b ?_ | refine AR.iE ?_ | refine AR.e ?_ | refine AR.clo' ARs.nil ?_)))
        all_goals (first | exact Ld | exact trivial | (rfl))
  · rw [if_neg hc, if_neg hc]
    generalize cqC ev xs (wi e 0 (IntKind.i64.wrap (ev - 1))) = Q at *
    generalize cqR ev xs (wi e 0 (IntKind.i64.wrap (ev - 1))) = qr at *
    generalize wi e 0 (IntKind.i64.wrap (ev - 1)) = vb at *
    refine AC.of_body 0 Try.func21 rfl (fun l h => absurd rfl h) (fun C hC => ?_)
    have hD : ∀ l, ¬ C.D0 l := fun l h => (hC l).1 h rfl
    simp only [startFr, Try.ntmps21, List.length_cons, List.length_nil, Nat.reduceAdd, Nat.reduceSub, List.replicate_succ, List.replicate_zero, List.cons_append, List.nil_append]
    repeat' (first | refine Qa ?_ | ((first | apply Ba | (apply Bb; (· rfl); (· rfl)) | (apply Bc; (· exact nxE)) | (apply Bd; (· rfl); (· rfl); (· exact nxE))); (· first | exact Kz rfl rfl (hI) (Ad (Ad (Ad An))) | exact Kz rfl rfl (hq) (Aa (Ad (Ad An)) (Ad An)) | exact Ok.pe); (first | refine Na ?_ | refine Nb ?_)) | ((first | apply Ca | (apply Cb; (· exact nxE))); (· first | exact Ok.e0); (first | refine Nc ?_ | refine Nd ?_)) | refine Oa ?_ | refine Ob ?_ | ((first | refine Ga (fun h => ?_) (fun h => ?_) | refine AD.gsplit rfl rfl (fun h => ?_) (fun h => ?_)) <;> try (exfalso; omega; done)) | (first | refine AL.gsplitB rfl rfl (fun h => ?_) (fun h => ?_) | refine AD.gsplitB rfl rfl (fun h => ?_) (fun h => ?_)) | refine Fa ?_ | refine Qb ?_ | refine Qc ?_ | refine Qd ?_ | refine Fb ?_ | refine Qe ?_ | refine Wa ?_ | refine Wb ?_ | (refine AW.ite rfl (fun h => ?_) (fun h => ?_) <;> try (exfalso; omega; done)) | refine AW.cond _ rfl (fun h => ?_) (fun h => ?_) | refine Qf ?_ | refine Qg ?_ | refine Qh ?_ | refine Qi ?_ | refine Xa ?_ | refine Xb ?_ | refine Xc ?_ | refine Xd ?_ | refine Fc ?_)
    refine Yb ?_
    (apply Le.headZ (hs := []) [] rfl)
    all_goals (try dsimp only [srcs])
    (case' hfr => (repeat' (first | refine La ?_ ?_ | exact Lc | refine Lo ?_ | refine ⟨⟨_, rfl, ?_⟩, ?_⟩ | refine ObA.box ?_ | refine ObA.frE ?_ | refine ObA.dataE ?_ | refine ARs.agg ?_ | refine ARs.tup ?_ | refine AR.b ?_ | refine AR.iE ?_ | refine AR.e ?_ | refine AR.clo' ARs.nil ?_)))
    all_goals (first | exact Ld | exact trivial | (rfl))
set_option maxHeartbeats 2000000 in
theorem iUseOf_ac (ev : Int) (xs : List Pl) (e : Int) (hx : xs.length ≤ 100000000) : AC Try.prog 22 [grD ev xs, I e] H0 (.tup [.agg [I (useR ev xs e).1, I (useR ev xs e).2], I (useC ev xs e)]) H0 := by
  have hE := checkEvent_ac ev xs e hx
  unfold useR useC useQ
  cases hg : isEG ev xs
  · have he : eventC ev xs e = 1 := by unfold eventC; rw [hg]; rfl
    rw [he] at hE
    rw [eg_no hg, if_neg (by decide), if_neg (by decide)]
    refine AC.of_body 0 Try.func22 rfl (fun l h => absurd rfl h) (fun C hC => ?_)
    have hD : ∀ l, ¬ C.D0 l := fun l h => (hC l).1 h rfl
    simp only [startFr, Try.ntmps22, List.length_cons, List.length_nil, Nat.reduceAdd, Nat.reduceSub, List.replicate_succ, List.replicate_zero, List.cons_append, List.nil_append]
    repeat' (first | refine Qa ?_ | ((first | apply Ba | (apply Bb; (· rfl); (· rfl)) | (apply Bc; (· exact nxE)) | (apply Bd; (· rfl); (· rfl); (· exact nxE))); (· first | exact Kz rfl rfl (hE) (Aa (Ad (Ad An)) (Ad An)) | exact Ok.pe); (first | refine Na ?_ | refine Nb ?_)) | ((first | apply Ca | (apply Cb; (· exact nxE))); (· first | exact Ok.e0); (first | refine Nc ?_ | refine Nd ?_)) | refine Oa ?_ | refine Ob ?_ | ((first | refine Ga (fun h => ?_) (fun h => ?_) | refine AD.gsplit rfl rfl (fun h => ?_) (fun h => ?_)) <;> try (exfalso; omega; done)) | (first | refine AL.gsplitB rfl rfl (fun h => ?_) (fun h => ?_) | refine AD.gsplitB rfl rfl (fun h => ?_) (fun h => ?_)) | refine Fa ?_ | refine Qb ?_ | refine Qc ?_ | refine Qd ?_ | refine Fb ?_ | refine Qe ?_ | refine Wa ?_ | refine Wb ?_ | (refine AW.ite rfl (fun h => ?_) (fun h => ?_) <;> try (exfalso; omega; done)) | refine AW.cond _ rfl (fun h => ?_) (fun h => ?_) | refine Qf ?_ | refine Qg ?_ | refine Qh ?_ | refine Qi ?_ | refine Xa ?_ | refine Xb ?_ | refine Xc ?_ | refine Xd ?_ | refine Fc ?_)
    refine Yb ?_
    (apply Le.headZ (hs := []) [] rfl)
    all_goals (try dsimp only [srcs])
    (case' hfr => (repeat' (first | refine La ?_ ?_ | exact Lc | refine Lo ?_ | refine ⟨⟨_, rfl, ?_⟩, ?_⟩ | refine ObA.box ?_ | refine ObA.frE ?_ | refine ObA.dataE ?_ | refine ARs.agg ?_ | refine ARs.tup ?_ | refine AR.b ?_ | refine AR.iE ?_ | refine AR.e ?_ | refine AR.clo' ARs.nil ?_)))
    all_goals (first | exact Ld | exact trivial | (rfl))
  cases hw : wi e 0 (IntKind.i64.wrap (ev - 1))
  · have he : eventC ev xs e = 2 := by unfold eventC; rw [if_pos hg, hw]; rfl
    rw [he] at hE
    rw [in_no hg, if_neg (by decide), if_neg (by decide)]
    refine AC.of_body 0 Try.func22 rfl (fun l h => absurd rfl h) (fun C hC => ?_)
    have hD : ∀ l, ¬ C.D0 l := fun l h => (hC l).1 h rfl
    simp only [startFr, Try.ntmps22, List.length_cons, List.length_nil, Nat.reduceAdd, Nat.reduceSub, List.replicate_succ, List.replicate_zero, List.cons_append, List.nil_append]
    repeat' (first | refine Qa ?_ | ((first | apply Ba | (apply Bb; (· rfl); (· rfl)) | (apply Bc; (· exact nxE)) | (apply Bd; (· rfl); (· rfl); (· exact nxE))); (· first | exact Kz rfl rfl (hE) (Aa (Ad (Ad An)) (Ad An)) | exact Ok.pe); (first | refine Na ?_ | refine Nb ?_)) | ((first | apply Ca | (apply Cb; (· exact nxE))); (· first | exact Ok.e0); (first | refine Nc ?_ | refine Nd ?_)) | refine Oa ?_ | refine Ob ?_ | ((first | refine Ga (fun h => ?_) (fun h => ?_) | refine AD.gsplit rfl rfl (fun h => ?_) (fun h => ?_)) <;> try (exfalso; omega; done)) | (first | refine AL.gsplitB rfl rfl (fun h => ?_) (fun h => ?_) | refine AD.gsplitB rfl rfl (fun h => ?_) (fun h => ?_)) | refine Fa ?_ | refine Qb ?_ | refine Qc ?_ | refine Qd ?_ | refine Fb ?_ | refine Qe ?_ | refine Wa ?_ | refine Wb ?_ | (refine AW.ite rfl (fun h => ?_) (fun h => ?_) <;> try (exfalso; omega; done)) | refine AW.cond _ rfl (fun h => ?_) (fun h => ?_) | refine Qf ?_ | refine Qg ?_ | refine Qh ?_ | refine Qi ?_ | refine Xa ?_ | refine Xb ?_ | refine Xc ?_ | refine Xd ?_ | refine Fc ?_)
    refine Yb ?_
    (apply Le.headZ (hs := []) [] rfl)
    all_goals (try dsimp only [srcs])
    (case' hfr => (repeat' (first | refine La ?_ ?_ | exact Lc | refine Lo ?_ | refine ⟨⟨_, rfl, ?_⟩, ?_⟩ | refine ObA.box ?_ | refine ObA.frE ?_ | refine ObA.dataE ?_ | refine ARs.agg ?_ | refine ARs.tup ?_ | refine AR.b ?_ | refine AR.iE ?_ | refine AR.e ?_ | refine AR.clo' ARs.nil ?_)))
    all_goals (first | exact Ld | exact trivial | (rfl))
  · have he : eventC ev xs e = 0 := by unfold eventC; rw [if_pos hg, if_pos hw]
    rw [he] at hE
    rw [in_yes]
    obtain ⟨n, rfl, g1, g2, g3, g4⟩ := isEG_ok hg
    have hq := cycleTime_ac n xs hg
    by_cases hc : bcC n xs = 0
    · rw [if_pos hc, if_pos hc]
      rw [hc] at hq
      have hS := iStationLoad_ac n xs e (by omega) g4 he
      have hsm := sl_small g4 (e := e)
      have hct := ctR_small (ev := n) (xs := xs)
      have h01 := slC_01 (xs := xs) (e := e)
      by_cases hu : slC xs e = 0 ∧ (ctR n xs).1 ≠ 0
      · rw [if_pos hu, if_pos hu]
        obtain ⟨u1, u2⟩ := hu
        have hm1 := mul_in hsm.1.1 hct.2
        have hm2 := mul_in hsm.1.2 hct.1
        have hm3 := pos_mul (hsm.2 u1) (show 0 < (ctR n xs).1 by have := hct.1; omega)
        have hR := ratioOf_ac ((slR xs e).1 * (ctR n xs).2) ((slR xs e).2 * (ctR n xs).1) (by omega) (by omega)
        rw [u1] at hS
        generalize redR ((slR xs e).1 * (ctR n xs).2) ((slR xs e).2 * (ctR n xs).1) = res at *
        generalize ctR n xs = r at *
        generalize slR xs e = l at *
        obtain ⟨r1, r2⟩ := r
        obtain ⟨l1, l2⟩ := l
        simp only at hR hS hq hm1 hm2 hm3 u2
        refine AC.of_body 0 Try.func22 rfl (fun l h => absurd rfl h) (fun C hC => ?_)
        have hD : ∀ l, ¬ C.D0 l := fun l h => (hC l).1 h rfl
        simp only [startFr, Try.ntmps22, List.length_cons, List.length_nil, Nat.reduceAdd, Nat.reduceSub, List.replicate_succ, List.replicate_zero, List.cons_append, List.nil_append]
        repeat' (first | refine Qa ?_ | ((first | apply Ba | (apply Bb; (· rfl); (· rfl)) | (apply Bc; (· exact nxE)) | (apply Bd; (· rfl); (· rfl); (· exact nxE))); (· first | exact Kz rfl rfl (hE) (Aa (Ad (Ad An)) (Ad An)) | exact Kz rfl rfl (hq) (Aa (Ad (Ad An)) An) | exact Kz rfl rfl (hS) (Aa (Ad (Ad An)) (Ad An)) | exact Kz rfl rfl (hR) (Ad (Ad An)) | exact Ok.pe); (first | refine Na ?_ | refine Nb ?_)) | ((first | apply Ca | (apply Cb; (· exact nxE))); (· first | exact Ok.e0); (first | refine Nc ?_ | refine Nd ?_)) | refine Oa ?_ | refine Ob ?_ | ((first | refine Ga (fun h => ?_) (fun h => ?_) | refine AD.gsplit rfl rfl (fun h => ?_) (fun h => ?_)) <;> try (exfalso; omega; done)) | (first | refine AL.gsplitB rfl rfl (fun h => ?_) (fun h => ?_) | refine AD.gsplitB rfl rfl (fun h => ?_) (fun h => ?_)) | refine Fa ?_ | refine Qb ?_ | refine Qc ?_ | refine Qd ?_ | refine Fb ?_ | refine Qe ?_ | refine Wa ?_ | refine Wb ?_ | (refine AW.ite rfl (fun h => ?_) (fun h => ?_) <;> try (exfalso; omega; done)) | refine AW.cond _ rfl (fun h => ?_) (fun h => ?_) | refine Qf ?_ | refine Qg ?_ | refine Qh ?_ | refine Qi ?_ | refine Xa ?_ | refine Xb ?_ | refine Xc ?_ | refine Xd ?_ | refine Fc ?_)
        refine Yb ?_
        (apply Le.headZ (hs := []) [] rfl)
        all_goals (try dsimp only [srcs])
        (case' hfr => (repeat' (first | refine La ?_ ?_ | exact Lc | refine Lo ?_ | refine ⟨⟨_, rfl, ?_⟩, ?_⟩ | refine ObA.box ?_ | refine ObA.frE ?_ | refine ObA.dataE ?_ | refine ARs.agg ?_ | refine ARs.tup ?_ | refine AR.b ?_ | refine AR.iE ?_ | refine AR.e ?_ | refine AR.clo' ARs.nil ?_)))
        all_goals (first | exact Ld | exact trivial | (rfl))
      · rw [if_neg hu, if_neg hu]
        generalize slC xs e = sc at *
        generalize ctR n xs = r at *
        generalize slR xs e = l at *
        obtain ⟨r1, r2⟩ := r
        simp only at hu
        refine AC.of_body 0 Try.func22 rfl (fun l h => absurd rfl h) (fun C hC => ?_)
        have hD : ∀ l, ¬ C.D0 l := fun l h => (hC l).1 h rfl
        simp only [startFr, Try.ntmps22, List.length_cons, List.length_nil, Nat.reduceAdd, Nat.reduceSub, List.replicate_succ, List.replicate_zero, List.cons_append, List.nil_append]
        repeat' (first | refine Qa ?_ | ((first | apply Ba | (apply Bb; (· rfl); (· rfl)) | (apply Bc; (· exact nxE)) | (apply Bd; (· rfl); (· rfl); (· exact nxE))); (· first | exact Kz rfl rfl (hE) (Aa (Ad (Ad An)) (Ad An)) | exact Kz rfl rfl (hq) (Aa (Ad (Ad An)) An) | exact Kz rfl rfl (hS) (Aa (Ad (Ad An)) (Ad An)) | exact Ok.pe); (first | refine Na ?_ | refine Nb ?_)) | ((first | apply Ca | (apply Cb; (· exact nxE))); (· first | exact Ok.e0); (first | refine Nc ?_ | refine Nd ?_)) | refine Oa ?_ | refine Ob ?_ | ((first | refine Ga (fun h => ?_) (fun h => ?_) | refine AD.gsplit rfl rfl (fun h => ?_) (fun h => ?_)) <;> try (exfalso; omega; done)) | (first | refine AL.gsplitB rfl rfl (fun h => ?_) (fun h => ?_) | refine AD.gsplitB rfl rfl (fun h => ?_) (fun h => ?_)) | refine Fa ?_ | refine Qb ?_ | refine Qc ?_ | refine Qd ?_ | refine Fb ?_ | refine Qe ?_ | refine Wa ?_ | refine Wb ?_ | (refine AW.ite rfl (fun h => ?_) (fun h => ?_) <;> try (exfalso; omega; done)) | refine AW.cond _ rfl (fun h => ?_) (fun h => ?_) | refine Qf ?_ | refine Qg ?_ | refine Qh ?_ | refine Qi ?_ | refine Xa ?_ | refine Xb ?_ | refine Xc ?_ | refine Xd ?_ | refine Fc ?_)
        all_goals try (exfalso; omega)
        all_goals
          refine Yb ?_
          (apply Le.headZ (hs := []) [] rfl)
          all_goals (try dsimp only [srcs])
          (case' hfr => (repeat' (first | refine La ?_ ?_ | exact Lc | refine Lo ?_ | refine ⟨⟨_, rfl, ?_⟩, ?_⟩ | refine ObA.box ?_ | refine ObA.frE ?_ | refine ObA.dataE ?_ | refine ARs.agg ?_ | refine ARs.tup ?_ | refine AR.b ?_ | refine AR.iE ?_ | refine AR.e ?_ | refine AR.clo' ARs.nil ?_)))
          all_goals (first | exact Ld | exact trivial | (rfl))
    · rw [if_neg hc, if_neg hc]
      generalize ctR n xs = qr at hq
      generalize bcC n xs = Q at *
      refine AC.of_body 0 Try.func22 rfl (fun l h => absurd rfl h) (fun C hC => ?_)
      have hD : ∀ l, ¬ C.D0 l := fun l h => (hC l).1 h rfl
      simp only [startFr, Try.ntmps22, List.length_cons, List.length_nil, Nat.reduceAdd, Nat.reduceSub, List.replicate_succ, List.replicate_zero, List.cons_append, List.nil_append]
      repeat' (first | refine Qa ?_ | ((first | apply Ba | (apply Bb; (· rfl); (· rfl)) | (apply Bc; (· exact nxE)) | (apply Bd; (· rfl); (· rfl); (· exact nxE))); (· first | exact Kz rfl rfl (hE) (Aa (Ad (Ad An)) (Ad An)) | exact Kz rfl rfl (hq) (Aa (Ad (Ad An)) An) | exact Ok.pe); (first | refine Na ?_ | refine Nb ?_)) | ((first | apply Ca | (apply Cb; (· exact nxE))); (· first | exact Ok.e0); (first | refine Nc ?_ | refine Nd ?_)) | refine Oa ?_ | refine Ob ?_ | ((first | refine Ga (fun h => ?_) (fun h => ?_) | refine AD.gsplit rfl rfl (fun h => ?_) (fun h => ?_)) <;> try (exfalso; omega; done)) | (first | refine AL.gsplitB rfl rfl (fun h => ?_) (fun h => ?_) | refine AD.gsplitB rfl rfl (fun h => ?_) (fun h => ?_)) | refine Fa ?_ | refine Qb ?_ | refine Qc ?_ | refine Qd ?_ | refine Fb ?_ | refine Qe ?_ | refine Wa ?_ | refine Wb ?_ | (refine AW.ite rfl (fun h => ?_) (fun h => ?_) <;> try (exfalso; omega; done)) | refine AW.cond _ rfl (fun h => ?_) (fun h => ?_) | refine Qf ?_ | refine Qg ?_ | refine Qh ?_ | refine Qi ?_ | refine Xa ?_ | refine Xb ?_ | refine Xc ?_ | refine Xd ?_ | refine Fc ?_)
      refine Yb ?_
      (apply Le.headZ (hs := []) [] rfl)
      all_goals (try dsimp only [srcs])
      (case' hfr => (repeat' (first | refine La ?_ ?_ | exact Lc | refine Lo ?_ | refine ⟨⟨_, rfl, ?_⟩, ?_⟩ | refine ObA.box ?_ | refine ObA.frE ?_ | refine ObA.dataE ?_ | refine ARs.agg ?_ | refine ARs.tup ?_ | refine AR.b ?_ | refine AR.iE ?_ | refine AR.e ?_ | refine AR.clo' ARs.nil ?_)))
      all_goals (first | exact Ld | exact trivial | (rfl))
end Go.Proofs.Ytcjidnpkeliieaa
