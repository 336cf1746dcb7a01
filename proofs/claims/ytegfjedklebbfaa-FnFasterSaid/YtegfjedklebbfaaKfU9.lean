/-
  Walks in the abstract reading, part 9.
-/
import Derived.Test.YtegfjedklebbfaaKfU8
import Derived.Test.YtegfjedklebbfaaKfU7
import Derived.Test.YtegfjedklebbfaaKfU6
section
namespace Go.Proofs.Ytegfjedklebbfaa
set_option linter.unusedSimpArgs false
set_option linter.unusedVariables false
open Go Go.RowKit
attribute [local irreducible] AL AD AW OpOk Le AC thenQ blockQ EndQ

theorem redR_small {d m : Int} (hd : 0 ≤ d) (hm : 0 < m) : (0 ≤ (redR d m).1 ∧ (redR d m).1 ≤ d) ∧ (0 < (redR d m).2 ∧ (redR d m).2 ≤ m) := by
  obtain ⟨g1, g2, g3, g4, g5⟩ := redR_ok (d := d) hm
  generalize (Int.gcd d m : Int) = g at g3 g4 g5
  generalize redR d m = s at *
  have a1 : 0 ≤ s.1 := by
    apply Classical.byContradiction
    intro hneg
    have := Int.mul_le_mul_of_nonneg_left (show s.1 ≤ -1 by omega) (show 0 ≤ g by omega)
    omega
  have a2 := Int.mul_le_mul_of_nonneg_right (show (1 : Int) ≤ g by omega) a1
  have a3 := Int.mul_le_mul_of_nonneg_right (show (1 : Int) ≤ g by omega) (show 0 ≤ s.2 by omega)
  refine ⟨⟨a1, ?_⟩, ⟨g1, ?_⟩⟩ <;> omega
/-- The load of an event, off the first k places; false: none yet. -/
def stN (xs : List Pl) (e : Int) : Nat → Bool × (Int × Int)
  | 0 => (false, (0, 0))
  | k + 1 => if ((plA xs k).f = e ∧ (plA xs k).t = e ∧ (plA xs k).k ≠ 0) ∧ ((stN xs e k).1 = false ∨ 0 < crI (redR (plA xs k).d (plA xs k).k) (stN xs e k).2) then (true, redR (plA xs k).d (plA xs k).k) else stN xs e k
theorem stN_small {n : Nat} {xs : List Pl} (hv : ∀ p ∈ xs, okPl n p) {e : Int} : ∀ k, k ≤ xs.length → ((0 ≤ (stN xs e k).2.1 ∧ (stN xs e k).2.1 ≤ 10000) ∧ (0 ≤ (stN xs e k).2.2 ∧ (stN xs e k).2.2 ≤ 5)) ∧ ((stN xs e k).1 = true → 0 < (stN xs e k).2.2)
  | 0, _ => ⟨⟨⟨Int.le_refl _, by simp [stN]⟩, ⟨Int.le_refl _, by simp [stN]⟩⟩, fun h => by simp [stN] at h⟩
  | k + 1, hk => by
    rw [stN]
    split
    · rename_i h
      obtain ⟨_, _, ⟨g1, g2⟩, ⟨g3, g4⟩⟩ := okPl_at hv k (by omega)
      have := redR_small g1 (m := (plA xs k).k) (by have := h.1.2.2; omega)
      simp only
      exact ⟨⟨⟨this.1.1, by omega⟩, ⟨by omega, by omega⟩⟩, fun _ => this.2.1⟩
    · exact stN_small hv k (by omega)
theorem wrapE {n : Nat} (h1 : 1 ≤ n) (h2 : n ≤ 10) : IntKind.i64.wrap ((n : Int) - 1) = n - 1 := wrap_in (by omega) (by omega)
def eventC (ev : Int) (xs : List Pl) (e : Int) : Int := if isEG ev xs = true then (if wi e 0 (IntKind.i64.wrap (ev - 1)) = true then 0 else 2) else 1
theorem l11Event_ac (ev : Int) (xs : List Pl) (e : Int) (hx : xs.length ≤ 100000000) : AC Try.prog 216 [grD ev xs, I e] H0 (I (eventC ev xs e)) H0 := by
  have hE := sIsEventGraph_ac ev xs hx
  have hI := l01In_ac e 0 (IntKind.i64.wrap (ev - 1))
  unfold eventC
  cases hg : isEG ev xs
  · rw [hg] at hE
    refine AC.of_body 0 Try.func216 rfl (fun l h => absurd rfl h) (fun C hC => ?_)
    have hD : ∀ l, ¬ C.D0 l := fun l h => (hC l).1 h rfl
    simp only [startFr, Try.ntmps216, List.length_cons, List.length_nil, Nat.reduceAdd, Nat.reduceSub, List.replicate_succ, List.replicate_zero, List.cons_append, List.nil_append]
    repeat' (first | ((first | apply Ba | (apply Bb; (· rfl); (· rfl)) | (apply Bc; (· exact nxE)) | (apply Bd; (· rfl); (· rfl); (· exact nxE))); (· first | exact Kz rfl rfl (hE) (Aa (Ad (Ad An)) An) | exact Ok.pe)) | ((first | apply Ca | (apply Cb; (· exact nxE))); (· first | exact Ok.e0)) | refine Sx ?_ | (refine Sy (fun h => ?_) (fun h => ?_) <;> try (exfalso; omega; done)) | refine Sz (fun h => ?_) (fun h => ?_))
    refine Ya ?_
    (apply Le.headZ (hs := []) [] rfl)
    all_goals (try dsimp only [srcs])
    (case' hfr => (repeat' (first | refine La ?_ ?_ | exact Lc | refine Lo ?_ | refine ⟨⟨_, rfl, ?_⟩, ?_⟩ | refine Lx ?_)))
    all_goals (first | exact Ld | exact trivial | (rfl))
  · rw [hg] at hE
    cases hw : wi e 0 (IntKind.i64.wrap (ev - 1))
    all_goals
      rw [hw] at hI
      refine AC.of_body 0 Try.func216 rfl (fun l h => absurd rfl h) (fun C hC => ?_)
      have hD : ∀ l, ¬ C.D0 l := fun l h => (hC l).1 h rfl
      simp only [startFr, Try.ntmps216, List.length_cons, List.length_nil, Nat.reduceAdd, Nat.reduceSub, List.replicate_succ, List.replicate_zero, List.cons_append, List.nil_append]
      repeat' (first | ((first | apply Ba | (apply Bb; (· rfl); (· rfl)) | (apply Bc; (· exact nxE)) | (apply Bd; (· rfl); (· rfl); (· exact nxE))); (· first | exact Kz rfl rfl (hE) (Aa (Ad (Ad An)) An) | exact Ok.subW rfl rfl rfl | exact Kz rfl rfl (hI) (Ad (Ad (Ad An))) | exact Ok.pe)) | ((first | apply Ca | (apply Cb; (· exact nxE))); (· first | exact Ok.e0)) | refine Sx ?_ | (refine Sy (fun h => ?_) (fun h => ?_) <;> try (exfalso; omega; done)) | refine Sz (fun h => ?_) (fun h => ?_))
      refine Ya ?_
      (apply Le.headZ (hs := []) [] rfl)
      all_goals (try dsimp only [srcs])
      (case' hfr => (repeat' (first | refine La ?_ ?_ | exact Lc | refine Lo ?_ | refine ⟨⟨_, rfl, ?_⟩, ?_⟩ | refine Lx ?_)))
      all_goals (first | exact Ld | exact trivial | (rfl))
theorem checkEvent_ac (ev : Int) (xs : List Pl) (e : Int) (hx : xs.length ≤ 100000000) : AC Try.prog 125 [grD ev xs, I e] H0 (I (eventC ev xs e)) H0 := by
  have hE := iIsEventGraph_ac ev xs hx
  have hI := isEvent_ac ev xs e
  unfold eventC
  cases hg : isEG ev xs
  · rw [hg] at hE
    refine AC.of_body 0 Try.func125 rfl (fun l h => absurd rfl h) (fun C hC => ?_)
    have hD : ∀ l, ¬ C.D0 l := fun l h => (hC l).1 h rfl
    simp only [startFr, Try.ntmps125, List.length_cons, List.length_nil, Nat.reduceAdd, Nat.reduceSub, List.replicate_succ, List.replicate_zero, List.cons_append, List.nil_append]
    repeat' (first | ((first | apply Ba | (apply Bb; (· rfl); (· rfl)) | (apply Bc; (· exact nxE)) | (apply Bd; (· rfl); (· rfl); (· exact nxE))); (· first | exact Kz rfl rfl (hE) (Aa (Ad (Ad An)) An) | exact Ok.pe)) | ((first | apply Ca | (apply Cb; (· exact nxE))); (· first | exact Ok.e0)) | refine Sx ?_ | (refine Sy (fun h => ?_) (fun h => ?_) <;> try (exfalso; omega; done)) | refine Sz (fun h => ?_) (fun h => ?_))
    refine Ya ?_
    (apply Le.headZ (hs := []) [] rfl)
    all_goals (try dsimp only [srcs])
    (case' hfr => (repeat' (first | refine La ?_ ?_ | exact Lc | refine Lo ?_ | refine ⟨⟨_, rfl, ?_⟩, ?_⟩ | refine Lx ?_)))
    all_goals (first | exact Ld | exact trivial | (rfl))
  · rw [hg] at hE
    cases hw : wi e 0 (IntKind.i64.wrap (ev - 1))
    all_goals
      rw [hw] at hI
      refine AC.of_body 0 Try.func125 rfl (fun l h => absurd rfl h) (fun C hC => ?_)
      have hD : ∀ l, ¬ C.D0 l := fun l h => (hC l).1 h rfl
      simp only [startFr, Try.ntmps125, List.length_cons, List.length_nil, Nat.reduceAdd, Nat.reduceSub, List.replicate_succ, List.replicate_zero, List.cons_append, List.nil_append]
      repeat' (first | ((first | apply Ba | (apply Bb; (· rfl); (· rfl)) | (apply Bc; (· exact nxE)) | (apply Bd; (· rfl); (· rfl); (· exact nxE))); (· first | exact Kz rfl rfl (hE) (Aa (Ad (Ad An)) An) | exact Kz rfl rfl (hI) (Aa (Ad (Ad An)) (Ad An)) | exact Ok.pe)) | ((first | apply Ca | (apply Cb; (· exact nxE))); (· first | exact Ok.e0)) | refine Sx ?_ | (refine Sy (fun h => ?_) (fun h => ?_) <;> try (exfalso; omega; done)) | refine Sz (fun h => ?_) (fun h => ?_))
      refine Ya ?_
      (apply Le.headZ (hs := []) [] rfl)
      all_goals (try dsimp only [srcs])
      (case' hfr => (repeat' (first | refine La ?_ ?_ | exact Lc | refine Lo ?_ | refine ⟨⟨_, rfl, ?_⟩, ?_⟩ | refine Lx ?_)))
      all_goals (first | exact Ld | exact trivial | (rfl))
def slR (xs : List Pl) (e : Int) : Int × Int := if (stN xs e xs.length).1 = true then (stN xs e xs.length).2 else (0, 0)
def slC (xs : List Pl) (e : Int) : Int := if (stN xs e xs.length).1 = true then 0 else 4
set_option maxHeartbeats 2000000 in
theorem sStationLoad_ac (n : Nat) (xs : List Pl) (e : Int) (hx : xs.length ≤ 1000) (hv : ∀ p ∈ xs, okPl n p) (he : eventC n xs e = 0) : AC Try.prog 128 [grD n xs, I e] H0 (.tup [.agg [I (slR xs e).1, I (slR xs e).2], I (slC xs e)]) H0 := by
  have hE := l11Event_ac n xs e (by omega)
  rw [he] at hE
  refine AC.of_body 0 Try.func128 rfl (fun l h => absurd rfl h) (fun C hC => ?_)
  have hD : ∀ l, ¬ C.D0 l := fun l h => (hC l).1 h rfl
  simp only [startFr, Try.ntmps128, List.length_cons, List.length_nil, Nat.reduceAdd, Nat.reduceSub, List.replicate_succ, List.replicate_zero, List.cons_append, List.nil_append]
  repeat' (first | ((first | apply Ba | (apply Bb; (· rfl); (· rfl)) | (apply Bc; (· exact nxE)) | (apply Bd; (· rfl); (· rfl); (· exact nxE))); (· first | exact Kz rfl rfl (hE) (Aa (Ad (Ad An)) (Ad An)) | exact Ok.pe)) | ((first | apply Ca | (apply Cb; (· exact nxE))); (· first | exact Ok.e0)) | refine Sx ?_ | (refine Sy (fun h => ?_) (fun h => ?_) <;> try (exfalso; omega; done)) | refine Sz (fun h => ?_) (fun h => ?_))
  refine AW.loop (X := {k : Nat // k ≤ xs.length}) (fun k => ⟨[Oo, I e, Bx 2 0, Oo, Bx 2 1, Oo, Oo, Bx 2 2, Bo (stN xs e k.1).1, I (k.1 : Nat), Oo, Oo, Oo, Oo, Oo, Oo, Oo, Oo, Oo, Oo, Oo, Oo, Oo, Oo, Oo, Oo, Oo, Oo, Oo, Oo, Oo, Oo, Oo, Oo, Oo, Oo, Oo, Oo, Oo, Oo, Oo, Oo, Oo, Oo, Oo, Oo, Oo, Oo, Oo, Oo, Oo, Oo, Oo, Oo, Oo, Oo, Oo, Oo, Oo, Oo, Oo, Oo, Oo, Oo, Oo], heapL [(⟨0, []⟩, ⟨0, []⟩, ⟨2, [[I n, PL xs]]⟩), (⟨1, []⟩, ⟨1, []⟩, ⟨2, [[I 0, I 0]]⟩), (⟨2, []⟩, ⟨2, []⟩, ⟨2, [[I (stN xs e k.1).2.1, I (stN xs e k.1).2.2]]⟩)], 900⟩) (fun k => xs.length - k.1) ⟨0, Nat.zero_le _⟩ ?_ (fun k => ?_)
  ·
    (apply Le.headZ [_, _, _] rfl)
    all_goals (try dsimp only [srcs])
    (case' hfr | hob => (repeat' (first | refine La ?_ ?_ | exact Lc | refine Lo ?_ | refine ⟨⟨_, rfl, ?_⟩, ?_⟩ | refine Lx ?_)))
    all_goals (first | (rfl) | exact Ld)
  obtain ⟨i, hi⟩ := k
  simp only
  have hsm := stN_small hv (e := e) i hi
  by_cases hlt : i < xs.length
  ·
    have hrow := pl_row (n := 0) hlt
    obtain ⟨_, _, ⟨g1, g2⟩, ⟨g3, g4⟩⟩ := okPl_at hv i hlt
    have hb : stN xs e (i + 1) = if ((plA xs i).f = e ∧ (plA xs i).t = e ∧ (plA xs i).k ≠ 0) ∧ ((stN xs e i).1 = false ∨ 0 < crI (redR (plA xs i).d (plA xs i).k) (stN xs e i).2) then (true, redR (plA xs i).d (plA xs i).k) else stN xs e i := rfl
    by_cases hok : (plA xs i).f = e ∧ (plA xs i).t = e ∧ (plA xs i).k ≠ 0
    · have hR := l01Ratio_ac (plA xs i).d (plA xs i).k (by omega) (by omega)
      have hrs := redR_small g1 (m := (plA xs i).k) (by omega)
      have hC := l01Compare_ac (redR (plA xs i).d (plA xs i).k) (stN xs e i).2 ⟨⟨hrs.1.1, by omega⟩, ⟨by omega, by omega⟩⟩ ⟨⟨hsm.1.1.1, by omega⟩, ⟨hsm.1.2.1, by omega⟩⟩
      have hcmp := hC
      clear hC
      generalize crI (redR (plA xs i).d (plA xs i).k) (stN xs e i).2 = cr at *
      generalize redR (plA xs i).d (plA xs i).k = r at *
      generalize stN xs e i = s at *
      generalize plA xs i = p at *
      obtain ⟨pf, pt, pd, pk⟩ := p
      obtain ⟨r1, r2⟩ := r
      obtain ⟨s0, s1, s2⟩ := s
      simp only at hcmp hR hb hrow hok ⊢
      cases s0
      all_goals
        repeat' (first | ((first | apply Ba | (apply Bb; (· rfl); (· rfl)) | (apply Bc; (· exact nxE)) | (apply Bd; (· rfl); (· rfl); (· exact nxE))); (· first | exact Kz rfl rfl (hR) (Ad (Ad An)) | exact Kz rfl rfl (hcmp) (Aa (Ad (Ad An)) (Aa (Ad (Ad An)) An)) | exact Ok.pe)) | ((first | apply Ca | (apply Cb; (· exact nxE))); (· first | exact Ok.e0)) | refine Sx ?_ | (refine Sy (fun h => ?_) (fun h => ?_) <;> try (exfalso; omega; done)) | refine Sz (fun h => ?_) (fun h => ?_))
      all_goals first
        | (rw [if_pos ⟨hok, by first | exact .inl rfl | exact .inr (by omega)⟩] at hb
           refine ⟨⟨i + 1, by omega⟩, ?_, by simp only; omega⟩
           simp only
           rw [hb]
           (apply Le.headZ [_, _, _] rfl)
           all_goals (try dsimp only [srcs])
           (case' hfr | hob => (repeat' (first | refine La ?_ ?_ | exact Lc | refine Lo ?_ | refine ⟨⟨_, rfl, ?_⟩, ?_⟩ | refine Lx ?_)))
           all_goals (first | (rfl) | exact Ld)
           done)
        | (rw [if_neg (by rintro ⟨_, h5 | h5⟩ <;> first | cases h5 | omega)] at hb
           refine ⟨⟨i + 1, by omega⟩, ?_, by simp only; omega⟩
           simp only
           rw [hb]
           (apply Le.headZ [_, _, _] rfl)
           all_goals (try dsimp only [srcs])
           (case' hfr | hob => (repeat' (first | refine La ?_ ?_ | exact Lc | refine Lo ?_ | refine ⟨⟨_, rfl, ?_⟩, ?_⟩ | refine Lx ?_)))
           all_goals (first | (rfl) | exact Ld)
           done)
    · rw [if_neg (fun h5 => hok h5.1)] at hb
      generalize stN xs e i = s at *
      generalize plA xs i = p at *
      obtain ⟨pf, pt, pd, pk⟩ := p
      obtain ⟨s0, s1, s2⟩ := s
      simp only at hrow hok hb ⊢
      repeat' (first | ((first | apply Ba | (apply Bb; (· rfl); (· rfl)) | (apply Bc; (· exact nxE)) | (apply Bd; (· rfl); (· rfl); (· exact nxE))); (· first | exact Ok.pe)) | ((first | apply Ca | (apply Cb; (· exact nxE))); (· first | exact Ok.e0)) | refine Sx ?_ | (refine Sy (fun h => ?_) (fun h => ?_) <;> try (exfalso; omega; done)) | refine Sz (fun h => ?_) (fun h => ?_))
      all_goals try (exfalso; omega)
      all_goals
        refine ⟨⟨i + 1, by omega⟩, ?_, by simp only; omega⟩
        simp only
        rw [hb]
        (apply Le.headZ [_, _, _] rfl)
        all_goals (try dsimp only [srcs])
        (case' hfr | hob => (repeat' (first | refine La ?_ ?_ | exact Lc | refine Lo ?_ | refine ⟨⟨_, rfl, ?_⟩, ?_⟩ | refine Lx ?_)))
        all_goals (first | (rfl) | exact Ld)
  ·
    obtain rfl : i = xs.length := by omega
    unfold slR slC
    generalize stN xs e xs.length = s at *
    obtain ⟨s0, s1, s2⟩ := s
    cases s0
    all_goals
      repeat' (first | ((first | apply Ba | (apply Bb; (· rfl); (· rfl)) | (apply Bc; (· exact nxE)) | (apply Bd; (· rfl); (· rfl); (· exact nxE))); (· first | exact Ok.pe)) | ((first | apply Ca | (apply Cb; (· exact nxE))); (· first | exact Ok.e0)) | refine Sx ?_ | (refine Sy (fun h => ?_) (fun h => ?_) <;> try (exfalso; omega; done)) | refine Sz (fun h => ?_) (fun h => ?_))
      refine Yb ?_
      (apply Le.headZ (hs := []) [] rfl)
      all_goals (try dsimp only [srcs])
      (case' hfr => (repeat' (first | refine La ?_ ?_ | exact Lc | refine Lo ?_ | refine ⟨⟨_, rfl, ?_⟩, ?_⟩ | refine Lx ?_)))
      all_goals (first | exact Ld | exact trivial | (rfl))
set_option maxHeartbeats 2000000 in
theorem iStationLoad_ac (n : Nat) (xs : List Pl) (e : Int) (hx : xs.length ≤ 1000) (hv : ∀ p ∈ xs, okPl n p) (he : eventC n xs e = 0) : AC Try.prog 126 [grD n xs, I e] H0 (.tup [.agg [I (slR xs e).1, I (slR xs e).2], I (slC xs e)]) H0 := by
  have hE := checkEvent_ac n xs e (by omega)
  rw [he] at hE
  refine AC.of_body 0 Try.func126 rfl (fun l h => absurd rfl h) (fun C hC => ?_)
  have hD : ∀ l, ¬ C.D0 l := fun l h => (hC l).1 h rfl
  simp only [startFr, Try.ntmps126, List.length_cons, List.length_nil, Nat.reduceAdd, Nat.reduceSub, List.replicate_succ, List.replicate_zero, List.cons_append, List.nil_append]
  repeat' (first | ((first | apply Ba | (apply Bb; (· rfl); (· rfl)) | (apply Bc; (· exact nxE)) | (apply Bd; (· rfl); (· rfl); (· exact nxE))); (· first | exact Kz rfl rfl (hE) (Aa (Ad (Ad An)) (Ad An)) | exact Ok.pe)) | ((first | apply Ca | (apply Cb; (· exact nxE))); (· first | exact Ok.e0)) | refine Sx ?_ | (refine Sy (fun h => ?_) (fun h => ?_) <;> try (exfalso; omega; done)) | refine Sz (fun h => ?_) (fun h => ?_))
  refine AW.loop (X := {k : Nat // k ≤ xs.length}) (fun k => ⟨[Oo, I e, Oo, Oo, Bx 2 1, Oo, Oo, Bx 2 2, Bo (stN xs e k.1).1, Oo, Oo, Oo, Oo, Oo, Oo, Oo, Oo, Oo, Oo, Oo, PL xs, I xs.length, I (k.1 : Nat), Oo, Oo, Oo, Oo, Oo, Oo, Oo, Oo, Oo, Oo, Oo, Oo, Oo, Oo, Oo, Oo, Oo, Oo, Oo, Oo, Oo, Oo, Oo, Oo, Oo, Oo, Oo, Oo, Oo, Oo, Oo, Oo, Oo, Oo, Oo, Oo, Oo], heapL [(⟨1, []⟩, ⟨1, []⟩, ⟨2, [[I 0, I 0]]⟩), (⟨2, []⟩, ⟨2, []⟩, ⟨2, [[I (stN xs e k.1).2.1, I (stN xs e k.1).2.2]]⟩)], 900⟩) (fun k => xs.length - k.1) ⟨0, Nat.zero_le _⟩ ?_ (fun k => ?_)
  ·
    (apply Le.headZ [_, _] rfl)
    all_goals (try dsimp only [srcs])
    (case' hfr | hob => (repeat' (first | refine La ?_ ?_ | exact Lc | refine Lo ?_ | refine ⟨⟨_, rfl, ?_⟩, ?_⟩ | refine Lx ?_)))
    all_goals (first | (rfl) | exact Ld)
  obtain ⟨i, hi⟩ := k
  simp only
  have hsm := stN_small hv (e := e) i hi
  by_cases hlt : i < xs.length
  ·
    have hrow := pl_row (n := 0) hlt
    obtain ⟨_, _, ⟨g1, g2⟩, ⟨g3, g4⟩⟩ := okPl_at hv i hlt
    have hb : stN xs e (i + 1) = if ((plA xs i).f = e ∧ (plA xs i).t = e ∧ (plA xs i).k ≠ 0) ∧ ((stN xs e i).1 = false ∨ 0 < crI (redR (plA xs i).d (plA xs i).k) (stN xs e i).2) then (true, redR (plA xs i).d (plA xs i).k) else stN xs e i := rfl
    by_cases hok : (plA xs i).f = e ∧ (plA xs i).t = e ∧ (plA xs i).k ≠ 0
    · have hR := ratioOf_ac (plA xs i).d (plA xs i).k (by omega) (by omega)
      have hrs := redR_small g1 (m := (plA xs i).k) (by omega)
      have hC := compareRatios_ac (redR (plA xs i).d (plA xs i).k) (stN xs e i).2 ⟨⟨hrs.1.1, by omega⟩, ⟨by omega, by omega⟩⟩ ⟨⟨hsm.1.1.1, by omega⟩, ⟨hsm.1.2.1, by omega⟩⟩
      have hcmp := hC
      clear hC
      generalize crI (redR (plA xs i).d (plA xs i).k) (stN xs e i).2 = cr at *
      generalize redR (plA xs i).d (plA xs i).k = r at *
      generalize stN xs e i = s at *
      generalize plA xs i = p at *
      obtain ⟨pf, pt, pd, pk⟩ := p
      obtain ⟨r1, r2⟩ := r
      obtain ⟨s0, s1, s2⟩ := s
      simp only at hcmp hR hb hrow hok ⊢
      cases s0
      all_goals
        repeat' (first | ((first | apply Ba | (apply Bb; (· rfl); (· rfl)) | (apply Bc; (· exact nxE)) | (apply Bd; (· rfl); (· rfl); (· exact nxE))); (· first | exact Kz rfl rfl (hR) (Ad (Ad An)) | exact Kz rfl rfl (hcmp) (Aa (Ad (Ad An)) (Aa (Ad (Ad An)) An)) | exact Ok.pe)) | ((first | apply Ca | (apply Cb; (· exact nxE))); (· first | exact Ok.e0)) | refine Sx ?_ | (refine Sy (fun h => ?_) (fun h => ?_) <;> try (exfalso; omega; done)) | refine Sz (fun h => ?_) (fun h => ?_))
      all_goals first
        | (rw [if_pos ⟨hok, by first | exact .inl rfl | exact .inr (by omega)⟩] at hb
           refine ⟨⟨i + 1, by omega⟩, ?_, by simp only; omega⟩
           simp only
           rw [hb]
           (apply Le.headZ [_, _] rfl)
           all_goals (try dsimp only [srcs])
           (case' hfr | hob => (repeat' (first | refine La ?_ ?_ | exact Lc | refine Lo ?_ | refine ⟨⟨_, rfl, ?_⟩, ?_⟩ | refine Lx ?_)))
           all_goals (first | (rfl) | exact Ld)
           done)
        | (rw [if_neg (by rintro ⟨_, h5 | h5⟩ <;> first | cases h5 | omega)] at hb
           refine ⟨⟨i + 1, by omega⟩, ?_, by simp only; omega⟩
           simp only
           rw [hb]
           (apply Le.headZ [_, _] rfl)
           all_goals (try dsimp only [srcs])
           (case' hfr | hob => (repeat' (first | refine La ?_ ?_ | exact Lc | refine Lo ?_ | refine ⟨⟨_, rfl, ?_⟩, ?_⟩ | refine Lx ?_)))
           all_goals (first | (rfl) | exact Ld)
           done)
    · rw [if_neg (fun h5 => hok h5.1)] at hb
      generalize stN xs e i = s at *
      generalize plA xs i = p at *
      obtain ⟨pf, pt, pd, pk⟩ := p
      obtain ⟨s0, s1, s2⟩ := s
      simp only at hrow hok hb ⊢
      repeat' (first | ((first | apply Ba | (apply Bb; (· rfl); (· rfl)) | (apply Bc; (· exact nxE)) | (apply Bd; (· rfl); (· rfl); (· exact nxE))); (· first | exact Ok.pe)) | ((first | apply Ca | (apply Cb; (· exact nxE))); (· first | exact Ok.e0)) | refine Sx ?_ | (refine Sy (fun h => ?_) (fun h => ?_) <;> try (exfalso; omega; done)) | refine Sz (fun h => ?_) (fun h => ?_))
      all_goals try (exfalso; omega)
      all_goals
        refine ⟨⟨i + 1, by omega⟩, ?_, by simp only; omega⟩
        simp only
        rw [hb]
        (apply Le.headZ [_, _] rfl)
        all_goals (try dsimp only [srcs])
        (case' hfr | hob => (repeat' (first | refine La ?_ ?_ | exact Lc | refine Lo ?_ | refine ⟨⟨_, rfl, ?_⟩, ?_⟩ | refine Lx ?_)))
        all_goals (first | (rfl) | exact Ld)
  ·
    obtain rfl : i = xs.length := by omega
    unfold slR slC
    generalize stN xs e xs.length = s at *
    obtain ⟨s0, s1, s2⟩ := s
    cases s0
    all_goals
      repeat' (first | ((first | apply Ba | (apply Bb; (· rfl); (· rfl)) | (apply Bc; (· exact nxE)) | (apply Bd; (· rfl); (· rfl); (· exact nxE))); (· first | exact Ok.pe)) | ((first | apply Ca | (apply Cb; (· exact nxE))); (· first | exact Ok.e0)) | refine Sx ?_ | (refine Sy (fun h => ?_) (fun h => ?_) <;> try (exfalso; omega; done)) | refine Sz (fun h => ?_) (fun h => ?_))
      refine Yb ?_
      (apply Le.headZ (hs := []) [] rfl)
      all_goals (try dsimp only [srcs])
      (case' hfr => (repeat' (first | refine La ?_ ?_ | exact Lc | refine Lo ?_ | refine ⟨⟨_, rfl, ?_⟩, ?_⟩ | refine Lx ?_)))
      all_goals (first | exact Ld | exact trivial | (rfl))
/-! ### UseOf -/
noncomputable def useQ (ev : Int) (xs : List Pl) (e : Int) : Int := cqC ev xs (wi e 0 (IntKind.i64.wrap (ev - 1)))
noncomputable def useC (ev : Int) (xs : List Pl) (e : Int) : Int := if useQ ev xs e = 0 then (if slC xs e = 0 ∧ (ctR ev xs).1 ≠ 0 then 0 else 4) else useQ ev xs e
noncomputable def useR (ev : Int) (xs : List Pl) (e : Int) : Int × Int := if useQ ev xs e = 0 then (if slC xs e = 0 ∧ (ctR ev xs).1 ≠ 0 then redR ((slR xs e).1 * (ctR ev xs).2) ((slR xs e).2 * (ctR ev xs).1) else (0, 0)) else (0, 0)
theorem sl_small {n : Nat} {xs : List Pl} (hv : ∀ p ∈ xs, okPl n p) {e : Int} : ((0 ≤ (slR xs e).1 ∧ (slR xs e).1 ≤ 10000) ∧ (0 ≤ (slR xs e).2 ∧ (slR xs e).2 ≤ 5)) ∧ (slC xs e = 0 → 0 < (slR xs e).2) := by
  have h := stN_small hv (e := e) xs.length (Nat.le_refl _)
  unfold slR slC
  by_cases hb : (stN xs e xs.length).1 = true
  · rw [if_pos hb, if_pos hb]; exact ⟨h.1, fun _ => h.2 hb⟩
  · rw [if_neg hb, if_neg hb]; exact ⟨⟨by decide, by decide⟩, fun h => by cases h⟩
theorem pos_mul {a b : Int} (ha : 0 < a) (hb : 0 < b) : 0 < a * b := Int.mul_pos ha hb
theorem slC_01 {xs : List Pl} {e : Int} : slC xs e = 0 ∨ slC xs e = 4 := by unfold slC; split <;> simp
set_option maxHeartbeats 2000000 in
theorem sUseOf_ac (ev : Int) (xs : List Pl) (e : Int) (hx : xs.length ≤ 100000000) : AC Try.prog 25 [grD ev xs, I e] H0 (.tup [.agg [I (useR ev xs e).1, I (useR ev xs e).2], I (useC ev xs e)]) H0 := by
  have hI := l01In_ac e 0 (IntKind.i64.wrap (ev - 1))
  have hq := l27Code_ac ev xs (wi e 0 (IntKind.i64.wrap (ev - 1))) hx
  unfold useR useC useQ
  by_cases hc : cqC ev xs (wi e 0 (IntKind.i64.wrap (ev - 1))) = 0
  · rw [if_pos hc, if_pos hc]
    obtain ⟨c1, c2, c3⟩ := cqC_ok hc
    obtain ⟨c4, _⟩ := codeI_ok (show codeI ev xs true = 0 by rw [c2] at hc; unfold cqC at hc; by_cases h : codeI ev xs true = 0; exact h; rw [if_neg h] at hc; exact hc)
    have hcr : cqR ev xs (wi e 0 (IntKind.i64.wrap (ev - 1))) = ctR ev xs := by
      rw [c2]; unfold cqR
      rw [if_pos (by rw [c2] at hc; unfold cqC at hc; by_cases h : codeI ev xs true = 0; exact h; rw [if_neg h] at hc; exact hc)]
    rw [hc, hcr] at hq
    obtain ⟨n, rfl, g1, g2, g3, g4, g5⟩ := live_ok c1
    have heg : isEG n xs = true := by
      unfold liveI at c1
      by_cases h : isEG n xs = true
      · exact h
      · rw [if_neg h] at c1; exact absurd c1 (by decide)
    have hev : eventC n xs e = 0 := by unfold eventC; rw [if_pos heg, if_pos c2]
    have hS := sStationLoad_ac n xs e (by omega) g4 hev
    have hsm := sl_small g4 (e := e)
    have hct := ctR_small (ev := n) (xs := xs)
    have h01 := slC_01 (xs := xs) (e := e)
    rw [c2] at hI hq
    rw [wrapE g1 g2] at hI
    by_cases hu : slC xs e = 0 ∧ (ctR n xs).1 ≠ 0
    · rw [if_pos hu, if_pos hu]
      obtain ⟨u1, u2⟩ := hu
      have hm1 := mul_in hsm.1.1 hct.2
      have hm2 := mul_in hsm.1.2 hct.1
      have hm3 := pos_mul (hsm.2 u1) (show 0 < (ctR n xs).1 by have := hct.1; omega)
      have hR := l01Ratio_ac ((slR xs e).1 * (ctR n xs).2) ((slR xs e).2 * (ctR n xs).1) (by omega) (by omega)
      rw [u1] at hS
      generalize redR ((slR xs e).1 * (ctR n xs).2) ((slR xs e).2 * (ctR n xs).1) = res at *
      generalize ctR n xs = r at *
      generalize slR xs e = l at *
      obtain ⟨r1, r2⟩ := r
      obtain ⟨l1, l2⟩ := l
      simp only at hR hS hq hm1 hm2 hm3 u2
      refine AC.of_body 0 Try.func25 rfl (fun l h => absurd rfl h) (fun C hC => ?_)
      have hD : ∀ l, ¬ C.D0 l := fun l h => (hC l).1 h rfl
      simp only [startFr, Try.ntmps25, List.length_cons, List.length_nil, Nat.reduceAdd, Nat.reduceSub, List.replicate_succ, List.replicate_zero, List.cons_append, List.nil_append]
      repeat' (first | ((first | apply Ba | (apply Bb; (· rfl); (· rfl)) | (apply Bc; (· exact nxE)) | (apply Bd; (· rfl); (· rfl); (· exact nxE))); (· first | exact Kz rfl rfl (hI) (Ad (Ad (Ad An))) | exact Kz rfl rfl (hq) (Aa (Ad (Ad An)) (Ad An)) | exact Kz rfl rfl (hS) (Aa (Ad (Ad An)) (Ad An)) | exact Kz rfl rfl (hR) (Ad (Ad An)) | exact Ok.pe)) | ((first | apply Ca | (apply Cb; (· exact nxE))); (· first | exact Ok.e0)) | refine Sx ?_ | (refine Sy (fun h => ?_) (fun h => ?_) <;> try (exfalso; omega; done)) | refine Sz (fun h => ?_) (fun h => ?_))
      refine Yb ?_
      (apply Le.headZ (hs := []) [] rfl)
      all_goals (try dsimp only [srcs])
      (case' hfr => (repeat' (first | refine La ?_ ?_ | exact Lc | refine Lo ?_ | refine ⟨⟨_, rfl, ?_⟩, ?_⟩ | refine Lx ?_)))
      all_goals (first | exact Ld | exact trivial | (rfl))
    · rw [if_neg hu, if_neg hu]
      generalize slC xs e = sc at *
      generalize ctR n xs = r at *
      generalize slR xs e = l at *
      obtain ⟨r1, r2⟩ := r
      simp only at hu
      refine AC.of_body 0 Try.func25 rfl (fun l h => absurd rfl h) (fun C hC => ?_)
      have hD : ∀ l, ¬ C.D0 l := fun l h => (hC l).1 h rfl
      simp only [startFr, Try.ntmps25, List.length_cons, List.length_nil, Nat.reduceAdd, Nat.reduceSub, List.replicate_succ, List.replicate_zero, List.cons_append, List.nil_append]
      repeat' (first | ((first | apply Ba | (apply Bb; (· rfl); (· rfl)) | (apply Bc; (· exact nxE)) | (apply Bd; (· rfl); (· rfl); (· exact nxE))); (· first | exact Kz rfl rfl (hI) (Ad (Ad (Ad An))) | exact Kz rfl rfl (hq) (Aa (Ad (Ad An)) (Ad An)) | exact Kz rfl rfl (hS) (Aa (Ad (Ad An)) (Ad An)) | exact Ok.pe)) | ((first | apply Ca | (apply Cb; (· exact nxE))); (· first | exact Ok.e0)) | refine Sx ?_ | (refine Sy (fun h => ?_) (fun h => ?_) <;> try (exfalso; omega; done)) | refine Sz (fun h => ?_) (fun h => ?_))
      all_goals try (exfalso; omega)
      all_goals
        refine Yb ?_
        (apply Le.headZ (hs := []) [] rfl)
        all_goals (try dsimp only [srcs])
        (case' hfr => (repeat' (first | refine La ?_ ?_ | exact Lc | refine Lo ?_ | refine ⟨⟨_, rfl, ?_⟩, ?_⟩ | refine Lx ?_)))
        all_goals (first | exact Ld | exact trivial | (rfl))
  · rw [if_neg hc, if_neg hc]
    generalize cqC ev xs (wi e 0 (IntKind.i64.wrap (ev - 1))) = Q at *
    generalize cqR ev xs (wi e 0 (IntKind.i64.wrap (ev - 1))) = qr at *
    generalize wi e 0 (IntKind.i64.wrap (ev - 1)) = vb at *
    refine AC.of_body 0 Try.func25 rfl (fun l h => absurd rfl h) (fun C hC => ?_)
    have hD : ∀ l, ¬ C.D0 l := fun l h => (hC l).1 h rfl
    simp only [startFr, Try.ntmps25, List.length_cons, List.length_nil, Nat.reduceAdd, Nat.reduceSub, List.replicate_succ, List.replicate_zero, List.cons_append, List.nil_append]
    repeat' (first | ((first | apply Ba | (apply Bb; (· rfl); (· rfl)) | (apply Bc; (· exact nxE)) | (apply Bd; (· rfl); (· rfl); (· exact nxE))); (· first | exact Kz rfl rfl (hI) (Ad (Ad (Ad An))) | exact Kz rfl rfl (hq) (Aa (Ad (Ad An)) (Ad An)) | exact Ok.pe)) | ((first | apply Ca | (apply Cb; (· exact nxE))); (· first | exact Ok.e0)) | refine Sx ?_ | (refine Sy (fun h => ?_) (fun h => ?_) <;> try (exfalso; omega; done)) | refine Sz (fun h => ?_) (fun h => ?_))
    refine Yb ?_
    (apply Le.headZ (hs := []) [] rfl)
    all_goals (try dsimp only [srcs])
    (case' hfr => (repeat' (first | refine La ?_ ?_ | exact Lc | refine Lo ?_ | refine ⟨⟨_, rfl, ?_⟩, ?_⟩ | refine Lx ?_)))
    all_goals (first | exact Ld | exact trivial | (rfl))
set_option maxHeartbeats 2000000 in
theorem iUseOf_ac (ev : Int) (xs : List Pl) (e : Int) (hx : xs.length ≤ 100000000) : AC Try.prog 24 [grD ev xs, I e] H0 (.tup [.agg [I (useR ev xs e).1, I (useR ev xs e).2], I (useC ev xs e)]) H0 := by
  have hE := checkEvent_ac ev xs e hx
  unfold useR useC useQ
  cases hg : isEG ev xs
  · have he : eventC ev xs e = 1 := by unfold eventC; rw [hg]; rfl
    rw [he] at hE
    rw [eg_no hg, if_neg (by decide), if_neg (by decide)]
    refine AC.of_body 0 Try.func24 rfl (fun l h => absurd rfl h) (fun C hC => ?_)
    have hD : ∀ l, ¬ C.D0 l := fun l h => (hC l).1 h rfl
    simp only [startFr, Try.ntmps24, List.length_cons, List.length_nil, Nat.reduceAdd, Nat.reduceSub, List.replicate_succ, List.replicate_zero, List.cons_append, List.nil_append]
    repeat' (first | ((first | apply Ba | (apply Bb; (· rfl); (· rfl)) | (apply Bc; (· exact nxE)) | (apply Bd; (· rfl); (· rfl); (· exact nxE))); (· first | exact Kz rfl rfl (hE) (Aa (Ad (Ad An)) (Ad An)) | exact Ok.pe)) | ((first | apply Ca | (apply Cb; (· exact nxE))); (· first | exact Ok.e0)) | refine Sx ?_ | (refine Sy (fun h => ?_) (fun h => ?_) <;> try (exfalso; omega; done)) | refine Sz (fun h => ?_) (fun h => ?_))
    refine Yb ?_
    (apply Le.headZ (hs := []) [] rfl)
    all_goals (try dsimp only [srcs])
    (case' hfr => (repeat' (first | refine La ?_ ?_ | exact Lc | refine Lo ?_ | refine ⟨⟨_, rfl, ?_⟩, ?_⟩ | refine Lx ?_)))
    all_goals (first | exact Ld | exact trivial | (rfl))
  cases hw : wi e 0 (IntKind.i64.wrap (ev - 1))
  · have he : eventC ev xs e = 2 := by unfold eventC; rw [if_pos hg, hw]; rfl
    rw [he] at hE
    rw [in_no hg, if_neg (by decide), if_neg (by decide)]
    refine AC.of_body 0 Try.func24 rfl (fun l h => absurd rfl h) (fun C hC => ?_)
    have hD : ∀ l, ¬ C.D0 l := fun l h => (hC l).1 h rfl
    simp only [startFr, Try.ntmps24, List.length_cons, List.length_nil, Nat.reduceAdd, Nat.reduceSub, List.replicate_succ, List.replicate_zero, List.cons_append, List.nil_append]
    repeat' (first | ((first | apply Ba | (apply Bb; (· rfl); (· rfl)) | (apply Bc; (· exact nxE)) | (apply Bd; (· rfl); (· rfl); (· exact nxE))); (· first | exact Kz rfl rfl (hE) (Aa (Ad (Ad An)) (Ad An)) | exact Ok.pe)) | ((first | apply Ca | (apply Cb; (· exact nxE))); (· first | exact Ok.e0)) | refine Sx ?_ | (refine Sy (fun h => ?_) (fun h => ?_) <;> try (exfalso; omega; done)) | refine Sz (fun h => ?_) (fun h => ?_))
    refine Yb ?_
    (apply Le.headZ (hs := []) [] rfl)
    all_goals (try dsimp only [srcs])
    (case' hfr => (repeat' (first | refine La ?_ ?_ | exact Lc | refine Lo ?_ | refine ⟨⟨_, rfl, ?_⟩, ?_⟩ | refine Lx ?_)))
    all_goals (first | exact Ld | exact trivial | (rfl))
  · have he : eventC ev xs e = 0 := by unfold eventC; rw [if_pos hg, if_pos hw]
    rw [he] at hE
    rw [in_yes]
    obtain ⟨n, rfl, g1, g2, g3, g4⟩ := isEG_ok hg
    have hq := cycleTime_ac n xs hg
    by_cases hc : bcC n xs = 0
    · rw [if_pos hc, if_pos hc]
      rw [hc] at hq
      have hS := iStationLoad_ac n xs e (by omega) g4 he
      have hsm := sl_small g4 (e := e)
      have hct := ctR_small (ev := n) (xs := xs)
      have h01 := slC_01 (xs := xs) (e := e)
      by_cases hu : slC xs e = 0 ∧ (ctR n xs).1 ≠ 0
      · rw [if_pos hu, if_pos hu]
        obtain ⟨u1, u2⟩ := hu
        have hm1 := mul_in hsm.1.1 hct.2
        have hm2 := mul_in hsm.1.2 hct.1
        have hm3 := pos_mul (hsm.2 u1) (show 0 < (ctR n xs).1 by have := hct.1; omega)
        have hR := ratioOf_ac ((slR xs e).1 * (ctR n xs).2) ((slR xs e).2 * (ctR n xs).1) (by omega) (by omega)
        rw [u1] at hS
        generalize redR ((slR xs e).1 * (ctR n xs).2) ((slR xs e).2 * (ctR n xs).1) = res at *
        generalize ctR n xs = r at *
        generalize slR xs e = l at *
        obtain ⟨r1, r2⟩ := r
        obtain ⟨l1, l2⟩ := l
        simp only at hR hS hq hm1 hm2 hm3 u2
        refine AC.of_body 0 Try.func24 rfl (fun l h => absurd rfl h) (fun C hC => ?_)
        have hD : ∀ l, ¬ C.D0 l := fun l h => (hC l).1 h rfl
        simp only [startFr, Try.ntmps24, List.length_cons, List.length_nil, Nat.reduceAdd, Nat.reduceSub, List.replicate_succ, List.replicate_zero, List.cons_append, List.nil_append]
        repeat' (first | ((first | apply Ba | (apply Bb; (· rfl); (· rfl)) | (apply Bc; (· exact nxE)) | (apply Bd; (· rfl); (· rfl); (· exact nxE))); (· first | exact Kz rfl rfl (hE) (Aa (Ad (Ad An)) (Ad An)) | exact Kz rfl rfl (hq) (Aa (Ad (Ad An)) An) | exact Kz rfl rfl (hS) (Aa (Ad (Ad An)) (Ad An)) | exact Kz rfl rfl (hR) (Ad (Ad An)) | exact Ok.pe)) | ((first | apply Ca | (apply Cb; (· exact nxE))); (· first | exact Ok.e0)) | refine Sx ?_ | (refine Sy (fun h => ?_) (fun h => ?_) <;> try (exfalso; omega; done)) | refine Sz (fun h => ?_) (fun h => ?_))
        refine Yb ?_
        (apply Le.headZ (hs := []) [] rfl)
        all_goals (try dsimp only [srcs])
        (case' hfr => (repeat' (first | refine La ?_ ?_ | exact Lc | refine Lo ?_ | refine ⟨⟨_, rfl, ?_⟩, ?_⟩ | refine Lx ?_)))
        all_goals (first | exact Ld | exact trivial | (rfl))
      · rw [if_neg hu, if_neg hu]
        generalize slC xs e = sc at *
        generalize ctR n xs = r at *
        generalize slR xs e = l at *
        obtain ⟨r1, r2⟩ := r
        simp only at hu
        refine AC.of_body 0 Try.func24 rfl (fun l h => absurd rfl h) (fun C hC => ?_)
        have hD : ∀ l, ¬ C.D0 l := fun l h => (hC l).1 h rfl
        simp only [startFr, Try.ntmps24, List.length_cons, List.length_nil, Nat.reduceAdd, Nat.reduceSub, List.replicate_succ, List.replicate_zero, List.cons_append, List.nil_append]
        repeat' (first | ((first | apply Ba | (apply Bb; (· rfl); (· rfl)) | (apply Bc; (· exact nxE)) | (apply Bd; (· rfl); (· rfl); (· exact nxE))); (· first | exact Kz rfl rfl (hE) (Aa (Ad (Ad An)) (Ad An)) | exact Kz rfl rfl (hq) (Aa (Ad (Ad An)) An) | exact Kz rfl rfl (hS) (Aa (Ad (Ad An)) (Ad An)) | exact Ok.pe)) | ((first | apply Ca | (apply Cb; (· exact nxE))); (· first | exact Ok.e0)) | refine Sx ?_ | (refine Sy (fun h => ?_) (fun h => ?_) <;> try (exfalso; omega; done)) | refine Sz (fun h => ?_) (fun h => ?_))
        all_goals try (exfalso; omega)
        all_goals
          refine Yb ?_
          (apply Le.headZ (hs := []) [] rfl)
          all_goals (try dsimp only [srcs])
          (case' hfr => (repeat' (first | refine La ?_ ?_ | exact Lc | refine Lo ?_ | refine ⟨⟨_, rfl, ?_⟩, ?_⟩ | refine Lx ?_)))
          all_goals (first | exact Ld | exact trivial | (rfl))
    · rw [if_neg hc, if_neg hc]
      generalize ctR n xs = qr at hq
      generalize bcC n xs = Q at *
      refine AC.of_body 0 Try.func24 rfl (fun l h => absurd rfl h) (fun C hC => ?_)
      have hD : ∀ l, ¬ C.D0 l := fun l h => (hC l).1 h rfl
      simp only [startFr, Try.ntmps24, List.length_cons, List.length_nil, Nat.reduceAdd, Nat.reduceSub, List.replicate_succ, List.replicate_zero, List.cons_append, List.nil_append]
      repeat' (first | ((first | apply Ba | (apply Bb; (· rfl); (· rfl)) | (apply Bc; (· exact nxE)) | (apply Bd; (· rfl); (· rfl); (· exact nxE))); (· first | exact Kz rfl rfl (hE) (Aa (Ad (Ad An)) (Ad An)) | exact Kz rfl rfl (hq) (Aa (Ad (Ad An)) An) | exact Ok.pe)) | ((first | apply Ca | (apply Cb; (· exact nxE))); (· first | exact Ok.e0)) | refine Sx ?_ | (refine Sy (fun h => ?_) (fun h => ?_) <;> try (exfalso; omega; done)) | refine Sz (fun h => ?_) (fun h => ?_))
      refine Yb ?_
      (apply Le.headZ (hs := []) [] rfl)
      all_goals (try dsimp only [srcs])
      (case' hfr => (repeat' (first | refine La ?_ ?_ | exact Lc | refine Lo ?_ | refine ⟨⟨_, rfl, ?_⟩, ?_⟩ | refine Lx ?_)))
      all_goals (first | exact Ld | exact trivial | (rfl))
end Go.Proofs.Ytegfjedklebbfaa
end

section
namespace Go.Proofs.Ytegfjedklebbfaa
set_option linter.unusedSimpArgs false
set_option linter.unusedVariables false
open Go Go.RowKit
attribute [local irreducible] AL AD AW OpOk Le AC thenQ blockQ EndQ

abbrev prF (a b : List (List Int)) (i j : Nat) : Nat → Int := fun q => timesB (entN a i q) (entN b q j)
def mulF (a b : List (List Int)) (n : Nat) : Nat → Nat → Int := fun i j => maxN (prF a b i j) n
def parF (a b : List (List Int)) (n i j m : Nat) : Nat → Nat → Int := fun x y => if x = i ∧ y = j then maxN (prF a b i j) m else mixF (mulF a b n) botF i j x y
theorem parF_0 {a b : List (List Int)} {n i j : Nat} : parF a b n i j 0 = mixF (mulF a b n) botF i j := by
  funext x y
  unfold parF
  by_cases h : x = i ∧ y = j
  · obtain ⟨rfl, rfl⟩ := h
    rw [if_pos ⟨rfl, rfl⟩]; unfold mixF; rw [if_neg (by omega)]; rfl
  · rw [if_neg h]
theorem parF_n {a b : List (List Int)} {n i j : Nat} : parF a b n i j n = mixF (mulF a b n) botF i (j + 1) := by
  funext x y
  rw [mixF_set]
  rfl
theorem parF_at {a b : List (List Int)} {n i j m : Nat} : parF a b n i j m i j = maxN (prF a b i j) m := by simp [parF]
theorem parF_set {a b : List (List Int)} {n i j m x y : Nat} : parF a b n i j (m + 1) x y = if x = i ∧ y = j then max (parF a b n i j m i j) (prF a b i j m) else parF a b n i j m x y := by
  rw [parF_at]
  unfold parF
  by_cases h : x = i ∧ y = j
  · rw [if_pos h, if_pos h]; rfl
  · rw [if_neg h, if_neg h, if_neg h]
set_option maxHeartbeats 4000000 in
theorem l02Multiply_ac (n : Nat) (a b : List (List Int)) (ha : Rc a n n) (hb : Rc b n n) (hn : n ≤ 1000) (h0 : 0 < n)
    (ht : ∀ i q j, i < n → q < n → j < n → entN a i q ≠ BOT → entN b q j ≠ BOT → -9223372036854775808 ≤ entN a i q + entN b q j ∧ entN a i q + entN b q j ≤ 9223372036854775807) :
    AC Try.prog 248 [TL a, TL b] H0 (own1 1 n) (hpM 1 (TR (tabF n n (mulF a b n)))) := by
  have hal := ha.l
  have hbl := hb.l
  have hz : tabF n n (mixF (mulF a b n) botF 0 0) = botT n n := by rw [mixF_0, botF_tab]
  obtain ⟨B0, hB1, hB2, hB3⟩ := hb.get h0 h0
  have hBr := TR_get hB1
  have hBl : (IR B0).length = n := by rw [IR_len, hB3]
  have hB : AC Try.prog 241 [I a.length, I B0.length] H0 (own1 1 n) (hpM 1 (TR (tabF n n (mixF (mulF a b n) botF 0 0)))) := by
    rw [hal, hB3, hz]; exact l02Bottom_ac n n (by omega) (by omega)
  refine AC.of_body 0 Try.func248 rfl (fun l h => absurd rfl h) (fun C hC => ?_)
  have hD : ∀ l, ¬ C.D0 l := fun l h => (hC l).1 h rfl
  simp only [startFr, Try.ntmps248, List.length_cons, List.length_nil, Nat.reduceAdd, Nat.reduceSub, List.replicate_succ, List.replicate_zero, List.cons_append, List.nil_append]
  repeat' (first | ((first | apply Ba | (apply Bb; (· rfl); (· rfl)) | (apply Bc; (· exact nxE)) | (apply Bd; (· rfl); (· rfl); (· exact nxE))); (· first | exact Tb rfl rfl (hB) (Sd (Sd Sn)) | exact Ok.pe)) | ((first | apply Ca | (apply Cb; (· exact nxE))); (· first | exact Tb rfl rfl (hB) (Sd (Sd Sn)) | exact Ok.e0)) | refine Sx ?_ | (refine Sy (fun h => ?_) (fun h => ?_) <;> try (exfalso; omega; done)) | refine Sz (fun h => ?_) (fun h => ?_))
  refine AW.loop (X := {k : Nat // k ≤ n}) (fun k => ⟨[TL a, TL b, Oo, Oo, Oo, .own 1 ⟨1, []⟩ 0 n, I (k.1 : Nat), Oo, Oo, Oo, Oo, Oo, Oo, Oo, Oo, Oo, Oo, Oo, Oo, Oo, Oo, Oo, Oo, Oo, Oo, Oo, Oo, Oo, Oo, Oo, Oo, Oo, Oo, Oo, Oo, Oo, Oo, Oo, Oo, Oo, Oo, Oo, Oo, Oo, Oo, Oo, Oo, Oo, Oo, Oo, Oo, Oo, Oo, Oo, Oo, Oo, Oo, Oo, Oo, Oo, Oo, Oo, Oo, Oo, Oo, Oo], heapX [] [mi1 ⟨1, []⟩ (TR (tabF n n (mixF (mulF a b n) botF k.1 0)))], 900⟩) (fun k => n - k.1) ⟨0, Nat.zero_le _⟩ ?_ (fun k => ?_)
  ·
    (apply Le.headG [] [{ l := ⟨1, []⟩, k := 1, R := TR (tabF n n (mixF (mulF a b n) botF 0 0)), src := ⟨7, [0]⟩, base := ⟨7, [0]⟩ }] (fun _ => False))
    (case' hlen => rfl)
    (case' hms => rfl)
    all_goals (try dsimp only [srcs])
    (case' hfr | hob => (repeat' (first | refine La ?_ ?_ | exact Lc | refine Lo ?_ | refine ⟨⟨_, rfl, ?_⟩, ?_⟩ | refine Lx ?_)))
    (case' hok => first | exact ⟨MI.ok_same rfl (Cg), trivial⟩ | exact trivial)
    (case' hN => rfl)
    (case' hS => rfl)
    all_goals (first | exact Ld | (rfl))
  obtain ⟨i, hi⟩ := k
  simp only
  by_cases hlt : i < n
  ·
    repeat' (first | ((first | apply Ba | (apply Bb; (· rfl); (· rfl)) | (apply Bc; (· exact nxE)) | (apply Bd; (· rfl); (· rfl); (· exact nxE))); (· first | exact Ok.pe)) | ((first | apply Ca | (apply Cb; (· exact nxE))); (· first | exact Ok.e0)) | refine Sx ?_ | (refine Sy (fun h => ?_) (fun h => ?_) <;> try (exfalso; omega; done)) | refine Sz (fun h => ?_) (fun h => ?_))
    refine AW.loop (X := {k : Nat // k ≤ n}) (fun k => ⟨[TL a, TL b, Oo, Oo, Oo, .own 1 ⟨1, []⟩ 0 n, I i, I (k.1 : Nat), Oo, Oo, Oo, Oo, Oo, Oo, Oo, Oo, Oo, Oo, Oo, Oo, Oo, Oo, Oo, Oo, Oo, Oo, Oo, Oo, Oo, Oo, Oo, Oo, Oo, Oo, Oo, Oo, Oo, Oo, Oo, Oo, Oo, Oo, Oo, Oo, Oo, Oo, Oo, Oo, Oo, Oo, Oo, Oo, Oo, Oo, Oo, Oo, Oo, Oo, Oo, Oo, Oo, Oo, Oo, Oo, Oo, Oo], heapX [] [mi1 ⟨1, []⟩ (TR (tabF n n (mixF (mulF a b n) botF i k.1)))], 900⟩) (fun k => n - k.1) ⟨0, Nat.zero_le _⟩ ?_ (fun k => ?_)
    ·
      (apply Le.headG [] [mi1 ⟨1, []⟩ (TR (tabF n n (mixF (mulF a b n) botF i 0)))] (fun _ => False))
      (case' hlen => rfl)
      (case' hms => rfl)
      all_goals (try dsimp only [srcs])
      (case' hfr | hob => (repeat' (first | refine La ?_ ?_ | exact Lc | refine Lo ?_ | refine ⟨⟨_, rfl, ?_⟩, ?_⟩ | refine Lx ?_)))
      (case' hok => first | exact ⟨MI.ok_same rfl (Cg), trivial⟩ | exact trivial)
      (case' hN => rfl)
      (case' hS => rfl)
      all_goals (first | exact Ld | (rfl))
    obtain ⟨j, hj⟩ := k
    simp only
    by_cases hlt2 : j < n
    ·
      repeat' (first | ((first | apply Ba | (apply Bb; (· rfl); (· rfl)) | (apply Bc; (· exact nxE)) | (apply Bd; (· rfl); (· rfl); (· exact nxE))); (· first | exact Ok.pe)) | ((first | apply Ca | (apply Cb; (· exact nxE))); (· first | exact Ok.e0)) | refine Sx ?_ | (refine Sy (fun h => ?_) (fun h => ?_) <;> try (exfalso; omega; done)) | refine Sz (fun h => ?_) (fun h => ?_))
      rw [← parF_0]
      refine AW.loop (X := {k : Nat // k ≤ n}) (fun k => ⟨[TL a, TL b, Oo, Oo, Oo, .own 1 ⟨1, []⟩ 0 n, I i, I j, I (k.1 : Nat), Oo, Oo, Oo, Oo, Oo, Oo, Oo, Oo, Oo, Oo, Oo, Oo, Oo, Oo, Oo, Oo, Oo, Oo, Oo, Oo, Oo, Oo, Oo, Oo, Oo, Oo, Oo, Oo, Oo, Oo, Oo, Oo, Oo, Oo, Oo, Oo, Oo, Oo, Oo, Oo, Oo, Oo, Oo, Oo, Oo, Oo, Oo, Oo, Oo, Oo, Oo, Oo, Oo, Oo, Oo, Oo, Oo], heapX [] [mi1 ⟨1, []⟩ (TR (tabF n n (parF a b n i j k.1)))], 900⟩) (fun k => n - k.1) ⟨0, Nat.zero_le _⟩ ?_ (fun k => ?_)
      ·
        (apply Le.headG [] [mi1 ⟨1, []⟩ (TR (tabF n n (parF a b n i j 0)))] (fun _ => False))
        (case' hlen => rfl)
        (case' hms => rfl)
        all_goals (try dsimp only [srcs])
        (case' hfr | hob => (repeat' (first | refine La ?_ ?_ | exact Lc | refine Lo ?_ | refine ⟨⟨_, rfl, ?_⟩, ?_⟩ | refine Lx ?_)))
        (case' hok => first | exact ⟨MI.ok_same rfl (Cg), trivial⟩ | exact trivial)
        (case' hN => rfl)
        (case' hS => rfl)
        all_goals (first | exact Ld | (rfl))
      obtain ⟨q, hq⟩ := k
      simp only
      by_cases hlt3 : q < n
      ·
        have hrw := TRF_get (n := n) (f := parF a b n i j q) hlt
        have hli : (IR (rowF n (parF a b n i j q i))).length = n := by rw [IR_len, rowF_len]
        have hij := IRF_get (g := parF a b n i j q i) hlt2
        obtain ⟨R, hR1, hR2, hR3⟩ := ha.get hlt hlt3
        have hRr := TR_get hR1
        have hRf := IR_get hR2
        have hRl : (IR R).length = n := by rw [IR_len, hR3]
        obtain ⟨S, hS1, hS2, hS3⟩ := hb.get hlt3 hlt2
        have hSr := TR_get hS1
        have hSf := IR_get hS2
        have hSl : (IR S).length = n := by rw [IR_len, hS3]
        have hset : (IR (rowF n (parF a b n i j q i))).set j [DI (max (parF a b n i j q i j) (timesB (entN a i q) (entN b q j)))] = IR ((rowF n (parF a b n i j q i)).set j (max (parF a b n i j q i j) (prF a b i j q))) := IR_set
        repeat' (first | ((first | apply Ba | (apply Bb; (· rfl); (· rfl)) | (apply Bc; (· exact nxE)) | (apply Bd; (· rfl); (· rfl); (· exact nxE))); (· first | exact Ok.ldTn rfl rfl rfl hrw hli | exact Ok.ld1 rfl rfl (congrArg (Option.map (dobj 1)) hrw) hij | exact Kz rfl rfl (l01Times_ac (entN a i q) (entN b q j) (ht i q j hlt hlt3 hlt2)) (Ad (Ad An)) | exact Ok.st1 rfl rfl (congrArg (Option.map (dobj 1)) hrw) (by rw [hli]; omega) (by rw [hij]; rfl) rfl rfl hset | exact Ok.pe)) | ((first | apply Ca | (apply Cb; (· exact nxE))); (· first | exact Ok.st1 rfl rfl (congrArg (Option.map (dobj 1)) hrw) (by rw [hli]; omega) (by rw [hij]; rfl) rfl rfl hset | exact Ok.e0)) | refine Sx ?_ | (refine Sy (fun h => ?_) (fun h => ?_) <;> try (exfalso; omega; done)) | refine Sz (fun h => ?_) (fun h => ?_))
        refine ⟨⟨q + 1, by omega⟩, ?_, by simp only; omega⟩
        (apply Le.headG [] [mi1 ⟨1, []⟩ (TR (tabF n n (parF a b n i j (q + 1))))] (fun _ => False))
        (case' hlen => rfl)
        (case' hms => rfl)
        all_goals (try dsimp only [srcs])
        (case' hfr | hob => (repeat' (first | refine La ?_ ?_ | exact Lc | refine Lo ?_ | refine ⟨⟨_, rfl, ?_⟩, ?_⟩ | refine Lx ?_)))
        (case' hok => first | exact ⟨MI.ok_row (tabF_set (fun x y _ _ => parF_set)) hrw (by simp) rfl (Cg), trivial⟩ | exact trivial)
        (case' hN => rfl)
        (case' hS => rfl)
        all_goals (first | exact Ld | (rfl))
      ·
        obtain rfl : q = n := by omega
        repeat' (first | ((first | apply Ba | (apply Bb; (· rfl); (· rfl)) | (apply Bc; (· exact nxE)) | (apply Bd; (· rfl); (· rfl); (· exact nxE))); (· first | exact Ok.pe)) | ((first | apply Ca | (apply Cb; (· exact nxE))); (· first | exact Ok.e0)) | refine Sx ?_ | (refine Sy (fun h => ?_) (fun h => ?_) <;> try (exfalso; omega; done)) | refine Sz (fun h => ?_) (fun h => ?_))
        refine ⟨⟨j + 1, by omega⟩, ?_, by simp only; omega⟩
        simp only
        rw [← parF_n]
        (apply Le.headG [] [mi1 ⟨1, []⟩ (TR (tabF q q (parF a b q i j q)))] (fun _ => False))
        (case' hlen => rfl)
        (case' hms => rfl)
        all_goals (try dsimp only [srcs])
        (case' hfr | hob => (repeat' (first | refine La ?_ ?_ | exact Lc | refine Lo ?_ | refine ⟨⟨_, rfl, ?_⟩, ?_⟩ | refine Lx ?_)))
        (case' hok => first | exact ⟨MI.ok_same rfl (Cg), trivial⟩ | exact trivial)
        (case' hN => rfl)
        (case' hS => rfl)
        all_goals (first | exact Ld | (rfl))
    ·
      obtain rfl : j = n := by omega
      repeat' (first | ((first | apply Ba | (apply Bb; (· rfl); (· rfl)) | (apply Bc; (· exact nxE)) | (apply Bd; (· rfl); (· rfl); (· exact nxE))); (· first | exact Ok.pe)) | ((first | apply Ca | (apply Cb; (· exact nxE))); (· first | exact Ok.e0)) | refine Sx ?_ | (refine Sy (fun h => ?_) (fun h => ?_) <;> try (exfalso; omega; done)) | refine Sz (fun h => ?_) (fun h => ?_))
      refine ⟨⟨i + 1, by omega⟩, ?_, by simp only; omega⟩
      simp only
      rw [← mixF_row]
      (apply Le.headG [] [mi1 ⟨1, []⟩ (TR (tabF j j (mixF (mulF a b j) botF i j)))] (fun _ => False))
      (case' hlen => rfl)
      (case' hms => rfl)
      all_goals (try dsimp only [srcs])
      (case' hfr | hob => (repeat' (first | refine La ?_ ?_ | exact Lc | refine Lo ?_ | refine ⟨⟨_, rfl, ?_⟩, ?_⟩ | refine Lx ?_)))
      (case' hok => first | exact ⟨MI.ok_same rfl (Cg), trivial⟩ | exact trivial)
      (case' hN => rfl)
      (case' hS => rfl)
      all_goals (first | exact Ld | (rfl))
  ·
    obtain rfl : i = n := by omega
    rw [mixF_all]
    repeat' (first | ((first | apply Ba | (apply Bb; (· rfl); (· rfl)) | (apply Bc; (· exact nxE)) | (apply Bd; (· rfl); (· rfl); (· exact nxE))); (· first | exact Ok.pe)) | ((first | apply Ca | (apply Cb; (· exact nxE))); (· first | exact Ok.e0)) | refine Sx ?_ | (refine Sy (fun h => ?_) (fun h => ?_) <;> try (exfalso; omega; done)) | refine Sz (fun h => ?_) (fun h => ?_))
    refine Ya ?_
    (apply Le.headG [] [{ l := ⟨0, []⟩, k := 1, R := TR (tabF i i (mulF a b i)), src := ⟨1, []⟩, base := ⟨1, []⟩ }] (fun _ => False))
    (case' hlen => rfl)
    (case' hms => rfl)
    all_goals (try dsimp only [srcs])
    (case' hfr | hob => (repeat' (first | refine La ?_ ?_ | exact Lc | refine Lo ?_ | refine ⟨⟨_, rfl, ?_⟩, ?_⟩ | refine Lx ?_)))
    (case' hok => first | exact ⟨MI.ok_same rfl (Cg), trivial⟩ | exact trivial)
    (case' hN => rfl)
    (case' hS => rfl)
    all_goals (first | exact Ld | (rfl))
end Go.Proofs.Ytegfjedklebbfaa
end

section
namespace Go.Proofs.Ytegfjedklebbfaa
set_option linter.unusedSimpArgs false
set_option linter.unusedVariables false
open Go Go.RowKit
attribute [local irreducible] AL AD AW OpOk Le AC thenQ blockQ EndQ

theorem maxN_congr {f g : Nat → Int} : ∀ {n : Nat}, (∀ k, k < n → f k = g k) → maxN f n = maxN g n
  | 0, _ => rfl
  | n + 1, h => by simp only [maxN]; rw [maxN_congr (fun k hk => h k (by omega)), h n (by omega)]
theorem StarM.px {t : List (List Int)} {n : Nat} (h : StarM t n) {m : Nat} (hm : m ≤ n + 1) : PX (entN t) n 100000000000 m (powN (entN t) n m) :=
  powN_px (by decide) h.bnd m (by have := h.nn; omega)
theorem StarM.mul {t : List (List Int)} {n : Nat} (h : StarM t n) {m : Nat} (hm : m ≤ n) : AC Try.prog 248 [TL t, TL (tabF n n (powN (entN t) n m))] H0 (own1 1 n) (hpM 1 (TR (tabF n n (mulF t (tabF n n (powN (entN t) n m)) n)))) := by
  have hn := h.nn
  refine l02Multiply_ac n t _ h.rc tabF_rc (by omega) h.n0 (fun i q j hi hq hj h1 h2 => ?_)
  rw [tabF_ent hq hj] at h2 ⊢
  have g1 := h.bnd q i h1
  have g2 := (h.px (show m ≤ n + 1 by omega)).bnd j q hj hq h2
  omega
theorem StarM.add {t : List (List Int)} {n : Nat} (h : StarM t n) {m : Nat} : AC Try.prog 247 [TL (tabF n n unitF), TL (tabF n n (mulF t (tabF n n (powN (entN t) n m)) n))] H0 (own1 1 n) (hpM 1 (TR (tabF n n (powN (entN t) n (m + 1))))) := by
  have hn := h.nn
  have hA := l02Add_ac n n (tabF n n unitF) (tabF n n (mulF t (tabF n n (powN (entN t) n m)) n)) tabF_rc tabF_rc (by omega) (by omega)
  have e : tabF n n (addF (tabF n n unitF) (tabF n n (mulF t (tabF n n (powN (entN t) n m)) n))) = tabF n n (powN (entN t) n (m + 1)) := tabF_congr fun i j hi hj => by
    unfold addF
    rw [tabF_ent hi hj, tabF_ent hi hj]
    show _ = powS (entN t) n (powN (entN t) n m) i j
    unfold powS mulF
    rw [maxN_congr (g := fun q => timesB (entN t i q) (powN (entN t) n m q j)) (fun q hq => by show timesB (entN t i q) (entN (tabF n n (powN (entN t) n m)) q j) = _; rw [tabF_ent hq hj])]
  rw [← e]
  exact hA
end Go.Proofs.Ytegfjedklebbfaa
end

section
namespace Go.Proofs.Ytegfjedklebbfaa
set_option linter.unusedSimpArgs false
set_option linter.unusedVariables false
open Go Go.RowKit
attribute [local irreducible] AL AD AW OpOk Le AC thenQ blockQ EndQ

theorem entN_out {t : List (List Int)} {m n u v : Nat} (h : Rc t m n) (hv : v < m) (hu : ¬ u < n) : entN t v u = 0 := by
  have h1 : v < t.length := by rw [h.l]; exact hv
  have h2 : (t[v]).length = n := h.r t[v] (List.getElem_mem h1)
  have h3 : (t[v])[u]? = none := List.getElem?_eq_none (by omega)
  have h4 : (t[v]?).getD [] = t[v] := by rw [List.getElem?_eq_getElem h1]; rfl
  unfold entN
  rw [h4, h3]
  rfl
theorem entN_out2 {t : List (List Int)} {m n u v : Nat} (h : Rc t m n) (hv : ¬ v < m) : entN t v u = 0 := by
  have h3 : t[v]? = none := List.getElem?_eq_none (by have := h.l; omega)
  unfold entN
  rw [h3]
  rfl
theorem starM_wm {n : Nat} {xs : List Pl} {r : Int × Int} (hn : n ≤ 10) (h0 : 0 < n) (hv : ∀ p ∈ xs, okPl n p) (hr : MaxR xs r) (h1 : 0 ≤ r.1 ∧ r.1 ≤ 100000) (h2 : 0 ≤ r.2 ∧ r.2 ≤ 50) : StarM (wmT n xs r) n := by
  have hb := wm_bnd hv h1 h2
  have hw : WmOk n xs r (wmT n xs r) := wm_ok (M := 500000) (by decide) xs (fun p hp => ⟨hv p hp, (hb p hp).1⟩)
  have hrc : Rc (wmT n xs r) n n := ⟨hw.sq.l, hw.sq.r⟩
  refine ⟨hrc, h0, hn, fun u v hne => ?_, wm_noPos hw hr⟩
  by_cases hvn : v < n
  · by_cases hun : u < n
    · rcases hw.some u v hun hvn with e | ⟨p, hp, e1, e2, e3⟩
      · exact absurd e hne
      · have := hb p hp
        rw [← e3]; omega
    · rw [entN_out hrc hvn hun]; decide
  · rw [entN_out2 hrc hvn]; decide
end Go.Proofs.Ytegfjedklebbfaa
end

section
namespace Go.Proofs.Ytegfjedklebbfaa
set_option linter.unusedSimpArgs false
set_option linter.unusedVariables false
open Go Go.RowKit
attribute [local irreducible] AL AD AW OpOk Le AC thenQ blockQ EndQ

end Go.Proofs.Ytegfjedklebbfaa
end

section
namespace Go.Proofs.Ytegfjedklebbfaa
set_option linter.unusedSimpArgs false
set_option linter.unusedVariables false
open Go Go.RowKit
attribute [local irreducible] AL AD AW OpOk Le AC thenQ blockQ EndQ

end Go.Proofs.Ytegfjedklebbfaa
end

section
namespace Go.Proofs.Ytegfjedklebbfaa
set_option linter.unusedSimpArgs false
set_option linter.unusedVariables false
open Go Go.RowKit
attribute [local irreducible] AL AD AW OpOk Le AC thenQ blockQ EndQ

theorem bc_star {ev : Int} {xs : List Pl} (hC : bcC ev xs = 0) : ∃ n : Nat, ev = n ∧ 1 ≤ n ∧ n ≤ 10 ∧ xs.length ≤ 30 ∧ (∀ p ∈ xs, okPl n p) ∧ Live xs n ∧ hasC xs ∧ ctR ev xs = maxR xs ∧ (0 ≤ (maxR xs).1 ∧ (maxR xs).1 ≤ 100000) ∧ (0 < (maxR xs).2 ∧ (maxR xs).2 ≤ 50) ∧ StarM (wmT n xs (maxR xs)) n := by
  have h0 : liveI ev xs = 0 := by
    unfold bcC at hC
    by_cases h : liveI ev xs = 0
    · exact h
    · rw [if_neg h] at hC; exact hC
  have hc : hasC xs := by
    unfold bcC at hC
    rw [if_pos h0] at hC
    exact Classical.byContradiction fun h => by rw [if_neg h] at hC; exact absurd hC (by decide)
  obtain ⟨n, rfl, h1, h2, h3, h4, h5⟩ := live_ok h0
  obtain ⟨c, e1, e2, e3⟩ := h5.best h2 hc
  obtain ⟨g1, g2, g3⟩ := h5.circ e2
  obtain ⟨q1, q2, _⟩ := h5.red h2 g1 e2.wk.lt g3.1
  rw [e3] at q1 q2
  exact ⟨n, rfl, h1, h2, h3, h4, h5, hc, by unfold ctR; rw [if_pos hC], q1, q2, starM_wm h2 h1 h4 (h5.isMax h2 hc) q1 ⟨by omega, q2.2⟩⟩
end Go.Proofs.Ytegfjedklebbfaa
end

section
namespace Go.Proofs.Ytegfjedklebbfaa
set_option linter.unusedSimpArgs false
set_option linter.unusedVariables false
open Go Go.RowKit
attribute [local irreducible] AL AD AW OpOk Le AC thenQ blockQ EndQ

end Go.Proofs.Ytegfjedklebbfaa
end

section
namespace Go.Proofs.Ytegfjedklebbfaa
set_option linter.unusedSimpArgs false
set_option linter.unusedVariables false
open Go Go.RowKit
attribute [local irreducible] AL AD AW OpOk Le AC thenQ blockQ EndQ

theorem bc_no {ev : Int} {xs : List Pl} (h : isEG ev xs = false) : bcC ev xs = 1 ∧ ctR ev xs = (0, 0) := by
  have h1 : liveI ev xs = 1 := by unfold liveI; rw [h]; rfl
  have h2 : bcC ev xs = 1 := by unfold bcC; rw [h1]; rfl
  exact ⟨h2, by unfold ctR; rw [h2]; rfl⟩
end Go.Proofs.Ytegfjedklebbfaa
end

section
namespace Go.Proofs.Ytegfjedklebbfaa
set_option linter.unusedSimpArgs false
set_option linter.unusedVariables false
open Go Go.RowKit

theorem MaxR.cross_le {xs : List Pl} {r s : Int × Int} (ht : ∀ c, Circ xs c → 0 < sumT xs c) (h1 : MaxR xs r) (h2 : ∀ c, Circ xs c → wgt xs s.1 s.2 c ≤ 0) : r.1 * s.2 ≤ s.1 * r.2 := by
  obtain ⟨c, hc, e⟩ := h1.eq
  have hk := ht c hc
  have hle := h2 c hc
  rw [wgt_sums] at e hle
  have e1 : r.2 * sumD xs c = r.1 * sumT xs c := by omega
  have h3 : s.2 * sumD xs c ≤ s.1 * sumT xs c := by omega
  have h4 := Int.mul_le_mul_of_nonneg_left h3 (Int.le_of_lt h1.pos)
  have h5 : r.2 * (s.2 * sumD xs c) = s.2 * (r.1 * sumT xs c) := by rw [← e1]; rw [← Int.mul_assoc, ← Int.mul_assoc, Int.mul_comm r.2 s.2]
  rw [h5] at h4
  have h6 : (r.1 * s.2) * sumT xs c ≤ (s.1 * r.2) * sumT xs c := by
    rw [show r.1 * s.2 * sumT xs c = s.2 * (r.1 * sumT xs c) by rw [Int.mul_comm r.1 s.2, Int.mul_assoc], show s.1 * r.2 * sumT xs c = r.2 * (s.1 * sumT xs c) by rw [Int.mul_comm s.1 r.2, Int.mul_assoc]]
    exact h4
  exact Int.le_of_mul_le_mul_right h6 hk
theorem wgt_mono {xs ys : List Pl} {rn rd : Int} (h1 : 0 ≤ rn) (h2 : 0 ≤ rd) (h : ∀ i, (plA ys i).d ≤ (plA xs i).d ∧ (plA xs i).k ≤ (plA ys i).k) : ∀ c, wgt ys rn rd c ≤ wgt xs rn rd c
  | [] => Int.le_refl _
  | i :: c => by
    have e1 : wgt ys rn rd (i :: c) = pw rn rd (plA ys i) + wgt ys rn rd c := rfl
    have e2 : wgt xs rn rd (i :: c) = pw rn rd (plA xs i) + wgt xs rn rd c := rfl
    have ih := wgt_mono h1 h2 h c
    have a := Int.mul_le_mul_of_nonneg_left (h i).1 h2
    have b := Int.mul_le_mul_of_nonneg_left (h i).2 h1
    rw [e1, e2]
    unfold pw
    omega
/-- A graph that is nowhere slower than another has no greater cycle time. -/
theorem ctR_mono {ev : Int} {xs ys : List Pl} (hx : bcC ev xs = 0) (hy : bcC ev ys = 0) (hl : ys.length = xs.length) (hs : ∀ i, (plA ys i).f = (plA xs i).f ∧ (plA ys i).t = (plA xs i).t) (h : ∀ i, (plA ys i).d ≤ (plA xs i).d ∧ (plA xs i).k ≤ (plA ys i).k) : crI (ctR ev ys) (ctR ev xs) ≤ 0 := by
  obtain ⟨n, rfl, h1, h2, h3, h4, h5, h6, h8, h9, h10, h11⟩ := bc_star hx
  obtain ⟨n', hev, k1, k2, k3, k4, k5, k6, k8, k9, k10, k11⟩ := bc_star hy
  obtain rfl : n = n' := by omega
  rw [h8, k8]
  have hmx := h5.isMax h2 h6
  have hmy := k5.isMax k2 k6
  have := hmy.cross_le (s := maxR xs) (fun c hc => (k5.circ hc).2.2.1) (fun c hc => by
    have hcx : Circ xs c := hc.same hl.symm fun i => ⟨(hs i).1.symm, (hs i).2.symm⟩
    exact Int.le_trans (wgt_mono h9.1 (Int.le_of_lt h10.1) h c) (hmx.le c hcx))
  unfold crI cmpI
  generalize (maxR ys).1 * (maxR xs).2 = a at *
  generalize (maxR xs).1 * (maxR ys).2 = b at *
  split
  · decide
  · rw [if_neg (by omega)]; exact Int.le_refl 0
theorem fasterL_dk {xs : List Pl} {i : Nat} {b : Int} (hi : i < xs.length) (hd : 0 ≤ (plA xs i).d) (hb : 0 ≤ b) (j : Nat) : (plA (fasterL xs i b) j).d ≤ (plA xs j).d ∧ (plA xs j).k ≤ (plA (fasterL xs i b) j).k := by
  unfold fasterL
  rw [plA_set hi]
  split
  · rename_i e; subst e; simp only; omega
  · exact ⟨Int.le_refl _, Int.le_refl _⟩
theorem bc_eg {ev : Int} {xs : List Pl} (h : bcC ev xs = 0) : isEG ev xs = true := by
  cases hg : isEG ev xs
  · have := (bc_no hg).1; omega
  · rfl
theorem faster_le {ev : Int} {xs : List Pl} {i : Nat} {b : Int} (h : bcC ev xs = 0) (hi : i < xs.length) (hb : 0 ≤ b) : crI (ctR ev (fasterL xs i b)) (ctR ev xs) ≤ 0 := by
  have hg := bc_eg h
  obtain ⟨n, rfl, _, _, _, h4⟩ := isEG_ok hg
  exact ctR_mono h (by rw [fasterL_bc0 hg hi hb]; exact h) fasterL_len (fasterL_same hi) (fasterL_dk hi (fasterL_d h4 hi).1 hb)
/-- FasterPlace. -/
theorem fp_law {ev : Int} {xs : List Pl} {i b : Int} (h : fpC ev xs i b = 0) : bcC ev xs = 0 ∧ crI (fpR ev xs i b) (ctR ev xs) ≤ 0 := by
  unfold fpC at h
  unfold fpR
  by_cases hq : cqC ev xs (fpIn xs i b) = 0
  · obtain ⟨_, h2, h3⟩ := cqC_ok hq
    rw [if_pos hq]
    unfold fpIn at h2
    simp only [Bool.and_eq_true, wi_iff] at h2
    exact ⟨h3, faster_le h3 (by omega) h2.2.1⟩
  · rw [if_neg hq] at h; exact absurd h hq
theorem bpN_is {ev : Int} {xs : List Pl} {b : Int} : ∀ k, 0 < k → ∃ i, i < k ∧ (bpN ev xs b k).2 = ctR ev (fasterL xs i b)
  | k + 1, _ => by
    rw [bpN]
    split
    · exact ⟨k, by omega, rfl⟩
    · rename_i h
      obtain ⟨i, h1, h2⟩ := bpN_is (ev := ev) (xs := xs) (b := b) k (by omega)
      exact ⟨i, by omega, h2⟩
/-- BestPlace. -/
theorem bp_law {ev : Int} {xs : List Pl} {b : Int} (h : bpC ev xs b = 0) : bcC ev xs = 0 ∧ crI (bpR ev xs b) (ctR ev xs) ≤ 0 := by
  unfold bpR
  rw [if_pos h]
  unfold bpC at h
  obtain ⟨_, h2, h3⟩ := cqC_ok h
  rw [wi_iff] at h2
  obtain ⟨n, rfl, _, _, _, _, _, ⟨c, hc⟩, _⟩ := bc_star h3
  have hpos : 0 < xs.length := by
    cases c with
    | nil => exact absurd rfl hc.ne
    | cons i c => have := hc.wk.lt i (by simp); omega
  obtain ⟨i, h4, h5⟩ := bpN_is (ev := n) (xs := xs) (b := b) xs.length hpos
  rw [h5]
  exact ⟨h3, faster_le h3 h4 h2.1⟩
theorem redR_le {a b : Int} (hb : 0 < b) (h : a ≤ b) : (redR a b).1 ≤ (redR a b).2 := by
  obtain ⟨g1, _, g3, g4, g5⟩ := redR_ok (d := a) hb
  refine Int.le_of_mul_le_mul_left (a := (Int.gcd a b : Int)) ?_ g5
  rw [g3, g4]; exact h
theorem stN_loop {xs : List Pl} {e : Int} : ∀ k, k ≤ xs.length → (stN xs e k).1 = true → ∃ i, i < xs.length ∧ (plA xs i).f = e ∧ (plA xs i).t = e ∧ (plA xs i).k ≠ 0 ∧ (stN xs e k).2 = redR (plA xs i).d (plA xs i).k
  | 0, _, h => by simp [stN] at h
  | k + 1, hk, h => by
    rw [stN] at h ⊢
    split
    · rename_i hc
      exact ⟨k, by omega, hc.1.1, hc.1.2.1, hc.1.2.2, rfl⟩
    · rename_i hc
      rw [if_neg hc] at h
      exact stN_loop k (by omega) h
/-- UseOf. -/
theorem use_law {ev : Int} {xs : List Pl} {e : Int} (h : useC ev xs e = 0) : (useR ev xs e).1 ≤ (useR ev xs e).2 := by
  unfold useC at h
  unfold useR
  by_cases hq : useQ ev xs e = 0
  · rw [if_pos hq] at h ⊢
    by_cases hs : slC xs e = 0 ∧ (ctR ev xs).1 ≠ 0
    · rw [if_pos hs]
      unfold useQ at hq
      obtain ⟨_, _, h3⟩ := cqC_ok hq
      obtain ⟨n, rfl, h1, h2, h3', h4, h5, h6, h8, h9, h10, h11⟩ := bc_star h3
      have hmx := h5.isMax h2 h6
      rw [h8] at hs ⊢
      have hb : (stN xs e xs.length).1 = true := by
        have := hs.1
        unfold slC at this
        by_cases hb : (stN xs e xs.length).1 = true
        · exact hb
        · rw [if_neg hb] at this; cases this
      obtain ⟨i, i1, i2, i3, i4, i5⟩ := stN_loop xs.length (Nat.le_refl _) hb
      have hsl : slR xs e = redR (plA xs i).d (plA xs i).k := by unfold slR; rw [if_pos hb, i5]
      obtain ⟨_, _, ⟨d1, d2⟩, ⟨k1, k2⟩⟩ := okPl_at h4 i i1
      have hkp : 0 < (plA xs i).k := by omega
      have hc : Circ xs [i] := ⟨by simp, ⟨i1, rfl, by show (plA xs i).t = (plA xs i).f; rw [i2, i3]⟩, by simp, by simp [firstF, hdN]⟩
      have hle := hmx.le [i] hc
      have e1 : wgt xs (maxR xs).1 (maxR xs).2 [i] = pw (maxR xs).1 (maxR xs).2 (plA xs i) + 0 := rfl
      rw [e1] at hle
      unfold pw at hle
      obtain ⟨g1, _, g3, g4, g5⟩ := redR_ok (d := (plA xs i).d) hkp
      rw [hsl]
      refine redR_le ?_ ?_
      · exact Int.mul_pos g1 (by omega)
      · refine Int.le_of_mul_le_mul_left (a := (Int.gcd (plA xs i).d (plA xs i).k : Int)) ?_ g5
        rw [← Int.mul_assoc, ← Int.mul_assoc, g3, g4, Int.mul_comm (plA xs i).d, Int.mul_comm (plA xs i).k]
        omega
    · rw [if_neg hs] at h; exact absurd h (by decide)
  · rw [if_neg hq] at h; exact absurd h hq
end Go.Proofs.Ytegfjedklebbfaa
end

section
namespace Go.Proofs.Ytegfjedklebbfaa
set_option linter.unusedSimpArgs false
set_option linter.unusedVariables false
open Go Go.RowKit

theorem moreL_dk {xs : List Pl} {i : Nat} (hi : i < xs.length) (j : Nat) : (plA (moreL xs i) j).d ≤ (plA xs j).d ∧ (plA xs j).k ≤ (plA (moreL xs i) j).k := by
  unfold moreL
  rw [plA_set hi]
  split
  · rename_i e; subst e; simp only; omega
  · exact ⟨Int.le_refl _, Int.le_refl _⟩
theorem moreL_same {xs : List Pl} {i : Nat} (hi : i < xs.length) (j : Nat) : (plA (moreL xs i) j).f = (plA xs j).f ∧ (plA (moreL xs i) j).t = (plA xs j).t := by
  unfold moreL
  rw [plA_set hi]
  split
  · rename_i e; subst e; exact ⟨rfl, rfl⟩
  · exact ⟨rfl, rfl⟩
/-- MoreTokens. -/
theorem mt_law {ev : Int} {xs : List Pl} {i : Int} (h : mtC ev xs i = 0) : bcC ev xs = 0 ∧ crI (mtR ev xs i) (ctR ev xs) ≤ 0 := by
  unfold mtC at h
  unfold mtR
  by_cases hq : cqC ev xs (wi i 0 ((xs.length : Int) - 1)) = 0
  · obtain ⟨_, h2, h3⟩ := cqC_ok hq
    rw [if_pos hq] at h ⊢
    rw [wi_iff] at h2
    by_cases h5 : (plA xs i.toNat).k = 5
    · rw [if_pos h5] at h; exact absurd h (by decide)
    · rw [if_neg h5] at h ⊢
      have hi : i.toNat < xs.length := by omega
      exact ⟨h3, ctR_mono h3 h moreL_len (moreL_same hi) (moreL_dk hi)⟩
  · rw [if_neg hq] at h; exact absurd h hq
end Go.Proofs.Ytegfjedklebbfaa
end
