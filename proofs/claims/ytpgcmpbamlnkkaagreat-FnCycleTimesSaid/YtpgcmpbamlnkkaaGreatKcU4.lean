/-
  Walks in the abstract reading, part 4.
-/
import Derived.Test.YtpgcmpbamlnkkaaGreatKcU2
import Derived.Test.YtpgcmpbamlnkkaaGreatKcU3
import Derived.Test.YtpgcmpbamlnkkaaGreatKcA2
import Derived.Test.YtpgcmpbamlnkkaaGreatKcU1
import Derived.Test.YtpgcmpbamlnkkaaGreatKcA3
import Derived.Test.YtpgcmpbamlnkkaaGreatKcR1
import Derived.Test.YtpgcmpbamlnkkaaGreatKcG3
section
namespace Go.Proofs.YtpgcmpbamlnkkaaGreat
set_option linter.unusedSimpArgs false
set_option linter.unusedVariables false
open Go Go.RowKit
attribute [local irreducible] AL AD AW OpOk Le AC thenQ blockQ EndQ

/-! ### Fractions -/
theorem l01Divisor_ac (a b : Nat) (ha : a ≤ 1000000000000000000) (hb : b ≤ 1000000000000000000) : AC Tryz.prog 144 [I a, I b] H0 (I (Nat.gcd a b : Nat)) H0 := by
  refine AC.of_body 0 Tryz.func144 rfl (fun l h => absurd rfl h) (fun C hC => ?_)
  have hD : ∀ l, ¬ C.D0 l := fun l h => (hC l).1 h rfl
  simp only [startFr, Tryz.ntmps144, List.length_cons, List.length_nil, Nat.reduceAdd, Nat.reduceSub, List.replicate_succ, List.replicate_zero, List.cons_append, List.nil_append]
  repeat' (first | ((first | apply Ba | (apply Bb; (· rfl); (· rfl)) | (apply Bc; (· exact nxE)) | (apply Bd; (· rfl); (· rfl); (· exact nxE))); (· first | exact Ok.pe)) | ((first | apply Ca | (apply Cb; (· exact nxE))); (· first | exact Ok.e0)) | refine Sx ?_ | (refine Sy (fun h => ?_) (fun h => ?_) <;> try (exfalso; omega; done)) | refine Sz (fun h => ?_) (fun h => ?_))
  refine AW.loop (X := {p : Nat × Nat // Nat.gcd p.1 p.2 = Nat.gcd a b ∧ p.1 ≤ 1000000000000000000 ∧ p.2 ≤ 1000000000000000000}) (fun p => ⟨[I (p.1.1 : Nat), I (p.1.2 : Nat), Oo, Oo, Oo, Oo, Oo, Oo, Oo, Oo, Oo, Oo, Oo, Oo, Oo, Oo, Oo, Oo, Oo, Oo], heapL [], 900⟩) (fun p => p.1.2) ⟨(a, b), rfl, ha, hb⟩ ?_ (fun p => ?_)
  ·
    (apply Le.headZ [] rfl)
    all_goals (try dsimp only [srcs])
    (case' hfr | hob => (repeat' (first | refine La ?_ ?_ | exact Lc | refine Lo ?_ | refine ⟨⟨_, rfl, ?_⟩, ?_⟩ | refine Lx ?_)))
    all_goals (first | (rfl) | exact Ld)
  obtain ⟨⟨x, y⟩, hg, hx, hy⟩ := p
  simp only at hg hx hy ⊢
  by_cases h0 : 0 < y
  ·
    repeat' (first | ((first | apply Ba | (apply Bb; (· rfl); (· rfl)) | (apply Bc; (· exact nxE)) | (apply Bd; (· rfl); (· rfl); (· exact nxE))); (· first | exact Ok.rem rfl rfl rfl (by omega) | exact Ok.pe)) | ((first | apply Ca | (apply Cb; (· exact nxE))); (· first | exact Ok.e0)) | refine Sx ?_ | (refine Sy (fun h => ?_) (fun h => ?_) <;> try (exfalso; omega; done)) | refine Sz (fun h => ?_) (fun h => ?_))
    refine ⟨⟨(y, x % y), by rw [← hg, Nat.gcd_comm y (x % y), ← Nat.gcd_rec, Nat.gcd_comm], hy, by have := Nat.mod_lt x h0; simp only; omega⟩, ?_, by simp only; exact Nat.mod_lt x h0⟩
    (apply Le.headZ [] rfl)
    all_goals (try dsimp only [srcs])
    (case' hfr | hob => (repeat' (first | refine La ?_ ?_ | exact Lc | refine Lo ?_ | refine ⟨⟨_, rfl, ?_⟩, ?_⟩ | refine Lx ?_)))
    all_goals (first | (rfl) | exact Ld)
  ·
    obtain rfl : y = 0 := by omega
    rw [Nat.gcd_zero_right] at hg
    subst hg
    repeat' (first | ((first | apply Ba | (apply Bb; (· rfl); (· rfl)) | (apply Bc; (· exact nxE)) | (apply Bd; (· rfl); (· rfl); (· exact nxE))); (· first | exact Ok.pe)) | ((first | apply Ca | (apply Cb; (· exact nxE))); (· first | exact Ok.e0)) | refine Sx ?_ | (refine Sy (fun h => ?_) (fun h => ?_) <;> try (exfalso; omega; done)) | refine Sz (fun h => ?_) (fun h => ?_))
    refine Ya ?_
    (apply Le.headZ (hs := []) [] rfl)
    all_goals (try dsimp only [srcs])
    (case' hfr => (repeat' (first | refine La ?_ ?_ | exact Lc | refine Lo ?_ | refine ⟨⟨_, rfl, ?_⟩, ?_⟩ | refine Lx ?_)))
    all_goals (first | exact Ld | exact trivial | (rfl))
theorem redR_div {d m : Int} (hd : 0 ≤ d) (hm : 0 < m) : d.tdiv ((Nat.gcd d.toNat m.toNat : Nat) : Int) = (redR d m).1 ∧ m.tdiv ((Nat.gcd d.toNat m.toNat : Nat) : Int) = (redR d m).2 ∧ 0 < ((Nat.gcd d.toNat m.toNat : Nat) : Int) := by
  have e : Nat.gcd d.toNat m.toNat = Int.gcd d m := by
    unfold Int.gcd
    congr 1 <;> omega
  rw [e]
  refine ⟨Int.tdiv_eq_ediv_of_nonneg hd, Int.tdiv_eq_ediv_of_nonneg (Int.le_of_lt hm), (redR_ok (d := d) hm).2.2.2.2⟩
theorem l01Ratio_ac (d m : Int) (hd : 0 ≤ d ∧ d ≤ 1000000000000000) (hm : 0 < m ∧ m ≤ 1000000000000000) : AC Tryz.prog 75 [I d, I m] H0 (.agg [I (redR d m).1, I (redR d m).2]) H0 := by
  obtain ⟨e1, e2, e3⟩ := redR_div hd.1 hm.1
  have hG := l01Divisor_ac d.toNat m.toNat (by omega) (by omega)
  rw [Int.toNat_of_nonneg hd.1, Int.toNat_of_nonneg (Int.le_of_lt hm.1)] at hG
  rw [← e1, ← e2]
  generalize ((Nat.gcd d.toNat m.toNat : Nat) : Int) = g at *
  refine AC.of_body 0 Tryz.func75 rfl (fun l h => absurd rfl h) (fun C hC => ?_)
  have hD : ∀ l, ¬ C.D0 l := fun l h => (hC l).1 h rfl
  simp only [startFr, Tryz.ntmps75, List.length_cons, List.length_nil, Nat.reduceAdd, Nat.reduceSub, List.replicate_succ, List.replicate_zero, List.cons_append, List.nil_append]
  repeat' (first | ((first | apply Ba | (apply Bb; (· rfl); (· rfl)) | (apply Bc; (· exact nxE)) | (apply Bd; (· rfl); (· rfl); (· exact nxE))); (· first | exact Kz rfl rfl (hG) (Ad (Ad An)) | exact Ok.quo rfl rfl rfl (by omega) (by omega) (by omega) | exact Ok.pe)) | ((first | apply Ca | (apply Cb; (· exact nxE))); (· first | exact Ok.e0)) | refine Sx ?_ | (refine Sy (fun h => ?_) (fun h => ?_) <;> try (exfalso; omega; done)) | refine Sz (fun h => ?_) (fun h => ?_))
  (refine end1p (by first | exact .inl rfl | exact .inr rfl) rfl (by first | exact rT rfl | exact rCA rfl rfl rfl rfl (by simp) | exact rCC rfl rfl rfl rfl rfl) ?_ (Le.head ([]) (by first | exact fun l h => absurd h (hD l) | (intro l h; rcases hD l h with rfl; simp [tauL]) | (intro l h; rcases hD l h with rfl | rfl <;> simp [tauL]; done) | (intro l h; rcases hD l h with rfl | rfl | rfl <;> simp [tauL])) ?_ ?_ (by simp) (by simp) (by simp [AllP]) (n' := 1000)); (· rfl)) <;> (repeat' (first | exact trivial | exact ARs.nil | refine ARs.cons ?_ ?_ | exact AR.dead _ | exact AR.dd _ | exact AR.i (by (try dsimp only); omega) | exact AR.ptr _ _ _ _ (by simp [heapL, upd]) | exact AR.own _ _ _ _ (by simp [heapL, upd]) | refine AR.ownE _ _ _ ?_ (by simp [heapL, upd]) | refine ⟨⟨_, rfl, ?_⟩, ?_⟩ | exact ObA.data | refine ObA.box ?_ | refine ObA.frE ?_ | refine ObA.dataE ?_ | refine ARs.agg ?_ | refine ARs.tup ?_ | exact AR.clo' ARs.nil ARs.nil | exact AR.clo' ARs.nil (hca _ _)))
theorem redR_of_zero {xs : List Pl} {r : Int × Int} {c : List Nat} (h1 : 0 < r.2) (h2 : Int.gcd r.1 r.2 = 1) (hk : 0 < sumT xs c) (h : wgt xs r.1 r.2 c = 0) : redR (sumD xs c) (sumT xs c) = r := by
  obtain ⟨g1, g2, g3, g4, g5⟩ := redR_ok (d := sumD xs c) hk
  rw [wgt_sums] at h
  generalize (Int.gcd (sumD xs c) (sumT xs c) : Int) = g at g3 g4 g5
  generalize redR (sumD xs c) (sumT xs c) = s at *
  rw [← g3, ← g4] at h
  have e : g * (s.1 * r.2) = g * (r.1 * s.2) := by
    have e1 : r.2 * (g * s.1) = g * (s.1 * r.2) := by rw [Int.mul_left_comm, Int.mul_comm r.2]
    have e2 : r.1 * (g * s.2) = g * (r.1 * s.2) := by rw [Int.mul_left_comm]
    omega
  have e2 := Int.eq_of_mul_eq_mul_left (by omega) e
  obtain ⟨e3, e4⟩ := frac_eq g1 h1 g2 h2 e2
  exact Prod.ext e3 e4
/-! ### Live graphs -/
theorem live_of {n : Nat} {xs : List Pl} (hv : ∀ p ∈ xs, okPl n p) (hl : liveB n xs = true) : Live xs n := by
  have h1 := liveB_ord hv
  rw [hl] at h1
  obtain ⟨ord, ho⟩ := Option.isSome_iff_exists.1 h1.symm
  obtain ⟨_, h2, _⟩ := ord_idx ho
  refine ⟨fun i hi => okPl_at hv i hi, fun c u hc hw => walk_tok (pos := fun e => (ord.idxOf e.toNat : Int)) (fun i hi => (okPl_at hv i hi).2.2.2.1) (fun i hi hk => ?_) hc hw⟩
  have ⟨⟨g1, g2⟩, ⟨g3, g4⟩, _⟩ := okPl_at hv i hi
  have := h2 (plA xs i).t.toNat (plA xs i).f.toNat (by omega) (by omega) (by
    unfold wPl
    rw [List.any_eq_true]
    exact ⟨plA xs i, by unfold plA; rw [List.getElem?_eq_getElem hi]; exact List.getElem_mem hi, by simp [hk, Int.toNat_of_nonneg g1, Int.toNat_of_nonneg g3]⟩)
  omega
theorem Live.over {n : Nat} {xs : List Pl} (hl : Live xs n) {u1 u2 over : Int} {c : List Nat} (hc : Circ xs c) (hw : over < wgt xs u1 u2 c) : overC xs u1 u2 over n ≠ [] := overC_finds hc (hl.circ hc).1 hw
theorem Live.over0 {n : Nat} {xs : List Pl} (hl : Live xs n) : overC xs 0 1 (-1) n ≠ [] ↔ hasC xs := by
  constructor
  · intro h; exact ⟨_, (overC_sound h).1⟩
  · rintro ⟨c, hc⟩
    refine hl.over hc ?_
    rw [wgt_sums]
    have := (hl.circ hc).2.1.1
    omega
theorem Live.max_of {n : Nat} {xs : List Pl} (hl : Live xs n) (hn : n ≤ 10) {c : List Nat} (hc : Circ xs c) (h0 : overC xs (redR (sumD xs c) (sumT xs c)).1 (redR (sumD xs c) (sumT xs c)).2 0 n = []) : MaxR xs (redR (sumD xs c) (sumT xs c)) := by
  have hk := (hl.circ hc).2.2.1
  obtain ⟨_, ⟨g1, _⟩, g2⟩ := hl.red hn (hl.circ hc).1 hc.wk.lt hk
  refine ⟨g1, g2, fun c' hc' => ?_, c, hc, wgt_redR hk⟩
  apply Classical.byContradiction
  intro hlt
  exact hl.over hc' (by omega) h0
set_option maxHeartbeats 1000000 in
theorem l15Best_no (ev : Int) (n : Nat) (xs : List Pl) (hn : n ≤ 10) (hx : xs.length ≤ 1000) (hv : ∀ p ∈ xs, okPl n p) (hl : Live xs n) (hc : ¬ hasC xs) : AC Tryz.prog 73 [grD ev xs] H0 (.tup [IL [], Bo false]) H0 := by
  have h0 : overC xs 0 1 (-1) n = [] := Classical.byContradiction fun h => hc (hl.over0.1 h)
  have hO := l15Over_ac ev n xs 0 1 (-1) hn hx hv (by omega) (by omega)
  rw [h0] at hO
  refine AC.of_body 0 Tryz.func73 rfl (fun l h => absurd rfl h) (fun C hC => ?_)
  have hD : ∀ l, ¬ C.D0 l := fun l h => (hC l).1 h rfl
  simp only [startFr, Tryz.ntmps73, List.length_cons, List.length_nil, Nat.reduceAdd, Nat.reduceSub, List.replicate_succ, List.replicate_zero, List.cons_append, List.nil_append]
  repeat' (first | ((first | apply Ba | (apply Bb; (· rfl); (· rfl)) | (apply Bc; (· exact nxE)) | (apply Bd; (· rfl); (· rfl); (· exact nxE))); (· first | exact Kz rfl rfl (hO) (Aa (Ad (Ad An)) (Aa (Ad (Ad An)) (Ad An))) | exact Ok.pe)) | ((first | apply Ca | (apply Cb; (· exact nxE))); (· first | exact Ok.e0)) | refine Sx ?_ | (refine Sy (fun h => ?_) (fun h => ?_) <;> try (exfalso; omega; done)) | refine Sz (fun h => ?_) (fun h => ?_))
  refine AW.loop (X := Unit) (fun _ => ⟨[Oo, Bx 2 0, Oo, Oo, IL [], Oo, Oo, Oo, Oo, Oo, Oo, Oo, Oo, Oo, Oo, Oo, Oo, Oo, Oo, Oo, Oo, Oo, Oo, Oo, Oo, Oo, Oo, Oo, Oo, Oo, Oo, Oo, Oo, Oo], heapL [(⟨0, []⟩, ⟨0, []⟩, ⟨2, [[I ev, PL xs]]⟩)], 900⟩) (fun _ => 0) () ?_ (fun _ => ?_)
  ·
    (apply Le.headZ [_] rfl)
    all_goals (try dsimp only [srcs])
    (case' hfr | hob => (repeat' (first | refine La ?_ ?_ | exact Lc | refine Lo ?_ | refine ⟨⟨_, rfl, ?_⟩, ?_⟩ | refine Lx ?_)))
    all_goals (first | (rfl) | exact Ld)
  ·
    repeat' (first | ((first | apply Ba | (apply Bb; (· rfl); (· rfl)) | (apply Bc; (· exact nxE)) | (apply Bd; (· rfl); (· rfl); (· exact nxE))); (· first | exact Ok.pe)) | ((first | apply Ca | (apply Cb; (· exact nxE))); (· first | exact Ok.e0)) | refine Sx ?_ | (refine Sy (fun h => ?_) (fun h => ?_) <;> try (exfalso; omega; done)) | refine Sz (fun h => ?_) (fun h => ?_))
    refine Yb ?_
    (apply Le.headZ (hs := []) [] rfl)
    all_goals (try dsimp only [srcs])
    (case' hfr => (repeat' (first | refine La ?_ ?_ | exact Lc | refine Lo ?_ | refine ⟨⟨_, rfl, ?_⟩, ?_⟩ | refine Lx ?_)))
    all_goals (first | exact Ld | exact trivial | (rfl))
set_option maxHeartbeats 2000000 in
theorem l15Best_yes (ev : Int) (n : Nat) (xs : List Pl) (hn : n ≤ 10) (hx : xs.length ≤ 1000) (hv : ∀ p ∈ xs, okPl n p) (hl : Live xs n) (hc : hasC xs) : AC Tryz.prog 73 [grD ev xs] H0 (.tup [IL (cN (overC xs (maxR xs).1 (maxR xs).2 (-1) n)), Bo true]) H0 := by
  have h0 := hl.over0.2 hc
  have hO := l15Over_ac ev n xs 0 1 (-1) hn hx hv (by omega) (by omega)
  refine AC.of_body 0 Tryz.func73 rfl (fun l h => absurd rfl h) (fun C hC => ?_)
  have hD : ∀ l, ¬ C.D0 l := fun l h => (hC l).1 h rfl
  simp only [startFr, Tryz.ntmps73, List.length_cons, List.length_nil, Nat.reduceAdd, Nat.reduceSub, List.replicate_succ, List.replicate_zero, List.cons_append, List.nil_append]
  repeat' (first | ((first | apply Ba | (apply Bb; (· rfl); (· rfl)) | (apply Bc; (· exact nxE)) | (apply Bd; (· rfl); (· rfl); (· exact nxE))); (· first | exact Kz rfl rfl (hO) (Aa (Ad (Ad An)) (Aa (Ad (Ad An)) (Ad An))) | exact Ok.pe)) | ((first | apply Ca | (apply Cb; (· exact nxE))); (· first | exact Ok.e0)) | refine Sx ?_ | (refine Sy (fun h => ?_) (fun h => ?_) <;> try (exfalso; omega; done)) | refine Sz (fun h => ?_) (fun h => ?_))
  refine AW.loop (X := {c : List Nat // Circ xs c}) (fun c => ⟨[Oo, Bx 2 0, Oo, Oo, IL (cN c.1), Oo, Oo, Oo, Oo, Oo, Oo, Oo, Oo, Oo, Oo, Oo, Oo, Oo, Oo, Oo, Oo, Oo, Oo, Oo, Oo, Oo, Oo, Oo, Oo, Oo, Oo, Oo, Oo, Oo], heapL [(⟨0, []⟩, ⟨0, []⟩, ⟨2, [[I ev, PL xs]]⟩)], 900⟩) (fun c => (1000000000000 - rank 1000 (redR (sumD xs c.1) (sumT xs c.1))).toNat) ⟨_, (overC_sound h0).1⟩ ?_ (fun c => ?_)
  ·
    (apply Le.headZ [_] rfl)
    all_goals (try dsimp only [srcs])
    (case' hfr | hob => (repeat' (first | refine La ?_ ?_ | exact Lc | refine Lo ?_ | refine ⟨⟨_, rfl, ?_⟩, ?_⟩ | refine Lx ?_)))
    all_goals (first | (rfl) | exact Ld)
  obtain ⟨c, hcc⟩ := c
  simp only
  obtain ⟨g1, ⟨g2, g3⟩, ⟨g4, g5⟩⟩ := hl.circ hcc
  obtain ⟨⟨r1, r2⟩, ⟨r3, r4⟩, r5⟩ := hl.red hn g1 hcc.wk.lt g4
  have hS := l15Sums_ac ev n xs c (by omega) hv hcc.wk.lt (by omega)
  have hR := l01Ratio_ac (sumD xs c) (sumT xs c) (by omega) (by omega)
  have hO1 := l15Over_ac ev n xs (redR (sumD xs c) (sumT xs c)).1 (redR (sumD xs c) (sumT xs c)).2 0 hn hx hv (by omega) (by omega)
  have hO2 := l15Over_ac ev n xs (redR (sumD xs c) (sumT xs c)).1 (redR (sumD xs c) (sumT xs c)).2 (-1) hn hx hv (by omega) (by omega)
  have hne : 0 < c.length := List.length_pos_iff.2 hcc.ne
  have hcl : (IR (cN c)).length = c.length := by simp
  by_cases hz : overC xs (redR (sumD xs c) (sumT xs c)).1 (redR (sumD xs c) (sumT xs c)).2 0 n = []
  · rw [maxR_eq hl (hl.max_of hn hcc hz)]
    rw [hz] at hO1
    generalize redR (sumD xs c) (sumT xs c) = r at *
    obtain ⟨q1, q2⟩ := r
    simp only at *
    repeat' (first | ((first | apply Ba | (apply Bb; (· rfl); (· rfl)) | (apply Bc; (· exact nxE)) | (apply Bd; (· rfl); (· rfl); (· exact nxE))); (· first | exact Kz rfl rfl (hS) (Aa (Ad (Ad An)) (Ad An)) | exact Kz rfl rfl (hR) (Ad (Ad An)) | exact Kz rfl rfl (hO1) (Aa (Ad (Ad An)) (Aa (Ad (Ad An)) (Ad An))) | exact Kz rfl rfl (hO2) (Aa (Ad (Ad An)) (Aa (Ad (Ad An)) (Ad An))) | exact Ok.pe)) | ((first | apply Ca | (apply Cb; (· exact nxE))); (· first | exact Ok.e0)) | refine Sx ?_ | (refine Sy (fun h => ?_) (fun h => ?_) <;> try (exfalso; omega; done)) | refine Sz (fun h => ?_) (fun h => ?_))
    refine Yb ?_
    (apply Le.headZ (hs := []) [] rfl)
    all_goals (try dsimp only [srcs])
    (case' hfr => (repeat' (first | refine La ?_ ?_ | exact Lc | refine Lo ?_ | refine ⟨⟨_, rfl, ?_⟩, ?_⟩ | refine Lx ?_)))
    all_goals (first | exact Ld | exact trivial | (rfl))
  · obtain ⟨s1, s2⟩ := overC_sound hz
    obtain ⟨k1, _, ⟨k4, k5⟩⟩ := hl.circ s1
    have hrank := rank_redR (M := 1000) (r := redR (sumD xs c) (sumT xs c)) (by omega) (by omega) k4 (by omega) s2
    have hsn := hl.red hn k1 s1.wk.lt k4
    have hup : rank 1000 (redR (sumD xs (overC xs (redR (sumD xs c) (sumT xs c)).1 (redR (sumD xs c) (sumT xs c)).2 0 n)) (sumT xs (overC xs (redR (sumD xs c) (sumT xs c)).1 (redR (sumD xs c) (sumT xs c)).2 0 n))) ≤ 100000 * 1000000 := by
      unfold rank
      refine Int.le_trans (Int.ediv_le_self _ (Int.mul_nonneg (by omega) (by omega))) ?_
      omega
    have hlen : 0 < (overC xs (redR (sumD xs c) (sumT xs c)).1 (redR (sumD xs c) (sumT xs c)).2 0 n).length := List.length_pos_iff.2 hz
    generalize overC xs (redR (sumD xs c) (sumT xs c)).1 (redR (sumD xs c) (sumT xs c)).2 0 n = nx at *
    have hrk : rank 1000 (redR (sumD xs c) (sumT xs c)) < rank 1000 (redR (sumD xs nx) (sumT xs nx)) := hrank
    have hnl : (IR (cN nx)).length = nx.length := by simp
    generalize redR (sumD xs c) (sumT xs c) = r at *
    obtain ⟨q1, q2⟩ := r
    simp only at *
    repeat' (first | ((first | apply Ba | (apply Bb; (· rfl); (· rfl)) | (apply Bc; (· exact nxE)) | (apply Bd; (· rfl); (· rfl); (· exact nxE))); (· first | exact Kz rfl rfl (hS) (Aa (Ad (Ad An)) (Ad An)) | exact Kz rfl rfl (hR) (Ad (Ad An)) | exact Kz rfl rfl (hO1) (Aa (Ad (Ad An)) (Aa (Ad (Ad An)) (Ad An))) | exact Ok.pe)) | ((first | apply Ca | (apply Cb; (· exact nxE))); (· first | exact Ok.e0)) | refine Sx ?_ | (refine Sy (fun h => ?_) (fun h => ?_) <;> try (exfalso; omega; done)) | refine Sz (fun h => ?_) (fun h => ?_))
    refine ⟨⟨nx, s1⟩, ?_, by simp only; omega⟩
    (apply Le.headZ [_] rfl)
    all_goals (try dsimp only [srcs])
    (case' hfr | hob => (repeat' (first | refine La ?_ ?_ | exact Lc | refine Lo ?_ | refine ⟨⟨_, rfl, ?_⟩, ?_⟩ | refine Lx ?_)))
    all_goals (first | (rfl) | exact Ld)
end Go.Proofs.YtpgcmpbamlnkkaaGreat
end

section
namespace Go.Proofs.YtpgcmpbamlnkkaaGreat
open Go Go.RowKit
set_option linter.unusedSimpArgs false
set_option linter.unusedVariables false
attribute [local irreducible] AL AD AW OpOk Le AC thenQ blockQ EndQ

end Go.Proofs.YtpgcmpbamlnkkaaGreat
end

section
namespace Go.Proofs.YtpgcmpbamlnkkaaGreat
set_option linter.unusedSimpArgs false
set_option linter.unusedVariables false
open Go Go.RowKit
attribute [local irreducible] AL AD AW OpOk Le AC thenQ blockQ EndQ

noncomputable def bcC (ev : Int) (xs : List Pl) : Int := open Classical in if liveI ev xs = 0 then (if hasC xs then 0 else 4) else liveI ev xs
noncomputable def bcL (ev : Int) (xs : List Pl) : List Nat := if bcC ev xs = 0 then overC xs (maxR xs).1 (maxR xs).2 (-1) ev.toNat else []
noncomputable def ctR (ev : Int) (xs : List Pl) : Int × Int := if bcC ev xs = 0 then maxR xs else (0, 0)
theorem live_ok {ev : Int} {xs : List Pl} (h : liveI ev xs = 0) : ∃ n : Nat, ev = n ∧ 1 ≤ n ∧ n ≤ 10 ∧ xs.length ≤ 30 ∧ (∀ p ∈ xs, okPl n p) ∧ Live xs n := by
  unfold liveI at h
  by_cases hg : isEG ev xs = true
  · obtain ⟨n, rfl, h1, h2, h3, h4⟩ := isEG_ok hg
    rw [if_pos hg] at h
    cases hl : liveB n xs
    · rw [hl] at h; simp at h
    · exact ⟨n, rfl, h1, h2, h3, h4, live_of h4 hl⟩
  · rw [if_neg hg] at h; simp at h
theorem Live.isMax {n : Nat} {xs : List Pl} (hl : Live xs n) (hn : n ≤ 10) (hc : hasC xs) : MaxR xs (maxR xs) := by
  obtain ⟨c0, h0⟩ := hc
  have key : ∀ (m : Nat) (c : List Nat), Circ xs c → (1000000000000 - rank 1000 (redR (sumD xs c) (sumT xs c))).toNat ≤ m → ∃ r, MaxR xs r := by
    intro m
    induction m with
    | zero =>
      intro c hcc hm
      obtain ⟨g1, ⟨g2, g3⟩, ⟨g4, g5⟩⟩ := hl.circ hcc
      obtain ⟨⟨r1, r2⟩, ⟨r3, r4⟩, r5⟩ := hl.red hn g1 hcc.wk.lt g4
      have hup : rank 1000 (redR (sumD xs c) (sumT xs c)) ≤ 100000 * 1000000 := by
        unfold rank
        refine Int.le_trans (Int.ediv_le_self _ (Int.mul_nonneg (by omega) (by omega))) ?_
        omega
      omega
    | succ m ih =>
      intro c hcc hm
      obtain ⟨g1, ⟨g2, g3⟩, ⟨g4, g5⟩⟩ := hl.circ hcc
      obtain ⟨⟨r1, r2⟩, ⟨r3, r4⟩, r5⟩ := hl.red hn g1 hcc.wk.lt g4
      by_cases hz : overC xs (redR (sumD xs c) (sumT xs c)).1 (redR (sumD xs c) (sumT xs c)).2 0 n = []
      · exact ⟨_, hl.max_of hn hcc hz⟩
      · obtain ⟨s1, s2⟩ := overC_sound hz
        obtain ⟨k1, _, ⟨k4, k5⟩⟩ := hl.circ s1
        have hrank := rank_redR (M := 1000) (r := redR (sumD xs c) (sumT xs c)) (by omega) (by omega) k4 (by omega) s2
        exact ih _ s1 (by omega)
  obtain ⟨r, hr⟩ := key _ c0 h0 (Nat.le_refl _)
  rw [maxR_eq hl hr]
  exact hr
theorem Live.best {n : Nat} {xs : List Pl} (hl : Live xs n) (hn : n ≤ 10) (hc : hasC xs) : ∃ c, overC xs (maxR xs).1 (maxR xs).2 (-1) n = c ∧ Circ xs c ∧ redR (sumD xs c) (sumT xs c) = maxR xs := by
  have hm := hl.isMax hn hc
  obtain ⟨c, h1, h2⟩ := hm.eq
  obtain ⟨h3, h4⟩ := overC_sound (hl.over (u1 := (Go.Proofs.YtpgcmpbamlnkkaaGreat.maxR xs).1) (u2 := (Go.Proofs.YtpgcmpbamlnkkaaGreat.maxR xs).2) (over := -1) h1 (by omega))
  refine ⟨_, rfl, h3, ?_⟩
  have := hm.le _ h3
  exact redR_of_zero hm.pos hm.red (hl.circ h3).2.2.1 (by omega)
set_option maxHeartbeats 1000000 in
theorem BestCircuit_ac (ev : Int) (xs : List Pl) (hx : xs.length ≤ 100000000) : AC Tryz.prog 13 [grD ev xs] H0 (.tup [IL (cN (bcL ev xs)), I (bcC ev xs)]) H0 := by
  have hL := l12Live_ac ev xs hx
  by_cases h0 : liveI ev xs = 0
  · obtain ⟨n, rfl, h1, h2, h3, h4, h5⟩ := live_ok h0
    rw [h0] at hL
    by_cases hc : hasC xs
    · have hC : bcC n xs = 0 := by unfold bcC; rw [if_pos h0, if_pos hc]
      unfold bcL
      rw [hC, if_pos rfl, Int.toNat_natCast]
      have hB := l15Best_yes n n xs h2 (by omega) h4 h5 hc
      generalize overC xs (maxR xs).1 (maxR xs).2 (-1) n = c at hB
      refine AC.of_body 0 Tryz.func13 rfl (fun l h => absurd rfl h) (fun C hC => ?_)
      have hD : ∀ l, ¬ C.D0 l := fun l h => (hC l).1 h rfl
      simp only [startFr, Tryz.ntmps13, List.length_cons, List.length_nil, Nat.reduceAdd, Nat.reduceSub, List.replicate_succ, List.replicate_zero, List.cons_append, List.nil_append]
      repeat' (first | ((first | apply Ba | (apply Bb; (· rfl); (· rfl)) | (apply Bc; (· exact nxE)) | (apply Bd; (· rfl); (· rfl); (· exact nxE))); (· first | exact Kz rfl rfl (hL) (Aa (Ad (Ad An)) An) | exact Kz rfl rfl (hB) (Aa (Ad (Ad An)) An) | exact Ok.pe)) | ((first | apply Ca | (apply Cb; (· exact nxE))); (· first | exact Ok.e0)) | refine Sx ?_ | (refine Sy (fun h => ?_) (fun h => ?_) <;> try (exfalso; omega; done)) | refine Sz (fun h => ?_) (fun h => ?_))
      refine Yb ?_
      (apply Le.headZ (hs := []) [] rfl)
      all_goals (try dsimp only [srcs])
      (case' hfr => (repeat' (first | refine La ?_ ?_ | exact Lc | refine Lo ?_ | refine ⟨⟨_, rfl, ?_⟩, ?_⟩ | refine Lx ?_)))
      all_goals (first | exact Ld | exact trivial | (rfl))
    · have hC : bcC n xs = 4 := by unfold bcC; rw [if_pos h0, if_neg hc]
      unfold bcL
      rw [hC, if_neg (by decide)]
      have hB := l15Best_no n n xs h2 (by omega) h4 h5 hc
      refine AC.of_body 0 Tryz.func13 rfl (fun l h => absurd rfl h) (fun C hC => ?_)
      have hD : ∀ l, ¬ C.D0 l := fun l h => (hC l).1 h rfl
      simp only [startFr, Tryz.ntmps13, List.length_cons, List.length_nil, Nat.reduceAdd, Nat.reduceSub, List.replicate_succ, List.replicate_zero, List.cons_append, List.nil_append]
      repeat' (first | ((first | apply Ba | (apply Bb; (· rfl); (· rfl)) | (apply Bc; (· exact nxE)) | (apply Bd; (· rfl); (· rfl); (· exact nxE))); (· first | exact Kz rfl rfl (hL) (Aa (Ad (Ad An)) An) | exact Kz rfl rfl (hB) (Aa (Ad (Ad An)) An) | exact Ok.pe)) | ((first | apply Ca | (apply Cb; (· exact nxE))); (· first | exact Ok.e0)) | refine Sx ?_ | (refine Sy (fun h => ?_) (fun h => ?_) <;> try (exfalso; omega; done)) | refine Sz (fun h => ?_) (fun h => ?_))
      refine Yb ?_
      (apply Le.headZ (hs := []) [] rfl)
      all_goals (try dsimp only [srcs])
      (case' hfr => (repeat' (first | refine La ?_ ?_ | exact Lc | refine Lo ?_ | refine ⟨⟨_, rfl, ?_⟩, ?_⟩ | refine Lx ?_)))
      all_goals (first | exact Ld | exact trivial | (rfl))
  · have hC : bcC ev xs = liveI ev xs := by unfold bcC; rw [if_neg h0]
    unfold bcL
    rw [hC, if_neg h0]
    refine AC.of_body 0 Tryz.func13 rfl (fun l h => absurd rfl h) (fun C hC => ?_)
    have hD : ∀ l, ¬ C.D0 l := fun l h => (hC l).1 h rfl
    simp only [startFr, Tryz.ntmps13, List.length_cons, List.length_nil, Nat.reduceAdd, Nat.reduceSub, List.replicate_succ, List.replicate_zero, List.cons_append, List.nil_append]
    repeat' (first | ((first | apply Ba | (apply Bb; (· rfl); (· rfl)) | (apply Bc; (· exact nxE)) | (apply Bd; (· rfl); (· rfl); (· exact nxE))); (· first | exact Kz rfl rfl (hL) (Aa (Ad (Ad An)) An) | exact Ok.pe)) | ((first | apply Ca | (apply Cb; (· exact nxE))); (· first | exact Ok.e0)) | refine Sx ?_ | (refine Sy (fun h => ?_) (fun h => ?_) <;> try (exfalso; omega; done)) | refine Sz (fun h => ?_) (fun h => ?_))
    refine Yb ?_
    (apply Le.headZ (hs := []) [] rfl)
    all_goals (try dsimp only [srcs])
    (case' hfr => (repeat' (first | refine La ?_ ?_ | exact Lc | refine Lo ?_ | refine ⟨⟨_, rfl, ?_⟩, ?_⟩ | refine Lx ?_)))
    all_goals (first | exact Ld | exact trivial | (rfl))
set_option maxHeartbeats 1000000 in
theorem sCycleTime_ac (ev : Int) (xs : List Pl) (hx : xs.length ≤ 100000000) : AC Tryz.prog 15 [grD ev xs] H0 (.tup [.agg [I (ctR ev xs).1, I (ctR ev xs).2], I (bcC ev xs)]) H0 := by
  have hB := BestCircuit_ac ev xs hx
  unfold bcL at hB
  unfold ctR
  by_cases hC : bcC ev xs = 0
  · have h0 : liveI ev xs = 0 := by
      unfold bcC at hC
      by_cases h : liveI ev xs = 0
      · exact h
      · rw [if_neg h] at hC; exact hC
    have hc : hasC xs := by
      unfold bcC at hC
      rw [if_pos h0] at hC
      exact Classical.byContradiction fun h => by rw [if_neg h] at hC; exact absurd hC (by decide)
    obtain ⟨n, rfl, h1, h2, h3, h4, h5⟩ := live_ok h0
    obtain ⟨c, e1, e2, e3⟩ := h5.best h2 hc
    rw [if_pos hC, hC]
    rw [if_pos hC, hC, Int.toNat_natCast, e1] at hB
    obtain ⟨g1, ⟨g2, g3⟩, ⟨g4, g5⟩⟩ := h5.circ e2
    have hS := l15Sums_ac n n xs c (by omega) h4 e2.wk.lt (by omega)
    have hR := l01Ratio_ac (sumD xs c) (sumT xs c) (by omega) (by omega)
    rw [e3] at hR
    generalize maxR xs = r at *
    refine AC.of_body 0 Tryz.func15 rfl (fun l h => absurd rfl h) (fun C hC => ?_)
    have hD : ∀ l, ¬ C.D0 l := fun l h => (hC l).1 h rfl
    simp only [startFr, Tryz.ntmps15, List.length_cons, List.length_nil, Nat.reduceAdd, Nat.reduceSub, List.replicate_succ, List.replicate_zero, List.cons_append, List.nil_append]
    repeat' (first | ((first | apply Ba | (apply Bb; (· rfl); (· rfl)) | (apply Bc; (· exact nxE)) | (apply Bd; (· rfl); (· rfl); (· exact nxE))); (· first | exact Kz rfl rfl (hB) (Aa (Ad (Ad An)) An) | exact Kz rfl rfl (hS) (Aa (Ad (Ad An)) (Ad An)) | exact Kz rfl rfl (hR) (Ad (Ad An)) | exact Ok.pe)) | ((first | apply Ca | (apply Cb; (· exact nxE))); (· first | exact Ok.e0)) | refine Sx ?_ | (refine Sy (fun h => ?_) (fun h => ?_) <;> try (exfalso; omega; done)) | refine Sz (fun h => ?_) (fun h => ?_))
    refine Yb ?_
    (apply Le.headZ (hs := []) [] rfl)
    all_goals (try dsimp only [srcs])
    (case' hfr => (repeat' (first | refine La ?_ ?_ | exact Lc | refine Lo ?_ | refine ⟨⟨_, rfl, ?_⟩, ?_⟩ | refine Lx ?_)))
    all_goals (first | exact Ld | exact trivial | (rfl))
  · rw [if_neg hC]
    rw [if_neg hC] at hB
    refine AC.of_body 0 Tryz.func15 rfl (fun l h => absurd rfl h) (fun C hC => ?_)
    have hD : ∀ l, ¬ C.D0 l := fun l h => (hC l).1 h rfl
    simp only [startFr, Tryz.ntmps15, List.length_cons, List.length_nil, Nat.reduceAdd, Nat.reduceSub, List.replicate_succ, List.replicate_zero, List.cons_append, List.nil_append]
    repeat' (first | ((first | apply Ba | (apply Bb; (· rfl); (· rfl)) | (apply Bc; (· exact nxE)) | (apply Bd; (· rfl); (· rfl); (· exact nxE))); (· first | exact Kz rfl rfl (hB) (Aa (Ad (Ad An)) An) | exact Ok.pe)) | ((first | apply Ca | (apply Cb; (· exact nxE))); (· first | exact Ok.e0)) | refine Sx ?_ | (refine Sy (fun h => ?_) (fun h => ?_) <;> try (exfalso; omega; done)) | refine Sz (fun h => ?_) (fun h => ?_))
    refine Yb ?_
    (apply Le.headZ (hs := []) [] rfl)
    all_goals (try dsimp only [srcs])
    (case' hfr => (repeat' (first | refine La ?_ ?_ | exact Lc | refine Lo ?_ | refine ⟨⟨_, rfl, ?_⟩, ?_⟩ | refine Lx ?_)))
    all_goals (first | exact Ld | exact trivial | (rfl))
/-! ### Chapter 27 -/
end Go.Proofs.YtpgcmpbamlnkkaaGreat
end

section
namespace Go.Proofs.YtpgcmpbamlnkkaaGreat
set_option linter.unusedSimpArgs false
set_option linter.unusedVariables false
open Go Go.RowKit
attribute [local irreducible] AL AD AW OpOk Le AC thenQ blockQ EndQ

abbrev srcO (code : List Int) (s : Src) : AObj := dobj 3 (srcR code s)
abbrev PO (xs : List Pl) : AObj := dobj 4 (xs.map Pl.row)
theorem next_ex {code : List Int} (hc : CodeOk code) {s : Src} (hs : SrcOk code s) (n : Int) : ∃ a s', 0 ≤ a ∧ a ≤ max (n - 1) 0 ∧ SrcOk code s' ∧ nxt code s n = (a, s') ∧ AC Tryz.prog 69 [Bx 3 0, I n] (srcH code s) (I a) (srcH code s') :=
  ⟨(nxt code s n).1, (nxt code s n).2, (nxt_ok hc hs n).1, (nxt_ok hc hs n).2.1, (nxt_ok hc hs n).2.2, rfl, l01Next_ac code hc s hs n⟩
theorem pick_ex {code : List Int} (hc : CodeOk code) {s : Src} (hs : SrcOk code s) (xs : List Int) (n : Int) (hn : (xs.length : Int) = n) (h0 : 0 < xs.length := by simp) (hx : xs.length ≤ 100 := by simp) :
    ∃ v s', v ∈ xs ∧ SrcOk code s' ∧ pick code s xs = v ∧ (nxt code s n).2 = s' ∧ AC Tryz.prog 108 [Bx 3 0, .own 1 ⟨1, []⟩ 0 xs.length] (upd (upd H0 ⟨1, []⟩ (some (IO xs))) ⟨0, []⟩ (some (dobj 3 (srcR code s)))) (I v) (srcH code s') := by
  subst hn
  refine ⟨pick code s xs, (nxt code s xs.length).2, ?_, (nxt_ok hc hs _).2.2, rfl, rfl, l01Pick_ac code hc s hs xs h0 hx⟩
  obtain ⟨b1, b2, b3⟩ := nxt_ok hc hs xs.length
  unfold pick
  rw [List.getElem?_eq_getElem (by omega), Option.getD_some]
  exact List.getElem_mem _
def itr {S : Type} (f : S → S) : Nat → S → S
  | 0, s => s
  | n + 1, s => f (itr f n s)
theorem itr_ok {S : Type} {f : S → S} {p : Nat → S → Prop} {s : S} (h0 : p 0 s) (h : ∀ k x, p k x → p (k + 1) (f x)) : ∀ n, p n (itr f n s)
  | 0 => h0
  | n + 1 => h n _ (itr_ok h0 h n)
/-- A place drawn. -/
def drPl (code : List Int) (ev : Int) (s : Src) : Pl × Src :=
  let a := nxt code s ev
  let b := nxt code a.2 ev
  let d := nxt code b.2 12
  let q := nxt code d.2 4
  let t := if b.1 ≤ a.1 then d.2 else q.2
  let x := nxt code t 2
  let y := nxt code x.2 3
  let k : Int × Src := if b.1 ≤ a.1 ∨ q.1 = 0 then (1 + x.1 * y.1, y.2) else (0, t)
  let z := nxt code k.2 30
  (⟨a.1, b.1, d.1, if z.1 = 0 then 0 else k.1⟩, z.2)
abbrev RSt := Src × List Pl
def drF (code : List Int) (ev : Int) (q : RSt) : RSt := ((drPl code ev q.1).2, q.2 ++ [(drPl code ev q.1).1])
/-- Places one behind the other: at most 31. -/
def drMany (code : List Int) : Nat → Nat → RSt → RSt
  | 0, _, q => q
  | f + 1, k, q => if (k : Int) < 22 + (nxt code q.1 9).1 then drMany code f (k + 1) ((nxt code q.1 9).2, q.2 ++ [⟨0, 0, k, 1⟩]) else ((nxt code q.1 9).2, q.2)
structure DrG where
  ev : Int
  xs : List Pl
  s : Src
def drEnd (code : List Int) (ev : Int) (q : RSt) : DrG :=
  let z := nxt code q.1 60
  let a := nxt code z.2 3
  if z.1 = 0 then ⟨pick code z.2 [0, 10, 11], q.2, a.2⟩
  else if z.1 = 1 then ⟨ev, q.2 ++ [⟨pick code z.2 [-1, 0, ev], 0, pick code a.2 [-1, 1000, 1001], 1⟩], (nxt code a.2 3).2⟩
  else if z.1 = 2 then ⟨ev, q.2 ++ [⟨0, 0, 0, pick code z.2 [5, 6, -1]⟩], a.2⟩
  else if z.1 = 3 then ⟨ev, (drMany code 31 0 (z.2, q.2)).2, (drMany code 31 0 (z.2, q.2)).1⟩
  else ⟨ev, q.2, z.2⟩
def dr11 (code : List Int) (s : Src) : DrG :=
  let e := nxt code s 5
  let n := nxt code e.2 9
  drEnd code (1 + e.1) (itr (drF code (1 + e.1)) n.1.toNat (n.2, []))
/-! ### Their sizes -/
structure DrPl (p : Pl) : Prop where
  f : -1 ≤ p.f ∧ p.f ≤ 100
  t : -1 ≤ p.t ∧ p.t ≤ 100
  d : -1 ≤ p.d ∧ p.d ≤ 1001
  k : -1 ≤ p.k ∧ p.k ≤ 6
structure RStOk (code : List Int) (m : Nat) (q : RSt) : Prop where
  s : SrcOk code q.1
  xs : ∀ p ∈ q.2, DrPl p
  len : q.2.length ≤ m
theorem RStOk.app {code : List Int} {m : Nat} {q : RSt} {p : Pl} {s : Src} (h : RStOk code m q) (hp : DrPl p) (hs : SrcOk code s) : RStOk code (m + 1) (s, q.2 ++ [p]) :=
  ⟨hs, fun p' hp' => by
    rcases List.mem_append.1 hp' with h' | h'
    · exact h.xs p' h'
    · simp at h'; subst h'; exact hp, by have := h.len; simp; omega⟩
theorem drPl_ok {code : List Int} (hc : CodeOk code) {s : Src} (hs : SrcOk code s) {ev : Int} (he : ev ≤ 100) : DrPl (drPl code ev s).1 ∧ SrcOk code (drPl code ev s).2 := by
  obtain ⟨a1, a2, a3⟩ := nxt_ok hc hs ev
  obtain ⟨b1, b2, b3⟩ := nxt_ok hc a3 ev
  obtain ⟨d1, d2, d3⟩ := nxt_ok hc b3 12
  obtain ⟨q1, q2, q3⟩ := nxt_ok hc d3 4
  have ht : SrcOk code (if (nxt code (nxt code s ev).2 ev).1 ≤ (nxt code s ev).1 then (nxt code (nxt code (nxt code s ev).2 ev).2 12).2 else (nxt code (nxt code (nxt code (nxt code s ev).2 ev).2 12).2 4).2) := by split <;> assumption
  obtain ⟨x1, x2, x3⟩ := nxt_ok hc ht 2
  obtain ⟨y1, y2, y3⟩ := nxt_ok hc x3 3
  unfold drPl
  simp only
  generalize (nxt code (if (nxt code (nxt code s ev).2 ev).1 ≤ (nxt code s ev).1 then (nxt code (nxt code (nxt code s ev).2 ev).2 12).2 else (nxt code (nxt code (nxt code (nxt code s ev).2 ev).2 12).2 4).2) 2) = X at *
  generalize (nxt code X.2 3) = Y at *
  have hxy : 0 ≤ X.1 * Y.1 ∧ X.1 * Y.1 ≤ 2 := by
    have e1 : X.1 ≤ 1 := by omega
    have e2 : Y.1 ≤ 2 := by omega
    have := Int.mul_nonneg x1 y1
    have := Int.mul_le_mul_of_nonneg_right e1 y1
    omega
  generalize X.1 * Y.1 = m at *
  split
  · obtain ⟨z1, z2, z3⟩ := nxt_ok hc y3 30
    exact ⟨⟨by simp only; omega, by simp only; omega, by simp only; omega, by simp only; split <;> omega⟩, z3⟩
  · obtain ⟨z1, z2, z3⟩ := nxt_ok hc ht 30
    exact ⟨⟨by simp only; omega, by simp only; omega, by simp only; omega, by simp only; split <;> omega⟩, z3⟩
theorem drF_ok {code : List Int} (hc : CodeOk code) {ev : Int} (he : ev ≤ 100) {m : Nat} {q : RSt} (h : RStOk code m q) : RStOk code (m + 1) (drF code ev q) :=
  h.app (drPl_ok hc h.s he).1 (drPl_ok hc h.s he).2
theorem drMany_ok {code : List Int} (hc : CodeOk code) : ∀ (f k : Nat) (q : RSt) (m : Nat), f + k = 31 → RStOk code m q → RStOk code (m + f) (drMany code f k q)
  | 0, k, q, m, _, h => h
  | f + 1, k, q, m, hk, h => by
    obtain ⟨a1, a2, a3⟩ := nxt_ok hc h.s 9
    unfold drMany
    split
    · have := drMany_ok hc f (k + 1) ((nxt code q.1 9).2, q.2 ++ [⟨0, 0, k, 1⟩]) (m + 1) (by omega) (h.app ⟨by simp, by simp, by simp only; omega, by simp⟩ a3)
      rwa [show m + 1 + f = m + (f + 1) by omega] at this
    · exact ⟨a3, h.xs, by have := h.len; simp only; omega⟩
theorem pick_mem {code : List Int} (hc : CodeOk code) {s : Src} (hs : SrcOk code s) {xs : List Int} (h0 : 0 < xs.length) : pick code s xs ∈ xs := by
  obtain ⟨b1, b2, b3⟩ := nxt_ok hc hs xs.length
  unfold pick
  rw [List.getElem?_eq_getElem (by omega), Option.getD_some]
  exact List.getElem_mem _
structure DrOk (code : List Int) (g : DrG) : Prop where
  ev : 0 ≤ g.ev ∧ g.ev ≤ 11
  xs : ∀ p ∈ g.xs, DrPl p
  len : g.xs.length ≤ 40
  s : SrcOk code g.s
theorem drEnd_ok {code : List Int} (hc : CodeOk code) {ev : Int} (he : 0 ≤ ev ∧ ev ≤ 5) {q : RSt} (h : RStOk code 8 q) : DrOk code (drEnd code ev q) := by
  obtain ⟨z1, z2, z3⟩ := nxt_ok hc h.s 60
  obtain ⟨y1, y2, y3⟩ := nxt_ok hc z3 3
  obtain ⟨x1, x2, x3⟩ := nxt_ok hc y3 3
  have hl := h.len
  unfold drEnd
  simp only
  split
  · have := pick_mem hc z3 (xs := [0, 10, 11]) (by simp)
    simp at this
    exact ⟨by simp only; omega, h.xs, by simp only; omega, y3⟩
  · split
    · have h1 := pick_mem hc z3 (xs := [-1, 0, ev]) (by simp)
      have h2 := pick_mem hc y3 (xs := [-1, 1000, 1001]) (by simp)
      simp at h1 h2
      have := h.app (p := ⟨pick code (nxt code q.1 60).2 [-1, 0, ev], 0, pick code (nxt code (nxt code q.1 60).2 3).2 [-1, 1000, 1001], 1⟩) (s := (nxt code (nxt code (nxt code q.1 60).2 3).2 3).2) ⟨by simp only; omega, by simp, by simp only; omega, by simp⟩ x3
      exact ⟨by simp only; omega, this.xs, by have := this.len; simp only at this ⊢; omega, x3⟩
    · split
      · have h1 := pick_mem hc z3 (xs := [5, 6, -1]) (by simp)
        simp at h1
        have := h.app (p := ⟨0, 0, 0, pick code (nxt code q.1 60).2 [5, 6, -1]⟩) (s := (nxt code (nxt code q.1 60).2 3).2) ⟨by simp, by simp, by simp, by simp only; omega⟩ y3
        exact ⟨by simp only; omega, this.xs, by have := this.len; simp only at this ⊢; omega, y3⟩
      · split
        · have := drMany_ok hc 31 0 ((nxt code q.1 60).2, q.2) 8 rfl ⟨z3, h.xs, hl⟩
          exact ⟨by simp only; omega, this.xs, by have := this.len; simp only; omega, this.s⟩
        · exact ⟨by simp only; omega, h.xs, by simp only; omega, z3⟩
theorem drI_ok {code : List Int} (hc : CodeOk code) {ev : Int} (he : ev ≤ 100) {s : Src} (hs : SrcOk code s) (n : Nat) : RStOk code n (itr (drF code ev) n (s, [])) :=
  itr_ok (p := fun k q => RStOk code k q) ⟨hs, by simp, by simp⟩ (fun k x h => drF_ok hc he h) n
theorem dr11_ok {code : List Int} (hc : CodeOk code) {s : Src} (hs : SrcOk code s) : DrOk code (dr11 code s) := by
  obtain ⟨e1, e2, e3⟩ := nxt_ok hc hs 5
  obtain ⟨n1, n2, n3⟩ := nxt_ok hc e3 9
  have h := drI_ok hc (ev := 1 + (nxt code s 5).1) (by omega) n3 (nxt code (nxt code s 5).2 9).1.toNat
  exact drEnd_ok hc (by omega) ⟨h.s, h.xs, by have := h.len; omega⟩
end Go.Proofs.YtpgcmpbamlnkkaaGreat
end

section
namespace Go.Proofs.YtpgcmpbamlnkkaaGreat
set_option linter.unusedSimpArgs false
set_option linter.unusedVariables false
open Go Go.RowKit
attribute [local irreducible] AL AD AW OpOk Le AC thenQ blockQ EndQ

section
variable {P : Program} {o : Oper} {A : Operand → AV} {H : Heap} {new : Nat}
theorem Ok.bs3 {t e : TypeId} {k b : Nat} {z : Value} {x y w : Operand} {n1 n2 n3 : Int} (ho : o.op = .buildSlice t 3 #[(0, x), (1, y), (2, w)]) [h : TySlice P t e k b z] (hx : A x = I n1) (hy : A y = I n2) (hw : A w = I n3) (hk : k = 1) :
    OpOk P o A [] H new (.own k ⟨new, []⟩ 0 3) [.one ⟨new, []⟩ (some (IO [n1, n2, n3]))] := by
  subst hk
  have := OpOk.buildSlice (P := P) (H := H) (new := new) (A := A) [x, y, w] ho rfl rfl (by decide) (by intro p hp; simp at hp; rcases hp with rfl | rfl | rfl <;> simp only [hx, hy, hw] <;> rfl) (by intro p hp; simp at hp; rcases hp with rfl | rfl | rfl <;> simp only [hx, hy, hw] <;> rfl)
  simpa [hx, hy, hw, AV.cells, dobj] using this
/-- The draw of a number. -/
theorem Nx {fo x y : Operand} {ts : Array TypeId} {f : FuncId} {code : List Int} {s s' : Src} {n a : Int} (hc : AC P f [Bx 3 0, I n] (srcH code s) (I a) (srcH code s')) (ho : o.op = .call { callee := .value fo, args := #[x, y], argTypes := ts }) [FnBody P f] (hfo : A fo = .clo (.func f) [] [])
    (hx : A x = Bx 3 0) (hy : A y = I n) (hl : H ⟨0, []⟩ = some (srcO code s)) : OpOk P o A [⟨0, []⟩] H new (I a) [.one ⟨0, []⟩ (some (srcO code s'))] :=
  OpOk.callM (xs := [x, y]) ho hfo hc hl rfl (by
    show ARs _ _ _ _ _ [A x, A y]
    rw [hx, hy]; exact .cons (AR.ptr 3 ⟨0, []⟩ 0 0 rfl) (.cons (.dd _) .nil))
/-- One of some numbers. -/
theorem Kx {fo x y : Operand} {ts : Array TypeId} {f : FuncId} {code : List Int} {s s' : Src} {m : Nat} {xs : List Int} {a : Int} {l : Loc} (hc : AC P f [Bx 3 0, .own 1 ⟨1, []⟩ 0 m] (upd (upd H0 ⟨1, []⟩ (some (IO xs))) ⟨0, []⟩ (some (srcO code s))) (I a) (srcH code s')) (ho : o.op = .call { callee := .value fo, args := #[x, y], argTypes := ts }) [FnBody P f] (hfo : A fo = .clo (.func f) [] [])
    (hx : A x = Bx 3 0) (hy : A y = .own 1 l 0 m) (hl : H ⟨0, []⟩ = some (srcO code s)) (hl2 : H l = some (IO xs)) (hne : (⟨0, []⟩ : Loc) ≠ l) : OpOk P o A [⟨0, []⟩, l] H new (I a) [.one l none, .one ⟨0, []⟩ (some (srcO code s'))] :=
  OpOk.callM2 (xs := [x, y]) ho hfo hc hl hl2 hne rfl (by
    show ARs _ _ _ _ _ [A x, A y]
    rw [hx, hy]
    refine .cons ?_ (.cons ?_ .nil)
    · have := AR.ptr (H := H) (lent := fun _ => False) (τ := two ⟨0, []⟩ l) (L := (· ∈ [(⟨0, []⟩ : Loc), ⟨1, []⟩])) 3 ⟨0, []⟩ 0 0 (by simp)
      rwa [show two ⟨0, []⟩ l ⟨0, []⟩ = ⟨0, []⟩ from if_pos rfl] at this
    · have := AR.own (H := H) (lent := fun _ => False) (τ := two ⟨0, []⟩ l) (L := (· ∈ [(⟨0, []⟩ : Loc), ⟨1, []⟩])) 1 ⟨1, []⟩ 0 m (by simp)
      rwa [show two ⟨0, []⟩ l ⟨1, []⟩ = l from if_neg (by decide)] at this)
end
set_option maxHeartbeats 2000000 in
theorem l11Draw_ac (code : List Int) (hc : CodeOk code) (s : Src) (hs : SrcOk code s) : AC Tryz.prog 160 [Bx 3 0] (srcH code s) (.agg [I (dr11 code s).ev, .own 4 ⟨1, []⟩ 0 (dr11 code s).xs.length]) (heapL [(⟨0, []⟩, ⟨0, []⟩, srcO code (dr11 code s).s), (⟨1, []⟩, ⟨1, []⟩, PO (dr11 code s).xs)]) := by
  unfold dr11
  obtain ⟨e, s1, e1, e2, h1, q1, N1⟩ := next_ex hc hs 5
  rw [q1]; simp only
  obtain ⟨m, s2, m1, m2, h2, q2, N2⟩ := next_ex hc h1 9
  rw [q2]; simp only
  obtain ⟨n, rfl⟩ : ∃ n : Nat, m = n := ⟨m.toNat, by omega⟩
  rw [Int.toNat_natCast]
  have hF := drI_ok hc (ev := 1 + e) (by omega) h2 n
  generalize hqF : itr (drF code (1 + e)) n (s2, []) = qF at hF
  show AC _ _ _ (heapL [(⟨0, []⟩, ⟨0, []⟩, srcO code s)]) _ _
  refine AC.of_body 1 Tryz.func160 rfl (fun l h => by simp [heapL, upd] at h; simp [h]) (fun C hC => ?_)
  simp only [startFr, Tryz.ntmps160, List.length_cons, List.length_nil, Nat.reduceAdd, Nat.reduceSub, List.replicate_succ, List.replicate_zero, List.cons_append, List.nil_append]
  have hD : ∀ l, C.D0 l → l = ⟨0, []⟩ := fun l h => by have := (hC l).1 h; simp [heapL, upd] at this; exact this
  repeat' (first | ((first | apply Ba | (apply Bb; (· rfl); (· rfl)) | (apply Bc; (· exact nxE)) | (apply Bd; (· rfl); (· rfl); (· exact nxE))); (· first | exact Nx N1 rfl rfl rfl rfl rfl | exact Nx N2 rfl rfl rfl rfl rfl | exact Ok.pe)) | ((first | apply Ca | (apply Cb; (· exact nxE))); (· first | exact Nx N1 rfl rfl rfl rfl rfl | exact Nx N2 rfl rfl rfl rfl rfl | exact Ok.e0)) | refine Sx ?_ | (refine Sy (fun h => ?_) (fun h => ?_) <;> try (exfalso; omega; done)) | refine Sz (fun h => ?_) (fun h => ?_))
  refine AW.loop (X := {k : Nat // k ≤ n}) (fun k => ⟨[Bx 3 0, Oo, Bx 2 1, Bx 2 2, I ((n : Int) - (k.1 : Nat)), Oo, Oo, Oo, Oo, Oo, Oo, Oo, Oo, Oo, Oo, Oo, Oo, Oo, Oo, Oo, Oo, Oo, Oo, Oo, Oo, Oo, Oo, Oo, Oo, Oo, Oo, Oo, Oo, Oo, Oo, Oo, Oo, Oo, Oo, Oo, Oo, Oo, Oo, Oo, Oo, Oo, Oo, Oo, Oo, Oo, Oo, Oo, Oo, Oo, Oo, Oo, Oo, Oo, Oo, Oo, Oo, Oo, Oo, Oo, Oo, Oo, Oo, Oo, Oo, Oo, Oo, Oo, Oo, Oo, Oo, Oo, Oo, Oo, Oo, Oo, Oo, Oo, Oo, Oo, Oo, Oo, Oo, Oo, Oo, Oo, Oo, Oo, Oo, Oo, Oo, Oo, Oo, Oo, Oo, Oo, Oo, Oo, Oo, Oo, Oo, Oo, Oo, Oo], heapL [(⟨0, []⟩, ⟨0, []⟩, srcO code (itr (drF code (1 + e)) k.1 (s2, [])).1), (⟨1, []⟩, ⟨1, []⟩, ⟨2, [[I 0, nilS]]⟩), (⟨2, []⟩, ⟨2, []⟩, ⟨2, [[I (1 + e), .own 4 ⟨3, []⟩ 0 (itr (drF code (1 + e)) k.1 (s2, [])).2.length]]⟩), (⟨3, []⟩, ⟨3, []⟩, PO (itr (drF code (1 + e)) k.1 (s2, [])).2)], 900⟩) (fun k => n - k.1) ⟨0, Nat.zero_le _⟩ ?_ (fun k => ?_)
  ·
    (apply Le.headZ [_, _, _, _] rfl)
    all_goals (try dsimp only [srcs])
    (case' hfr | hob => (repeat' (first | refine La ?_ ?_ | exact Lc | refine Lo ?_ | refine ⟨⟨_, rfl, ?_⟩, ?_⟩ | refine Lx ?_)))
    all_goals (first | (rfl) | exact Ld)
  obtain ⟨k, hk⟩ := k
  simp only
  by_cases hlt : k < n
  · have hI := drI_ok hc (ev := 1 + e) (by omega) h2 k
    have hst : itr (drF code (1 + e)) (k + 1) (s2, []) = drF code (1 + e) (itr (drF code (1 + e)) k (s2, [])) := rfl
    generalize itr (drF code (1 + e)) k (s2, []) = q at hI hst ⊢
    obtain ⟨s3, ys⟩ := q
    obtain ⟨i1, i2, i3⟩ := hI
    simp only at i1 i2 i3 ⊢
    obtain ⟨a, s4, a1, a2, h4, q4, N4⟩ := next_ex hc i1 (1 + e)
    obtain ⟨b, s5, b1, b2, h5, q5, N5⟩ := next_ex hc h4 (1 + e)
    obtain ⟨d, s6, d1, d2, h6, q6, N6⟩ := next_ex hc h5 12
    obtain ⟨f, s7, f1, f2, h7, q7, N7⟩ := next_ex hc h6 4
    obtain ⟨t, ht⟩ : ∃ t, t = if b ≤ a then s6 else s7 := ⟨_, rfl⟩
    have h8 : SrcOk code t := by rw [ht]; split <;> assumption
    obtain ⟨x, s9, x1, x2, h9, q9, N9⟩ := next_ex hc h8 2
    obtain ⟨y, s10, y1, y2, h10, q10, N10⟩ := next_ex hc h9 3
    have hxy : 0 ≤ x * y ∧ x * y ≤ 2 := by
      have e1 : x ≤ 1 := by omega
      have := Int.mul_nonneg x1 y1
      have := Int.mul_le_mul_of_nonneg_right e1 y1
      omega
    obtain ⟨u, hu⟩ : ∃ u, u = if b ≤ a ∨ f = 0 then s10 else t := ⟨_, rfl⟩
    have h11 : SrcOk code u := by rw [hu]; split <;> assumption
    obtain ⟨z, s12, z1, z2, h12, q12, N12⟩ := next_ex hc h11 30
    have hp : drPl code (1 + e) s3 = (⟨a, b, d, if z = 0 then 0 else if b ≤ a ∨ f = 0 then 1 + x * y else 0⟩, s12) := by
      have h20 : (if b ≤ a ∨ f = 0 then ((1 + x * y, s10) : Int × Src) else (0, t)) = (if b ≤ a ∨ f = 0 then 1 + x * y else 0, u) := by rw [hu]; split <;> rfl
      unfold drPl
      simp only [q4, q5, q6, q7, ← ht, q9, q10, h20, q12]
    have hst2 : itr (drF code (1 + e)) (k + 1) (s2, []) = (s12, ys ++ [⟨a, b, d, if z = 0 then 0 else if b ≤ a ∨ f = 0 then 1 + x * y else 0⟩]) := by
      rw [hst]; unfold drF; rw [hp]
    clear hst hp
    have hyl : (ys.map Pl.row).length = ys.length := List.length_map _
    have hcs : (t = s6 ∧ b ≤ a) ∨ (t = s7 ∧ ¬ b ≤ a) := by rw [ht]; by_cases hb : b ≤ a <;> simp [hb]
    have hcu : (u = s10 ∧ (b ≤ a ∨ f = 0)) ∨ (u = t ∧ ¬ (b ≤ a ∨ f = 0)) := by rw [hu]; by_cases hb : b ≤ a ∨ f = 0 <;> simp [hb]
    clear ht hu
    rcases hcs with ⟨rfl, hb1⟩ | ⟨rfl, hb1⟩ <;> rcases hcu with ⟨rfl, hb2⟩ | ⟨rfl, hb2⟩ <;> try (exfalso; omega; done)
    all_goals
      repeat' (first | ((first | apply Ba | (apply Bb; (· rfl); (· rfl)) | (apply Bc; (· exact nxE)) | (apply Bd; (· rfl); (· rfl); (· exact nxE))); (· first | exact Nx N4 rfl rfl rfl rfl rfl | exact Nx N5 rfl rfl rfl rfl rfl | exact Nx N6 rfl rfl rfl rfl rfl | exact Nx N7 rfl rfl rfl rfl rfl | exact Nx N9 rfl rfl rfl rfl rfl | exact Nx N10 rfl rfl rfl rfl rfl | exact Nx N12 rfl rfl rfl rfl rfl | exact Ok.append1 (row := [DI a, DI b, DI d, DI _]) rfl rfl (by decide) rfl rfl hyl rfl rfl rfl (by rfl) (by omega) (by omega) | exact Ok.pe)) | ((first | apply Ca | (apply Cb; (· exact nxE))); (· first | exact Nx N4 rfl rfl rfl rfl rfl | exact Nx N5 rfl rfl rfl rfl rfl | exact Nx N6 rfl rfl rfl rfl rfl | exact Nx N7 rfl rfl rfl rfl rfl | exact Nx N9 rfl rfl rfl rfl rfl | exact Nx N10 rfl rfl rfl rfl rfl | exact Nx N12 rfl rfl rfl rfl rfl | exact Ok.append1 (row := [DI a, DI b, DI d, DI _]) rfl rfl (by decide) rfl rfl hyl rfl rfl rfl (by rfl) (by omega) (by omega) | exact Ok.e0)) | refine Sx ?_ | (refine Sy (fun h => ?_) (fun h => ?_) <;> try (exfalso; omega; done)) | refine Sz (fun h => ?_) (fun h => ?_))
    all_goals
      refine ⟨⟨k + 1, by omega⟩, ?_, by simp only; omega⟩
      simp only [hst2]
      (apply Le.headZ [_, _, _, _] rfl)
      all_goals (try dsimp only [srcs])
      (case' hfr | hob => (repeat' (first | refine La ?_ ?_ | exact Lc | refine Lo ?_ | refine ⟨⟨_, rfl, ?_⟩, ?_⟩ | refine Lx ?_)))
      all_goals (first | ((simp [Pl.row, *]; done)) | exact Ld)
  · obtain rfl : k = n := by omega
    rw [hqF]
    obtain ⟨s3, ys⟩ := qF
    obtain ⟨i1, i2, i3⟩ := hF
    simp only at i1 i2 i3 ⊢
    have hyl : (ys.map Pl.row).length = ys.length := List.length_map _
    obtain ⟨z, s4, z1, z2, h4, q4, N4⟩ := next_ex hc i1 60
    obtain ⟨a1, s5, _, h5, p1, q5, K1⟩ := pick_ex hc h4 [0, 10, 11] 3 rfl
    obtain ⟨a2, s6, _, h6, p2, q6, K2⟩ := pick_ex hc h4 [-1, 0, 1 + e] 3 rfl
    obtain ⟨a4, s8, _, h8, p4, q8, K4⟩ := pick_ex hc h4 [5, 6, -1] 3 rfl
    obtain rfl : s5 = s6 := q5.symm.trans q6
    obtain rfl : s5 = s8 := q5.symm.trans q8
    obtain ⟨a3, s7, _, h7, p3, q7, K3⟩ := pick_ex hc h5 [-1, 1000, 1001] 3 rfl
    unfold drEnd
    simp only [q4, q5, q7, p1, p2, p3, p4]
    have hm := drMany_ok hc 31 0 (s4, ys) k (by omega) ⟨h4, i2, i3⟩
    obtain ⟨R, hR⟩ : ∃ R, R = drMany code 31 0 (s4, ys) := ⟨_, rfl⟩
    rw [← hR] at hm ⊢
    repeat' (first | ((first | apply Ba | (apply Bb; (· rfl); (· rfl)) | (apply Bc; (· exact nxE)) | (apply Bd; (· rfl); (· rfl); (· exact nxE))); (· first | exact Nx N4 rfl rfl rfl rfl rfl | exact Kx K1 rfl rfl rfl rfl rfl rfl (by decide) | exact Kx K2 rfl rfl rfl rfl rfl rfl (by decide) | exact Kx K3 rfl rfl rfl rfl rfl rfl (by decide) | exact Kx K4 rfl rfl rfl rfl rfl rfl (by decide) | exact Ok.bs3 rfl rfl rfl rfl rfl | exact Ok.append1 (row := [DI _, DI _, DI _, DI _]) rfl rfl (by decide) rfl rfl hyl rfl rfl rfl (by rfl) (by omega) (by omega) | exact Ok.pe)) | ((first | apply Ca | (apply Cb; (· exact nxE))); (· first | exact Nx N4 rfl rfl rfl rfl rfl | exact Kx K1 rfl rfl rfl rfl rfl rfl (by decide) | exact Kx K2 rfl rfl rfl rfl rfl rfl (by decide) | exact Kx K3 rfl rfl rfl rfl rfl rfl (by decide) | exact Kx K4 rfl rfl rfl rfl rfl rfl (by decide) | exact Ok.bs3 rfl rfl rfl rfl rfl | exact Ok.append1 (row := [DI _, DI _, DI _, DI _]) rfl rfl (by decide) rfl rfl hyl rfl rfl rfl (by rfl) (by omega) (by omega) | exact Ok.e0)) | refine Sx ?_ | (refine Sy (fun h => ?_) (fun h => ?_) <;> try (exfalso; omega; done)) | refine Sz (fun h => ?_) (fun h => ?_))
    rotate_left 3
    · rw [if_neg (by assumption), if_neg (by assumption), if_neg (by assumption), if_pos (by assumption)]
      refine AW.loop (X := {p : Nat × RSt // p.1 ≤ 30 ∧ drMany code (31 - p.1) p.1 p.2 = R ∧ RStOk code (k + p.1) p.2}) (fun p => ⟨[Bx 3 0, Oo, Bx 2 1, Bx 2 2, Oo, Oo, I p.1.1, Oo, Oo, Oo, Oo, Oo, Oo, Oo, Oo, Oo, Oo, Oo, Oo, Oo, Oo, Oo, Oo, Oo, Oo, Oo, Oo, Oo, Oo, Oo, Oo, Oo, Oo, Oo, Oo, Oo, Oo, Oo, Oo, Oo, Oo, Oo, Oo, Oo, Oo, Oo, Oo, Oo, Oo, Oo, Oo, Oo, Oo, Oo, Oo, Oo, Oo, Oo, Oo, Oo, Oo, Oo, Oo, Oo, Oo, Oo, Oo, Oo, Oo, Oo, Oo, Oo, Oo, Oo, Oo, Oo, Oo, Oo, Oo, Oo, Oo, Oo, Oo, Oo, Oo, Oo, Oo, Oo, Oo, Oo, Oo, Oo, Oo, Oo, Oo, Oo, Oo, Oo, Oo, Oo, Oo, Oo, Oo, Oo, Oo, Oo, Oo, Oo], heapL [(⟨0, []⟩, ⟨0, []⟩, srcO code p.1.2.1), (⟨1, []⟩, ⟨1, []⟩, ⟨2, [[I 0, nilS]]⟩), (⟨2, []⟩, ⟨2, []⟩, ⟨2, [[I (1 + e), .own 4 ⟨3, []⟩ 0 p.1.2.2.length]]⟩), (⟨3, []⟩, ⟨3, []⟩, PO p.1.2.2)], 900⟩) (fun p => 31 - p.1.1) ⟨(0, s4, ys), by simp, hR.symm, h4, i2, i3⟩ ?_ (fun p => ?_)
      ·
        (apply Le.headZ [_, _, _, _] rfl)
        all_goals (try dsimp only [srcs])
        (case' hfr | hob => (repeat' (first | refine La ?_ ?_ | exact Lc | refine Lo ?_ | refine ⟨⟨_, rfl, ?_⟩, ?_⟩ | refine Lx ?_)))
        all_goals (first | (rfl) | exact Ld)
      obtain ⟨⟨j, s10, us⟩, j1, j2, ⟨g1, g2, g3⟩⟩ := p
      simp only at j1 j2 g1 g2 g3 ⊢
      obtain ⟨y, s11, y1, y2, h11, q11, N11⟩ := next_ex hc g1 9
      have hul : (us.map Pl.row).length = us.length := List.length_map _
      by_cases hlt2 : (j : Int) < 22 + y
      · have hst : drMany code (31 - j) j (s10, us) = drMany code (31 - (j + 1)) (j + 1) (s11, us ++ [⟨0, 0, j, 1⟩]) := by
          rw [show 31 - j = (31 - (j + 1)) + 1 by omega, drMany]
          simp only [q11]
          rw [if_pos hlt2]
        rw [hst] at j2
        repeat' (first | ((first | apply Ba | (apply Bb; (· rfl); (· rfl)) | (apply Bc; (· exact nxE)) | (apply Bd; (· rfl); (· rfl); (· exact nxE))); (· first | exact Nx N11 rfl rfl rfl rfl rfl | exact Ok.append1 (row := [DI 0, DI 0, DI j, DI 1]) rfl rfl (by decide) rfl rfl hul rfl rfl rfl (by rfl) (by omega) (by omega) | exact Ok.pe)) | ((first | apply Ca | (apply Cb; (· exact nxE))); (· first | exact Nx N11 rfl rfl rfl rfl rfl | exact Ok.append1 (row := [DI 0, DI 0, DI j, DI 1]) rfl rfl (by decide) rfl rfl hul rfl rfl rfl (by rfl) (by omega) (by omega) | exact Ok.e0)) | refine Sx ?_ | (refine Sy (fun h => ?_) (fun h => ?_) <;> try (exfalso; omega; done)) | refine Sz (fun h => ?_) (fun h => ?_))
        refine ⟨⟨(j + 1, s11, us ++ [⟨0, 0, j, 1⟩]), by simp only; omega, j2, h11, fun p hp => ?_, by simp; omega⟩, ?_, by simp only; omega⟩
        · rcases List.mem_append.1 hp with h | h
          · exact g2 p h
          · simp at h; subst h; exact ⟨by simp, by simp, by simp only; omega, by simp⟩
        (apply Le.headZ [_, _, _, _] rfl)
        all_goals (try dsimp only [srcs])
        (case' hfr | hob => (repeat' (first | refine La ?_ ?_ | exact Lc | refine Lo ?_ | refine ⟨⟨_, rfl, ?_⟩, ?_⟩ | refine Lx ?_)))
        all_goals (first | ((simp [Pl.row, *]; done)) | exact Ld)
      · have hst : R = (s11, us) := by
          rw [← j2]
          rw [show 31 - j = (31 - (j + 1)) + 1 by omega, drMany]
          simp only [q11]
          rw [if_neg hlt2]
        rw [hst]
        repeat' (first | ((first | apply Ba | (apply Bb; (· rfl); (· rfl)) | (apply Bc; (· exact nxE)) | (apply Bd; (· rfl); (· rfl); (· exact nxE))); (· first | exact Nx N11 rfl rfl rfl rfl rfl | exact Ok.pe)) | ((first | apply Ca | (apply Cb; (· exact nxE))); (· first | exact Nx N11 rfl rfl rfl rfl rfl | exact Ok.e0)) | refine Sx ?_ | (refine Sy (fun h => ?_) (fun h => ?_) <;> try (exfalso; omega; done)) | refine Sz (fun h => ?_) (fun h => ?_))
        refine Ya ?_
        (apply Le.head [(⟨0, []⟩, ⟨0, []⟩, srcO code s11), (⟨1, []⟩, ⟨3, []⟩, PO us)])
        (case' hfr | hob => (repeat' (first | refine La ?_ ?_ | exact Lc | refine Lo ?_ | refine ⟨⟨_, rfl, ?_⟩, ?_⟩ | refine Lx ?_)))
        all_goals (first | exact Ld | ((simp [Pl.row, *]; done)))
    rotate_left 1
    all_goals (first | rw [if_pos (by assumption)] | rw [if_neg (by assumption), if_pos (by assumption)] | rw [if_neg (by assumption), if_neg (by assumption), if_pos (by assumption)] | rw [if_neg (by assumption), if_neg (by assumption), if_neg (by assumption), if_neg (by assumption)])
    (·
      refine Ya ?_
      (apply Le.head [(⟨0, []⟩, ⟨0, []⟩, srcO code s5), (⟨1, []⟩, ⟨3, []⟩, PO ys)])
      (case' hfr | hob => (repeat' (first | refine La ?_ ?_ | exact Lc | refine Lo ?_ | refine ⟨⟨_, rfl, ?_⟩, ?_⟩ | refine Lx ?_)))
      all_goals (first | exact Ld | ((simp [Pl.row, *]; done))))
    (·
      refine Ya ?_
      (apply Le.head [(⟨0, []⟩, ⟨0, []⟩, srcO code s7), (⟨1, []⟩, ⟨920, []⟩, PO _)])
      (case' hfr | hob => (repeat' (first | refine La ?_ ?_ | exact Lc | refine Lo ?_ | refine ⟨⟨_, rfl, ?_⟩, ?_⟩ | refine Lx ?_)))
      all_goals (first | exact Ld | ((simp [Pl.row, *]; done))))
    (·
      refine Ya ?_
      (apply Le.head [(⟨0, []⟩, ⟨0, []⟩, srcO code s5), (⟨1, []⟩, ⟨917, []⟩, PO _)])
      (case' hfr | hob => (repeat' (first | refine La ?_ ?_ | exact Lc | refine Lo ?_ | refine ⟨⟨_, rfl, ?_⟩, ?_⟩ | refine Lx ?_)))
      all_goals (first | exact Ld | ((simp [Pl.row, *]; done))))
    (·
      refine Ya ?_
      (apply Le.head [(⟨0, []⟩, ⟨0, []⟩, srcO code s4), (⟨1, []⟩, ⟨3, []⟩, PO ys)])
      (case' hfr | hob => (repeat' (first | refine La ?_ ?_ | exact Lc | refine Lo ?_ | refine ⟨⟨_, rfl, ?_⟩, ?_⟩ | refine Lx ?_)))
      all_goals (first | exact Ld | ((simp [Pl.row, *]; done))))
end Go.Proofs.YtpgcmpbamlnkkaaGreat
end

section
namespace Go.Proofs.YtpgcmpbamlnkkaaGreat
set_option linter.unusedSimpArgs false
set_option linter.unusedVariables false
open Go Go.RowKit
attribute [local irreducible] AL AD AW OpOk Le AC thenQ blockQ EndQ

section
variable {P : Program} {o : Oper} {A : Operand → AV} {H : Heap} {new : Nat}
theorem Ok.bs4 {t e : TypeId} {k b : Nat} {z : Value} {x y w v : Operand} {n1 n2 n3 n4 : Int} (ho : o.op = .buildSlice t 4 #[(0, x), (1, y), (2, w), (3, v)]) [h : TySlice P t e k b z] (hx : A x = I n1) (hy : A y = I n2) (hw : A w = I n3) (hv : A v = I n4) (hk : k = 1) :
    OpOk P o A [] H new (.own k ⟨new, []⟩ 0 4) [.one ⟨new, []⟩ (some (IO [n1, n2, n3, n4]))] := by
  subst hk
  have := OpOk.buildSlice (P := P) (H := H) (new := new) (A := A) [x, y, w, v] ho rfl rfl (by decide) (by intro p hp; simp at hp; rcases hp with rfl | rfl | rfl | rfl <;> simp only [hx, hy, hw, hv] <;> rfl) (by intro p hp; simp at hp; rcases hp with rfl | rfl | rfl | rfl <;> simp only [hx, hy, hw, hv] <;> rfl)
  simpa [hx, hy, hw, hv, AV.cells, dobj] using this
/-- A draw that hands back data. -/
theorem Zx {fo x : Operand} {xs : List Operand} {ts : Array TypeId} {f : FuncId} {code : List Int} {s s' : Src} {args : List AV} {res : AV} (hc : AC P f (Bx 3 0 :: args) (srcH code s) res (srcH code s')) (ho : o.op = .call { callee := .value fo, args := (x :: xs).toArray, argTypes := ts }) [FnBody P f] (hfo : A fo = .clo (.func f) [] [])
    (hx : A x = Bx 3 0) (hl : H ⟨0, []⟩ = some (srcO code s)) (hy : ARs H (fun _ => False) (fun _ => ⟨0, []⟩) (· = ⟨0, []⟩) args (xs.map A)) (hres : ∀ g, rn g res = res) : OpOk P o A [⟨0, []⟩] H new res [.one ⟨0, []⟩ (some (srcO code s'))] :=
  OpOk.callMg ho hfo hc hl hres (by
    rw [List.append_nil]
    show ARs _ _ _ _ _ (A x :: xs.map A)
    rw [hx]; exact .cons (AR.ptr 3 ⟨0, []⟩ 0 0 rfl) hy)
/-- A draw that hands back a graph of its own. -/
theorem Gx {fo x : Operand} {ts : Array TypeId} {f : FuncId} {code : List Int} {s s' : Src} {ev : Int} {n : Nat} {ys : List Pl} (hc : AC P f [Bx 3 0] (srcH code s) (.agg [I ev, .own 4 ⟨1, []⟩ 0 n]) (heapL [(⟨0, []⟩, ⟨0, []⟩, srcO code s'), (⟨1, []⟩, ⟨1, []⟩, PO ys)])) (ho : o.op = .call { callee := .value fo, args := #[x], argTypes := ts }) [FnBody P f] (hfo : A fo = .clo (.func f) [] [])
    (hx : A x = Bx 3 0) (hl : H ⟨0, []⟩ = some (srcO code s)) : OpOk P o A [⟨0, []⟩] H new (.agg [I ev, .own 4 ⟨new, [1]⟩ 0 n]) [.all new (fun sub => heapX [(⟨new, [1]⟩, ⟨new, [1]⟩, PO ys)] [] ⟨new, sub⟩), .one ⟨0, []⟩ (some (srcO code s'))] :=
  OpOk.callMX (xs := [x]) [(⟨1, []⟩, ⟨1, []⟩, PO ys)] [] ho hfo hc hl (by
    show ARs _ _ _ _ _ [A x]
    rw [hx]; exact .cons (AR.ptr 3 ⟨0, []⟩ 0 0 rfl) .nil) ⟨⟨fun g => rnO_dobj _ _ _, by simp⟩, trivial⟩ trivial (by
    simp only [rn, List.map_cons, List.map_nil]
    rw [emb_one (by decide)]; rfl)
end
/-! ### A graph, sometimes with a dead cycle -/
theorem DrOk.st {code : List Int} {g : DrG} (h : DrOk code g) : RStOk code 40 (g.s, g.xs) := ⟨h.s, h.xs, h.len⟩
end Go.Proofs.YtpgcmpbamlnkkaaGreat
end

section
namespace Go.Proofs.YtpgcmpbamlnkkaaGreat
set_option linter.unusedSimpArgs false
set_option linter.unusedVariables false
open Go Go.RowKit
attribute [local irreducible] AL AD AW OpOk Le AC thenQ blockQ EndQ

end Go.Proofs.YtpgcmpbamlnkkaaGreat
end

section
namespace Go.Proofs.YtpgcmpbamlnkkaaGreat
set_option linter.unusedSimpArgs false
set_option linter.unusedVariables false
open Go Go.RowKit
attribute [local irreducible] AL AD AW OpOk Le AC thenQ blockQ EndQ

set_option maxHeartbeats 1000000 in
theorem l02Own_ac (t : List (List Int)) (hn : t.length ≤ 10000000) (hr : ∀ r ∈ t, r.length ≤ 100000000) : AC Tryz.prog 185 [TL t] H0 (own1 1 t.length) (hpM 1 (TR t)) := by
  refine AC.of_body 0 Tryz.func185 rfl (fun l h => absurd rfl h) (fun C hC => ?_)
  have hD : ∀ l, ¬ C.D0 l := fun l h => (hC l).1 h rfl
  simp only [startFr, Tryz.ntmps185, List.length_cons, List.length_nil, Nat.reduceAdd, Nat.reduceSub, List.replicate_succ, List.replicate_zero, List.cons_append, List.nil_append]
  repeat' (first | ((first | apply Ba | (apply Bb; (· rfl); (· rfl)) | (apply Bc; (· exact nxE)) | (apply Bd; (· rfl); (· rfl); (· exact nxE))); (· first | exact Ok.pe)) | ((first | apply Ca | (apply Cb; (· exact nxE))); (· first | exact Ok.e0)) | refine Sx ?_ | (refine Sy (fun h => ?_) (fun h => ?_) <;> try (exfalso; omega; done)) | refine Sz (fun h => ?_) (fun h => ?_))
  refine AW.loop (X := {k : Nat // k ≤ t.length}) (fun k => ⟨[TL t, Oo, Oo, .own 1 ⟨1, []⟩ 0 (k.1 : Nat), I (k.1 : Nat), Oo, Oo, Oo, Oo, Oo, Oo, Oo, Oo, Oo, Oo, Oo, Oo, Oo, Oo, Oo, Oo], heapX [] [mi1 ⟨1, []⟩ (TR (t.take k.1))], 900⟩) (fun k => t.length - k.1) ⟨0, Nat.zero_le _⟩ ?_ (fun k => ?_)
  ·
    (apply Le.headG [] [{ l := ⟨1, []⟩, k := 1, R := [], src := ⟨1, []⟩, base := ⟨1, []⟩ }] (fun _ => False))
    (case' hlen => rfl)
    (case' hms => rfl)
    all_goals (try dsimp only [srcs])
    (case' hfr | hob => (repeat' (first | refine La ?_ ?_ | exact Lc | refine Lo ?_ | refine ⟨⟨_, rfl, ?_⟩, ?_⟩ | refine Lx ?_)))
    (case' hok => first | exact ⟨MI.ok_same rfl (fun i x hx => by simp at hx), trivial⟩ | exact trivial)
    (case' hN => rfl)
    (case' hS => rfl)
    all_goals (first | exact Ld | (rfl))
  obtain ⟨k, hk⟩ := k
  simp only
  by_cases hlt : k < t.length
  · obtain ⟨r, hr1⟩ : ∃ r, t[k]? = some r := ⟨t[k], by simp⟩
    have hrow := TR_get hr1
    have htk : (TR (t.take k)).length = k := by simp; omega
    repeat' (first | ((first | apply Ba | (apply Bb; (· rfl); (· rfl)) | (apply Bc; (· exact nxE)) | (apply Bd; (· rfl); (· rfl); (· exact nxE))); (· first | exact Eo rfl rfl (l01Own_ac r (hr r (List.mem_of_getElem? hr1))) (Sd Sn) | exact Ok.appendT rfl rfl (by decide) rfl rfl rfl (by rw [outer_len, htk]; rfl) rfl rfl (by rfl) (by omega) (by omega) rfl | exact Ok.pe)) | ((first | apply Ca | (apply Cb; (· exact nxE))); (· first | exact Eo rfl rfl (l01Own_ac r (hr r (List.mem_of_getElem? hr1))) (Sd Sn) | exact Ok.appendT rfl rfl (by decide) rfl rfl rfl (by rw [outer_len, htk]; rfl) rfl rfl (by rfl) (by omega) (by omega) rfl | exact Ok.e0)) | refine Sx ?_ | (refine Sy (fun h => ?_) (fun h => ?_) <;> try (exfalso; omega; done)) | refine Sz (fun h => ?_) (fun h => ?_))
    refine ⟨⟨k + 1, by omega⟩, ?_, by simp only; omega⟩
    (apply Le.headG [] [{ l := ⟨1, []⟩, k := 1, R := TR (t.take (k + 1)), src := ⟨911, []⟩, base := ⟨1, []⟩, cut := k, ext := some ⟨909, [0]⟩ }] (fun _ => False))
    (case' hlen => rfl)
    (case' hms => rfl)
    all_goals (try dsimp only [srcs])
    (case' hfr | hob => (repeat' (first | refine La ?_ ?_ | exact Lc | refine Lo ?_ | refine ⟨⟨_, rfl, ?_⟩, ?_⟩ | refine Lx ?_)))
    (case' hok => first | exact ⟨MI.ok_app (TR_take hr1) htk IR_len rfl (Cg) rfl, trivial⟩ | exact trivial)
    (case' hN => rfl)
    (case' hS => rfl)
    all_goals (first | exact Ld | ((simp [AllP]; omega)))
  ·
    have hkn : k = t.length := by omega
    subst hkn
    rw [List.take_length]
    repeat' (first | ((first | apply Ba | (apply Bb; (· rfl); (· rfl)) | (apply Bc; (· exact nxE)) | (apply Bd; (· rfl); (· rfl); (· exact nxE))); (· first | exact Ok.pe)) | ((first | apply Ca | (apply Cb; (· exact nxE))); (· first | exact Ok.e0)) | refine Sx ?_ | (refine Sy (fun h => ?_) (fun h => ?_) <;> try (exfalso; omega; done)) | refine Sz (fun h => ?_) (fun h => ?_))
    refine Ya ?_
    (apply Le.headG [] [{ l := ⟨0, []⟩, k := 1, R := TR t, src := ⟨1, []⟩, base := ⟨1, []⟩ }] (fun _ => False))
    (case' hlen => rfl)
    (case' hms => rfl)
    all_goals (try dsimp only [srcs])
    (case' hfr | hob => (repeat' (first | refine La ?_ ?_ | exact Lc | refine Lo ?_ | refine ⟨⟨_, rfl, ?_⟩, ?_⟩ | refine Lx ?_)))
    (case' hok => first | exact ⟨MI.ok_same rfl (Cg), trivial⟩ | exact trivial)
    (case' hN => rfl)
    (case' hS => rfl)
    all_goals (first | exact Ld | (rfl))
end Go.Proofs.YtpgcmpbamlnkkaaGreat
end

section
namespace Go.Proofs.YtpgcmpbamlnkkaaGreat
set_option linter.unusedSimpArgs false
set_option linter.unusedVariables false
open Go Go.RowKit
attribute [local irreducible] AL AD AW OpOk Le AC thenQ blockQ EndQ

section
variable {P : Program} {o : Oper} {A : Operand → AV} {H : Heap} {new : Nat}
end
theorem cN_get {ord : List Nat} {J e : Nat} (h : ord[J]? = some e) : (IR (cN ord))[((J : Nat) : Int).toNat]? = some [DI (e : Int)] := IR_get (by simp [h])
end Go.Proofs.YtpgcmpbamlnkkaaGreat
end
