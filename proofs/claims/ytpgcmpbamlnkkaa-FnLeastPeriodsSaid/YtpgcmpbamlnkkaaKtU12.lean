/-
  Walks in the abstract reading, part 12.
-/
import Derived.Test.YtpgcmpbamlnkkaaKtU10
import Derived.Test.YtpgcmpbamlnkkaaKtU11
import Derived.Test.YtpgcmpbamlnkkaaKtU7
section
namespace Go.Proofs.Ytpgcmpbamlnkkaa
set_option linter.unusedSimpArgs false
set_option linter.unusedVariables false
open Go Go.RowKit
attribute [local irreducible] AL AD AW OpOk Le AC thenQ blockQ EndQ

theorem Ok.quoE {P : Program} {o : Oper} {A : Operand → AV} {H : Heap} {new : Nat} {t t' : TypeId} {x y : Operand} {a b c : Int} (ho : o.op = .binOp .quo t x y t') (hx : A x = I a) (hy : A y = I b) (he : a.tdiv b = c) (h : 0 < b) (h0 : -9223372036854775808 ≤ a) (h1 : a ≤ 9223372036854775807) : OpOk P o A [] H new (I c) [] := by
  subst he; exact Ok.quo ho hx hy h h0 h1
theorem tdiv_lo {a b : Int} (hb : 0 < b) (h : a.tmod b < 0) : a.tdiv b - 1 = a / b := by
  have e := Int.tmod_add_mul_tdiv a b
  have h2 : -b < a.tmod b := by
    have := Int.lt_tmod_of_pos a hb
    omega
  refine ((Int.ediv_emod_unique (r := a.tmod b + b) (q := a.tdiv b - 1) hb).2 ⟨?_, by omega, by omega⟩).1.symm
  rw [Int.mul_sub, Int.mul_one]
  omega
theorem tdiv_hi {a b : Int} (hb : 0 < b) (h : ¬ a.tmod b < 0) : a.tdiv b = a / b := by
  have e := Int.tmod_add_mul_tdiv a b
  have h2 := Int.tmod_lt_of_pos a hb
  exact ((Int.ediv_emod_unique (r := a.tmod b) (q := a.tdiv b) hb).2 ⟨by omega, by omega, by omega⟩).1.symm
theorem l01Floor_ac (a b : Int) (ha : -1000000000000 ≤ a ∧ a ≤ 1000000000000) (hb : 0 < b) : AC Try.prog 219 [I a, I b] H0 (I (a / b)) H0 := by
  have hq : -1000000000000 ≤ a / b ∧ a / b ≤ 1000000000000 := by
    constructor
    · exact (Int.le_ediv_iff_mul_le hb).2 (by
        have := Int.mul_le_mul_of_nonneg_left (show 1 ≤ b by omega) (show (0 : Int) ≤ 1000000000000 by decide)
        omega)
    · exact Int.le_trans (Int.ediv_le_ediv hb ha.2) (Int.ediv_le_self _ (by decide))
  by_cases h : a.tmod b < 0
  · have e := tdiv_lo hb h
    rw [← e] at hq ⊢
    refine AC.of_body 0 Try.func219 rfl (fun l h => absurd rfl h) (fun C hC => ?_)
    have hD : ∀ l, ¬ C.D0 l := fun l h => (hC l).1 h rfl
    simp only [startFr, Try.ntmps219, List.length_cons, List.length_nil, Nat.reduceAdd, Nat.reduceSub, List.replicate_succ, List.replicate_zero, List.cons_append, List.nil_append]
    repeat' (first | ((first | apply Ba | (apply Bb; (· rfl); (· rfl)) | (apply Bc; (· exact nxE)) | (apply Bd; (· rfl); (· rfl); (· exact nxE))); (· first | exact Ok.quo rfl rfl rfl hb (by omega) (by omega) | exact Ok.rem rfl rfl rfl (by omega) | exact Ok.pe)) | ((first | apply Ca | (apply Cb; (· exact nxE))); (· first | exact Ok.e0)) | refine Sx ?_ | (refine Sy (fun h => ?_) (fun h => ?_) <;> try (exfalso; omega; done)) | refine Sz (fun h => ?_) (fun h => ?_))
    all_goals
      refine Ya ?_
      (apply Le.headZ (hs := []) [] rfl)
      all_goals (try dsimp only [srcs])
      (case' hfr => (repeat' (first | refine La ?_ ?_ | exact Lc | refine Lo ?_ | refine ⟨⟨_, rfl, ?_⟩, ?_⟩ | refine Lx ?_)))
      all_goals (first | exact Ld | exact trivial | (rfl))
  · have e := tdiv_hi hb h
    rw [← e] at hq ⊢
    refine AC.of_body 0 Try.func219 rfl (fun l h => absurd rfl h) (fun C hC => ?_)
    have hD : ∀ l, ¬ C.D0 l := fun l h => (hC l).1 h rfl
    simp only [startFr, Try.ntmps219, List.length_cons, List.length_nil, Nat.reduceAdd, Nat.reduceSub, List.replicate_succ, List.replicate_zero, List.cons_append, List.nil_append]
    repeat' (first | ((first | apply Ba | (apply Bb; (· rfl); (· rfl)) | (apply Bc; (· exact nxE)) | (apply Bd; (· rfl); (· rfl); (· exact nxE))); (· first | exact Ok.quo rfl rfl rfl hb (by omega) (by omega) | exact Ok.rem rfl rfl rfl (by omega) | exact Ok.pe)) | ((first | apply Ca | (apply Cb; (· exact nxE))); (· first | exact Ok.e0)) | refine Sx ?_ | (refine Sy (fun h => ?_) (fun h => ?_) <;> try (exfalso; omega; done)) | refine Sz (fun h => ?_) (fun h => ?_))
    all_goals
      refine Ya ?_
      (apply Le.headZ (hs := []) [] rfl)
      all_goals (try dsimp only [srcs])
      (case' hfr => (repeat' (first | refine La ?_ ?_ | exact Lc | refine Lo ?_ | refine ⟨⟨_, rfl, ?_⟩, ?_⟩ | refine Lx ?_)))
      all_goals (first | exact Ld | exact trivial | (rfl))
theorem l01Ceil_ac (a b : Int) (ha : 0 ≤ a ∧ a ≤ 1000000000) (hb : 0 < b) : AC Try.prog 130 [I a, I b] H0 (I (-(-a / b))) H0 := by
  have hF := l01Floor_ac (-a) b (by omega) hb
  have hq : -1000000000 ≤ -a / b ∧ -a / b ≤ 0 := by
    constructor
    · exact (Int.le_ediv_iff_mul_le hb).2 (by
        have := Int.mul_le_mul_of_nonneg_left (show 1 ≤ b by omega) (show (0 : Int) ≤ 1000000000 by decide)
        omega)
    · exact Int.le_trans (Int.ediv_le_ediv hb (show -a ≤ 0 by omega)) (by simp)
  generalize -a / b = q at *
  refine AC.of_body 0 Try.func130 rfl (fun l h => absurd rfl h) (fun C hC => ?_)
  have hD : ∀ l, ¬ C.D0 l := fun l h => (hC l).1 h rfl
  simp only [startFr, Try.ntmps130, List.length_cons, List.length_nil, Nat.reduceAdd, Nat.reduceSub, List.replicate_succ, List.replicate_zero, List.cons_append, List.nil_append]
  repeat' (first | ((first | apply Ba | (apply Bb; (· rfl); (· rfl)) | (apply Bc; (· exact nxE)) | (apply Bd; (· rfl); (· rfl); (· exact nxE))); (· first | exact Kz rfl rfl (hF) (Ad (Ad An)) | exact Ok.pe)) | ((first | apply Ca | (apply Cb; (· exact nxE))); (· first | exact Ok.e0)) | refine Sx ?_ | (refine Sy (fun h => ?_) (fun h => ?_) <;> try (exfalso; omega; done)) | refine Sz (fun h => ?_) (fun h => ?_))
  refine Ya ?_
  (apply Le.headZ (hs := []) [] rfl)
  all_goals (try dsimp only [srcs])
  (case' hfr => (repeat' (first | refine La ?_ ?_ | exact Lc | refine Lo ?_ | refine ⟨⟨_, rfl, ?_⟩, ?_⟩ | refine Lx ?_)))
  all_goals (first | exact Ld | exact trivial | (rfl))
/-! ### The least period -/
def lpOk (xs : List Pl) (P : Int) : Prop := ∀ c, Circ xs c → sumD xs c ≤ P * sumT xs c
theorem lpOk_wgt {xs : List Pl} {P : Int} : lpOk xs P ↔ ∀ c, Circ xs c → wgt xs P 1 c ≤ 0 := by
  unfold lpOk
  constructor
  · intro h c hc; have := h c hc; rw [wgt_sums]; omega
  · intro h c hc; have := h c hc; rw [wgt_sums] at this; omega
theorem lpOk_over {n : Nat} {xs : List Pl} {P : Int} (hv : ∀ p ∈ xs, okPl n p) : overC xs P 1 0 n = [] ↔ lpOk xs P := by
  rw [lpOk_wgt]
  constructor
  · intro h c hc
    refine Classical.byContradiction fun hn => ?_
    exact overC_finds hc (hc.len fun i hi => (okPl_at hv i hi).1) (show 0 < wgt xs P 1 c by omega) h
  · intro h
    refine Classical.byContradiction fun hne => ?_
    obtain ⟨h1, h2⟩ := overC_sound hne
    have := h _ h1
    omega
theorem isEG_d {ev : Int} {xs : List Pl} (h : isEG ev xs = true) : ∀ i, i < xs.length → (plA xs i).d ≤ 1000 := fun i hi => by
  simp only [isEG, Bool.and_eq_true, decide_eq_true_eq, List.all_eq_true, wi_iff] at h
  have e : plA xs i = xs[i] := by simp [plA, hi]
  have := h.2 (plA xs i) (by rw [e]; exact List.getElem_mem hi)
  simp only [plB, Bool.and_eq_true, wi_iff] at this
  omega
theorem circ_sums {n : Nat} {xs : List Pl} (hg : isEG n xs = true) {c : List Nat} (hc : Circ xs c) : (0 ≤ sumD xs c ∧ sumD xs c ≤ 10000) ∧ (0 ≤ sumT xs c ∧ sumT xs c ≤ 50) := by
  obtain ⟨m, hm, _, hn, _, hv⟩ := isEG_ok hg
  have h1 := hc.len fun i hi => (okPl_at hv i hi).1
  have h2 := sum_bnd (D := 1000) (K := 5) (fun i hi => ⟨⟨(okPl_at hv i hi).2.2.1.1, isEG_d hg i hi⟩, (okPl_at hv i hi).2.2.2⟩) hc.wk.lt
  omega
theorem lpOk_mono {n : Nat} {xs : List Pl} (hg : isEG n xs = true) {P Q : Int} (h : lpOk xs P) (hPQ : P ≤ Q) : lpOk xs Q := fun c hc => by
  have h1 := h c hc
  have h2 := Int.mul_le_mul_of_nonneg_right hPQ (circ_sums hg hc).2.1
  omega
theorem nat_least {p : Nat → Prop} (n : Nat) : p n → ∃ m, p m ∧ ∀ q, p q → m ≤ q := by
  induction n using Nat.strongRecOn with
  | ind n ih =>
    intro h
    by_cases hq : ∃ q, q < n ∧ p q
    · obtain ⟨q, h1, h2⟩ := hq
      exact ih q h1 h2
    · exact ⟨n, h, fun q hq2 => Nat.le_of_not_lt fun hl => hq ⟨q, hl, hq2⟩⟩
theorem lpOk_top {n : Nat} {xs : List Pl} (hg : isEG n xs = true) {P : Int} (h : lpOk xs P) : lpOk xs 10000 := fun c hc => by
  have h1 := h c hc
  obtain ⟨h2, h3⟩ := circ_sums hg hc
  by_cases h0 : sumT xs c = 0
  · rw [h0] at h1 ⊢; omega
  · omega
noncomputable def lpN (xs : List Pl) : Nat := open Classical in if h : ∃ P : Nat, lpOk xs P ∧ ∀ Q : Nat, lpOk xs Q → P ≤ Q then Classical.choose h else 0
theorem lpN_ok {xs : List Pl} {P : Nat} (h : lpOk xs P) : lpOk xs (lpN xs) ∧ lpN xs ≤ P := by
  have he : ∃ P : Nat, lpOk xs P ∧ ∀ Q : Nat, lpOk xs Q → P ≤ Q := nat_least (p := fun P : Nat => lpOk xs P) P h
  unfold lpN
  rw [dif_pos he]
  exact ⟨(Classical.choose_spec he).1, (Classical.choose_spec he).2 P h⟩
noncomputable def lpC (ev : Int) (xs : List Pl) : Int := open Classical in if isEG ev xs = true then (if lpOk xs 10000 then 0 else 5) else 1
noncomputable def lpV (ev : Int) (xs : List Pl) : Int := if lpC ev xs = 0 then lpN xs else 0
theorem lp_inv {ev : Int} {xs : List Pl} (h : isEG ev xs = false) : lpC ev xs = 1 ∧ lpV ev xs = 0 := by
  have e : lpC ev xs = 1 := by unfold lpC; rw [h]; simp
  exact ⟨e, by unfold lpV; rw [e]; rfl⟩
theorem lp_no {ev : Int} {xs : List Pl} (h : isEG ev xs = true) (h2 : ¬ lpOk xs 10000) : lpC ev xs = 5 ∧ lpV ev xs = 0 := by
  have e : lpC ev xs = 5 := by unfold lpC; rw [if_pos h, if_neg h2]
  exact ⟨e, by unfold lpV; rw [e]; rfl⟩
theorem lp_yes {ev : Int} {xs : List Pl} (h : isEG ev xs = true) {P : Nat} (h2 : lpOk xs P) (h3 : ∀ Q : Nat, lpOk xs Q → P ≤ Q) : lpC ev xs = 0 ∧ lpV ev xs = P := by
  obtain ⟨n, rfl, g1, g2, g3, hv⟩ := isEG_ok h
  have e : lpC n xs = 0 := by unfold lpC; rw [if_pos h, if_pos (lpOk_top h h2)]
  refine ⟨e, ?_⟩
  unfold lpV
  rw [if_pos e]
  have h4 := lpN_ok h2
  have h5 := h3 _ h4.1
  omega
theorem lp_ok {ev : Int} {xs : List Pl} (h : lpC ev xs = 0) : ∃ n : Nat, ev = n ∧ 1 ≤ n ∧ n ≤ 10 ∧ xs.length ≤ 30 ∧ (∀ p ∈ xs, okPl n p) ∧ isEG n xs = true ∧ (0 ≤ lpV n xs ∧ lpV n xs ≤ 10000) ∧ lpOk xs (lpV n xs) ∧ ∀ Q : Int, 0 ≤ Q → lpOk xs Q → lpV n xs ≤ Q := by
  cases hg : isEG ev xs
  · rw [(lp_inv hg).1] at h; cases h
  obtain ⟨n, rfl, g1, g2, g3, hv⟩ := isEG_ok hg
  have ht : lpOk xs 10000 := Classical.byContradiction fun h2 => by rw [(lp_no hg h2).1] at h; cases h
  have h4 := lpN_ok (P := 10000) ht
  have e : lpV n xs = lpN xs := by unfold lpV; rw [if_pos h]
  refine ⟨n, rfl, g1, g2, g3, hv, hg, by omega, by rw [e]; exact h4.1, fun Q hQ hq => ?_⟩
  obtain ⟨q, rfl⟩ : ∃ q : Nat, Q = q := ⟨Q.toNat, by omega⟩
  have := (lpN_ok hq).2
  omega
theorem ceil_up {d m P : Int} (hm : 0 < m) (h : P * m < d) : P < -(-d / m) := by
  have h1 : -d / m < -P := by
    rw [Int.ediv_lt_iff_lt_mul hm, Int.neg_mul]
    omega
  omega
theorem ceil_le {d m Q : Int} (hm : 0 < m) (h : d ≤ Q * m) : -(-d / m) ≤ Q := by
  have h1 : -Q ≤ -d / m := by
    rw [Int.le_ediv_iff_mul_le hm, Int.neg_mul]
    omega
  omega
set_option maxHeartbeats 4000000 in
theorem sLeastPeriod_ac (ev : Int) (xs : List Pl) (hx : xs.length ≤ 1000) : AC Try.prog 43 [grD ev xs] H0 (.tup [I (lpV ev xs), I (lpC ev xs)]) H0 := by
  have hE := sIsEventGraph_ac ev xs (by omega)
  cases hg : isEG ev xs
  · rw [hg] at hE
    obtain ⟨e1, e2⟩ := lp_inv hg
    rw [e1, e2]
    refine AC.of_body 0 Try.func43 rfl (fun l h => absurd rfl h) (fun C hC => ?_)
    have hD : ∀ l, ¬ C.D0 l := fun l h => (hC l).1 h rfl
    simp only [startFr, Try.ntmps43, List.length_cons, List.length_nil, Nat.reduceAdd, Nat.reduceSub, List.replicate_succ, List.replicate_zero, List.cons_append, List.nil_append]
    repeat' (first | ((first | apply Ba | (apply Bb; (· rfl); (· rfl)) | (apply Bc; (· exact nxE)) | (apply Bd; (· rfl); (· rfl); (· exact nxE))); (· first | exact Kz rfl rfl (hE) (Aa (Ad (Ad An)) An) | exact Ok.pe)) | ((first | apply Ca | (apply Cb; (· exact nxE))); (· first | exact Ok.e0)) | refine Sx ?_ | (refine Sy (fun h => ?_) (fun h => ?_) <;> try (exfalso; omega; done)) | refine Sz (fun h => ?_) (fun h => ?_))
    refine Yb ?_
    (apply Le.headZ (hs := []) [] rfl)
    all_goals (try dsimp only [srcs])
    (case' hfr => (repeat' (first | refine La ?_ ?_ | exact Lc | refine Lo ?_ | refine ⟨⟨_, rfl, ?_⟩, ?_⟩ | refine Lx ?_)))
    all_goals (first | exact Ld | exact trivial | (rfl))
  rw [hg] at hE
  obtain ⟨n, rfl, g1, g2, g3, hv⟩ := isEG_ok hg
  have hO := fun (P : Nat) (h : P ≤ 10000) => l15Over_ac n n xs P 1 0 g2 (by omega) hv (by omega) (by omega)
  refine AC.of_body 0 Try.func43 rfl (fun l h => absurd rfl h) (fun C hC => ?_)
  have hD : ∀ l, ¬ C.D0 l := fun l h => (hC l).1 h rfl
  simp only [startFr, Try.ntmps43, List.length_cons, List.length_nil, Nat.reduceAdd, Nat.reduceSub, List.replicate_succ, List.replicate_zero, List.cons_append, List.nil_append]
  repeat' (first | ((first | apply Ba | (apply Bb; (· rfl); (· rfl)) | (apply Bc; (· exact nxE)) | (apply Bd; (· rfl); (· rfl); (· exact nxE))); (· first | exact Kz rfl rfl (hE) (Aa (Ad (Ad An)) An) | exact Ok.pe)) | ((first | apply Ca | (apply Cb; (· exact nxE))); (· first | exact Ok.e0)) | refine Sx ?_ | (refine Sy (fun h => ?_) (fun h => ?_) <;> try (exfalso; omega; done)) | refine Sz (fun h => ?_) (fun h => ?_))
  refine AW.loop (X := {P : Nat // P ≤ 10000 ∧ ∀ Q : Nat, lpOk xs Q → P ≤ Q}) (fun P => ⟨[Oo, Bx 2 0, Oo, Oo, I (P.1 : Nat), Oo, Oo, Oo, Oo, Oo, Oo, Oo, Oo, Oo, Oo, Oo, Oo, Oo, Oo, Oo, Oo, Oo, Oo, Oo, Oo, Oo, Oo, Oo, Oo, Oo, Oo, Oo], heapL [(⟨0, []⟩, ⟨0, []⟩, ⟨2, [[I n, PL xs]]⟩)], 900⟩) (fun P => 10000 - P.1) ⟨0, Nat.zero_le _, fun Q _ => Nat.zero_le _⟩ ?_ (fun P => ?_)
  ·
    (apply Le.headZ [_] rfl)
    all_goals (try dsimp only [srcs])
    (case' hfr | hob => (repeat' (first | refine La ?_ ?_ | exact Lc | refine Lo ?_ | refine ⟨⟨_, rfl, ?_⟩, ?_⟩ | refine Lx ?_)))
    all_goals (first | (rfl) | exact Ld)
  obtain ⟨P, hP, hmin⟩ := P
  simp only
  have hQ := hO P hP
  clear hO
  by_cases hb : overC xs (P : Nat) 1 0 n = []
  · obtain ⟨e1, e2⟩ := lp_yes hg ((lpOk_over hv).1 hb) hmin
    rw [e1, e2]
    rw [hb, show cN [] = ([] : List Int) from rfl] at hQ
    repeat' (first | ((first | apply Ba | (apply Bb; (· rfl); (· rfl)) | (apply Bc; (· exact nxE)) | (apply Bd; (· rfl); (· rfl); (· exact nxE))); (· first | exact Kz rfl rfl (hQ) (Aa (Ad (Ad An)) (Aa (Ad (Ad An)) (Ad An))) | exact Ok.pe)) | ((first | apply Ca | (apply Cb; (· exact nxE))); (· first | exact Ok.e0)) | refine Sx ?_ | (refine Sy (fun h => ?_) (fun h => ?_) <;> try (exfalso; omega; done)) | refine Sz (fun h => ?_) (fun h => ?_))
    refine Yb ?_
    (apply Le.headZ (hs := []) [] rfl)
    all_goals (try dsimp only [srcs])
    (case' hfr => (repeat' (first | refine La ?_ ?_ | exact Lc | refine Lo ?_ | refine ⟨⟨_, rfl, ?_⟩, ?_⟩ | refine Lx ?_)))
    all_goals (first | exact Ld | exact trivial | (rfl))
  obtain ⟨hci, hw⟩ := overC_sound hb
  have hlen := hci.len fun i hi => (okPl_at hv i hi).1
  have hpos : 0 < (overC xs (P : Nat) 1 0 n).length := List.length_pos_iff.2 hb
  have hS := l15Sums_ac n n xs (overC xs (P : Nat) 1 0 n) (by omega) hv hci.wk.lt (by omega)
  obtain ⟨s1, s2⟩ := circ_sums hg hci
  rw [wgt_sums] at hw
  have hcl : (IR (cN (overC xs (P : Nat) 1 0 n))).length = (overC xs (P : Nat) 1 0 n).length := by simp
  have hall : ∀ Q : Int, lpOk xs Q → sumD xs (overC xs (P : Nat) 1 0 n) ≤ Q * sumT xs (overC xs (P : Nat) 1 0 n) := fun Q hq => hq _ hci
  clear hb hci
  generalize sumD xs (overC xs (P : Nat) 1 0 n) = d at *
  generalize sumT xs (overC xs (P : Nat) 1 0 n) = m at *
  generalize overC xs (P : Nat) 1 0 n = c at *
  by_cases hm : m = 0
  · subst hm
    have hno : ¬ lpOk xs 10000 := fun h => by have := hall _ h; omega
    obtain ⟨e1, e2⟩ := lp_no hg hno
    rw [e1, e2]
    repeat' (first | ((first | apply Ba | (apply Bb; (· rfl); (· rfl)) | (apply Bc; (· exact nxE)) | (apply Bd; (· rfl); (· rfl); (· exact nxE))); (· first | exact Kz rfl rfl (hQ) (Aa (Ad (Ad An)) (Aa (Ad (Ad An)) (Ad An))) | exact Ok.lenD rfl rfl hcl | exact Kz rfl rfl (hS) (Aa (Ad (Ad An)) (Ad An)) | exact Ok.pe)) | ((first | apply Ca | (apply Cb; (· exact nxE))); (· first | exact Ok.e0)) | refine Sx ?_ | (refine Sy (fun h => ?_) (fun h => ?_) <;> try (exfalso; omega; done)) | refine Sz (fun h => ?_) (fun h => ?_))
    refine Yb ?_
    (apply Le.headZ (hs := []) [] rfl)
    all_goals (try dsimp only [srcs])
    (case' hfr => (repeat' (first | refine La ?_ ?_ | exact Lc | refine Lo ?_ | refine ⟨⟨_, rfl, ?_⟩, ?_⟩ | refine Lx ?_)))
    all_goals (first | exact Ld | exact trivial | (rfl))
  · have hm0 : 0 < m := by omega
    have hC := l01Ceil_ac d m (by omega) hm0
    have hup := ceil_up hm0 (show (P : Int) * m < d by omega)
    have h5 := ceil_le hm0 (show d ≤ 10000 * m by omega)
    have h6 := fun (Q : Nat) (hq : lpOk xs Q) => ceil_le hm0 (hall Q hq)
    obtain ⟨R, hR⟩ : ∃ R : Nat, -(-d / m) = (R : Int) := ⟨(-(-d / m)).toNat, by omega⟩
    rw [hR] at hC hup h5
    have h7 : ∀ Q : Nat, lpOk xs Q → R ≤ Q := fun Q hq => by have := h6 Q hq; rw [hR] at this; omega
    clear h6 hall hmin
    have hK := hC
    clear hC
    repeat' (first | ((first | apply Ba | (apply Bb; (· rfl); (· rfl)) | (apply Bc; (· exact nxE)) | (apply Bd; (· rfl); (· rfl); (· exact nxE))); (· first | exact Kz rfl rfl (hQ) (Aa (Ad (Ad An)) (Aa (Ad (Ad An)) (Ad An))) | exact Ok.lenD rfl rfl hcl | exact Kz rfl rfl (hS) (Aa (Ad (Ad An)) (Ad An)) | exact Kz rfl rfl (hK) (Ad (Ad An)) | exact Ok.pe)) | ((first | apply Ca | (apply Cb; (· exact nxE))); (· first | exact Ok.e0)) | refine Sx ?_ | (refine Sy (fun h => ?_) (fun h => ?_) <;> try (exfalso; omega; done)) | refine Sz (fun h => ?_) (fun h => ?_))
    refine ⟨⟨R, by omega, h7⟩, ?_, by simp only; omega⟩
    (apply Le.headZ [_] rfl)
    all_goals (try dsimp only [srcs])
    (case' hfr | hob => (repeat' (first | refine La ?_ ?_ | exact Lc | refine Lo ?_ | refine ⟨⟨_, rfl, ?_⟩, ?_⟩ | refine Lx ?_)))
    all_goals (first | (rfl) | exact Ld)
set_option maxHeartbeats 4000000 in
theorem iLeastPeriod_ac (ev : Int) (xs : List Pl) (hx : xs.length ≤ 1000) : AC Try.prog 42 [grD ev xs] H0 (.tup [I (lpV ev xs), I (lpC ev xs)]) H0 := by
  have hE := iIsEventGraph_ac ev xs (by omega)
  cases hg : isEG ev xs
  · rw [hg] at hE
    obtain ⟨e1, e2⟩ := lp_inv hg
    rw [e1, e2]
    refine AC.of_body 0 Try.func42 rfl (fun l h => absurd rfl h) (fun C hC => ?_)
    have hD : ∀ l, ¬ C.D0 l := fun l h => (hC l).1 h rfl
    simp only [startFr, Try.ntmps42, List.length_cons, List.length_nil, Nat.reduceAdd, Nat.reduceSub, List.replicate_succ, List.replicate_zero, List.cons_append, List.nil_append]
    repeat' (first | ((first | apply Ba | (apply Bb; (· rfl); (· rfl)) | (apply Bc; (· exact nxE)) | (apply Bd; (· rfl); (· rfl); (· exact nxE))); (· first | exact Kz rfl rfl (hE) (Aa (Ad (Ad An)) An) | exact Ok.pe)) | ((first | apply Ca | (apply Cb; (· exact nxE))); (· first | exact Ok.e0)) | refine Sx ?_ | (refine Sy (fun h => ?_) (fun h => ?_) <;> try (exfalso; omega; done)) | refine Sz (fun h => ?_) (fun h => ?_))
    refine Yb ?_
    (apply Le.headZ (hs := []) [] rfl)
    all_goals (try dsimp only [srcs])
    (case' hfr => (repeat' (first | refine La ?_ ?_ | exact Lc | refine Lo ?_ | refine ⟨⟨_, rfl, ?_⟩, ?_⟩ | refine Lx ?_)))
    all_goals (first | exact Ld | exact trivial | (rfl))
  rw [hg] at hE
  obtain ⟨n, rfl, g1, g2, g3, hv⟩ := isEG_ok hg
  have hB := fun (P : Int) (h : 0 ≤ P ∧ P ≤ 100000) => better_cs n xs P g1 g2 g3 hv h
  rcases hB 10000 (by omega) with ⟨hb, hT⟩ | ⟨hb, L, l1, l2, hT⟩
  case inr =>
    obtain ⟨e1, e2⟩ := lp_no hg (fun h => hb ((lpOk_over hv).2 h))
    rw [e1, e2]
    refine AC.of_body 0 Try.func42 rfl (fun l h => absurd rfl h) (fun C hC => ?_)
    have hD : ∀ l, ¬ C.D0 l := fun l h => (hC l).1 h rfl
    simp only [startFr, Try.ntmps42, List.length_cons, List.length_nil, Nat.reduceAdd, Nat.reduceSub, List.replicate_succ, List.replicate_zero, List.cons_append, List.nil_append]
    repeat' (first | ((first | apply Ba | (apply Bb; (· rfl); (· rfl)) | (apply Bc; (· exact nxE)) | (apply Bd; (· rfl); (· rfl); (· exact nxE))); (· first | exact Kz rfl rfl (hE) (Aa (Ad (Ad An)) An) | exact Ok.neqNilO rfl rfl rfl (by omega) | exact Eo rfl rfl (hT) (Sa (Sd (Sd Sn)) (Sa (Sd (Sd Sn)) Sn)) | exact Ok.pe)) | ((first | apply Ca | (apply Cb; (· exact nxE))); (· first | exact Eo rfl rfl (hT) (Sa (Sd (Sd Sn)) (Sa (Sd (Sd Sn)) Sn)) | exact Ok.e0)) | refine Sx ?_ | (refine Sy (fun h => ?_) (fun h => ?_) <;> try (exfalso; omega; done)) | refine Sz (fun h => ?_) (fun h => ?_))
    refine Yb ?_
    (apply Le.headZ (hs := []) [] rfl)
    all_goals (try dsimp only [srcs])
    (case' hfr => (repeat' (first | refine La ?_ ?_ | exact Lc | refine Lo ?_ | refine ⟨⟨_, rfl, ?_⟩, ?_⟩ | refine Lx ?_)))
    all_goals (first | exact Ld | exact trivial | (rfl))
  have htop := (lpOk_over hv).1 hb
  refine AC.of_body 0 Try.func42 rfl (fun l h => absurd rfl h) (fun C hC => ?_)
  have hD : ∀ l, ¬ C.D0 l := fun l h => (hC l).1 h rfl
  simp only [startFr, Try.ntmps42, List.length_cons, List.length_nil, Nat.reduceAdd, Nat.reduceSub, List.replicate_succ, List.replicate_zero, List.cons_append, List.nil_append]
  repeat' (first | ((first | apply Ba | (apply Bb; (· rfl); (· rfl)) | (apply Bc; (· exact nxE)) | (apply Bd; (· rfl); (· rfl); (· exact nxE))); (· first | exact Kz rfl rfl (hE) (Aa (Ad (Ad An)) An) | exact Kz rfl rfl (hT) (Aa (Ad (Ad An)) (Aa (Ad (Ad An)) An)) | exact Ok.neqNilV rfl rfl rfl | exact Ok.pe)) | ((first | apply Ca | (apply Cb; (· exact nxE))); (· first | exact Ok.e0)) | refine Sx ?_ | (refine Sy (fun h => ?_) (fun h => ?_) <;> try (exfalso; omega; done)) | refine Sz (fun h => ?_) (fun h => ?_))
  refine AW.loop (X := {s : Nat × Nat // s.1 ≤ s.2 ∧ s.2 ≤ 10000 ∧ lpOk xs s.2 ∧ ∀ Q : Nat, lpOk xs Q → s.1 ≤ Q}) (fun s => ⟨[Oo, Bx 2 0, Oo, Oo, I (s.1.1 : Nat), I (s.1.2 : Nat), Oo, Oo, Oo, Oo, Oo, Oo, Oo, Oo, Oo, Oo, Oo, Oo, Oo, Oo, Oo, Oo, Oo, Oo, Oo, Oo, Oo, Oo, Oo, Oo, Oo], heapL [(⟨0, []⟩, ⟨0, []⟩, ⟨2, [[I n, PL xs]]⟩)], 900⟩) (fun s => s.1.2 - s.1.1) ⟨(0, 10000), Nat.zero_le _, Nat.le_refl _, htop, fun Q _ => Nat.zero_le _⟩ ?_ (fun s => ?_)
  ·
    (apply Le.headZ [_] rfl)
    all_goals (try dsimp only [srcs])
    (case' hfr | hob => (repeat' (first | refine La ?_ ?_ | exact Lc | refine Lo ?_ | refine ⟨⟨_, rfl, ?_⟩, ?_⟩ | refine Lx ?_)))
    all_goals (first | (rfl) | exact Ld)
  obtain ⟨⟨lo, hi⟩, h1, h2, h3, h4⟩ := s
  simp only at h1 h2 h3 h4 ⊢
  by_cases hlt : lo < hi
  case neg =>
    obtain rfl : lo = hi := by omega
    obtain ⟨e1, e2⟩ := lp_yes hg h3 h4
    rw [e1, e2]
    repeat' (first | ((first | apply Ba | (apply Bb; (· rfl); (· rfl)) | (apply Bc; (· exact nxE)) | (apply Bd; (· rfl); (· rfl); (· exact nxE))); (· first | exact Ok.pe)) | ((first | apply Ca | (apply Cb; (· exact nxE))); (· first | exact Ok.e0)) | refine Sx ?_ | (refine Sy (fun h => ?_) (fun h => ?_) <;> try (exfalso; omega; done)) | refine Sz (fun h => ?_) (fun h => ?_))
    refine Yb ?_
    (apply Le.headZ (hs := []) [] rfl)
    all_goals (try dsimp only [srcs])
    (case' hfr => (repeat' (first | refine La ?_ ?_ | exact Lc | refine Lo ?_ | refine ⟨⟨_, rfl, ?_⟩, ?_⟩ | refine Lx ?_)))
    all_goals (first | exact Ld | exact trivial | (rfl))
  have hq : ((lo : Int) + hi).tdiv 2 = ((lo + hi) / 2 : Nat) := by
    rw [Int.tdiv_eq_ediv_of_nonneg (by omega)]
    omega
  have hmid : (lo + hi) / 2 < hi ∧ lo ≤ (lo + hi) / 2 := by omega
  generalize (lo + hi) / 2 = mid at *
  rcases hB mid (by omega) with ⟨hb2, hT2⟩ | ⟨hb2, L, l1, l2, hT2⟩
  · have h5 := (lpOk_over hv).1 hb2
    clear hB hb hb2 hT
    repeat' (first | ((first | apply Ba | (apply Bb; (· rfl); (· rfl)) | (apply Bc; (· exact nxE)) | (apply Bd; (· rfl); (· rfl); (· exact nxE))); (· first | exact Kz rfl rfl (hT2) (Aa (Ad (Ad An)) (Aa (Ad (Ad An)) An)) | exact Ok.eqNilV rfl rfl rfl | exact Ok.quoE rfl rfl rfl hq (by decide) (by omega) (by omega) | exact Ok.pe)) | ((first | apply Ca | (apply Cb; (· exact nxE))); (· first | exact Ok.quoE rfl rfl rfl hq (by decide) (by omega) (by omega) | exact Ok.e0)) | refine Sx ?_ | (refine Sy (fun h => ?_) (fun h => ?_) <;> try (exfalso; omega; done)) | refine Sz (fun h => ?_) (fun h => ?_))
    refine ⟨⟨(lo, mid), hmid.2, by simp only; omega, h5, h4⟩, ?_, by simp only; omega⟩
    (apply Le.headZ [_] rfl)
    all_goals (try dsimp only [srcs])
    (case' hfr | hob => (repeat' (first | refine La ?_ ?_ | exact Lc | refine Lo ?_ | refine ⟨⟨_, rfl, ?_⟩, ?_⟩ | refine Lx ?_)))
    all_goals (first | (rfl) | exact Ld)
  · have h5 : ¬ lpOk xs mid := fun h => hb2 ((lpOk_over hv).2 h)
    have h6 : ∀ Q : Nat, lpOk xs Q → mid + 1 ≤ Q := fun Q hq2 => by
      refine Classical.byContradiction fun hn => h5 (lpOk_mono hg hq2 (by omega))
    clear hB hb hb2 hT
    repeat' (first | ((first | apply Ba | (apply Bb; (· rfl); (· rfl)) | (apply Bc; (· exact nxE)) | (apply Bd; (· rfl); (· rfl); (· exact nxE))); (· first | exact Ok.eqNilO rfl rfl rfl (by omega) | exact Ok.quoE rfl rfl rfl hq (by decide) (by omega) (by omega) | exact Eo rfl rfl (hT2) (Sa (Sd (Sd Sn)) (Sa (Sd (Sd Sn)) Sn)) | exact Ok.pe)) | ((first | apply Ca | (apply Cb; (· exact nxE))); (· first | exact Ok.quoE rfl rfl rfl hq (by decide) (by omega) (by omega) | exact Eo rfl rfl (hT2) (Sa (Sd (Sd Sn)) (Sa (Sd (Sd Sn)) Sn)) | exact Ok.e0)) | refine Sx ?_ | (refine Sy (fun h => ?_) (fun h => ?_) <;> try (exfalso; omega; done)) | refine Sz (fun h => ?_) (fun h => ?_))
    refine ⟨⟨(mid + 1, hi), by simp only; omega, h2, h3, h6⟩, ?_, by simp only; omega⟩
    (apply Le.headZ [_] rfl)
    all_goals (try dsimp only [srcs])
    (case' hfr | hob => (repeat' (first | refine La ?_ ?_ | exact Lc | refine Lo ?_ | refine ⟨⟨_, rfl, ?_⟩, ?_⟩ | refine Lx ?_)))
    all_goals (first | (rfl) | exact Ld)
/-! ### The earliest timetable -/
theorem wM_up {W : Nat → Nat → Int} {n : Nat} (h : ∀ u v, u < n → v < n → W v u ≠ BOT → W v u ≤ 10000) : ∀ {c : List Nat} {u v : Nat}, u < n → v < n → (∀ x ∈ c, x < n) → WM W u c v → wM W u c v ≤ 10000 * ((c.length : Int) + 1)
  | [], u, v, hu, hv, _, hw => by
    have := h u v hu hv hw
    simp only [wM, List.length_nil]; omega
  | m :: c, u, v, hu, hv, hc, hw => by
    have hm := hc m (by simp)
    have h1 := h u m hu hm hw.1
    have h2 := wM_up h (c := c) hm hv (fun x hx => hc x (by simp [hx])) hw.2
    simp only [wM, List.length_cons]; omega
theorem ptL_rng {n : Nat} {xs : List Pl} {P : Int} (hn : n ≤ 10) (h0 : 0 < n) (hv : ∀ p ∈ xs, okPl n p) (hP : 0 ≤ P ∧ P ≤ 100000) (hnp : NoPos (entN (wmT n xs (P, 1))) n) : ∀ a ∈ ptL n xs (P, 1), 0 ≤ a ∧ a ≤ 100000 := by
  have hB := starB_wm (r := (P, 1)) hn h0 hv (by simp only; omega) (by simp only; omega)
  have hst := hB.m hnp
  have hok := hst.ok
  have hW := wm_okG (r := (P, 1)) hv (by simp only; omega) (by simp only; omega)
  have harc : ∀ u v, u < n → v < n → entN (wmT n xs (P, 1)) v u ≠ BOT → entN (wmT n xs (P, 1)) v u ≤ 10000 := fun u v hu hv' hne => by
    rcases hW.some u v hu hv' with e | ⟨p, hp, _, _, e⟩
    · exact absurd e hne
    · rw [← e]; exact (pw_bndP hP (hv p hp)).2
  intro a ha
  have hne := ptL_ne hst a ha
  obtain ⟨i, hi, rfl⟩ := List.mem_map.1 ha
  rw [List.mem_range] at hi
  generalize wmT n xs (P, 1) = T at *
  have hge := apA_ge (f := entN (tabF n n (starF (entN T) n))) (v := fun _ => 0) (i := i) (j := i) (k := n) hi
  rw [tabF_ent hi hi, timesB_0, star_dia0 hst.np hok.some hok.dia hi] at hge
  refine ⟨hge, ?_⟩
  rcases apA_atT (f := entN (tabF n n (starF (entN T) n))) (v := fun _ => 0) (i := i) (k := n) with e | ⟨m, hm, e⟩
  · exact absurd e hne
  · rw [e] at hne ⊢
    rw [tabF_ent hi hm, timesB_0] at hne ⊢
    rcases hok.some m i hm hi with e1 | ⟨_, e2⟩ | ⟨c, c1, c2, c3⟩
    · exact absurd e1 hne
    · omega
    · obtain ⟨c', d1, d2, d3, d4⟩ := walk_short hst.np c.length c m i (Nat.le_refl _) hm c2 c1
      have := wM_up harc hm hi d3 d1
      omega
noncomputable def etC (ev : Int) (xs : List Pl) (P : Int) : Int := if prC ev xs P = 0 then (if npB ev.toNat xs (P, 1) = true then 0 else 5) else prC ev xs P
noncomputable def etS (ev : Int) (xs : List Pl) (P : Int) : List Int := if etC ev xs P = 0 then ptL ev.toNat xs (P, 1) else []
noncomputable def etP (ev : Int) (xs : List Pl) (P : Int) : Int := if etC ev xs P = 0 then P else 0
theorem et_no {ev : Int} {xs : List Pl} {P : Int} (h : prC ev xs P ≠ 0) : etC ev xs P = prC ev xs P ∧ etS ev xs P = [] ∧ etP ev xs P = 0 := by
  have e : etC ev xs P = prC ev xs P := by unfold etC; rw [if_neg h]
  exact ⟨e, by unfold etS; rw [e, if_neg h], by unfold etP; rw [e, if_neg h]⟩
theorem et_pos {n : Nat} {xs : List Pl} {P : Int} (h : prC n xs P = 0) (h2 : npB n xs (P, 1) = false) : etC n xs P = 5 ∧ etS n xs P = [] ∧ etP n xs P = 0 := by
  have e : etC n xs P = 5 := by unfold etC; rw [if_pos h, Int.toNat_natCast, h2]; rfl
  exact ⟨e, by unfold etS; rw [e]; rfl, by unfold etP; rw [e]; rfl⟩
theorem et_yes {n : Nat} {xs : List Pl} {P : Int} (h : prC n xs P = 0) (h2 : npB n xs (P, 1) = true) : etC n xs P = 0 ∧ etS n xs P = ptL n xs (P, 1) ∧ etP n xs P = P := by
  have e : etC n xs P = 0 := by unfold etC; rw [if_pos h, Int.toNat_natCast, h2]; rfl
  exact ⟨e, by unfold etS; rw [e, Int.toNat_natCast]; rfl, by unfold etP; rw [e]; rfl⟩
set_option maxHeartbeats 4000000 in
theorem iEarliestTimetable_ac (ev : Int) (xs : List Pl) (P : Int) (hx : xs.length ≤ 1000) : AC Try.prog 26 [grD ev xs, I P] H0 (.tup [ttA (etP ev xs P) (etS ev xs P), I (etC ev xs P)]) H0 := by
  have hK := checkPeriod_ac ev xs P hx
  by_cases h0 : prC ev xs P = 0
  case neg =>
    obtain ⟨e1, e2, e3⟩ := et_no h0
    rw [e1, e2, e3]
    generalize prC ev xs P = c at *
    refine AC.of_body 0 Try.func26 rfl (fun l h => absurd rfl h) (fun C hC => ?_)
    have hD : ∀ l, ¬ C.D0 l := fun l h => (hC l).1 h rfl
    simp only [startFr, Try.ntmps26, List.length_cons, List.length_nil, Nat.reduceAdd, Nat.reduceSub, List.replicate_succ, List.replicate_zero, List.cons_append, List.nil_append]
    repeat' (first | ((first | apply Ba | (apply Bb; (· rfl); (· rfl)) | (apply Bc; (· exact nxE)) | (apply Bd; (· rfl); (· rfl); (· exact nxE))); (· first | exact Kz rfl rfl (hK) (Aa (Ad (Ad An)) (Ad An)) | exact Ok.pe)) | ((first | apply Ca | (apply Cb; (· exact nxE))); (· first | exact Ok.e0)) | refine Sx ?_ | (refine Sy (fun h => ?_) (fun h => ?_) <;> try (exfalso; omega; done)) | refine Sz (fun h => ?_) (fun h => ?_))
    refine Yb ?_
    (apply Le.headZ (hs := []) [] rfl)
    all_goals (try dsimp only [srcs])
    (case' hfr => (repeat' (first | refine La ?_ ?_ | exact Lc | refine Lo ?_ | refine ⟨⟨_, rfl, ?_⟩, ?_⟩ | refine Lx ?_)))
    all_goals (first | exact Ld | exact trivial | (rfl))
  obtain ⟨n, rfl, g1, g2, g3, hv, hg, hp⟩ := pr_ok h0
  have hT := timePotentialG_ac n xs (P, 1) g1 g2 hx hv (by simp only; omega) (by simp only; omega)
  simp only at hT
  rw [h0] at hK
  cases hb : npB n xs (P, 1)
  · obtain ⟨e1, e2, e3⟩ := et_pos h0 hb
    rw [e1, e2, e3]
    rw [hb, if_neg (by simp)] at hT
    refine AC.of_body 0 Try.func26 rfl (fun l h => absurd rfl h) (fun C hC => ?_)
    have hD : ∀ l, ¬ C.D0 l := fun l h => (hC l).1 h rfl
    simp only [startFr, Try.ntmps26, List.length_cons, List.length_nil, Nat.reduceAdd, Nat.reduceSub, List.replicate_succ, List.replicate_zero, List.cons_append, List.nil_append]
    repeat' (first | ((first | apply Ba | (apply Bb; (· rfl); (· rfl)) | (apply Bc; (· exact nxE)) | (apply Bd; (· rfl); (· rfl); (· exact nxE))); (· first | exact Kz rfl rfl (hK) (Aa (Ad (Ad An)) (Ad An)) | exact Kz rfl rfl (hT) (Aa (Ad (Ad An)) (Aa (Ad (Ad An)) An)) | exact Ok.pe)) | ((first | apply Ca | (apply Cb; (· exact nxE))); (· first | exact Ok.e0)) | refine Sx ?_ | (refine Sy (fun h => ?_) (fun h => ?_) <;> try (exfalso; omega; done)) | refine Sz (fun h => ?_) (fun h => ?_))
    refine Yb ?_
    (apply Le.headZ (hs := []) [] rfl)
    all_goals (try dsimp only [srcs])
    (case' hfr => (repeat' (first | refine La ?_ ?_ | exact Lc | refine Lo ?_ | refine ⟨⟨_, rfl, ?_⟩, ?_⟩ | refine Lx ?_)))
    all_goals (first | exact Ld | exact trivial | (rfl))
  · obtain ⟨e1, e2, e3⟩ := et_yes h0 hb
    rw [e1, e2, e3]
    rw [hb, if_pos rfl] at hT
    generalize ptL n xs (P, 1) = x at *
    refine AC.of_body 0 Try.func26 rfl (fun l h => absurd rfl h) (fun C hC => ?_)
    have hD : ∀ l, ¬ C.D0 l := fun l h => (hC l).1 h rfl
    simp only [startFr, Try.ntmps26, List.length_cons, List.length_nil, Nat.reduceAdd, Nat.reduceSub, List.replicate_succ, List.replicate_zero, List.cons_append, List.nil_append]
    repeat' (first | ((first | apply Ba | (apply Bb; (· rfl); (· rfl)) | (apply Bc; (· exact nxE)) | (apply Bd; (· rfl); (· rfl); (· exact nxE))); (· first | exact Kz rfl rfl (hK) (Aa (Ad (Ad An)) (Ad An)) | exact Kz rfl rfl (hT) (Aa (Ad (Ad An)) (Aa (Ad (Ad An)) An)) | exact Ok.pe)) | ((first | apply Ca | (apply Cb; (· exact nxE))); (· first | exact Ok.e0)) | refine Sx ?_ | (refine Sy (fun h => ?_) (fun h => ?_) <;> try (exfalso; omega; done)) | refine Sz (fun h => ?_) (fun h => ?_))
    refine Yb ?_
    (apply Le.headZ (hs := []) [] rfl)
    all_goals (try dsimp only [srcs])
    (case' hfr => (repeat' (first | refine La ?_ ?_ | exact Lc | refine Lo ?_ | refine ⟨⟨_, rfl, ?_⟩, ?_⟩ | refine Lx ?_)))
    all_goals (first | exact Ld | exact trivial | (rfl))
/-- The reference hands back a list of its own. -/
theorem sEarliestTimetable_cs (ev : Int) (xs : List Pl) (P : Int) (hx : xs.length ≤ 1000) : (etC ev xs P ≠ 0 ∧ AC Try.prog 27 [grD ev xs, I P] H0 (.tup [ttA (etP ev xs P) (etS ev xs P), I (etC ev xs P)]) H0) ∨
    (etC ev xs P = 0 ∧ ∃ n : Nat, ev = n ∧ 1 ≤ n ∧ n ≤ 10 ∧ (etS ev xs P).length = n ∧ (∀ a ∈ etS ev xs P, 0 ≤ a ∧ a ≤ 100000) ∧ AC Try.prog 27 [grD ev xs, I P] H0 (.tup [.agg [I (etP ev xs P), own1 1 n], I 0]) (hp1 (IO (etS ev xs P)))) := by
  have hK := l20Period_ac ev xs P hx
  by_cases h0 : prC ev xs P = 0
  case neg =>
    obtain ⟨e1, e2, e3⟩ := et_no h0
    rw [e1, e2, e3]
    refine .inl ⟨h0, ?_⟩
    generalize prC ev xs P = c at *
    refine AC.of_body 0 Try.func27 rfl (fun l h => absurd rfl h) (fun C hC => ?_)
    have hD : ∀ l, ¬ C.D0 l := fun l h => (hC l).1 h rfl
    simp only [startFr, Try.ntmps27, List.length_cons, List.length_nil, Nat.reduceAdd, Nat.reduceSub, List.replicate_succ, List.replicate_zero, List.cons_append, List.nil_append]
    repeat' (first | ((first | apply Ba | (apply Bb; (· rfl); (· rfl)) | (apply Bc; (· exact nxE)) | (apply Bd; (· rfl); (· rfl); (· exact nxE))); (· first | exact Kz rfl rfl (hK) (Aa (Ad (Ad An)) (Ad An)) | exact Ok.pe)) | ((first | apply Ca | (apply Cb; (· exact nxE))); (· first | exact Ok.e0)) | refine Sx ?_ | (refine Sy (fun h => ?_) (fun h => ?_) <;> try (exfalso; omega; done)) | refine Sz (fun h => ?_) (fun h => ?_))
    refine Yb ?_
    (apply Le.headZ (hs := []) [] rfl)
    all_goals (try dsimp only [srcs])
    (case' hfr => (repeat' (first | refine La ?_ ?_ | exact Lc | refine Lo ?_ | refine ⟨⟨_, rfl, ?_⟩, ?_⟩ | refine Lx ?_)))
    all_goals (first | exact Ld | exact trivial | (rfl))
  obtain ⟨n, rfl, g1, g2, g3, hv, hg, hp⟩ := pr_ok h0
  have hB := starB_wm (r := (P, 1)) g2 (by omega) hv (by simp only; omega) (by simp only; omega)
  have hW := (l15WeightsG_ac n xs P 1 g2 (by omega) hv (by omega) (by omega)).frzT (by rw [TR_len]; exact hB.rc.l)
  have hWl : (mRows 1 (TR (wmT n xs (P, 1)))).length = n := by rw [mTR_len]; exact hB.rc.l
  rw [h0] at hK
  by_cases hnp : NoPos (entN (wmT n xs (P, 1))) n
  case neg =>
    obtain ⟨e1, e2, e3⟩ := et_pos h0 (npB_no hnp)
    have hSt := (l03Star_no (wmT n xs (P, 1)) n hB hnp).frzT2 (by rw [TR_len, tabF_len])
    rw [e1, e2, e3]
    refine .inl ⟨by decide, ?_⟩
    generalize tabF n n (powN (entN (wmT n xs (P, 1))) n n) = s at *
    generalize wmT n xs (P, 1) = wm at *
    refine AC.of_body 0 Try.func27 rfl (fun l h => absurd rfl h) (fun C hC => ?_)
    have hD : ∀ l, ¬ C.D0 l := fun l h => (hC l).1 h rfl
    simp only [startFr, Try.ntmps27, List.length_cons, List.length_nil, Nat.reduceAdd, Nat.reduceSub, List.replicate_succ, List.replicate_zero, List.cons_append, List.nil_append]
    repeat' (first | ((first | apply Ba | (apply Bb; (· rfl); (· rfl)) | (apply Bc; (· exact nxE)) | (apply Bd; (· rfl); (· rfl); (· exact nxE))); (· first | exact Kz rfl rfl (hK) (Aa (Ad (Ad An)) (Ad An)) | exact Kz rfl rfl (hW) (Aa (Ad (Ad An)) (Aa (Ad (Ad An)) An)) | exact Kz rfl rfl (hSt) (Ad An) | exact Ok.pe)) | ((first | apply Ca | (apply Cb; (· exact nxE))); (· first | exact Ok.e0)) | refine Sx ?_ | (refine Sy (fun h => ?_) (fun h => ?_) <;> try (exfalso; omega; done)) | refine Sz (fun h => ?_) (fun h => ?_))
    refine Yb ?_
    (apply Le.headZ (hs := []) [] rfl)
    all_goals (try dsimp only [srcs])
    (case' hfr => (repeat' (first | refine La ?_ ?_ | exact Lc | refine Lo ?_ | refine ⟨⟨_, rfl, ?_⟩, ?_⟩ | refine Lx ?_)))
    all_goals (first | exact Ld | exact trivial | (rfl))
  obtain ⟨e1, e2, e3⟩ := et_yes h0 (npB_yes hnp)
  have hst := hB.m hnp
  have hSt := (l03Star_ac (wmT n xs (P, 1)) n hst).frzT2 (by rw [TR_len, tabF_len])
  have hpl : (ptL n xs (P, 1)).length = n := rowF_len
  have hT : AC Try.prog 115 [TL (tabF n n (starF (entN (wmT n xs (P, 1))) n)), .d (.sl 1 (List.replicate n [DI 0]))] H0 (own1 1 (ptL n xs (P, 1)).length) (hp1 (IO (ptL n xs (P, 1)))) := by
    rw [hpl, ← zeroRow]
    exact l02Apply_ac (tabF n n (starF (entN (wmT n xs (P, 1))) n)) n n (fun _ => 0) tabF_rc (by omega) (by omega) (apOk_star hst)
  have hpb := ptL_rng g2 (by omega) hv hp hnp
  rw [e1, e2, e3]
  refine .inr ⟨rfl, n, rfl, g1, g2, hpl, hpb, ?_⟩
  clear e1 e2 e3 hpb
  generalize ptL n xs (P, 1) = pt at *
  generalize starF (entN (wmT n xs (P, 1))) n = s at *
  generalize wmT n xs (P, 1) = wm at *
  rw [hpl] at hT
  clear hst hB hnp
  refine AC.of_body 0 Try.func27 rfl (fun l h => absurd rfl h) (fun C hC => ?_)
  have hD : ∀ l, ¬ C.D0 l := fun l h => (hC l).1 h rfl
  simp only [startFr, Try.ntmps27, List.length_cons, List.length_nil, Nat.reduceAdd, Nat.reduceSub, List.replicate_succ, List.replicate_zero, List.cons_append, List.nil_append]
  repeat' (first | ((first | apply Ba | (apply Bb; (· rfl); (· rfl)) | (apply Bc; (· exact nxE)) | (apply Bd; (· rfl); (· rfl); (· exact nxE))); (· first | exact Kz rfl rfl (hK) (Aa (Ad (Ad An)) (Ad An)) | exact Kz rfl rfl (hW) (Aa (Ad (Ad An)) (Aa (Ad (Ad An)) An)) | exact Kz rfl rfl (hSt) (Ad An) | exact Eo rfl rfl (hT) (Sd (Sw Sn)) | exact Ok.pe)) | ((first | apply Ca | (apply Cb; (· exact nxE))); (· first | exact Eo rfl rfl (hT) (Sd (Sw Sn)) | exact Ok.e0)) | refine Sx ?_ | (refine Sy (fun h => ?_) (fun h => ?_) <;> try (exfalso; omega; done)) | refine Sz (fun h => ?_) (fun h => ?_))
  refine Yb ?_
  (apply Le.head [(⟨0, []⟩, _, _)])
  (case' hfr | hob => (repeat' (first | refine La ?_ ?_ | exact Lc | refine Lo ?_ | refine ⟨⟨_, rfl, ?_⟩, ?_⟩ | refine Lx ?_)))
  all_goals (first | exact Ld | (rfl))
theorem sEarliestTimetable_ac (ev : Int) (xs : List Pl) (P : Int) (hx : xs.length ≤ 1000) : AC Try.prog 27 [grD ev xs, I P] H0 (.tup [ttA (etP ev xs P) (etS ev xs P), I (etC ev xs P)]) H0 := by
  rcases sEarliestTimetable_cs ev xs P hx with ⟨_, h⟩ | ⟨h0, n, _, _, _, hl, _, h⟩
  · exact h
  · rw [h0]
    exact h.frz (ARs.tup (.cons (ARs.agg (.cons (.dd _) (.cons (AR.whole (l := ⟨0, []⟩) rfl trivial (by rw [IR_len]; exact hl)) .nil))) (.cons (.dd _) .nil)))
end Go.Proofs.Ytpgcmpbamlnkkaa
end

section
namespace Go.Proofs.Ytpgcmpbamlnkkaa
set_option linter.unusedSimpArgs false
set_option linter.unusedVariables false
open Go Go.RowKit
attribute [local irreducible] AL AD AW OpOk Le AC thenQ blockQ EndQ

theorem like9_refl (P : Int) (st : List Int) (hs : st.length ≤ 100000000) : AC Try.prog 37 [ttA P st, ttA P st] H0 (Bo true) H0 := by
  have hL := likeInts_refl st hs
  refine AC.of_body 0 Try.func37 rfl (fun l h => absurd rfl h) (fun C hC => ?_)
  have hD : ∀ l, ¬ C.D0 l := fun l h => (hC l).1 h rfl
  simp only [startFr, Try.ntmps37, List.length_cons, List.length_nil, Nat.reduceAdd, Nat.reduceSub, List.replicate_succ, List.replicate_zero, List.cons_append, List.nil_append]
  repeat' (first | ((first | apply Ba | (apply Bb; (· rfl); (· rfl)) | (apply Bc; (· exact nxE)) | (apply Bd; (· rfl); (· rfl); (· exact nxE))); (· first | exact Kz rfl rfl (hL) (Ad (Ad An)) | exact Ok.pe)) | ((first | apply Ca | (apply Cb; (· exact nxE))); (· first | exact Ok.e0)) | refine Sx ?_ | (refine Sy (fun h => ?_) (fun h => ?_) <;> try (exfalso; omega; done)) | refine Sz (fun h => ?_) (fun h => ?_))
  refine Ya ?_
  (apply Le.headZ (hs := []) [] rfl)
  all_goals (try dsimp only [srcs])
  (case' hfr => (repeat' (first | refine La ?_ ?_ | exact Lc | refine Lo ?_ | refine ⟨⟨_, rfl, ?_⟩, ?_⟩ | refine Lx ?_)))
  all_goals (first | exact Ld | exact trivial | (rfl))
theorem et_ok {ev : Int} {xs : List Pl} {P : Int} (h : etC ev xs P = 0) : ∃ n : Nat, ev = n ∧ 1 ≤ n ∧ n ≤ 10 ∧ xs.length ≤ 30 ∧ (∀ p ∈ xs, okPl n p) ∧ isEG n xs = true ∧ (0 ≤ P ∧ P ≤ 100000) ∧ NoPos (entN (wmT n xs (P, 1))) n ∧ etS n xs P = ptL n xs (P, 1) ∧ etP n xs P = P := by
  by_cases h0 : prC ev xs P = 0
  case neg => rw [(et_no h0).1] at h; exact absurd h h0
  obtain ⟨n, rfl, g1, g2, g3, hv, hg, hp⟩ := pr_ok h0
  cases hb : npB n xs (P, 1)
  · rw [(et_pos h0 hb).1] at h; cases h
  · have hnp : NoPos (entN (wmT n xs (P, 1))) n := npB_iff.1 hb
    obtain ⟨_, e2, e3⟩ := et_yes h0 hb
    exact ⟨n, rfl, g1, g2, g3, hv, hg, hp, hnp, e2, e3⟩
theorem et_len {ev : Int} {xs : List Pl} {P : Int} : (etS ev xs P).length ≤ 1000 := by
  by_cases h : etC ev xs P = 0
  · obtain ⟨n, rfl, _, g2, _, _, _, _, _, e2, _⟩ := et_ok h
    have : (ptL n xs (P, 1)).length = n := rowF_len
    rw [e2]; omega
  · unfold etS; rw [if_neg h]; simp
/-- The earliest timetable is valid and kept. -/
theorem et_kept {ev : Int} {xs : List Pl} {P : Int} (h : etC ev xs P = 0) : ttC ev xs (etP ev xs P) (etS ev xs P) = 0 ∧ ktB ev xs (etP ev xs P) (etS ev xs P) = true ∧ etP ev xs P = P := by
  obtain ⟨n, rfl, g1, g2, g3, hv, hg, hp, hnp, e2, e3⟩ := et_ok h
  rw [e2, e3]
  have hrng := ptL_rng g2 (by omega) hv hp hnp
  have hpl : (ptL n xs (P, 1)).length = n := rowF_len
  have hB := starB_wm (r := (P, 1)) g2 (by omega) hv (by simp only; omega) (by simp only; omega)
  have hW := wm_okG (r := (P, 1)) hv (by simp only; omega) (by simp only; omega)
  have hst := hB.m hnp
  have hC : ttC n xs P (ptL n xs (P, 1)) = 0 := by
    unfold ttC ttB stB
    rw [hg, if_pos rfl, wi_iff.2 hp, decide_eq_true (by omega : ((ptL n xs (P, 1)).length : Int) = n), Bool.true_and, Bool.true_and, if_pos]
    rw [List.all_eq_true]
    exact fun a ha => wi_iff.2 (by have := hrng a ha; omega)
  refine ⟨hC, ?_, rfl⟩
  unfold ktB
  rw [decide_eq_true hC, Bool.true_and, List.all_eq_true]
  intro a ha
  obtain ⟨i, hi, rfl⟩ := List.mem_map.1 ha
  rw [List.mem_range] at hi
  obtain ⟨⟨f1, f2⟩, ⟨t1, t2⟩, _⟩ := okPl_at hv i hi
  have e : plA xs i = xs[i] := by simp [plA, hi]
  obtain ⟨a1, a2⟩ := hW.all (plA xs i) (by rw [e]; exact List.getElem_mem hi)
  have h3 := ptL_pot hst (plA xs i).t.toNat (plA xs i).f.toNat (by omega) (by omega) a1
  unfold slF
  unfold pw at a2
  simp only at a2
  rw [Int.mul_comm P] at a2
  rw [decide_eq_false (by omega)]
  rfl
theorem ti_any {g : Nat → Int} {n i : Nat} (hi : i < n) : ((tiF g n).any fun x => decide (x = (i : Int))) = decide (g i = 0) := by
  rw [Bool.eq_iff_iff, List.any_eq_true, decide_eq_true_iff]
  constructor
  · rintro ⟨x, hx, e⟩
    have e := of_decide_eq_true e
    obtain ⟨j, hj, rfl⟩ := List.mem_map.1 hx
    rw [List.mem_filter] at hj
    obtain rfl : j = i := by omega
    exact of_decide_eq_true hj.2
  · intro h
    exact ⟨(i : Int), List.mem_map.2 ⟨i, List.mem_filter.2 ⟨List.mem_range.2 hi, decide_eq_true h⟩, rfl⟩, decide_eq_true rfl⟩
/-- What the law looks at, slack by slack. -/
theorem sl_law {ev : Int} {xs : List Pl} {P : Int} {st : List Int} : (slO ev xs P st).length ≤ 1000000 ∧ (tiO ev xs P st).length ≤ 1000000 ∧ (∀ (i : Nat) (a : Int), (slO ev xs P st)[i]? = some a → ((tiO ev xs P st).any fun x => decide (x = (i : Int))) = decide (a = 0)) ∧
    ktB ev xs P st = (decide (ttC ev xs P st = 0) && (slO ev xs P st).all fun a => decide (a ≥ 0)) := by
  by_cases h : ttC ev xs P st = 0
  · obtain ⟨n, rfl, g1, g2, g3, hv, hg, ht, _⟩ := ttC_ok h
    have hsl : (slL xs P st).length = xs.length := rowF_len
    have hle := tiF_le (g := slF xs P st) (k := xs.length)
    unfold slO tiO ktB
    rw [if_pos h, if_pos h, decide_eq_true h]
    refine ⟨by omega, by omega, fun i a hi => ?_, ?_⟩
    · obtain ⟨h1, h2⟩ := List.getElem?_eq_some_iff.1 hi
      rw [hsl] at h1
      rw [rowF_get h1] at hi
      rw [ti_any h1, Option.some.inj hi]
    · rw [Bool.true_and, Bool.true_and]
      congr 1
      funext a
      rw [← decide_not]
      exact decide_eq_decide.2 (by omega)
  · unfold slO tiO ktB
    rw [if_neg h, if_neg h, decide_eq_false h]
    exact ⟨by simp, by simp, fun i a hi => by simp at hi, rfl⟩
/-- The circuit that contradicts a period. -/
theorem cc_ok {ev : Int} {xs : List Pl} {P : Int} (h : ccC ev xs P = 0) : ∃ n : Nat, ev = n ∧ 1 ≤ n ∧ n ≤ 10 ∧ xs.length ≤ 30 ∧ (∀ p ∈ xs, okPl n p) ∧ isEG n xs = true ∧ (0 ≤ P ∧ P ≤ 100000) ∧ Circ xs (ccL n xs P) ∧ (ccL n xs P).length ≤ n ∧ P * sumT xs (ccL n xs P) < sumD xs (ccL n xs P) := by
  by_cases h0 : prC ev xs P = 0
  case neg => rw [(cc_no h0).1] at h; exact absurd h h0
  obtain ⟨n, rfl, g1, g2, g3, hv, hg, hp⟩ := pr_ok h0
  obtain ⟨e1, e2⟩ := cc_yes h0
  have hne : overC xs P 1 0 n ≠ [] := fun e => by rw [e1, e, if_pos rfl] at h; cases h
  obtain ⟨h1, h2⟩ := overC_sound hne
  rw [wgt_sums] at h2
  exact ⟨n, rfl, g1, g2, g3, hv, hg, hp, by rw [e2]; exact h1, by rw [e2]; exact h1.len fun i hi => (okPl_at hv i hi).1, by rw [e2]; omega⟩
theorem cc_len {ev : Int} {xs : List Pl} {P : Int} : (cN (ccL ev xs P)).length ≤ 1000 := by
  rw [List.length_map]
  by_cases h : ccC ev xs P = 0
  · obtain ⟨n, rfl, _, g2, _, _, _, _, _, e, _⟩ := cc_ok h
    omega
  · unfold ccL; rw [if_neg h]; simp
end Go.Proofs.Ytpgcmpbamlnkkaa
end

section
namespace Go.Proofs.Ytpgcmpbamlnkkaa
set_option linter.unusedSimpArgs false
set_option linter.unusedVariables false
open Go Go.RowKit
attribute [local irreducible] AL AD AW OpOk Le AC thenQ blockQ EndQ

section
variable {P : Program} {o : Oper} {A : Operand → AV} {H : Heap} {new : Nat}
end
def dr15 (code : List Int) (s : Src) : DrG :=
  if 20 < (dr11 code s).xs.length ∧ 2 < (dr11 code s).ev then ⟨(dr11 code s).ev, (dr11 code s).xs.take 20, (dr11 code s).s⟩ else dr11 code s
theorem dr15_ok {code : List Int} (hc : CodeOk code) {s : Src} (hs : SrcOk code s) : DrOk code (dr15 code s) := by
  have h := dr11_ok hc hs
  unfold dr15
  split
  · exact ⟨h.ev, fun p hp => h.xs p (List.mem_of_mem_take hp), by have := h.len; simp only [List.length_take]; omega, h.s⟩
  · exact h
set_option maxHeartbeats 1000000 in
theorem l15Draw_ac (code : List Int) (hc : CodeOk code) (s : Src) (hs : SrcOk code s) : AC Try.prog 208 [Bx 3 0] (srcH code s) (.agg [I (dr15 code s).ev, .own 4 ⟨1, []⟩ 0 (dr15 code s).xs.length]) (heapL [(⟨0, []⟩, ⟨0, []⟩, srcO code (dr15 code s).s), (⟨1, []⟩, ⟨1, []⟩, PO (dr15 code s).xs)]) := by
  have hG := l11Draw_ac code hc s hs
  have hok := dr11_ok hc hs
  unfold dr15
  generalize dr11 code s = g at *
  obtain ⟨ev, xs, s1⟩ := g
  obtain ⟨_, _, hl, _⟩ := hok
  simp only at *
  show AC _ _ _ (heapL [(⟨0, []⟩, ⟨0, []⟩, srcO code s)]) _ _
  by_cases hb : 20 < xs.length ∧ 2 < ev
  · have hb1 := hb.1
    have hb2 := hb.2
    simp only [if_pos hb]
    rw [List.length_take, show min 20 xs.length = 20 by omega]
    refine AC.of_body 1 Try.func208 rfl (fun l h => by simp [heapL, upd] at h; simp [h]) (fun C hC => ?_)
    simp only [startFr, Try.ntmps208, List.length_cons, List.length_nil, Nat.reduceAdd, Nat.reduceSub, List.replicate_succ, List.replicate_zero, List.cons_append, List.nil_append]
    have hD : ∀ l, C.D0 l → l = ⟨0, []⟩ := fun l h => by have := (hC l).1 h; simp [heapL, upd] at this; exact this
    repeat' (first | ((first | apply Ba | (apply Bb; (· rfl); (· rfl)) | (apply Bc; (· exact nxE)) | (apply Bd; (· rfl); (· rfl); (· exact nxE))); (· first | exact Ok.sliceToO (m := 20) rfl rfl rfl (by decide) rfl (by omega) | exact Gx hG rfl rfl rfl rfl | exact Ok.pe)) | ((first | apply Ca | (apply Cb; (· exact nxE))); (· first | exact Gx hG rfl rfl rfl rfl | exact Ok.e0)) | refine Sx ?_ | (refine Sy (fun h => ?_) (fun h => ?_) <;> try (exfalso; omega; done)) | refine Sz (fun h => ?_) (fun h => ?_))
    refine Ya ?_
    refine (Le.takeL ⟨3, [1]⟩ 20 rfl).trans ?_
    (apply Le.head [(⟨0, []⟩, ⟨0, []⟩, srcO code s1), (⟨1, []⟩, ⟨3, [1]⟩, PO (xs.take 20))])
    (case' hfr | hob => (repeat' (first | refine La ?_ ?_ | exact Lc | refine Lo ?_ | refine ⟨⟨_, rfl, ?_⟩, ?_⟩ | refine Lx ?_)))
    all_goals (first | exact Ld | ((simp [dobj, List.map_take]; done)))
  · simp only [if_neg hb]
    refine AC.of_body 1 Try.func208 rfl (fun l h => by simp [heapL, upd] at h; simp [h]) (fun C hC => ?_)
    simp only [startFr, Try.ntmps208, List.length_cons, List.length_nil, Nat.reduceAdd, Nat.reduceSub, List.replicate_succ, List.replicate_zero, List.cons_append, List.nil_append]
    have hD : ∀ l, C.D0 l → l = ⟨0, []⟩ := fun l h => by have := (hC l).1 h; simp [heapL, upd] at this; exact this
    repeat' (first | ((first | apply Ba | (apply Bb; (· rfl); (· rfl)) | (apply Bc; (· exact nxE)) | (apply Bd; (· rfl); (· rfl); (· exact nxE))); (· first | exact Gx hG rfl rfl rfl rfl | exact Ok.pe)) | ((first | apply Ca | (apply Cb; (· exact nxE))); (· first | exact Gx hG rfl rfl rfl rfl | exact Ok.e0)) | refine Sx ?_ | (refine Sy (fun h => ?_) (fun h => ?_) <;> try (exfalso; omega; done)) | refine Sz (fun h => ?_) (fun h => ?_))
    all_goals
      refine Ya ?_
      (apply Le.head [(⟨0, []⟩, ⟨0, []⟩, srcO code s1), (⟨1, []⟩, ⟨3, [1]⟩, PO xs)])
      (case' hfr | hob => (repeat' (first | refine La ?_ ?_ | exact Lc | refine Lo ?_ | refine ⟨⟨_, rfl, ?_⟩, ?_⟩ | refine Lx ?_)))
      all_goals (first | exact Ld | (rfl))
theorem l15DrawZ_ac (code : List Int) (hc : CodeOk code) (s : Src) (hs : SrcOk code s) : AC Try.prog 208 [Bx 3 0] (srcH code s) (grD (dr15 code s).ev (dr15 code s).xs) (srcH code (dr15 code s).s) :=
  (l15Draw_ac code hc s hs).frzS rfl (ARs.agg (.cons (.dd _) (.cons (AR.whole rfl (by simp) (List.length_map _)) .nil)))
end Go.Proofs.Ytpgcmpbamlnkkaa
end
