/-
  Walks in the abstract reading, part 12.
-/
import Derived.Test.YtpgcmpbamlnkkaaGreatKcU11
import Derived.Test.YtpgcmpbamlnkkaaGreatKcU5
import Derived.Test.YtpgcmpbamlnkkaaGreatKcU9
import Derived.Test.YtpgcmpbamlnkkaaGreatKcU7
section
namespace Go.Proofs.YtpgcmpbamlnkkaaGreat
set_option linter.unusedSimpArgs false
set_option linter.unusedVariables false
open Go Go.RowKit
attribute [local irreducible] AL AD AW OpOk Le AC thenQ blockQ EndQ

set_option maxHeartbeats 1000000 in
theorem sIsRatioG_ac (r : Int × Int) (h : -1000000000000 ≤ r.1 ∧ r.1 ≤ 1000000000000) : AC Tryz.prog 63 [.agg [I r.1, I r.2]] H0 (Bo (isRtG r)) H0 := by
  obtain ⟨a, b⟩ := r
  simp only at h
  unfold isRtG
  simp only
  have hF := l01Finite_ac a
  have hI := l01In_ac b 1 1000000
  cases hw : wi a (-1000000) 1000000
  · rw [hw] at hF
    simp only [Bool.false_and]
    refine AC.of_body 0 Tryz.func63 rfl (fun l h => absurd rfl h) (fun C hC => ?_)
    have hD : ∀ l, ¬ C.D0 l := fun l h => (hC l).1 h rfl
    simp only [startFr, Tryz.ntmps63, List.length_cons, List.length_nil, Nat.reduceAdd, Nat.reduceSub, List.replicate_succ, List.replicate_zero, List.cons_append, List.nil_append]
    repeat' (first | ((first | apply Ba | (apply Bb; (· rfl); (· rfl)) | (apply Bc; (· exact nxE)) | (apply Bd; (· rfl); (· rfl); (· exact nxE))); (· first | exact Kz rfl rfl (hF) (Ad An) | exact Kz rfl rfl (hI) (Ad (Ad (Ad An))) | exact Ok.pe)) | ((first | apply Ca | (apply Cb; (· exact nxE))); (· first | exact Ok.e0)) | refine Sx ?_ | (refine Sy (fun h => ?_) (fun h => ?_) <;> try (exfalso; omega; done)) | refine Sz (fun h => ?_) (fun h => ?_))
    refine Ya ?_
    (apply Le.headZ (hs := []) [] rfl)
    all_goals (try dsimp only [srcs])
    (case' hfr => (repeat' (first | refine La ?_ ?_ | exact Lc | refine Lo ?_ | refine ⟨⟨_, rfl, ?_⟩, ?_⟩ | refine Lx ?_)))
    all_goals (first | exact Ld | exact trivial | (rfl))
  rw [hw] at hF
  cases hv : wi b 1 1000000
  · rw [hv] at hI
    simp only [Bool.false_and, Bool.and_false]
    refine AC.of_body 0 Tryz.func63 rfl (fun l h => absurd rfl h) (fun C hC => ?_)
    have hD : ∀ l, ¬ C.D0 l := fun l h => (hC l).1 h rfl
    simp only [startFr, Tryz.ntmps63, List.length_cons, List.length_nil, Nat.reduceAdd, Nat.reduceSub, List.replicate_succ, List.replicate_zero, List.cons_append, List.nil_append]
    repeat' (first | ((first | apply Ba | (apply Bb; (· rfl); (· rfl)) | (apply Bc; (· exact nxE)) | (apply Bd; (· rfl); (· rfl); (· exact nxE))); (· first | exact Kz rfl rfl (hF) (Ad An) | exact Kz rfl rfl (hI) (Ad (Ad (Ad An))) | exact Ok.pe)) | ((first | apply Ca | (apply Cb; (· exact nxE))); (· first | exact Ok.e0)) | refine Sx ?_ | (refine Sy (fun h => ?_) (fun h => ?_) <;> try (exfalso; omega; done)) | refine Sz (fun h => ?_) (fun h => ?_))
    refine Ya ?_
    (apply Le.headZ (hs := []) [] rfl)
    all_goals (try dsimp only [srcs])
    (case' hfr => (repeat' (first | refine La ?_ ?_ | exact Lc | refine Lo ?_ | refine ⟨⟨_, rfl, ?_⟩, ?_⟩ | refine Lx ?_)))
    all_goals (first | exact Ld | exact trivial | (rfl))
  rw [hv] at hI
  have h2 := wi_iff.1 hv
  obtain ⟨v, rfl⟩ : ∃ v : Nat, b = v := ⟨b.toNat, by omega⟩
  have hG := l01DivisorZ_ac a v (by omega) (by omega)
  rw [Int.toNat_natCast]
  simp only [Bool.true_and]
  generalize Nat.gcd a.natAbs v = g at *
  by_cases hg : g = 1
  · subst hg
    refine AC.of_body 0 Tryz.func63 rfl (fun l h => absurd rfl h) (fun C hC => ?_)
    have hD : ∀ l, ¬ C.D0 l := fun l h => (hC l).1 h rfl
    simp only [startFr, Tryz.ntmps63, List.length_cons, List.length_nil, Nat.reduceAdd, Nat.reduceSub, List.replicate_succ, List.replicate_zero, List.cons_append, List.nil_append]
    repeat' (first | ((first | apply Ba | (apply Bb; (· rfl); (· rfl)) | (apply Bc; (· exact nxE)) | (apply Bd; (· rfl); (· rfl); (· exact nxE))); (· first | exact Kz rfl rfl (hF) (Ad An) | exact Kz rfl rfl (hI) (Ad (Ad (Ad An))) | exact Kz rfl rfl (hG) (Ad (Ad An)) | exact Ok.pe)) | ((first | apply Ca | (apply Cb; (· exact nxE))); (· first | exact Ok.e0)) | refine Sx ?_ | (refine Sy (fun h => ?_) (fun h => ?_) <;> try (exfalso; omega; done)) | refine Sz (fun h => ?_) (fun h => ?_))
    refine Ya ?_
    (apply Le.headZ (hs := []) [] rfl)
    all_goals (try dsimp only [srcs])
    (case' hfr => (repeat' (first | refine La ?_ ?_ | exact Lc | refine Lo ?_ | refine ⟨⟨_, rfl, ?_⟩, ?_⟩ | refine Lx ?_)))
    all_goals (first | exact Ld | exact trivial | (rfl))
  · rw [show (g == 1) = false from beq_eq_false_iff_ne.2 hg]
    refine AC.of_body 0 Tryz.func63 rfl (fun l h => absurd rfl h) (fun C hC => ?_)
    have hD : ∀ l, ¬ C.D0 l := fun l h => (hC l).1 h rfl
    simp only [startFr, Tryz.ntmps63, List.length_cons, List.length_nil, Nat.reduceAdd, Nat.reduceSub, List.replicate_succ, List.replicate_zero, List.cons_append, List.nil_append]
    repeat' (first | ((first | apply Ba | (apply Bb; (· rfl); (· rfl)) | (apply Bc; (· exact nxE)) | (apply Bd; (· rfl); (· rfl); (· exact nxE))); (· first | exact Kz rfl rfl (hF) (Ad An) | exact Kz rfl rfl (hI) (Ad (Ad (Ad An))) | exact Kz rfl rfl (hG) (Ad (Ad An)) | exact Ok.pe)) | ((first | apply Ca | (apply Cb; (· exact nxE))); (· first | exact Ok.e0)) | refine Sx ?_ | (refine Sy (fun h => ?_) (fun h => ?_) <;> try (exfalso; omega; done)) | refine Sz (fun h => ?_) (fun h => ?_))
    refine Ya ?_
    (apply Le.headZ (hs := []) [] rfl)
    all_goals (try dsimp only [srcs])
    (case' hfr => (repeat' (first | refine La ?_ ?_ | exact Lc | refine Lo ?_ | refine ⟨⟨_, rfl, ?_⟩, ?_⟩ | refine Lx ?_)))
    all_goals (first | exact Ld | exact trivial | (first | rfl | exact (decide_eq_false (by omega)).symm))
set_option maxHeartbeats 1000000 in
theorem iIsRatioG_ac (r : Int × Int) (h : -1000000000000 ≤ r.1 ∧ r.1 ≤ 1000000000000) : AC Tryz.prog 59 [.agg [I r.1, I r.2]] H0 (Bo (isRtG r)) H0 := by
  obtain ⟨a, b⟩ := r
  simp only at h
  unfold isRtG
  simp only
  have hF := isFinite_ac a
  have hI := within_ac b 1 1000000
  have hA := absOfZ_ac a (by omega)
  cases hw : wi a (-1000000) 1000000
  · rw [hw] at hF
    simp only [Bool.false_and]
    refine AC.of_body 0 Tryz.func59 rfl (fun l h => absurd rfl h) (fun C hC => ?_)
    have hD : ∀ l, ¬ C.D0 l := fun l h => (hC l).1 h rfl
    simp only [startFr, Tryz.ntmps59, List.length_cons, List.length_nil, Nat.reduceAdd, Nat.reduceSub, List.replicate_succ, List.replicate_zero, List.cons_append, List.nil_append]
    repeat' (first | ((first | apply Ba | (apply Bb; (· rfl); (· rfl)) | (apply Bc; (· exact nxE)) | (apply Bd; (· rfl); (· rfl); (· exact nxE))); (· first | exact Kz rfl rfl (hF) (Ad An) | exact Kz rfl rfl (hI) (Ad (Ad (Ad An))) | exact Ok.pe)) | ((first | apply Ca | (apply Cb; (· exact nxE))); (· first | exact Ok.e0)) | refine Sx ?_ | (refine Sy (fun h => ?_) (fun h => ?_) <;> try (exfalso; omega; done)) | refine Sz (fun h => ?_) (fun h => ?_))
    refine Ya ?_
    (apply Le.headZ (hs := []) [] rfl)
    all_goals (try dsimp only [srcs])
    (case' hfr => (repeat' (first | refine La ?_ ?_ | exact Lc | refine Lo ?_ | refine ⟨⟨_, rfl, ?_⟩, ?_⟩ | refine Lx ?_)))
    all_goals (first | exact Ld | exact trivial | (rfl))
  rw [hw] at hF
  cases hv : wi b 1 1000000
  · rw [hv] at hI
    simp only [Bool.false_and, Bool.and_false]
    refine AC.of_body 0 Tryz.func59 rfl (fun l h => absurd rfl h) (fun C hC => ?_)
    have hD : ∀ l, ¬ C.D0 l := fun l h => (hC l).1 h rfl
    simp only [startFr, Tryz.ntmps59, List.length_cons, List.length_nil, Nat.reduceAdd, Nat.reduceSub, List.replicate_succ, List.replicate_zero, List.cons_append, List.nil_append]
    repeat' (first | ((first | apply Ba | (apply Bb; (· rfl); (· rfl)) | (apply Bc; (· exact nxE)) | (apply Bd; (· rfl); (· rfl); (· exact nxE))); (· first | exact Kz rfl rfl (hF) (Ad An) | exact Kz rfl rfl (hI) (Ad (Ad (Ad An))) | exact Ok.pe)) | ((first | apply Ca | (apply Cb; (· exact nxE))); (· first | exact Ok.e0)) | refine Sx ?_ | (refine Sy (fun h => ?_) (fun h => ?_) <;> try (exfalso; omega; done)) | refine Sz (fun h => ?_) (fun h => ?_))
    refine Ya ?_
    (apply Le.headZ (hs := []) [] rfl)
    all_goals (try dsimp only [srcs])
    (case' hfr => (repeat' (first | refine La ?_ ?_ | exact Lc | refine Lo ?_ | refine ⟨⟨_, rfl, ?_⟩, ?_⟩ | refine Lx ?_)))
    all_goals (first | exact Ld | exact trivial | (rfl))
  rw [hv] at hI
  have h2 := wi_iff.1 hv
  obtain ⟨v, rfl⟩ : ∃ v : Nat, b = v := ⟨b.toNat, by omega⟩
  have hG := divisorOf_ac a.natAbs v (by omega) (by omega)
  rw [Int.toNat_natCast]
  simp only [Bool.true_and]
  generalize Nat.gcd a.natAbs v = g at *
  by_cases hg : g = 1
  · subst hg
    refine AC.of_body 0 Tryz.func59 rfl (fun l h => absurd rfl h) (fun C hC => ?_)
    have hD : ∀ l, ¬ C.D0 l := fun l h => (hC l).1 h rfl
    simp only [startFr, Tryz.ntmps59, List.length_cons, List.length_nil, Nat.reduceAdd, Nat.reduceSub, List.replicate_succ, List.replicate_zero, List.cons_append, List.nil_append]
    repeat' (first | ((first | apply Ba | (apply Bb; (· rfl); (· rfl)) | (apply Bc; (· exact nxE)) | (apply Bd; (· rfl); (· rfl); (· exact nxE))); (· first | exact Kz rfl rfl (hF) (Ad An) | exact Kz rfl rfl (hI) (Ad (Ad (Ad An))) | exact Kz rfl rfl (hA) (Ad An) | exact Kz rfl rfl (hG) (Ad (Ad An)) | exact Ok.pe)) | ((first | apply Ca | (apply Cb; (· exact nxE))); (· first | exact Ok.e0)) | refine Sx ?_ | (refine Sy (fun h => ?_) (fun h => ?_) <;> try (exfalso; omega; done)) | refine Sz (fun h => ?_) (fun h => ?_))
    refine Ya ?_
    (apply Le.headZ (hs := []) [] rfl)
    all_goals (try dsimp only [srcs])
    (case' hfr => (repeat' (first | refine La ?_ ?_ | exact Lc | refine Lo ?_ | refine ⟨⟨_, rfl, ?_⟩, ?_⟩ | refine Lx ?_)))
    all_goals (first | exact Ld | exact trivial | (rfl))
  · rw [show (g == 1) = false from beq_eq_false_iff_ne.2 hg]
    refine AC.of_body 0 Tryz.func59 rfl (fun l h => absurd rfl h) (fun C hC => ?_)
    have hD : ∀ l, ¬ C.D0 l := fun l h => (hC l).1 h rfl
    simp only [startFr, Tryz.ntmps59, List.length_cons, List.length_nil, Nat.reduceAdd, Nat.reduceSub, List.replicate_succ, List.replicate_zero, List.cons_append, List.nil_append]
    repeat' (first | ((first | apply Ba | (apply Bb; (· rfl); (· rfl)) | (apply Bc; (· exact nxE)) | (apply Bd; (· rfl); (· rfl); (· exact nxE))); (· first | exact Kz rfl rfl (hF) (Ad An) | exact Kz rfl rfl (hI) (Ad (Ad (Ad An))) | exact Kz rfl rfl (hA) (Ad An) | exact Kz rfl rfl (hG) (Ad (Ad An)) | exact Ok.pe)) | ((first | apply Ca | (apply Cb; (· exact nxE))); (· first | exact Ok.e0)) | refine Sx ?_ | (refine Sy (fun h => ?_) (fun h => ?_) <;> try (exfalso; omega; done)) | refine Sz (fun h => ?_) (fun h => ?_))
    refine Ya ?_
    (apply Le.headZ (hs := []) [] rfl)
    all_goals (try dsimp only [srcs])
    (case' hfr => (repeat' (first | refine La ?_ ?_ | exact Lc | refine Lo ?_ | refine ⟨⟨_, rfl, ?_⟩, ?_⟩ | refine Lx ?_)))
    all_goals (first | exact Ld | exact trivial | (first | rfl | exact (decide_eq_false (by omega)).symm))
/-! ### Potentials -/
def finL (x : List Int) : Bool := x.all fun a => wi a (-1000000) 1000000
theorem finL_eq {x : List Int} : (x.all fun a => isVal a && !decide (a = BOT)) = finL x := by
  unfold finL
  congr 1
  funext a
  rw [Bool.eq_iff_iff, Bool.and_eq_true, Bool.not_eq_true', decide_eq_false_iff_not, wi_iff, isVal_iff]
  unfold BOT
  omega
theorem getD_cell {x : List Int} {n j : Nat} (hl : x.length = n) (hj : j < n) : (IR x)[((j : Nat) : Int).toNat]? = some [DI (x.getD j 0)] := by
  have : x[j]? = some (x.getD j 0) := by rw [List.getD_eq_getElem?_getD, List.getElem?_eq_getElem (by omega)]; rfl
  exact IR_get this
theorem finL_at {x : List Int} {n j : Nat} (h : finL x = true) (hl : x.length = n) (hj : j < n) : -1000000 ≤ x.getD j 0 ∧ x.getD j 0 ≤ 1000000 := by
  unfold finL at h
  rw [List.all_eq_true] at h
  have h1 : x.getD j 0 ∈ x := by rw [List.getD_eq_getElem?_getD, List.getElem?_eq_getElem (by omega)]; exact List.getElem_mem _
  exact wi_iff.1 (h _ h1)
end Go.Proofs.YtpgcmpbamlnkkaaGreat
end

section
namespace Go.Proofs.YtpgcmpbamlnkkaaGreat
set_option linter.unusedSimpArgs false
set_option linter.unusedVariables false

structure FWX (W : Nat → Nat → Int) (n : Nat) (M : Int) (k : Nat) (s : Nat → Nat → Int) : Prop where
  bnd : ∀ u v, u < n → v < n → s v u ≠ BOT → -(M * 2 ^ k) ≤ s v u ∧ s v u ≤ M * 2 ^ k
  dia : ∀ u, u < n → s u u ≠ BOT ∧ 0 ≤ s u u
  arc : ∀ u v, u < n → v < n → W v u ≠ BOT → s v u ≠ BOT ∧ W v u ≤ s v u
  tr : ∀ u m v, u < n → m < k → m < n → v < n → s m u ≠ BOT → s v m ≠ BOT → s v u ≠ BOT ∧ s m u + s v m ≤ s v u
section
variable {W : Nat → Nat → Int} {n : Nat} {M : Int}
theorem FWX.start (hM : 0 ≤ M) (hMb : M < 1000000000000000) (hW : ∀ u v, W v u ≠ BOT → -M ≤ W v u ∧ W v u ≤ M) : FWX W n M 0 (fun i j => max (W i j) (if i = j then 0 else BOT)) := by
  have hb : ∀ u v, W v u = BOT ∨ (-M ≤ W v u ∧ W v u ≤ M) := fun u v => by
    by_cases h : W v u = BOT
    · exact .inl h
    · exact .inr (hW u v h)
  refine ⟨fun u v _ _ h => ?_, fun u _ => ?_, fun u v _ _ h => ?_, fun u m v _ h => by omega⟩
  · rw [Int.pow_zero, Int.mul_one]
    have h1 := hb u v
    revert h
    unfold BOT at *
    split <;> omega
  · have h1 := hb u u
    simp only [if_true]
    unfold BOT at *
    omega
  · have h1 := hW u v h
    unfold BOT at *
    split <;> omega
variable {k : Nat} {s : Nat → Nat → Int}
theorem FWX.step (hM : 0 ≤ M) (hMb : M * 2 ^ (k + 1) < 1000000000000000) (hk : k < n) (h : FWX W n M k s) (hkk : s k k = 0) : FWX W n M (k + 1) (fwS s k) ∧ (∀ i, i < n → fwS s k i k = s i k) ∧ ∀ j, j < n → fwS s k k j = s k j := by
  have hpow : M * 2 ^ (k + 1) = M * 2 ^ k * 2 := by rw [Int.pow_succ, Int.mul_assoc]
  have hp0 : 0 ≤ M * 2 ^ k := Int.mul_nonneg hM (Int.pow_nonneg (by omega))
  obtain ⟨hb, hd, ha, ht⟩ := h
  generalize M * 2 ^ k = B at *
  rw [hpow] at hMb
  have hc : ∀ v u, u < n → v < n → s v u = BOT ∨ (s v u ≠ BOT ∧ -B ≤ s v u ∧ s v u ≤ B) := fun v u hu hv => by
    by_cases e : s v u = BOT
    · exact .inl e
    · exact .inr ⟨e, hb u v hu hv e⟩
  have g1 : ∀ v u, u < n → v < n → s v u ≠ BOT → fwS s k v u ≠ BOT ∧ s v u ≤ fwS s k v u := fun v u hu hv h => by
    have := hb u v hu hv h
    unfold fwS BOT at *
    omega
  have g2 : ∀ v u, u < n → v < n → s v k ≠ BOT → s k u ≠ BOT → fwS s k v u ≠ BOT ∧ s v k + s k u ≤ fwS s k v u := fun v u hu hv h1 h2 => by
    have a1 := hb k v hk hv h1
    have a2 := hb u k hu hk h2
    unfold fwS
    rw [timesB_ne h1 h2]
    unfold BOT at *
    omega
  have g3 : ∀ v u, u < n → v < n → fwS s k v u ≠ BOT → (s v u ≠ BOT ∧ fwS s k v u = s v u) ∨ (s v k ≠ BOT ∧ s k u ≠ BOT ∧ fwS s k v u = s v k + s k u) := fun v u hu hv h => by
    have a0 := hc v u hu hv
    by_cases h1 : s v k = BOT
    · have e : fwS s k v u = max (s v u) BOT := by unfold fwS timesB; rw [if_pos (.inl h1)]
      rw [e] at h ⊢
      left; unfold BOT at *; omega
    · by_cases h2 : s k u = BOT
      · have e : fwS s k v u = max (s v u) BOT := by unfold fwS timesB; rw [if_pos (.inr h2)]
        rw [e] at h ⊢
        left; unfold BOT at *; omega
      · have a1 := hb k v hk hv h1
        have a2 := hb u k hu hk h2
        have e : fwS s k v u = max (s v u) (s v k + s k u) := by unfold fwS; rw [timesB_ne h1 h2]
        rw [e] at h ⊢
        by_cases h3 : s v u = BOT
        · right; refine ⟨h1, h2, ?_⟩; unfold BOT at *; omega
        · by_cases h4 : s v k + s k u ≤ s v u
          · left; exact ⟨h3, by omega⟩
          · right; exact ⟨h1, h2, by omega⟩
  refine ⟨⟨fun u v hu hv h => ?_, fun u hu => ?_, fun u v hu hv h => ?_, fun u m v hu hm hmn hv h1 h2 => ?_⟩, fun i hi => ?_, fun j hj => ?_⟩
  · rw [hpow]
    rcases g3 v u hu hv h with ⟨a, e⟩ | ⟨a, b, e⟩
    · have := hb u v hu hv a; omega
    · have := hb k v hk hv a
      have := hb u k hu hk b
      omega
  · obtain ⟨a, b⟩ := hd u hu
    have := g1 u u hu hu a
    exact ⟨this.1, by omega⟩
  · obtain ⟨a, b⟩ := ha u v hu hv h
    have := g1 v u hu hv a
    exact ⟨this.1, by omega⟩
  · by_cases e : m = k
    · subst e
      have e1 : fwS s m m u = s m u := by unfold fwS; rw [hkk, timesB_0']; omega
      have e2 : fwS s m v m = s v m := by unfold fwS; rw [hkk, timesB_0]; omega
      rw [e1] at h1 ⊢
      rw [e2] at h2 ⊢
      have := g2 v u hu hv h2 h1
      exact ⟨this.1, by omega⟩
    · have ih := fun u v hu hv => ht u m v hu (by omega) hmn hv
      rcases g3 m u hu hmn h1 with ⟨a, ea⟩ | ⟨a, a', ea⟩ <;> rcases g3 v m hmn hv h2 with ⟨b, eb⟩ | ⟨b, b', eb⟩
      · obtain ⟨i1, i2⟩ := ih u v hu hv a b
        have := g1 v u hu hv i1
        exact ⟨this.1, by omega⟩
      · obtain ⟨i1, i2⟩ := ih u k hu hk a b'
        have := g2 v u hu hv b i1
        exact ⟨this.1, by omega⟩
      · obtain ⟨i1, i2⟩ := ih k v hk hv a b
        have := g2 v u hu hv i1 a'
        exact ⟨this.1, by omega⟩
      · obtain ⟨i1, i2⟩ := ih k k hk hk a b'
        have := g2 v u hu hv b a'
        exact ⟨this.1, by omega⟩
  · unfold fwS; rw [hkk, timesB_0]; omega
  · unfold fwS; rw [hkk, timesB_0']; omega
theorem FWX.walk (h : FWX W n M n s) : ∀ (c : List Nat) (u v : Nat), u < n → v < n → (∀ x ∈ c, x < n) → WM W u c v → s v u ≠ BOT ∧ wM W u c v ≤ s v u
  | [], u, v, hu, hv, _, hw => h.arc u v hu hv hw
  | m :: c, u, v, hu, hv, hc, hw => by
    have hm := hc m (by simp)
    obtain ⟨a1, a2⟩ := h.arc u m hu hm hw.1
    obtain ⟨b1, b2⟩ := h.walk c m v hm hv (fun x hx => hc x (by simp [hx])) hw.2
    obtain ⟨c1, c2⟩ := h.tr u m v hu hm hm hv a1 b1
    exact ⟨c1, by simp only [wM]; omega⟩
/-- Where no diagonal is positive there is no positive cycle. -/
theorem FWX.np (h : FWX W n M n s) (h0 : ∀ u, u < n → s u u ≤ 0) : NoPos W n := fun u c hu hc hw => by
  have := h.walk c u u hu hu hc hw
  have := h0 u hu
  omega
/-- Powers that stay as they are: there is no positive cycle. -/
theorem powS_np {x : Nat → Nat → Int} (hx : ∀ u v, u < n → v < n → powS W n x v u = x v u) (hb : ∀ u v, u < n → v < n → x v u = BOT ∨ (-400000000000000 ≤ x v u ∧ x v u ≤ 400000000000000)) (hW : ∀ u v, W v u ≠ BOT → -100000000000 ≤ W v u ∧ W v u ≤ 100000000000) : NoPos W n := by
  have hge : ∀ u v q, u < n → v < n → q < n → W v q ≠ BOT → x q u ≠ BOT → x v u ≠ BOT ∧ W v q + x q u ≤ x v u := fun u v q hu hv hq h1 h2 => by
    have e := hx u v hu hv
    have g : timesB (W v q) (x q u) ≤ maxN (fun k => timesB (W v k) (x k u)) n := maxN_ge (f := fun k => timesB (W v k) (x k u)) hq
    rw [timesB_ne h1 h2] at g
    unfold powS at e
    have w1 := hW q v h1
    have w2 := (hb u q hu hq).resolve_left h2
    have : W v q + x q u ≤ x v u := by rw [← e]; omega
    refine ⟨?_, this⟩
    unfold BOT at *
    omega
  have key : ∀ (c : List Nat) (a u v : Nat), u < n → a < n → v < n → (∀ y ∈ c, y < n) → WM W a c v → x a u ≠ BOT → x v u ≠ BOT ∧ wM W a c v + x a u ≤ x v u := by
    intro c
    induction c with
    | nil => intro a u v hu ha hv _ hw h; exact hge u v a hu hv ha hw h
    | cons m c ih =>
      intro a u v hu ha hv hc hw h
      have hm := hc m (by simp)
      obtain ⟨a1, a2⟩ := hge u m a hu hm ha hw.1 h
      obtain ⟨b1, b2⟩ := ih m u v hu hm hv (fun y hy => hc y (by simp [hy])) hw.2 a1
      exact ⟨b1, by simp only [wM]; omega⟩
  intro u c hu hc hw
  have e := hx u u hu hu
  have h0 : x u u ≠ BOT := by
    unfold powS unitF at e
    simp only [if_true] at e
    unfold BOT
    omega
  have := (key c u u u hu hu hu hc hw h0).2
  omega
end
end Go.Proofs.YtpgcmpbamlnkkaaGreat
end

section
namespace Go.Proofs.YtpgcmpbamlnkkaaGreat
set_option linter.unusedSimpArgs false
set_option linter.unusedVariables false
open Go Go.RowKit
attribute [local irreducible] AL AD AW OpOk Le AC thenQ blockQ EndQ

theorem take_eq_succ {α : Type} {xs ys : List α} {k : Nat} {x y : α} (h : xs.take k = ys.take k) (hx : xs[k]? = some x) (hy : ys[k]? = some y) (e : x = y) : xs.take (k + 1) = ys.take (k + 1) := by
  obtain ⟨h1, rfl⟩ := List.getElem?_eq_some_iff.1 hx
  obtain ⟨h2, rfl⟩ := List.getElem?_eq_some_iff.1 hy
  rw [List.take_succ_eq_append_getElem h1, List.take_succ_eq_append_getElem h2, h, e]
theorem ne_at {α : Type} {xs ys : List α} {k : Nat} {x y : α} (hx : xs[k]? = some x) (hy : ys[k]? = some y) (e : x ≠ y) : xs ≠ ys := fun h => by
  subst h
  rw [hx] at hy
  exact e (Option.some.inj hy)
theorem l01SameD_ac (xs ys : List Int) (hn : xs.length ≤ 100000000) (hm : ys.length ≤ 100000000) : AC Tryz.prog 203 [IL xs, IL ys] H0 (Bo (decide (xs = ys))) H0 := by
  by_cases hl : xs.length = ys.length
  case neg =>
    rw [decide_eq_false (fun e => hl (by rw [e]))]
    refine AC.of_body 0 Tryz.func203 rfl (fun l h => absurd rfl h) (fun C hC => ?_)
    have hD : ∀ l, ¬ C.D0 l := fun l h => (hC l).1 h rfl
    simp only [startFr, Tryz.ntmps203, List.length_cons, List.length_nil, Nat.reduceAdd, Nat.reduceSub, List.replicate_succ, List.replicate_zero, List.cons_append, List.nil_append]
    repeat' (first | ((first | apply Ba | (apply Bb; (· rfl); (· rfl)) | (apply Bc; (· exact nxE)) | (apply Bd; (· rfl); (· rfl); (· exact nxE))); (· first | exact Ok.pe)) | ((first | apply Ca | (apply Cb; (· exact nxE))); (· first | exact Ok.e0)) | refine Sx ?_ | (refine Sy (fun h => ?_) (fun h => ?_) <;> try (exfalso; omega; done)) | refine Sz (fun h => ?_) (fun h => ?_))
    refine Ya ?_
    (apply Le.headZ (hs := []) [] rfl)
    all_goals (try dsimp only [srcs])
    (case' hfr => (repeat' (first | refine La ?_ ?_ | exact Lc | refine Lo ?_ | refine ⟨⟨_, rfl, ?_⟩, ?_⟩ | refine Lx ?_)))
    all_goals (first | exact Ld | exact trivial | (rfl))
  refine AC.of_body 0 Tryz.func203 rfl (fun l h => absurd rfl h) (fun C hC => ?_)
  have hD : ∀ l, ¬ C.D0 l := fun l h => (hC l).1 h rfl
  simp only [startFr, Tryz.ntmps203, List.length_cons, List.length_nil, Nat.reduceAdd, Nat.reduceSub, List.replicate_succ, List.replicate_zero, List.cons_append, List.nil_append]
  repeat' (first | ((first | apply Ba | (apply Bb; (· rfl); (· rfl)) | (apply Bc; (· exact nxE)) | (apply Bd; (· rfl); (· rfl); (· exact nxE))); (· first | exact Ok.pe)) | ((first | apply Ca | (apply Cb; (· exact nxE))); (· first | exact Ok.e0)) | refine Sx ?_ | (refine Sy (fun h => ?_) (fun h => ?_) <;> try (exfalso; omega; done)) | refine Sz (fun h => ?_) (fun h => ?_))
  refine AW.loop (X := {k : Nat // k ≤ xs.length ∧ xs.take k = ys.take k}) (fun k => ⟨[IL xs, IL ys, Oo, Oo, Oo, I (k.1 : Nat), Oo, Oo, Oo, Oo, Oo, Oo, Oo, Oo, Oo, Oo, Oo, Oo, Oo, Oo, Oo, Oo, Oo, Oo, Oo, Oo], heapL [], 900⟩) (fun k => xs.length - k.1) ⟨0, Nat.zero_le _, by simp⟩ ?_ (fun k => ?_)
  ·
    (apply Le.headZ [] rfl)
    all_goals (try dsimp only [srcs])
    (case' hfr | hob => (repeat' (first | refine La ?_ ?_ | exact Lc | refine Lo ?_ | refine ⟨⟨_, rfl, ?_⟩, ?_⟩ | refine Lx ?_)))
    all_goals (first | (rfl) | exact Ld)
  obtain ⟨k, hk, hq⟩ := k
  simp only
  by_cases hlt : k < xs.length
  · obtain ⟨x, hx⟩ : ∃ x, xs[k]? = some x := ⟨xs[k], by simp⟩
    obtain ⟨y, hy⟩ : ∃ y, ys[k]? = some y := ⟨ys[k]'(by omega), List.getElem?_eq_getElem _⟩
    have hrow := IR_get hx
    have hrow2 := IR_get hy
    by_cases e : x = y
    · have hs := take_eq_succ hq hx hy e
      repeat' (first | ((first | apply Ba | (apply Bb; (· rfl); (· rfl)) | (apply Bc; (· exact nxE)) | (apply Bd; (· rfl); (· rfl); (· exact nxE))); (· first | exact Ok.pe)) | ((first | apply Ca | (apply Cb; (· exact nxE))); (· first | exact Ok.e0)) | refine Sx ?_ | (refine Sy (fun h => ?_) (fun h => ?_) <;> try (exfalso; omega; done)) | refine Sz (fun h => ?_) (fun h => ?_))
      refine ⟨⟨k + 1, by omega, hs⟩, ?_, by simp only; omega⟩
      (apply Le.headZ [] rfl)
      all_goals (try dsimp only [srcs])
      (case' hfr | hob => (repeat' (first | refine La ?_ ?_ | exact Lc | refine Lo ?_ | refine ⟨⟨_, rfl, ?_⟩, ?_⟩ | refine Lx ?_)))
      all_goals (first | (rfl) | exact Ld)
    · rw [decide_eq_false (ne_at hx hy e)]
      repeat' (first | ((first | apply Ba | (apply Bb; (· rfl); (· rfl)) | (apply Bc; (· exact nxE)) | (apply Bd; (· rfl); (· rfl); (· exact nxE))); (· first | exact Ok.pe)) | ((first | apply Ca | (apply Cb; (· exact nxE))); (· first | exact Ok.e0)) | refine Sx ?_ | (refine Sy (fun h => ?_) (fun h => ?_) <;> try (exfalso; omega; done)) | refine Sz (fun h => ?_) (fun h => ?_))
      refine Ya ?_
      (apply Le.headZ (hs := []) [] rfl)
      all_goals (try dsimp only [srcs])
      (case' hfr => (repeat' (first | refine La ?_ ?_ | exact Lc | refine Lo ?_ | refine ⟨⟨_, rfl, ?_⟩, ?_⟩ | refine Lx ?_)))
      all_goals (first | exact Ld | exact trivial | (rfl))
  · obtain rfl : k = xs.length := by omega
    rw [List.take_length, List.take_of_length_le (by omega)] at hq
    rw [decide_eq_true hq]
    repeat' (first | ((first | apply Ba | (apply Bb; (· rfl); (· rfl)) | (apply Bc; (· exact nxE)) | (apply Bd; (· rfl); (· rfl); (· exact nxE))); (· first | exact Ok.pe)) | ((first | apply Ca | (apply Cb; (· exact nxE))); (· first | exact Ok.e0)) | refine Sx ?_ | (refine Sy (fun h => ?_) (fun h => ?_) <;> try (exfalso; omega; done)) | refine Sz (fun h => ?_) (fun h => ?_))
    refine Ya ?_
    (apply Le.headZ (hs := []) [] rfl)
    all_goals (try dsimp only [srcs])
    (case' hfr => (repeat' (first | refine La ?_ ?_ | exact Lc | refine Lo ?_ | refine ⟨⟨_, rfl, ?_⟩, ?_⟩ | refine Lx ?_)))
    all_goals (first | exact Ld | exact trivial | (rfl))
theorem l02SameD_ac (t u : List (List Int)) (ht : t.length ≤ 100000000) (hr : ∀ r ∈ t, r.length ≤ 100000000) (hu : u.length ≤ 100000000) (hs : ∀ r ∈ u, r.length ≤ 100000000) : AC Tryz.prog 148 [TL t, TL u] H0 (Bo (decide (t = u))) H0 := by
  by_cases hl : t.length = u.length
  case neg =>
    rw [decide_eq_false (fun e => hl (by rw [e]))]
    refine AC.of_body 0 Tryz.func148 rfl (fun l h => absurd rfl h) (fun C hC => ?_)
    have hD : ∀ l, ¬ C.D0 l := fun l h => (hC l).1 h rfl
    simp only [startFr, Tryz.ntmps148, List.length_cons, List.length_nil, Nat.reduceAdd, Nat.reduceSub, List.replicate_succ, List.replicate_zero, List.cons_append, List.nil_append]
    repeat' (first | ((first | apply Ba | (apply Bb; (· rfl); (· rfl)) | (apply Bc; (· exact nxE)) | (apply Bd; (· rfl); (· rfl); (· exact nxE))); (· first | exact Ok.pe)) | ((first | apply Ca | (apply Cb; (· exact nxE))); (· first | exact Ok.e0)) | refine Sx ?_ | (refine Sy (fun h => ?_) (fun h => ?_) <;> try (exfalso; omega; done)) | refine Sz (fun h => ?_) (fun h => ?_))
    refine Ya ?_
    (apply Le.headZ (hs := []) [] rfl)
    all_goals (try dsimp only [srcs])
    (case' hfr => (repeat' (first | refine La ?_ ?_ | exact Lc | refine Lo ?_ | refine ⟨⟨_, rfl, ?_⟩, ?_⟩ | refine Lx ?_)))
    all_goals (first | exact Ld | exact trivial | (rfl))
  refine AC.of_body 0 Tryz.func148 rfl (fun l h => absurd rfl h) (fun C hC => ?_)
  have hD : ∀ l, ¬ C.D0 l := fun l h => (hC l).1 h rfl
  simp only [startFr, Tryz.ntmps148, List.length_cons, List.length_nil, Nat.reduceAdd, Nat.reduceSub, List.replicate_succ, List.replicate_zero, List.cons_append, List.nil_append]
  repeat' (first | ((first | apply Ba | (apply Bb; (· rfl); (· rfl)) | (apply Bc; (· exact nxE)) | (apply Bd; (· rfl); (· rfl); (· exact nxE))); (· first | exact Ok.pe)) | ((first | apply Ca | (apply Cb; (· exact nxE))); (· first | exact Ok.e0)) | refine Sx ?_ | (refine Sy (fun h => ?_) (fun h => ?_) <;> try (exfalso; omega; done)) | refine Sz (fun h => ?_) (fun h => ?_))
  refine AW.loop (X := {k : Nat // k ≤ t.length ∧ t.take k = u.take k}) (fun k => ⟨[TL t, TL u, Oo, Oo, Oo, I (k.1 : Nat), Oo, Oo, Oo, Oo, Oo, Oo, Oo, Oo, Oo, Oo, Oo, Oo, Oo, Oo, Oo, Oo, Oo, Oo, Oo, Oo, Oo], heapL [], 900⟩) (fun k => t.length - k.1) ⟨0, Nat.zero_le _, by simp⟩ ?_ (fun k => ?_)
  ·
    (apply Le.headZ [] rfl)
    all_goals (try dsimp only [srcs])
    (case' hfr | hob => (repeat' (first | refine La ?_ ?_ | exact Lc | refine Lo ?_ | refine ⟨⟨_, rfl, ?_⟩, ?_⟩ | refine Lx ?_)))
    all_goals (first | (rfl) | exact Ld)
  obtain ⟨k, hk, hq⟩ := k
  simp only
  by_cases hlt : k < t.length
  · obtain ⟨x, hx⟩ : ∃ x, t[k]? = some x := ⟨t[k], by simp⟩
    obtain ⟨y, hy⟩ : ∃ y, u[k]? = some y := ⟨u[k]'(by omega), List.getElem?_eq_getElem _⟩
    have hrow := TR_get hx
    have hrow2 := TR_get hy
    have hSa := l01SameD_ac x y (hr x (List.mem_of_getElem? hx)) (hs y (List.mem_of_getElem? hy))
    by_cases e : x = y
    · have hs := take_eq_succ hq hx hy e
      rw [decide_eq_true e] at hSa
      repeat' (first | ((first | apply Ba | (apply Bb; (· rfl); (· rfl)) | (apply Bc; (· exact nxE)) | (apply Bd; (· rfl); (· rfl); (· exact nxE))); (· first | exact Kz rfl rfl (hSa) (Ad (Ad An)) | exact Ok.pe)) | ((first | apply Ca | (apply Cb; (· exact nxE))); (· first | exact Ok.e0)) | refine Sx ?_ | (refine Sy (fun h => ?_) (fun h => ?_) <;> try (exfalso; omega; done)) | refine Sz (fun h => ?_) (fun h => ?_))
      refine ⟨⟨k + 1, by omega, hs⟩, ?_, by simp only; omega⟩
      (apply Le.headZ [] rfl)
      all_goals (try dsimp only [srcs])
      (case' hfr | hob => (repeat' (first | refine La ?_ ?_ | exact Lc | refine Lo ?_ | refine ⟨⟨_, rfl, ?_⟩, ?_⟩ | refine Lx ?_)))
      all_goals (first | (rfl) | exact Ld)
    · rw [decide_eq_false (ne_at hx hy e)]
      rw [decide_eq_false e] at hSa
      repeat' (first | ((first | apply Ba | (apply Bb; (· rfl); (· rfl)) | (apply Bc; (· exact nxE)) | (apply Bd; (· rfl); (· rfl); (· exact nxE))); (· first | exact Kz rfl rfl (hSa) (Ad (Ad An)) | exact Ok.pe)) | ((first | apply Ca | (apply Cb; (· exact nxE))); (· first | exact Ok.e0)) | refine Sx ?_ | (refine Sy (fun h => ?_) (fun h => ?_) <;> try (exfalso; omega; done)) | refine Sz (fun h => ?_) (fun h => ?_))
      refine Ya ?_
      (apply Le.headZ (hs := []) [] rfl)
      all_goals (try dsimp only [srcs])
      (case' hfr => (repeat' (first | refine La ?_ ?_ | exact Lc | refine Lo ?_ | refine ⟨⟨_, rfl, ?_⟩, ?_⟩ | refine Lx ?_)))
      all_goals (first | exact Ld | exact trivial | (rfl))
  · obtain rfl : k = t.length := by omega
    rw [List.take_length, List.take_of_length_le (by omega)] at hq
    rw [decide_eq_true hq]
    repeat' (first | ((first | apply Ba | (apply Bb; (· rfl); (· rfl)) | (apply Bc; (· exact nxE)) | (apply Bd; (· rfl); (· rfl); (· exact nxE))); (· first | exact Ok.pe)) | ((first | apply Ca | (apply Cb; (· exact nxE))); (· first | exact Ok.e0)) | refine Sx ?_ | (refine Sy (fun h => ?_) (fun h => ?_) <;> try (exfalso; omega; done)) | refine Sz (fun h => ?_) (fun h => ?_))
    refine Ya ?_
    (apply Le.headZ (hs := []) [] rfl)
    all_goals (try dsimp only [srcs])
    (case' hfr => (repeat' (first | refine La ?_ ?_ | exact Lc | refine Lo ?_ | refine ⟨⟨_, rfl, ?_⟩, ?_⟩ | refine Lx ?_)))
    all_goals (first | exact Ld | exact trivial | (rfl))
/-- A matrix whose star may not be there. -/
structure StarB (t : List (List Int)) (n : Nat) : Prop where
  rc : Rc t n n
  n0 : 0 < n
  nn : n ≤ 10
  bnd : ∀ u v, entN t v u ≠ BOT → -100000000000 ≤ entN t v u ∧ entN t v u ≤ 100000000000
theorem StarB.m {t : List (List Int)} {n : Nat} (h : StarB t n) (hp : NoPos (entN t) n) : StarM t n := ⟨h.rc, h.n0, h.nn, h.bnd, hp⟩
section
variable {t : List (List Int)} {n : Nat} (h : StarB t n)
include h
theorem StarB.fwx : ∀ k, k ≤ n → (∀ j, j < k → fwN (entN t) j j j ≤ 0) → FWX (entN t) n 100000000000 k (fwN (entN t) k)
  | 0, _, _ => FWX.start (by decide) (by decide) h.bnd
  | k + 1, hk, hd => by
    have h2 := pow_le10 (show k + 1 ≤ 10 by have := h.nn; omega)
    have ih := StarB.fwx k (by omega) (fun j hj => hd j (by omega))
    have d1 := hd k (by omega)
    have d2 := (ih.dia k (by omega)).2
    exact (FWX.step (by decide) (by omega) (by omega) ih (by omega)).1
theorem StarB.cells {k : Nat} (hk : k ≤ n) (hd : ∀ j, j < k → fwN (entN t) j j j ≤ 0) {i j : Nat} (hi : i < n) (hj : j < n) : fwN (entN t) k i j = BOT ∨ (-102400000000000 ≤ fwN (entN t) k i j ∧ fwN (entN t) k i j ≤ 102400000000000) := by
  by_cases e : fwN (entN t) k i j = BOT
  · exact .inl e
  · have := (h.fwx k hk hd).bnd j i hj hi e
    have := pow_le10 (show k ≤ 10 by have := h.nn; omega)
    right; omega
theorem StarB.px {m : Nat} (hm : m ≤ n + 1) : PX (entN t) n 100000000000 m (powN (entN t) n m) :=
  powN_px (by decide) h.bnd m (by have := h.nn; omega)
theorem StarB.mul {m : Nat} (hm : m ≤ n) : AC Tryz.prog 147 [TL t, TL (tabF n n (powN (entN t) n m))] H0 (own1 1 n) (hpM 1 (TR (tabF n n (mulF t (tabF n n (powN (entN t) n m)) n)))) := by
  have hn := h.nn
  refine l02Multiply_ac n t _ h.rc tabF_rc (by omega) h.n0 (fun i q j hi hq hj h1 h2 => ?_)
  rw [tabF_ent hq hj] at h2 ⊢
  have g1 := h.bnd q i h1
  have g2 := (h.px (show m ≤ n + 1 by omega)).bnd j q hj hq h2
  omega
theorem StarB.add {m : Nat} : AC Tryz.prog 146 [TL (tabF n n unitF), TL (tabF n n (mulF t (tabF n n (powN (entN t) n m)) n))] H0 (own1 1 n) (hpM 1 (TR (tabF n n (powN (entN t) n (m + 1))))) := by
  have hn := h.nn
  have hA := l02Add_ac n n (tabF n n unitF) (tabF n n (mulF t (tabF n n (powN (entN t) n m)) n)) tabF_rc tabF_rc (by omega) (by omega)
  have e : tabF n n (addF (tabF n n unitF) (tabF n n (mulF t (tabF n n (powN (entN t) n m)) n))) = tabF n n (powN (entN t) n (m + 1)) := tabF_congr fun i j hi hj => by
    unfold addF
    rw [tabF_ent hi hj, tabF_ent hi hj]
    show _ = powS (entN t) n (powN (entN t) n m) i j
    unfold powS mulF
    rw [maxN_congr (g := fun q => timesB (entN t i q) (powN (entN t) n m q j)) (fun q hq => by show timesB (entN t i q) (entN (tabF n n (powN (entN t) n m)) q j) = _; rw [tabF_ent hq hj])]
  rw [← e]
  exact hA
theorem StarB.diff (hp : ¬ NoPos (entN t) n) : tabF n n (powN (entN t) n (n + 1)) ≠ tabF n n (powN (entN t) n n) := fun e => hp (by
  have hn := h.nn
  refine powS_np (x := powN (entN t) n n) (fun u v hu hv => ?_) (fun u v hu hv => ?_) h.bnd
  · have h1 := tabF_ent (f := powN (entN t) n (n + 1)) hv hu
    rw [e, tabF_ent hv hu] at h1
    exact h1.symm
  · by_cases eb : powN (entN t) n n v u = BOT
    · exact .inl eb
    · have := (h.px (show n ≤ n + 1 by omega)).bnd u v hu hv eb
      right; omega)
end
set_option maxHeartbeats 4000000 in
theorem l03Star_no (t : List (List Int)) (n : Nat) (h : StarB t n) (hp : ¬ NoPos (entN t) n) : AC Tryz.prog 64 [TL t] H0 (.tup [own1 1 n, Bo false]) (hpM 1 (TR (tabF n n (powN (entN t) n n)))) := by
  have hn := h.nn
  have h0 := h.n0
  have htl := h.rc.l
  have hU := l02Unit_ac n (by omega)
  have hul : (tabF n n unitF).length = n := tabF_len
  have hL : (mRows 1 (TR t)).length = n := by rw [mTR_len, htl]
  refine AC.of_body 0 Tryz.func64 rfl (fun l h => absurd rfl h) (fun C hC => ?_)
  have hD : ∀ l, ¬ C.D0 l := fun l h => (hC l).1 h rfl
  simp only [startFr, Tryz.ntmps64, List.length_cons, List.length_nil, Nat.reduceAdd, Nat.reduceSub, List.replicate_succ, List.replicate_zero, List.cons_append, List.nil_append]
  repeat' (first | ((first | apply Ba | (apply Bb; (· rfl); (· rfl)) | (apply Bc; (· exact nxE)) | (apply Bd; (· rfl); (· rfl); (· exact nxE))); (· first | exact Ok.lenD rfl rfl hL | exact Tb rfl rfl (hU) (Sd Sn) | exact Ok.pe)) | ((first | apply Ca | (apply Cb; (· exact nxE))); (· first | exact Tb rfl rfl (hU) (Sd Sn) | exact Ok.e0)) | refine Sx ?_ | (refine Sy (fun h => ?_) (fun h => ?_) <;> try (exfalso; omega; done)) | refine Sz (fun h => ?_) (fun h => ?_))
  refine AW.loop (X := {k : Nat // k ≤ n}) (fun k => ⟨[TL t, Oo, Oo, Oo, I n, .own 1 ⟨1, []⟩ 0 n, I (k.1 : Nat), Oo, Oo, Oo, Oo, Oo, Oo, Oo, Oo, Oo, Oo, Oo, Oo, Oo, Oo, Oo, Oo, Oo, Oo, Oo, Oo, Oo, Oo, Oo, Oo, Oo, Oo], heapX [] [mi1 ⟨1, []⟩ (TR (tabF n n (powN (entN t) n k.1)))], 900⟩) (fun k => n - k.1) ⟨0, Nat.zero_le _⟩ ?_ (fun k => ?_)
  ·
    (apply Le.headG [] [{ l := ⟨1, []⟩, k := 1, R := TR (tabF n n (powN (entN t) n 0)), src := ⟨6, [0]⟩, base := ⟨6, [0]⟩ }] (fun _ => False))
    (case' hlen => rfl)
    (case' hms => rfl)
    all_goals (try dsimp only [srcs])
    (case' hfr | hob => (repeat' (first | refine La ?_ ?_ | exact Lc | refine Lo ?_ | refine ⟨⟨_, rfl, ?_⟩, ?_⟩ | refine Lx ?_)))
    (case' hok => first | exact ⟨MI.ok_same rfl (Cg), trivial⟩ | exact trivial)
    (case' hN => rfl)
    (case' hS => rfl)
    all_goals (first | exact Ld | (rfl))
  obtain ⟨m, hk⟩ := k
  simp only
  have hM := h.mul hk
  have hA := h.add (m := m)
  have hpl : (tabF n n (powN (entN t) n m)).length = n := tabF_len
  have hml : (tabF n n (mulF t (tabF n n (powN (entN t) n m)) n)).length = n := tabF_len
  by_cases hlt : m < n
  ·
    repeat' (first | ((first | apply Ba | (apply Bb; (· rfl); (· rfl)) | (apply Bc; (· exact nxE)) | (apply Bd; (· rfl); (· rfl); (· exact nxE))); (· first | exact Tb rfl rfl (hU) (Sd Sn) | exact Tb rfl rfl (hM) (Sd (Sm Sn)) | exact Tb rfl rfl (hA) (Sm (Sm Sn)) | exact Ok.pe)) | ((first | apply Ca | (apply Cb; (· exact nxE))); (· first | exact Tb rfl rfl (hU) (Sd Sn) | exact Tb rfl rfl (hM) (Sd (Sm Sn)) | exact Tb rfl rfl (hA) (Sm (Sm Sn)) | exact Ok.e0)) | refine Sx ?_ | (refine Sy (fun h => ?_) (fun h => ?_) <;> try (exfalso; omega; done)) | refine Sz (fun h => ?_) (fun h => ?_))
    refine ⟨⟨m + 1, by omega⟩, ?_, by simp only; omega⟩
    (apply Le.headG [] [{ l := ⟨1, []⟩, k := 1, R := TR (tabF n n (powN (entN t) n (m + 1))), src := ⟨908, [0]⟩, base := ⟨908, [0]⟩ }] (fun _ => False))
    (case' hlen => rfl)
    (case' hms => rfl)
    all_goals (try dsimp only [srcs])
    (case' hfr | hob => (repeat' (first | refine La ?_ ?_ | exact Lc | refine Lo ?_ | refine ⟨⟨_, rfl, ?_⟩, ?_⟩ | refine Lx ?_)))
    (case' hok => first | exact ⟨MI.ok_same rfl (Cg), trivial⟩ | exact trivial)
    (case' hN => rfl)
    (case' hS => rfl)
    all_goals (first | exact Ld | (rfl))
  ·
    obtain rfl : n = m := by omega
    have hd := h.diff hp
    have hS := l02SameD_ac (tabF n n (powN (entN t) n (n + 1))) (tabF n n (powN (entN t) n n)) (by rw [tabF_len]; omega) (fun r hr => by rw [tabF_rc.r r hr]; omega) (by rw [tabF_len]; omega) (fun r hr => by rw [tabF_rc.r r hr]; omega)
    rw [decide_eq_false hd] at hS
    have hql : (tabF n n (powN (entN t) n (n + 1))).length = n := tabF_len
    repeat' (first | ((first | apply Ba | (apply Bb; (· rfl); (· rfl)) | (apply Bc; (· exact nxE)) | (apply Bd; (· rfl); (· rfl); (· exact nxE))); (· first | exact Ez rfl rfl (hS) (Sm (Sm Sn)) | exact Tb rfl rfl (hU) (Sd Sn) | exact Tb rfl rfl (hM) (Sd (Sm Sn)) | exact Tb rfl rfl (hA) (Sm (Sm Sn)) | exact Ok.pe)) | ((first | apply Ca | (apply Cb; (· exact nxE))); (· first | exact Tb rfl rfl (hU) (Sd Sn) | exact Tb rfl rfl (hM) (Sd (Sm Sn)) | exact Tb rfl rfl (hA) (Sm (Sm Sn)) | exact Ok.e0)) | refine Sx ?_ | (refine Sy (fun h => ?_) (fun h => ?_) <;> try (exfalso; omega; done)) | refine Sz (fun h => ?_) (fun h => ?_))
    refine Yb ?_
    (apply Le.headG [] [{ l := ⟨0, []⟩, k := 1, R := TR (tabF n n (powN (entN t) n n)), src := ⟨1, []⟩, base := ⟨1, []⟩ }] (fun _ => False))
    (case' hlen => rfl)
    (case' hms => rfl)
    all_goals (try dsimp only [srcs])
    (case' hfr | hob => (repeat' (first | refine La ?_ ?_ | exact Lc | refine Lo ?_ | refine ⟨⟨_, rfl, ?_⟩, ?_⟩ | refine Lx ?_)))
    (case' hok => first | exact ⟨MI.ok_same rfl (Cg), trivial⟩ | exact trivial)
    (case' hN => rfl)
    (case' hS => rfl)
    all_goals (first | exact Ld | (rfl))
set_option maxHeartbeats 4000000 in
theorem starOf_no (t : List (List Int)) (n : Nat) (h : StarB t n) (hp : ¬ NoPos (entN t) n) : AC Tryz.prog 140 [TL t] H0 (.tup [TL [], Bo false]) H0 := by
  have hn := h.nn
  have h0 := h.n0
  have htl := h.rc.l
  have hU := unitMatrix_ac n (by omega)
  have hA := addMatrices_ac n n t (tabF n n unitF) h.rc tabF_rc h0 (by omega) (by omega)
  have hA0 : tabF n n (addF t (tabF n n unitF)) = tabF n n (fwN (entN t) 0) := tabF_congr fun i j hi hj => by
    unfold addF fwN
    rw [tabF_ent hi hj]
    rfl
  rw [hA0] at hA
  have hul : (tabF n n unitF).length = n := tabF_len
  have hL : (mRows 1 (TR t)).length = n := by rw [mTR_len, htl]
  refine AC.of_body 0 Tryz.func140 rfl (fun l h => absurd rfl h) (fun C hC => ?_)
  have hD : ∀ l, ¬ C.D0 l := fun l h => (hC l).1 h rfl
  simp only [startFr, Tryz.ntmps140, List.length_cons, List.length_nil, Nat.reduceAdd, Nat.reduceSub, List.replicate_succ, List.replicate_zero, List.cons_append, List.nil_append]
  repeat' (first | ((first | apply Ba | (apply Bb; (· rfl); (· rfl)) | (apply Bc; (· exact nxE)) | (apply Bd; (· rfl); (· rfl); (· exact nxE))); (· first | exact Ok.lenD rfl rfl hL | exact Tb rfl rfl (hU) (Sd Sn) | exact Tb rfl rfl (hA) (Sd (Sm Sn)) | exact Ok.pe)) | ((first | apply Ca | (apply Cb; (· exact nxE))); (· first | exact Tb rfl rfl (hU) (Sd Sn) | exact Tb rfl rfl (hA) (Sd (Sm Sn)) | exact Ok.e0)) | refine Sx ?_ | (refine Sy (fun h => ?_) (fun h => ?_) <;> try (exfalso; omega; done)) | refine Sz (fun h => ?_) (fun h => ?_))
  refine AW.loop (X := {k : Nat // k ≤ n ∧ ∀ j, j < k → fwN (entN t) j j j ≤ 0}) (fun k => ⟨[Oo, Oo, Oo, Oo, .own 1 ⟨1, []⟩ 0 n, Oo, Oo, Oo, Oo, Oo, Oo, Oo, Oo, Oo, Oo, I n, I (k.1 : Nat), Oo, Oo, Oo, Oo, Oo, Oo, Oo, Oo, Oo, Oo, Oo, Oo, Oo, Oo, Oo, Oo, Oo, Oo, Oo, Oo, Oo, Oo, Oo, Oo, Oo, Oo, Oo, Oo, Oo, Oo, Oo, Oo, Oo, Oo, Oo, Oo, Oo, Oo, Oo, Oo, Oo, Oo, Oo, Oo, Oo, Oo, Oo, Oo, Oo, Oo, Oo, Oo, Oo, Oo, Oo, Oo, Oo, Oo, Oo, Oo, Oo, Oo, Oo, Oo, Oo, Oo, Oo], heapX [] [mi1 ⟨1, []⟩ (TR (tabF n n (fwN (entN t) k.1)))], 900⟩) (fun k => n - k.1) ⟨0, Nat.zero_le _, by intro j hj; omega⟩ ?_ (fun k => ?_)
  ·
    (apply Le.headG [] [{ l := ⟨1, []⟩, k := 1, R := TR (tabF n n (fwN (entN t) 0)), src := ⟨6, [0]⟩, base := ⟨6, [0]⟩ }] (fun _ => False))
    (case' hlen => rfl)
    (case' hms => rfl)
    all_goals (try dsimp only [srcs])
    (case' hfr | hob => (repeat' (first | refine La ?_ ?_ | exact Lc | refine Lo ?_ | refine ⟨⟨_, rfl, ?_⟩, ?_⟩ | refine Lx ?_)))
    (case' hok => first | exact ⟨MI.ok_same rfl (Cg), trivial⟩ | exact trivial)
    (case' hN => rfl)
    (case' hS => rfl)
    all_goals (first | exact Ld | (rfl))
  obtain ⟨p, hk, hdj⟩ := k
  simp only
  have hf := h.fwx p hk hdj
  have hcell := fun {i j} => h.cells hk hdj (i := i) (j := j)
  by_cases hlt : p < n
  ·
    have hst : fwN (entN t) (p + 1) = fwS (fwN (entN t) p) p := rfl
    have hnext : fwN (entN t) p p p ≤ 0 → ∀ j, j < p + 1 → fwN (entN t) j j j ≤ 0 := fun h0 j hj => by
      by_cases e : j = p
      · subst e; exact h0
      · exact hdj j (by omega)
    have hdia := (hf.dia p hlt).2
    have hstep := fun (e : fwN (entN t) p p p = 0) => FWX.step (by decide) (by have := pow_le10 (show p + 1 ≤ 10 by omega); omega) hlt hf e
    generalize fwN (entN t) p = s at *
    clear hf hA hA0 hU
    have hrk := TRF_get (n := n) (f := s) hlt
    have hrkl : (IR (rowF n (s p))).length = n := by rw [IR_len, rowF_len]
    have hck := IRF_get (g := s p) hlt
    by_cases hpos : 0 < s p p
    ·
      repeat' (first | ((first | apply Ba | (apply Bb; (· rfl); (· rfl)) | (apply Bc; (· exact nxE)) | (apply Bd; (· rfl); (· rfl); (· exact nxE))); (· first | exact Ok.ldTn rfl rfl rfl hrk hrkl | exact Ok.ld1 rfl rfl (congrArg (Option.map (dobj 1)) hrk) hck | exact Ok.pe)) | ((first | apply Ca | (apply Cb; (· exact nxE))); (· first | exact Ok.e0)) | refine Sx ?_ | (refine Sy (fun h => ?_) (fun h => ?_) <;> try (exfalso; omega; done)) | refine Sz (fun h => ?_) (fun h => ?_))
      refine Yb ?_
      (apply Le.headZ (hs := []) [] rfl)
      all_goals (try dsimp only [srcs])
      (case' hfr => (repeat' (first | refine La ?_ ?_ | exact Lc | refine Lo ?_ | refine ⟨⟨_, rfl, ?_⟩, ?_⟩ | refine Lx ?_)))
      all_goals (first | exact Ld | exact trivial | (rfl))
    have hkk : s p p = 0 := by omega
    obtain ⟨_, hcol, hrw⟩ := hstep hkk
    have hnext := hnext (by omega)
    rw [hkk] at hck
    repeat' (first | ((first | apply Ba | (apply Bb; (· rfl); (· rfl)) | (apply Bc; (· exact nxE)) | (apply Bd; (· rfl); (· rfl); (· exact nxE))); (· first | exact Ok.ldTn rfl rfl rfl hrk hrkl | exact Ok.ld1 rfl rfl (congrArg (Option.map (dobj 1)) hrk) hck | exact Ok.pe)) | ((first | apply Ca | (apply Cb; (· exact nxE))); (· first | exact Ok.e0)) | refine Sx ?_ | (refine Sy (fun h => ?_) (fun h => ?_) <;> try (exfalso; omega; done)) | refine Sz (fun h => ?_) (fun h => ?_))
    refine AW.loop (X := {k : Nat // k ≤ n}) (fun k => ⟨[Oo, Oo, Oo, Oo, .own 1 ⟨1, []⟩ 0 n, I p, Oo, Oo, Oo, Oo, Oo, Oo, Oo, Oo, Oo, I n, I p, Oo, Oo, Oo, Oo, Oo, Oo, Oo, Oo, Oo, Oo, Oo, I n, I (k.1 : Nat), Oo, Oo, Oo, Oo, Oo, Oo, Oo, Oo, Oo, Oo, Oo, Oo, Oo, Oo, Oo, Oo, Oo, Oo, Oo, Oo, Oo, Oo, Oo, Oo, Oo, Oo, Oo, Oo, Oo, Oo, Oo, Oo, Oo, Oo, Oo, Oo, Oo, Oo, Oo, Oo, Oo, Oo, Oo, Oo, Oo, Oo, Oo, Oo, Oo, Oo, Oo, Oo, Oo, Oo], heapX [] [mi1 ⟨1, []⟩ (TR (tabF n n (mixF (fwS s p) s k.1 0)))], 900⟩) (fun k => n - k.1) ⟨0, Nat.zero_le _⟩ ?_ (fun k => ?_)
    ·
      (apply Le.headG [] [mi1 ⟨1, []⟩ (TR (tabF n n (mixF (fwS s p) s 0 0)))] (fun _ => False))
      (case' hlen => rfl)
      (case' hms => rfl)
      all_goals (try dsimp only [srcs])
      (case' hfr | hob => (repeat' (first | refine La ?_ ?_ | exact Lc | refine Lo ?_ | refine ⟨⟨_, rfl, ?_⟩, ?_⟩ | refine Lx ?_)))
      (case' hok => first | exact ⟨by rw [mixF_0]; exact MI.ok_same rfl (Cg), trivial⟩ | exact trivial)
      (case' hN => rfl)
      (case' hS => rfl)
      all_goals (first | exact Ld | (rfl))
    obtain ⟨i, hi⟩ := k
    simp only
    by_cases hlt2 : i < n
    ·
      repeat' (first | ((first | apply Ba | (apply Bb; (· rfl); (· rfl)) | (apply Bc; (· exact nxE)) | (apply Bd; (· rfl); (· rfl); (· exact nxE))); (· first | exact Ok.pe)) | ((first | apply Ca | (apply Cb; (· exact nxE))); (· first | exact Ok.e0)) | refine Sx ?_ | (refine Sy (fun h => ?_) (fun h => ?_) <;> try (exfalso; omega; done)) | refine Sz (fun h => ?_) (fun h => ?_))
      refine AW.loop (X := {k : Nat // k ≤ n}) (fun k => ⟨[Oo, Oo, Oo, Oo, .own 1 ⟨1, []⟩ 0 n, I p, I i, Oo, Oo, Oo, Oo, Oo, Oo, Oo, Oo, I n, I p, Oo, Oo, Oo, Oo, Oo, Oo, Oo, Oo, Oo, Oo, Oo, I n, I i, Oo, Oo, Oo, I n, I (k.1 : Nat), Oo, Oo, Oo, Oo, Oo, Oo, Oo, Oo, Oo, Oo, Oo, Oo, Oo, Oo, Oo, Oo, Oo, Oo, Oo, Oo, Oo, Oo, Oo, Oo, Oo, Oo, Oo, Oo, Oo, Oo, Oo, Oo, Oo, Oo, Oo, Oo, Oo, Oo, Oo, Oo, Oo, Oo, Oo, Oo, Oo, Oo, Oo, Oo, Oo], heapX [] [mi1 ⟨1, []⟩ (TR (tabF n n (mixF (fwS s p) s i k.1)))], 900⟩) (fun k => n - k.1) ⟨0, Nat.zero_le _⟩ ?_ (fun k => ?_)
      ·
        (apply Le.headG [] [mi1 ⟨1, []⟩ (TR (tabF n n (mixF (fwS s p) s i 0)))] (fun _ => False))
        (case' hlen => rfl)
        (case' hms => rfl)
        all_goals (try dsimp only [srcs])
        (case' hfr | hob => (repeat' (first | refine La ?_ ?_ | exact Lc | refine Lo ?_ | refine ⟨⟨_, rfl, ?_⟩, ?_⟩ | refine Lx ?_)))
        (case' hok => first | exact ⟨MI.ok_same rfl (Cg), trivial⟩ | exact trivial)
        (case' hN => rfl)
        (case' hS => rfl)
        all_goals (first | exact Ld | (rfl))
      obtain ⟨j, hj⟩ := k
      simp only
      by_cases hlt3 : j < n
      ·
        have hrwi := TRF_get (n := n) (f := mixF (fwS s p) s i j) hlt2
        have hrwk := TRF_get (n := n) (f := mixF (fwS s p) s i j) hlt
        have hli : (IR (rowF n (mixF (fwS s p) s i j i))).length = n := by rw [IR_len, rowF_len]
        have hlk : (IR (rowF n (mixF (fwS s p) s i j p))).length = n := by rw [IR_len, rowF_len]
        have hij := IRF_get (g := mixF (fwS s p) s i j i) hlt3
        have hik := IRF_get (g := mixF (fwS s p) s i j i) hlt
        have hkj := IRF_get (g := mixF (fwS s p) s i j p) hlt3
        rw [show mixF (fwS s p) s i j i j = s i j by unfold mixF; rw [if_neg (by omega)]] at hij
        rw [show mixF (fwS s p) s i j i p = s i p by unfold mixF; split <;> first | exact hcol i hlt2 | rfl] at hik
        rw [show mixF (fwS s p) s i j p j = s p j by unfold mixF; split <;> first | exact hrw j hlt3 | rfl] at hkj
        have hT := times_ac (s i p) (s p j) (fun e1 e2 => by
          have h1 := (hcell hlt2 hlt).resolve_left e1
          have h2 := (hcell hlt hlt3).resolve_left e2
          omega)
        have hset : (IR (rowF n (mixF (fwS s p) s i j i))).set j [DI (max (s i j) (timesB (s i p) (s p j)))] = IR ((rowF n (mixF (fwS s p) s i j i)).set j (fwS s p i j)) := IR_set
        repeat' (first | ((first | apply Ba | (apply Bb; (· rfl); (· rfl)) | (apply Bc; (· exact nxE)) | (apply Bd; (· rfl); (· rfl); (· exact nxE))); (· first | exact Ok.ldTn rfl rfl rfl hrwi hli | exact Ok.ldTn rfl rfl rfl hrwk hlk | exact Ok.ld1 rfl rfl (congrArg (Option.map (dobj 1)) hrwi) hij | exact Ok.ld1 rfl rfl (congrArg (Option.map (dobj 1)) hrwi) hik | exact Ok.ld1 rfl rfl (congrArg (Option.map (dobj 1)) hrwk) hkj | exact Kz rfl rfl (hT) (Ad (Ad An)) | exact Ok.st1 rfl rfl (congrArg (Option.map (dobj 1)) hrwi) (by simp [rowF_len]; omega) (by rw [hij]; rfl) rfl rfl hset | exact Ok.pe)) | ((first | apply Ca | (apply Cb; (· exact nxE))); (· first | exact Ok.st1 rfl rfl (congrArg (Option.map (dobj 1)) hrwi) (by simp [rowF_len]; omega) (by rw [hij]; rfl) rfl rfl hset | exact Ok.e0)) | refine Sx ?_ | (refine Sy (fun h => ?_) (fun h => ?_) <;> try (exfalso; omega; done)) | refine Sz (fun h => ?_) (fun h => ?_))
        refine ⟨⟨j + 1, by omega⟩, ?_, by simp only; omega⟩
        (apply Le.headG [] [mi1 ⟨1, []⟩ (TR (tabF n n (mixF (fwS s p) s i (j + 1))))] (fun _ => False))
        (case' hlen => rfl)
        (case' hms => rfl)
        all_goals (try dsimp only [srcs])
        (case' hfr | hob => (repeat' (first | refine La ?_ ?_ | exact Lc | refine Lo ?_ | refine ⟨⟨_, rfl, ?_⟩, ?_⟩ | refine Lx ?_)))
        (case' hok => first | exact ⟨MI.ok_row (tabF_set (fun a b _ _ => mixF_set)) hrwi (by simp) rfl (Cg), trivial⟩ | exact trivial)
        (case' hN => rfl)
        (case' hS => rfl)
        all_goals (first | exact Ld | (rfl))
      ·
        obtain rfl : j = n := by omega
        rw [mixF_row]
        repeat' (first | ((first | apply Ba | (apply Bb; (· rfl); (· rfl)) | (apply Bc; (· exact nxE)) | (apply Bd; (· rfl); (· rfl); (· exact nxE))); (· first | exact Ok.pe)) | ((first | apply Ca | (apply Cb; (· exact nxE))); (· first | exact Ok.e0)) | refine Sx ?_ | (refine Sy (fun h => ?_) (fun h => ?_) <;> try (exfalso; omega; done)) | refine Sz (fun h => ?_) (fun h => ?_))
        refine ⟨⟨i + 1, by omega⟩, ?_, by simp only; omega⟩
        (apply Le.headG [] [mi1 ⟨1, []⟩ (TR (tabF j j (mixF (fwS s p) s (i + 1) 0)))] (fun _ => False))
        (case' hlen => rfl)
        (case' hms => rfl)
        all_goals (try dsimp only [srcs])
        (case' hfr | hob => (repeat' (first | refine La ?_ ?_ | exact Lc | refine Lo ?_ | refine ⟨⟨_, rfl, ?_⟩, ?_⟩ | refine Lx ?_)))
        (case' hok => first | exact ⟨MI.ok_same rfl (Cg), trivial⟩ | exact trivial)
        (case' hN => rfl)
        (case' hS => rfl)
        all_goals (first | exact Ld | (rfl))
    ·
      obtain rfl : i = n := by omega
      rw [mixF_all]
      repeat' (first | ((first | apply Ba | (apply Bb; (· rfl); (· rfl)) | (apply Bc; (· exact nxE)) | (apply Bd; (· rfl); (· rfl); (· exact nxE))); (· first | exact Ok.pe)) | ((first | apply Ca | (apply Cb; (· exact nxE))); (· first | exact Ok.e0)) | refine Sx ?_ | (refine Sy (fun h => ?_) (fun h => ?_) <;> try (exfalso; omega; done)) | refine Sz (fun h => ?_) (fun h => ?_))
      refine ⟨⟨p + 1, by omega, hnext⟩, ?_, by simp only; omega⟩
      simp only
      rw [hst]
      (apply Le.headG [] [mi1 ⟨1, []⟩ (TR (tabF i i (fwS s p)))] (fun _ => False))
      (case' hlen => rfl)
      (case' hms => rfl)
      all_goals (try dsimp only [srcs])
      (case' hfr | hob => (repeat' (first | refine La ?_ ?_ | exact Lc | refine Lo ?_ | refine ⟨⟨_, rfl, ?_⟩, ?_⟩ | refine Lx ?_)))
      (case' hok => first | exact ⟨MI.ok_same rfl (Cg), trivial⟩ | exact trivial)
      (case' hN => rfl)
      (case' hS => rfl)
      all_goals (first | exact Ld | (rfl))
  ·
    obtain rfl : n = p := by omega
    have hno : ¬ ∀ u, u < n → fwN (entN t) n u u ≤ 0 := fun h0 => hp (hf.np h0)
    generalize fwN (entN t) n = s at *
    clear hf hA hA0 hU
    repeat' (first | ((first | apply Ba | (apply Bb; (· rfl); (· rfl)) | (apply Bc; (· exact nxE)) | (apply Bd; (· rfl); (· rfl); (· exact nxE))); (· first | exact Ok.pe)) | ((first | apply Ca | (apply Cb; (· exact nxE))); (· first | exact Ok.e0)) | refine Sx ?_ | (refine Sy (fun h => ?_) (fun h => ?_) <;> try (exfalso; omega; done)) | refine Sz (fun h => ?_) (fun h => ?_))
    refine AW.loop (X := {k : Nat // k ≤ n ∧ ∀ j, j < k → s j j ≤ 0}) (fun k => ⟨[Oo, Oo, Oo, Oo, .own 1 ⟨1, []⟩ 0 n, Oo, Oo, Oo, Oo, Oo, Oo, Oo, Oo, Oo, Oo, Oo, Oo, Oo, Oo, Oo, Oo, Oo, Oo, Oo, Oo, Oo, Oo, Oo, Oo, Oo, Oo, Oo, Oo, Oo, Oo, Oo, Oo, Oo, Oo, Oo, Oo, Oo, Oo, Oo, Oo, Oo, Oo, Oo, Oo, Oo, Oo, Oo, Oo, Oo, Oo, Oo, Oo, Oo, Oo, Oo, Oo, Oo, Oo, Oo, Oo, Oo, Oo, Oo, Oo, Oo, I n, I (k.1 : Nat), Oo, Oo, Oo, Oo, Oo, Oo, Oo, Oo, Oo, Oo, Oo, Oo], heapX [] [mi1 ⟨1, []⟩ (TR (tabF n n s))], 900⟩) (fun k => n - k.1) ⟨0, Nat.zero_le _, by intro j hj; omega⟩ ?_ (fun k => ?_)
    ·
      (apply Le.headG [] [mi1 ⟨1, []⟩ (TR (tabF n n s))] (fun _ => False))
      (case' hlen => rfl)
      (case' hms => rfl)
      all_goals (try dsimp only [srcs])
      (case' hfr | hob => (repeat' (first | refine La ?_ ?_ | exact Lc | refine Lo ?_ | refine ⟨⟨_, rfl, ?_⟩, ?_⟩ | refine Lx ?_)))
      (case' hok => first | exact ⟨MI.ok_same rfl (Cg), trivial⟩ | exact trivial)
      (case' hN => rfl)
      (case' hS => rfl)
      all_goals (first | exact Ld | (rfl))
    obtain ⟨i, hi, hdi⟩ := k
    simp only
    by_cases hlt2 : i < n
    ·
      have hrk := TRF_get (n := n) (f := s) hlt2
      have hrkl : (IR (rowF n (s i))).length = n := by rw [IR_len, rowF_len]
      have hck := IRF_get (g := s i) hlt2
      by_cases hpos : 0 < s i i
      ·
        repeat' (first | ((first | apply Ba | (apply Bb; (· rfl); (· rfl)) | (apply Bc; (· exact nxE)) | (apply Bd; (· rfl); (· rfl); (· exact nxE))); (· first | exact Ok.ldTn rfl rfl rfl hrk hrkl | exact Ok.ld1 rfl rfl (congrArg (Option.map (dobj 1)) hrk) hck | exact Ok.pe)) | ((first | apply Ca | (apply Cb; (· exact nxE))); (· first | exact Ok.e0)) | refine Sx ?_ | (refine Sy (fun h => ?_) (fun h => ?_) <;> try (exfalso; omega; done)) | refine Sz (fun h => ?_) (fun h => ?_))
        refine Yb ?_
        (apply Le.headZ (hs := []) [] rfl)
        all_goals (try dsimp only [srcs])
        (case' hfr => (repeat' (first | refine La ?_ ?_ | exact Lc | refine Lo ?_ | refine ⟨⟨_, rfl, ?_⟩, ?_⟩ | refine Lx ?_)))
        all_goals (first | exact Ld | exact trivial | (rfl))
      have hdn : ∀ j, j < i + 1 → s j j ≤ 0 := fun j hj => by
        by_cases e : j = i
        · subst e; omega
        · exact hdi j (by omega)
      repeat' (first | ((first | apply Ba | (apply Bb; (· rfl); (· rfl)) | (apply Bc; (· exact nxE)) | (apply Bd; (· rfl); (· rfl); (· exact nxE))); (· first | exact Ok.ldTn rfl rfl rfl hrk hrkl | exact Ok.ld1 rfl rfl (congrArg (Option.map (dobj 1)) hrk) hck | exact Ok.pe)) | ((first | apply Ca | (apply Cb; (· exact nxE))); (· first | exact Ok.e0)) | refine Sx ?_ | (refine Sy (fun h => ?_) (fun h => ?_) <;> try (exfalso; omega; done)) | refine Sz (fun h => ?_) (fun h => ?_))
      refine ⟨⟨i + 1, by omega, hdn⟩, ?_, by simp only; omega⟩
      (apply Le.headG [] [mi1 ⟨1, []⟩ (TR (tabF n n s))] (fun _ => False))
      (case' hlen => rfl)
      (case' hms => rfl)
      all_goals (try dsimp only [srcs])
      (case' hfr | hob => (repeat' (first | refine La ?_ ?_ | exact Lc | refine Lo ?_ | refine ⟨⟨_, rfl, ?_⟩, ?_⟩ | refine Lx ?_)))
      (case' hok => first | exact ⟨MI.ok_same rfl (Cg), trivial⟩ | exact trivial)
      (case' hN => rfl)
      (case' hS => rfl)
      all_goals (first | exact Ld | (rfl))
    ·
      obtain rfl : n = i := by omega
      exact absurd hdi hno
end Go.Proofs.YtpgcmpbamlnkkaaGreat
end

section
namespace Go.Proofs.YtpgcmpbamlnkkaaGreat
set_option linter.unusedSimpArgs false
set_option linter.unusedVariables false

/-- A walk along places, arc by arc. -/
theorem wk_walk {n : Nat} {xs : List Pl} {r : Int × Int} {t : List (List Int)} (h : WmOk n xs r t) (hv : ∀ p ∈ xs, okPl n p) : ∀ {c : List Nat} {u v : Nat}, c ≠ [] → Wk xs (u : Int) c (v : Int) → ∃ d, (∀ x ∈ d, x < n) ∧ WM (entN t) u d v ∧ wgt xs r.1 r.2 c ≤ wM (entN t) u d v
  | [], u, v, hc, _ => absurd rfl hc
  | [i], u, v, _, hw => by
    obtain ⟨hi, hf, ht⟩ := hw
    simp only [Wk] at ht
    have e : plA xs i = xs[i] := by simp [plA, hi]
    have hp := h.all (plA xs i) (by rw [e]; exact List.getElem_mem hi)
    have e1 : (plA xs i).t.toNat = v := by omega
    have e2 : (plA xs i).f.toNat = u := by omega
    rw [e1, e2] at hp
    exact ⟨[], (fun x hx => by cases hx), hp.1, by simp only [wgt, wM]; omega⟩
  | i :: j :: c, u, v, _, hw => by
    obtain ⟨hi, hf, hw⟩ := hw
    have e : plA xs i = xs[i] := by simp [plA, hi]
    have hm0 : plA xs i ∈ xs := by rw [e]; exact List.getElem_mem hi
    have hp := h.all (plA xs i) hm0
    obtain ⟨_, ⟨g3, g4⟩, _⟩ := hv _ hm0
    obtain ⟨m, hm⟩ : ∃ m : Nat, (plA xs i).t = m := ⟨(plA xs i).t.toNat, by omega⟩
    rw [hm] at hw
    obtain ⟨d, g5, g6, g7⟩ := wk_walk h hv (u := m) (v := v) (by simp) hw
    have e1 : (plA xs i).t.toNat = m := by omega
    have e2 : (plA xs i).f.toNat = u := by omega
    rw [e1, e2] at hp
    refine ⟨m :: d, fun x hx => ?_, ⟨hp.1, g6⟩, ?_⟩
    · rcases List.mem_cons.1 hx with rfl | hx
      · omega
      · exact g5 x hx
    · simp only [wgt, wM] at g7 ⊢
      omega
theorem wm_pos_iff {n : Nat} {xs : List Pl} {r : Int × Int} {t : List (List Int)} (h : WmOk n xs r t) (hv : ∀ p ∈ xs, okPl n p) : NoPos (entN t) n ↔ ∀ c, Circ xs c → wgt xs r.1 r.2 c ≤ 0 := by
  constructor
  · intro hn c hc
    cases c with
    | nil => simp [wgt]
    | cons i c =>
      have hw := hc.wk
      obtain ⟨hi, hf, _⟩ := id hw
      have e : plA xs i = xs[i] := by simp [plA, hi]
      have hm0 : plA xs i ∈ xs := by rw [e]; exact List.getElem_mem hi
      obtain ⟨⟨g3, g4⟩, _⟩ := hv _ hm0
      rw [hf] at g3 g4
      obtain ⟨u, hu⟩ : ∃ u : Nat, firstF xs (i :: c) = u := ⟨(firstF xs (i :: c)).toNat, by omega⟩
      rw [hu] at hw g4
      obtain ⟨d, g5, g6, g7⟩ := wk_walk h hv (by simp) hw
      have := hn u d (by omega) g5 g6
      omega
  · intro hle u c hu hc hw
    obtain ⟨d, h1, h2, h3⟩ := wm_walk h hu hu hc hw
    rw [← h3]
    apply Classical.byContradiction
    intro hn
    obtain ⟨c', h4, h5⟩ := circ_of_walk1 (rn := r.1) (rd := r.2) d.length d u (Nat.le_refl _) h2 h1 (by omega)
    have := hle c' h4
    omega
theorem MaxR.below {xs : List Pl} {s r : Int × Int} (ht : ∀ c, Circ xs c → 0 < sumT xs c) (h1 : MaxR xs s) (hr : 0 < r.2) : (∀ c, Circ xs c → wgt xs r.1 r.2 c ≤ 0) ↔ s.1 * r.2 ≤ r.1 * s.2 := by
  constructor
  · intro hle2
    obtain ⟨c, hc, e⟩ := h1.eq
    have hk := ht c hc
    have hle := hle2 c hc
    rw [wgt_sums] at e hle
    have e1 : s.2 * sumD xs c = s.1 * sumT xs c := by omega
    have h3 : r.2 * sumD xs c ≤ r.1 * sumT xs c := by omega
    have h4 := Int.mul_le_mul_of_nonneg_left h3 (Int.le_of_lt h1.pos)
    have h5 : s.2 * (r.2 * sumD xs c) = r.2 * (s.1 * sumT xs c) := by rw [← e1]; rw [← Int.mul_assoc, ← Int.mul_assoc, Int.mul_comm s.2 r.2]
    rw [h5] at h4
    have h6 : (s.1 * r.2) * sumT xs c ≤ (r.1 * s.2) * sumT xs c := by
      rw [show s.1 * r.2 * sumT xs c = r.2 * (s.1 * sumT xs c) by rw [Int.mul_comm s.1 r.2, Int.mul_assoc], show r.1 * s.2 * sumT xs c = s.2 * (r.1 * sumT xs c) by rw [Int.mul_comm r.1 s.2, Int.mul_assoc]]
      exact h4
    exact Int.le_of_mul_le_mul_right h6 hk
  · intro hle c hc
    have hk := ht c hc
    have h2 := h1.le c hc
    rw [wgt_sums] at h2 ⊢
    have h3 : s.2 * sumD xs c ≤ s.1 * sumT xs c := by omega
    have h4 := Int.mul_le_mul_of_nonneg_left h3 (Int.le_of_lt hr)
    have h5 := Int.mul_le_mul_of_nonneg_right hle (Int.le_of_lt hk)
    have h6 : s.2 * (r.2 * sumD xs c) ≤ s.2 * (r.1 * sumT xs c) := by
      rw [show s.2 * (r.2 * sumD xs c) = r.2 * (s.2 * sumD xs c) by rw [← Int.mul_assoc, ← Int.mul_assoc, Int.mul_comm s.2 r.2], show s.2 * (r.1 * sumT xs c) = r.1 * s.2 * sumT xs c by rw [← Int.mul_assoc, Int.mul_comm s.2 r.1]]
      have h7 : r.2 * (s.1 * sumT xs c) = s.1 * r.2 * sumT xs c := by rw [← Int.mul_assoc, Int.mul_comm r.2 s.1]
      omega
    have := Int.le_of_mul_le_mul_left h6 h1.pos
    omega
end Go.Proofs.YtpgcmpbamlnkkaaGreat
end
