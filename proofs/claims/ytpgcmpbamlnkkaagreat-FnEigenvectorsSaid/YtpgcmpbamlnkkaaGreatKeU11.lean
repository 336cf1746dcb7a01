/-
  Walks in the abstract reading, part 11.
-/
import Derived.Test.YtpgcmpbamlnkkaaGreatKeE49
import Derived.Test.YtpgcmpbamlnkkaaGreatKeU7
import Derived.Test.YtpgcmpbamlnkkaaGreatKeA3
import Derived.Test.YtpgcmpbamlnkkaaGreatKeU6
section
namespace Go.Proofs.YtpgcmpbamlnkkaaGreat
set_option linter.unusedSimpArgs false
set_option linter.unusedVariables false
open Go Go.RowKit
attribute [local irreducible] AL AD AW OpOk Le AC thenQ blockQ EndQ

def isRt (r : Int × Int) : Bool := wi r.1 (-1000000) 1000000
structure RtZ (r : Int × Int) : Prop where
  n : -1000000000000 ≤ r.1 ∧ r.1 ≤ 1000000000000
  d : 1 ≤ r.2 ∧ r.2 ≤ 1000000
  g : Nat.gcd r.1.natAbs r.2.toNat = 1
set_option maxHeartbeats 1000000 in
theorem sIsRatioZ_ac (r : Int × Int) (h : RtZ r) : AC Tryz.prog 63 [.agg [I r.1, I r.2]] H0 (Bo (isRt r)) H0 := by
  obtain ⟨⟨h1, h2⟩, ⟨h3, h4⟩, h5⟩ := h
  obtain ⟨a, b⟩ := r
  simp only at h1 h2 h3 h4 h5 ⊢
  obtain ⟨v, rfl⟩ : ∃ v : Nat, b = v := ⟨b.toNat, by omega⟩
  rw [Int.toNat_natCast] at h5
  have hF := l01Finite_ac a
  have hI := l01In_ac v 1 1000000
  have hG := l01DivisorZ_ac a v (by omega) (by omega)
  rw [h5] at hG
  rw [show wi (v : Int) 1 1000000 = true from wi_iff.2 (by omega)] at hI
  unfold isRt
  simp only
  cases hw : wi a (-1000000) 1000000
  · rw [hw] at hF
    refine AC.of_body 0 Tryz.func63 rfl (fun l h => absurd rfl h) (fun C hC => ?_)
    have hD : ∀ l, ¬ C.D0 l := fun l h => (hC l).1 h rfl
    simp only [startFr, Tryz.ntmps63, List.length_cons, List.length_nil, Nat.reduceAdd, Nat.reduceSub, List.replicate_succ, List.replicate_zero, List.cons_append, List.nil_append]
    repeat' (first | ((first | apply Ba | (apply Bb; (· rfl); (· rfl)) | (apply Bc; (· exact nxE)) | (apply Bd; (· rfl); (· rfl); (· exact nxE))); (· first | exact Kz rfl rfl (hF) (Ad An) | exact Kz rfl rfl (hI) (Ad (Ad (Ad An))) | exact Kz rfl rfl (hG) (Ad (Ad An)) | exact Ok.pe)) | ((first | apply Ca | (apply Cb; (· exact nxE))); (· first | exact Ok.e0)) | refine Sx ?_ | (refine Sy (fun h => ?_) (fun h => ?_) <;> try (exfalso; omega; done)) | refine Sz (fun h => ?_) (fun h => ?_))
    refine Ya ?_
    (apply Le.headZ (hs := []) [] rfl)
    all_goals (try dsimp only [srcs])
    (case' hfr => (repeat' (first | refine La ?_ ?_ | exact Lc | refine Lo ?_ | refine ⟨⟨_, rfl, ?_⟩, ?_⟩ | refine Lx ?_)))
    all_goals (first | exact Ld | exact trivial | (rfl))
  · rw [hw] at hF
    refine AC.of_body 0 Tryz.func63 rfl (fun l h => absurd rfl h) (fun C hC => ?_)
    have hD : ∀ l, ¬ C.D0 l := fun l h => (hC l).1 h rfl
    simp only [startFr, Tryz.ntmps63, List.length_cons, List.length_nil, Nat.reduceAdd, Nat.reduceSub, List.replicate_succ, List.replicate_zero, List.cons_append, List.nil_append]
    repeat' (first | ((first | apply Ba | (apply Bb; (· rfl); (· rfl)) | (apply Bc; (· exact nxE)) | (apply Bd; (· rfl); (· rfl); (· exact nxE))); (· first | exact Kz rfl rfl (hF) (Ad An) | exact Kz rfl rfl (hI) (Ad (Ad (Ad An))) | exact Kz rfl rfl (hG) (Ad (Ad An)) | exact Ok.pe)) | ((first | apply Ca | (apply Cb; (· exact nxE))); (· first | exact Ok.e0)) | refine Sx ?_ | (refine Sy (fun h => ?_) (fun h => ?_) <;> try (exfalso; omega; done)) | refine Sz (fun h => ?_) (fun h => ?_))
    refine Ya ?_
    (apply Le.headZ (hs := []) [] rfl)
    all_goals (try dsimp only [srcs])
    (case' hfr => (repeat' (first | refine La ?_ ?_ | exact Lc | refine Lo ?_ | refine ⟨⟨_, rfl, ?_⟩, ?_⟩ | refine Lx ?_)))
    all_goals (first | exact Ld | exact trivial | (rfl))
set_option maxHeartbeats 1000000 in
theorem iIsRatioZ_ac (r : Int × Int) (h : RtZ r) : AC Tryz.prog 59 [.agg [I r.1, I r.2]] H0 (Bo (isRt r)) H0 := by
  obtain ⟨⟨h1, h2⟩, ⟨h3, h4⟩, h5⟩ := h
  obtain ⟨a, b⟩ := r
  simp only at h1 h2 h3 h4 h5 ⊢
  obtain ⟨v, rfl⟩ : ∃ v : Nat, b = v := ⟨b.toNat, by omega⟩
  rw [Int.toNat_natCast] at h5
  have hF := isFinite_ac a
  have hI := within_ac v 1 1000000
  have hA := absOfZ_ac a (by omega)
  have hG := divisorOf_ac a.natAbs v (by omega) (by omega)
  rw [h5] at hG
  rw [show wi (v : Int) 1 1000000 = true from wi_iff.2 (by omega)] at hI
  unfold isRt
  simp only
  cases hw : wi a (-1000000) 1000000
  · rw [hw] at hF
    refine AC.of_body 0 Tryz.func59 rfl (fun l h => absurd rfl h) (fun C hC => ?_)
    have hD : ∀ l, ¬ C.D0 l := fun l h => (hC l).1 h rfl
    simp only [startFr, Tryz.ntmps59, List.length_cons, List.length_nil, Nat.reduceAdd, Nat.reduceSub, List.replicate_succ, List.replicate_zero, List.cons_append, List.nil_append]
    repeat' (first | ((first | apply Ba | (apply Bb; (· rfl); (· rfl)) | (apply Bc; (· exact nxE)) | (apply Bd; (· rfl); (· rfl); (· exact nxE))); (· first | exact Kz rfl rfl (hF) (Ad An) | exact Kz rfl rfl (hI) (Ad (Ad (Ad An))) | exact Kz rfl rfl (hA) (Ad An) | exact Kz rfl rfl (hG) (Ad (Ad An)) | exact Ok.pe)) | ((first | apply Ca | (apply Cb; (· exact nxE))); (· first | exact Ok.e0)) | refine Sx ?_ | (refine Sy (fun h => ?_) (fun h => ?_) <;> try (exfalso; omega; done)) | refine Sz (fun h => ?_) (fun h => ?_))
    refine Ya ?_
    (apply Le.headZ (hs := []) [] rfl)
    all_goals (try dsimp only [srcs])
    (case' hfr => (repeat' (first | refine La ?_ ?_ | exact Lc | refine Lo ?_ | refine ⟨⟨_, rfl, ?_⟩, ?_⟩ | refine Lx ?_)))
    all_goals (first | exact Ld | exact trivial | (rfl))
  · rw [hw] at hF
    refine AC.of_body 0 Tryz.func59 rfl (fun l h => absurd rfl h) (fun C hC => ?_)
    have hD : ∀ l, ¬ C.D0 l := fun l h => (hC l).1 h rfl
    simp only [startFr, Tryz.ntmps59, List.length_cons, List.length_nil, Nat.reduceAdd, Nat.reduceSub, List.replicate_succ, List.replicate_zero, List.cons_append, List.nil_append]
    repeat' (first | ((first | apply Ba | (apply Bb; (· rfl); (· rfl)) | (apply Bc; (· exact nxE)) | (apply Bd; (· rfl); (· rfl); (· exact nxE))); (· first | exact Kz rfl rfl (hF) (Ad An) | exact Kz rfl rfl (hI) (Ad (Ad (Ad An))) | exact Kz rfl rfl (hA) (Ad An) | exact Kz rfl rfl (hG) (Ad (Ad An)) | exact Ok.pe)) | ((first | apply Ca | (apply Cb; (· exact nxE))); (· first | exact Ok.e0)) | refine Sx ?_ | (refine Sy (fun h => ?_) (fun h => ?_) <;> try (exfalso; omega; done)) | refine Sz (fun h => ?_) (fun h => ?_))
    refine Ya ?_
    (apply Le.headZ (hs := []) [] rfl)
    all_goals (try dsimp only [srcs])
    (case' hfr => (repeat' (first | refine La ?_ ?_ | exact Lc | refine Lo ?_ | refine ⟨⟨_, rfl, ?_⟩, ?_⟩ | refine Lx ?_)))
    all_goals (first | exact Ld | exact trivial | (rfl))
def rtR (r : Int × Int) : Int × Int := if isRt r = true then r else (0, 0)
def rtC (r : Int × Int) : Int := if isRt r = true then 0 else 3
theorem l04Result_ac (r : Int × Int) (h : RtZ r) : AC Tryz.prog 183 [.agg [I r.1, I r.2]] H0 (.tup [.agg [I (rtR r).1, I (rtR r).2], I (rtC r)]) H0 := by
  have hI := sIsRatioZ_ac r h
  unfold rtR rtC
  cases hr : isRt r
  · rw [hr] at hI
    refine AC.of_body 0 Tryz.func183 rfl (fun l h => absurd rfl h) (fun C hC => ?_)
    have hD : ∀ l, ¬ C.D0 l := fun l h => (hC l).1 h rfl
    simp only [startFr, Tryz.ntmps183, List.length_cons, List.length_nil, Nat.reduceAdd, Nat.reduceSub, List.replicate_succ, List.replicate_zero, List.cons_append, List.nil_append]
    repeat' (first | ((first | apply Ba | (apply Bb; (· rfl); (· rfl)) | (apply Bc; (· exact nxE)) | (apply Bd; (· rfl); (· rfl); (· exact nxE))); (· first | exact Kz rfl rfl (hI) (Aa (Ad (Ad An)) An) | exact Ok.pe)) | ((first | apply Ca | (apply Cb; (· exact nxE))); (· first | exact Ok.e0)) | refine Sx ?_ | (refine Sy (fun h => ?_) (fun h => ?_) <;> try (exfalso; omega; done)) | refine Sz (fun h => ?_) (fun h => ?_))
    refine Yb ?_
    (apply Le.headZ (hs := []) [] rfl)
    all_goals (try dsimp only [srcs])
    (case' hfr => (repeat' (first | refine La ?_ ?_ | exact Lc | refine Lo ?_ | refine ⟨⟨_, rfl, ?_⟩, ?_⟩ | refine Lx ?_)))
    all_goals (first | exact Ld | exact trivial | (rfl))
  · rw [hr] at hI
    refine AC.of_body 0 Tryz.func183 rfl (fun l h => absurd rfl h) (fun C hC => ?_)
    have hD : ∀ l, ¬ C.D0 l := fun l h => (hC l).1 h rfl
    simp only [startFr, Tryz.ntmps183, List.length_cons, List.length_nil, Nat.reduceAdd, Nat.reduceSub, List.replicate_succ, List.replicate_zero, List.cons_append, List.nil_append]
    repeat' (first | ((first | apply Ba | (apply Bb; (· rfl); (· rfl)) | (apply Bc; (· exact nxE)) | (apply Bd; (· rfl); (· rfl); (· exact nxE))); (· first | exact Kz rfl rfl (hI) (Aa (Ad (Ad An)) An) | exact Ok.pe)) | ((first | apply Ca | (apply Cb; (· exact nxE))); (· first | exact Ok.e0)) | refine Sx ?_ | (refine Sy (fun h => ?_) (fun h => ?_) <;> try (exfalso; omega; done)) | refine Sz (fun h => ?_) (fun h => ?_))
    refine Yb ?_
    (apply Le.headZ (hs := []) [] rfl)
    all_goals (try dsimp only [srcs])
    (case' hfr => (repeat' (first | refine La ?_ ?_ | exact Lc | refine Lo ?_ | refine ⟨⟨_, rfl, ?_⟩, ?_⟩ | refine Lx ?_)))
    all_goals (first | exact Ld | exact trivial | (rfl))
theorem kmR_rt {t : List (List Int)} {n : Nat} (h : MatOk t n) (hc : hasK (entN t) n) : RtZ (kmR (entN t) n) := by
  obtain ⟨_, h2, h3, h4⟩ := kmR_ok h.b h.le hc
  refine ⟨by omega, by omega, ?_⟩
  rw [show Int.gcd (kmR (entN t) n).1 (kmR (entN t) n).2 = Nat.gcd (kmR (entN t) n).1.natAbs (kmR (entN t) n).2.natAbs from rfl] at h2
  rw [show (kmR (entN t) n).2.toNat = (kmR (entN t) n).2.natAbs by omega]
  exact h2
noncomputable def cmC (t : List (List Int)) : Int := if bmC t = 0 then rtC (kmR (entN t) t.length) else bmC t
noncomputable def cmR (t : List (List Int)) : Int × Int := if bmC t = 0 then rtR (kmR (entN t) t.length) else (0, 0)
theorem bmC_cases (t : List (List Int)) : (bmC t = 1 ∧ isSq t = false) ∨ (isSq t = true ∧ hasK (entN t) t.length ∧ bmC t = 0) ∨ (isSq t = true ∧ ¬ hasK (entN t) t.length ∧ bmC t = 4) := by
  unfold bmC
  by_cases hs : isSq t = true
  · rw [if_pos hs]
    by_cases hc : hasK (entN t) t.length
    · rw [if_pos hc]; exact .inr (.inl ⟨hs, hc, rfl⟩)
    · rw [if_neg hc]; exact .inr (.inr ⟨hs, hc, rfl⟩)
  · rw [if_neg hs]; exact .inl ⟨rfl, by simpa using hs⟩
set_option maxHeartbeats 1000000 in
theorem sCycleMean_ac (t : List (List Int)) (ht : t.length ≤ 100000000) (hr : ∀ r ∈ t, r.length ≤ 100000000) : AC Tryz.prog 102 [TL t] H0 (.tup [.agg [I (cmR t).1, I (cmR t).2], I (cmC t)]) H0 := by
  have hQ := l02Square_ac t ht hr
  unfold cmR cmC
  rcases bmC_cases t with ⟨e, hs⟩ | ⟨hs, hc, e⟩ | ⟨hs, hc, e⟩
  · rw [e, if_neg (by decide), if_neg (by decide)]
    rw [hs] at hQ
    refine AC.of_body 0 Tryz.func102 rfl (fun l h => absurd rfl h) (fun C hC => ?_)
    have hD : ∀ l, ¬ C.D0 l := fun l h => (hC l).1 h rfl
    simp only [startFr, Tryz.ntmps102, List.length_cons, List.length_nil, Nat.reduceAdd, Nat.reduceSub, List.replicate_succ, List.replicate_zero, List.cons_append, List.nil_append]
    repeat' (first | ((first | apply Ba | (apply Bb; (· rfl); (· rfl)) | (apply Bc; (· exact nxE)) | (apply Bd; (· rfl); (· rfl); (· exact nxE))); (· first | exact Kz rfl rfl (hQ) (Ad An) | exact Ok.pe)) | ((first | apply Ca | (apply Cb; (· exact nxE))); (· first | exact Ok.e0)) | refine Sx ?_ | (refine Sy (fun h => ?_) (fun h => ?_) <;> try (exfalso; omega; done)) | refine Sz (fun h => ?_) (fun h => ?_))
    refine Yb ?_
    (apply Le.headZ (hs := []) [] rfl)
    all_goals (try dsimp only [srcs])
    (case' hfr => (repeat' (first | refine La ?_ ?_ | exact Lc | refine Lo ?_ | refine ⟨⟨_, rfl, ?_⟩, ?_⟩ | refine Lx ?_)))
    all_goals (first | exact Ld | exact trivial | (rfl))
  · rw [e, if_pos rfl, if_pos rfl]
    rw [hs] at hQ
    have hMt := isSq_ok hs
    have hB := l04Best_yes t t.length hMt hc
    obtain ⟨f, r, e1, hcy, e2⟩ := best_ne hMt.b hMt.le hc
    have hMe := l04Mean_ac t t.length hMt f r hcy
    have hRe := l04Result_ac _ (kmR_rt hMt hc)
    rw [e2] at hMe
    rw [show bkF t t.length (kmR (entN t) t.length) (-1) = f :: r from e1] at hB
    clear e2 e1
    generalize kmR (entN t) t.length = m at *
    generalize rtR m = m1 at *
    generalize rtC m = m2 at *
    generalize f :: r = c at *
    refine AC.of_body 0 Tryz.func102 rfl (fun l h => absurd rfl h) (fun C hC => ?_)
    have hD : ∀ l, ¬ C.D0 l := fun l h => (hC l).1 h rfl
    simp only [startFr, Tryz.ntmps102, List.length_cons, List.length_nil, Nat.reduceAdd, Nat.reduceSub, List.replicate_succ, List.replicate_zero, List.cons_append, List.nil_append]
    repeat' (first | ((first | apply Ba | (apply Bb; (· rfl); (· rfl)) | (apply Bc; (· exact nxE)) | (apply Bd; (· rfl); (· rfl); (· exact nxE))); (· first | exact Kz rfl rfl (hQ) (Ad An) | exact Kz rfl rfl (hB) (Ad An) | exact Kz rfl rfl (hMe) (Ad (Ad An)) | exact Kz rfl rfl (hRe) (Aa (Ad (Ad An)) An) | exact Ok.pe)) | ((first | apply Ca | (apply Cb; (· exact nxE))); (· first | exact Ok.e0)) | refine Sx ?_ | (refine Sy (fun h => ?_) (fun h => ?_) <;> try (exfalso; omega; done)) | refine Sz (fun h => ?_) (fun h => ?_))
    refine Yb ?_
    (apply Le.headZ (hs := []) [] rfl)
    all_goals (try dsimp only [srcs])
    (case' hfr => (repeat' (first | refine La ?_ ?_ | exact Lc | refine Lo ?_ | refine ⟨⟨_, rfl, ?_⟩, ?_⟩ | refine Lx ?_)))
    all_goals (first | exact Ld | exact trivial | (rfl))
  · rw [e, if_neg (by decide), if_neg (by decide)]
    rw [hs] at hQ
    have hB := l04Best_no t t.length (isSq_ok hs) hc
    refine AC.of_body 0 Tryz.func102 rfl (fun l h => absurd rfl h) (fun C hC => ?_)
    have hD : ∀ l, ¬ C.D0 l := fun l h => (hC l).1 h rfl
    simp only [startFr, Tryz.ntmps102, List.length_cons, List.length_nil, Nat.reduceAdd, Nat.reduceSub, List.replicate_succ, List.replicate_zero, List.cons_append, List.nil_append]
    repeat' (first | ((first | apply Ba | (apply Bb; (· rfl); (· rfl)) | (apply Bc; (· exact nxE)) | (apply Bd; (· rfl); (· rfl); (· exact nxE))); (· first | exact Kz rfl rfl (hQ) (Ad An) | exact Kz rfl rfl (hB) (Ad An) | exact Ok.pe)) | ((first | apply Ca | (apply Cb; (· exact nxE))); (· first | exact Ok.e0)) | refine Sx ?_ | (refine Sy (fun h => ?_) (fun h => ?_) <;> try (exfalso; omega; done)) | refine Sz (fun h => ?_) (fun h => ?_))
    refine Yb ?_
    (apply Le.headZ (hs := []) [] rfl)
    all_goals (try dsimp only [srcs])
    (case' hfr => (repeat' (first | refine La ?_ ?_ | exact Lc | refine Lo ?_ | refine ⟨⟨_, rfl, ?_⟩, ?_⟩ | refine Lx ?_)))
    all_goals (first | exact Ld | exact trivial | (rfl))
abbrev tuF (f : Nat → Nat → Int) : Nat → Nat → Int := fun a b => f b a
def trF (f : Nat → Nat → Int) (i j : Nat) : Nat → Nat → Int := fun a b => if b < i ∨ (b = i ∧ a < j) then f b a else BOT
theorem trF_0 {f : Nat → Nat → Int} {n : Nat} : tabF n n (trF f 0 0) = botT n n := by
  rw [← botF_tab]
  exact tabF_congr fun a b _ _ => by simp [trF]
theorem trF_set {f : Nat → Nat → Int} {i j a b : Nat} : trF f i (j + 1) a b = if a = j ∧ b = i then f i j else trF f i j a b := by
  unfold trF
  by_cases e : a = j ∧ b = i
  · obtain ⟨rfl, rfl⟩ := e
    rw [if_pos (.inr ⟨rfl, by omega⟩), if_pos ⟨rfl, rfl⟩]
  · rw [if_neg e]
    by_cases h : b < i ∨ (b = i ∧ a < j)
    · rw [if_pos h, if_pos (by omega)]
    · rw [if_neg h, if_neg (by omega)]
theorem trF_row {f : Nat → Nat → Int} {n i : Nat} : tabF n n (trF f i n) = tabF n n (trF f (i + 1) 0) := tabF_congr fun a b ha _ => by
  unfold trF
  by_cases h : b < i ∨ (b = i ∧ a < n)
  · rw [if_pos h, if_pos (by omega)]
  · rw [if_neg h, if_neg (by omega)]
theorem trF_all {f : Nat → Nat → Int} {n : Nat} : tabF n n (trF f n 0) = tabF n n (tuF f) := tabF_congr fun a b _ hb => by unfold trF; rw [if_pos (.inl hb)]
set_option maxHeartbeats 4000000 in
theorem l02Turn_ac (f : Nat → Nat → Int) (n : Nat) (h0 : 0 < n) (hn : n ≤ 1000) : AC Tryz.prog 105 [TL (tabF n n f)] H0 (own1 1 n) (hpM 1 (TR (tabF n n (tuF f)))) := by
  have hB := l02Bottom_ac n n (by omega) (by omega)
  have hlen : (mRows 1 (TR (tabF n n f))).length = n := by rw [mTR_len, tabF_len]
  have hR0 : (mRows 1 (TR (tabF n n f)))[(0 : Int).toNat]? = some [.sl 1 (IR (rowF n (f 0)))] := TR_get (tabF_get h0)
  have hR0l : (IR (rowF n (f 0))).length = n := by rw [IR_len, rowF_len]
  refine AC.of_body 0 Tryz.func105 rfl (fun l h => absurd rfl h) (fun C hC => ?_)
  have hD : ∀ l, ¬ C.D0 l := fun l h => (hC l).1 h rfl
  simp only [startFr, Tryz.ntmps105, List.length_cons, List.length_nil, Nat.reduceAdd, Nat.reduceSub, List.replicate_succ, List.replicate_zero, List.cons_append, List.nil_append]
  repeat' (first | ((first | apply Ba | (apply Bb; (· rfl); (· rfl)) | (apply Bc; (· exact nxE)) | (apply Bd; (· rfl); (· rfl); (· exact nxE))); (· first | exact Ok.lenD rfl rfl hlen | exact Ok.lenD rfl rfl hR0l | exact Tb rfl rfl (hB) (Sd (Sd Sn)) | exact Ok.pe)) | ((first | apply Ca | (apply Cb; (· exact nxE))); (· first | exact Tb rfl rfl (hB) (Sd (Sd Sn)) | exact Ok.e0)) | refine Sx ?_ | (refine Sy (fun h => ?_) (fun h => ?_) <;> try (exfalso; omega; done)) | refine Sz (fun h => ?_) (fun h => ?_))
  refine AW.loop (X := {k : Nat // k ≤ n}) (fun k => ⟨[TL (tabF n n f), Oo, Oo, .own 1 ⟨1, []⟩ 0 n, I (k.1 : Nat), Oo, Oo, Oo, Oo, Oo, Oo, Oo, Oo, Oo, Oo, Oo, Oo, Oo, Oo, Oo, Oo, Oo, Oo, Oo, Oo, Oo, Oo, Oo, Oo, Oo, Oo, Oo, Oo, Oo, Oo, Oo, Oo, Oo, Oo, Oo, Oo, Oo], heapX [] [mi1 ⟨1, []⟩ (TR (tabF n n (trF f k.1 0)))], 900⟩) (fun k => n - k.1) ⟨0, Nat.zero_le _⟩ ?_ (fun k => ?_)
  ·
    (apply Le.headG [] [{ l := ⟨1, []⟩, k := 1, R := TR (tabF n n (trF f 0 0)), src := ⟨7, [0]⟩, base := ⟨7, [0]⟩ }] (fun _ => False))
    (case' hlen => rfl)
    (case' hms => rfl)
    all_goals (try dsimp only [srcs])
    (case' hfr | hob => (repeat' (first | refine La ?_ ?_ | exact Lc | refine Lo ?_ | refine ⟨⟨_, rfl, ?_⟩, ?_⟩ | refine Lx ?_)))
    (case' hok => first | exact ⟨by rw [trF_0]; exact MI.ok_same rfl (Cg), trivial⟩ | exact trivial)
    (case' hN => rfl)
    (case' hS => rfl)
    all_goals (first | exact Ld | (rfl))
  obtain ⟨i, hi⟩ := k
  simp only
  by_cases hlt : i < n
  ·
    have hRi : (mRows 1 (TR (tabF n n f)))[((i : Nat) : Int).toNat]? = some [.sl 1 (IR (rowF n (f i)))] := TR_get (tabF_get hlt)
    have hRil : (IR (rowF n (f i))).length = n := by rw [IR_len, rowF_len]
    repeat' (first | ((first | apply Ba | (apply Bb; (· rfl); (· rfl)) | (apply Bc; (· exact nxE)) | (apply Bd; (· rfl); (· rfl); (· exact nxE))); (· first | exact Ok.lenD rfl rfl hlen | exact Ok.pe)) | ((first | apply Ca | (apply Cb; (· exact nxE))); (· first | exact Ok.e0)) | refine Sx ?_ | (refine Sy (fun h => ?_) (fun h => ?_) <;> try (exfalso; omega; done)) | refine Sz (fun h => ?_) (fun h => ?_))
    refine AW.loop (X := {k : Nat // k ≤ n}) (fun k => ⟨[TL (tabF n n f), Oo, Oo, .own 1 ⟨1, []⟩ 0 n, I i, I (k.1 : Nat), Oo, Oo, Oo, Oo, Oo, Oo, Oo, Oo, Oo, Oo, Oo, Oo, Oo, Oo, Oo, Oo, Oo, Oo, Oo, Oo, Oo, Oo, Oo, Oo, Oo, Oo, Oo, Oo, Oo, Oo, Oo, Oo, Oo, Oo, Oo, Oo], heapX [] [mi1 ⟨1, []⟩ (TR (tabF n n (trF f i k.1)))], 900⟩) (fun k => n - k.1) ⟨0, Nat.zero_le _⟩ ?_ (fun k => ?_)
    ·
      (apply Le.headG [] [{ l := ⟨1, []⟩, k := 1, R := TR (tabF n n (trF f i 0)), src := ⟨1, []⟩, base := ⟨1, []⟩ }] (fun _ => False))
      (case' hlen => rfl)
      (case' hms => rfl)
      all_goals (try dsimp only [srcs])
      (case' hfr | hob => (repeat' (first | refine La ?_ ?_ | exact Lc | refine Lo ?_ | refine ⟨⟨_, rfl, ?_⟩, ?_⟩ | refine Lx ?_)))
      (case' hok => first | exact ⟨MI.ok_same rfl (Cg), trivial⟩ | exact trivial)
      (case' hN => rfl)
      (case' hS => rfl)
      all_goals (first | exact Ld | (rfl))
    obtain ⟨j, hj⟩ := k
    simp only
    by_cases hlt2 : j < n
    ·
      have hRf : (IR (rowF n (f i)))[((j : Nat) : Int).toNat]? = some [DI (f i j)] := IRF_get hlt2
      have hrw := TRF_get (n := n) (f := trF f i j) hlt2
      have hlr : (IR (rowF n (trF f i j j))).length = n := by rw [IR_len, rowF_len]
      repeat' (first | ((first | apply Ba | (apply Bb; (· rfl); (· rfl)) | (apply Bc; (· exact nxE)) | (apply Bd; (· rfl); (· rfl); (· exact nxE))); (· first | exact Ok.lenD rfl rfl hlen | exact Ok.lenD rfl rfl hRil | exact Ok.ldTn rfl rfl rfl hrw hlr | exact Ok.st1 rfl rfl (congrArg (Option.map (dobj 1)) hrw) (by simp [rowF_len]; omega) (by rw [IRF_get hlt]; rfl) rfl rfl IR_set | exact Ok.pe)) | ((first | apply Ca | (apply Cb; (· exact nxE))); (· first | exact Ok.st1 rfl rfl (congrArg (Option.map (dobj 1)) hrw) (by simp [rowF_len]; omega) (by rw [IRF_get hlt]; rfl) rfl rfl IR_set | exact Ok.e0)) | refine Sx ?_ | (refine Sy (fun h => ?_) (fun h => ?_) <;> try (exfalso; omega; done)) | refine Sz (fun h => ?_) (fun h => ?_))
      refine ⟨⟨j + 1, by omega⟩, ?_, by simp only; omega⟩
      (apply Le.headG [] [{ l := ⟨1, []⟩, k := 1, R := TR (tabF n n (trF f i (j + 1))), src := ⟨1, []⟩, base := ⟨1, []⟩ }] (fun _ => False))
      (case' hlen => rfl)
      (case' hms => rfl)
      all_goals (try dsimp only [srcs])
      (case' hfr | hob => (repeat' (first | refine La ?_ ?_ | exact Lc | refine Lo ?_ | refine ⟨⟨_, rfl, ?_⟩, ?_⟩ | refine Lx ?_)))
      (case' hok => first | exact ⟨MI.ok_row (tabF_set (fun a b _ _ => trF_set)) hrw (by simp) rfl (Cg), trivial⟩ | exact trivial)
      (case' hN => rfl)
      (case' hS => rfl)
      all_goals (first | exact Ld | (rfl))
    ·
      obtain rfl : j = n := by omega
      rw [trF_row]
      repeat' (first | ((first | apply Ba | (apply Bb; (· rfl); (· rfl)) | (apply Bc; (· exact nxE)) | (apply Bd; (· rfl); (· rfl); (· exact nxE))); (· first | exact Ok.lenD rfl rfl hlen | exact Ok.lenD rfl rfl hRil | exact Ok.pe)) | ((first | apply Ca | (apply Cb; (· exact nxE))); (· first | exact Ok.e0)) | refine Sx ?_ | (refine Sy (fun h => ?_) (fun h => ?_) <;> try (exfalso; omega; done)) | refine Sz (fun h => ?_) (fun h => ?_))
      refine ⟨⟨i + 1, by omega⟩, ?_, by simp only; omega⟩
      (apply Le.headG [] [{ l := ⟨1, []⟩, k := 1, R := TR (tabF j j (trF f (i + 1) 0)), src := ⟨1, []⟩, base := ⟨1, []⟩ }] (fun _ => False))
      (case' hlen => rfl)
      (case' hms => rfl)
      all_goals (try dsimp only [srcs])
      (case' hfr | hob => (repeat' (first | refine La ?_ ?_ | exact Lc | refine Lo ?_ | refine ⟨⟨_, rfl, ?_⟩, ?_⟩ | refine Lx ?_)))
      (case' hok => first | exact ⟨MI.ok_same rfl (Cg), trivial⟩ | exact trivial)
      (case' hN => rfl)
      (case' hS => rfl)
      all_goals (first | exact Ld | (rfl))
  ·
    obtain rfl : i = n := by omega
    rw [trF_all]
    repeat' (first | ((first | apply Ba | (apply Bb; (· rfl); (· rfl)) | (apply Bc; (· exact nxE)) | (apply Bd; (· rfl); (· rfl); (· exact nxE))); (· first | exact Ok.lenD rfl rfl hlen | exact Ok.pe)) | ((first | apply Ca | (apply Cb; (· exact nxE))); (· first | exact Ok.e0)) | refine Sx ?_ | (refine Sy (fun h => ?_) (fun h => ?_) <;> try (exfalso; omega; done)) | refine Sz (fun h => ?_) (fun h => ?_))
    refine Ya ?_
    (apply Le.headG [] [{ l := ⟨0, []⟩, k := 1, R := TR (tabF i i (tuF f)), src := ⟨1, []⟩, base := ⟨1, []⟩ }] (fun _ => False))
    (case' hlen => rfl)
    (case' hms => rfl)
    all_goals (try dsimp only [srcs])
    (case' hfr | hob => (repeat' (first | refine La ?_ ?_ | exact Lc | refine Lo ?_ | refine ⟨⟨_, rfl, ?_⟩, ?_⟩ | refine Lx ?_)))
    (case' hok => first | exact ⟨MI.ok_same rfl (Cg), trivial⟩ | exact trivial)
    (case' hN => rfl)
    (case' hS => rfl)
    all_goals (first | exact Ld | (rfl))
theorem tuFn_ac (f : Nat → Nat → Int) (n : Nat) (i j : Nat) (hi : i < n) (hj : j < n) : AC Tryz.prog 215 [I i, I j, Bx 1 0] (heapL (hs1 (TD (tabF n n f)))) (I (tuF f i j)) (heapL (hs1 (TD (tabF n n f)))) := by
  have hRi : (mRows 1 (TR (tabF n n f)))[((j : Nat) : Int).toNat]? = some [.sl 1 (IR (rowF n (f j)))] := TR_get (tabF_get hj)
  have hRf : (IR (rowF n (f j)))[((i : Nat) : Int).toNat]? = some [DI (f j i)] := IRF_get hi
  have hRil : (IR (rowF n (f j))).length = n := by rw [IR_len, rowF_len]
  have hlen : (mRows 1 (TR (tabF n n f))).length = n := by rw [mTR_len, tabF_len]
  refine AC.of_body 1 Tryz.func215 rfl (fun l h => by simp [heapL, upd] at h; simp [h]) (fun C hC => ?_)
  simp only [startFr, Tryz.ntmps215, List.length_cons, List.length_nil, Nat.reduceAdd, Nat.reduceSub, List.replicate_succ, List.replicate_zero, List.cons_append, List.nil_append]
  have hD : ∀ l, C.D0 l → l = ⟨0, []⟩ := fun l h => by have := (hC l).1 h; simp [heapL, upd] at this; exact this
  repeat' (first | ((first | apply Ba | (apply Bb; (· rfl); (· rfl)) | (apply Bc; (· exact nxE)) | (apply Bd; (· rfl); (· rfl); (· exact nxE))); (· first | exact Ok.pe)) | ((first | apply Ca | (apply Cb; (· exact nxE))); (· first | exact Ok.e0)) | refine Sx ?_ | (refine Sy (fun h => ?_) (fun h => ?_) <;> try (exfalso; omega; done)) | refine Sz (fun h => ?_) (fun h => ?_))
  (refine end1p (by first | exact .inl rfl | exact .inr rfl) rfl (by first | exact rT rfl | exact rCA rfl rfl rfl rfl (by simp) | exact rCC rfl rfl rfl rfl rfl) ?_ (Le.head ([(⟨0, []⟩, ⟨0, []⟩, ⟨1, [[TL (tabF n n f)]]⟩)]) (by first | exact fun l h => absurd h (hD l) | (intro l h; rcases hD l h with rfl; simp [tauL]) | (intro l h; rcases hD l h with rfl | rfl <;> simp [tauL]; done) | (intro l h; rcases hD l h with rfl | rfl | rfl <;> simp [tauL])) ?_ ?_ (by simp) (by simp) (by simp [AllP]) (n' := 1000)); (· rfl)) <;> (repeat' (first | exact trivial | exact ARs.nil | refine ARs.cons ?_ ?_ | exact AR.dead _ | exact AR.dd _ | exact AR.i (by (try dsimp only); omega) | exact AR.ptr _ _ _ _ (by simp [heapL, upd]) | exact AR.own _ _ _ _ (by simp [heapL, upd]) | refine AR.ownE _ _ _ ?_ (by simp [heapL, upd]) | refine ⟨⟨_, rfl, ?_⟩, ?_⟩ | exact ObA.data | refine ObA.box ?_ | refine ObA.frE ?_ | refine ObA.dataE ?_ | refine ARs.agg ?_ | refine ARs.tup ?_ | exact AR.clo' ARs.nil ARs.nil | exact AR.clo' ARs.nil (hca _ _)))
set_option maxHeartbeats 2000000 in
theorem mbyTu_ac (m n : Nat) (q : Nat) (hmq : m = q) (hnq : n = q) (f : Nat → Nat → Int) (hm : m ≤ 1000) (hn : n ≤ 1000) : AC Tryz.prog 188 [I m, I n, .clo (.func 215) [] [Bx 1 0]] (heapL [(⟨0, []⟩, ⟨0, []⟩, ⟨1, [[TL (tabF q q f)]]⟩)]) (.own 1 ⟨1, []⟩ 0 m) (heapX [(⟨0, []⟩, ⟨0, []⟩, ⟨1, [[TL (tabF q q f)]]⟩)] [mi1 ⟨1, []⟩ (TR (tabF m n (tuF f)))]) := by
  refine AC.of_body 1 Tryz.func188 rfl (fun l h => by simp [heapL, upd] at h; (repeat' split at h) <;> simp_all) (fun C hC => ?_)
  simp only [startFr, Tryz.ntmps188, List.length_cons, List.length_nil, Nat.reduceAdd, Nat.reduceSub, List.replicate_succ, List.replicate_zero, List.cons_append, List.nil_append]
  have hD : ∀ l, C.D0 l → l = ⟨0, []⟩ := fun l h => by have := (hC l).1 h; simp [heapL, upd] at this; (repeat' split at this) <;> simp_all
  repeat' (first | ((first | apply Ba | (apply Bb; (· rfl); (· rfl)) | (apply Bc; (· exact nxE)) | (apply Bd; (· rfl); (· rfl); (· exact nxE))); (· first | exact Ok.pe)) | ((first | apply Ca | (apply Cb; (· exact nxE))); (· first | exact Ok.e0)) | refine Sx ?_ | (refine Sy (fun h => ?_) (fun h => ?_) <;> try (exfalso; omega; done)) | refine Sz (fun h => ?_) (fun h => ?_))
  refine AW.loop (X := {k : Nat // k ≤ m}) (fun k => ⟨[Oo, I n, .clo (.func 215) [] [Bx 1 0], Oo, Oo, Oo, Oo, .own 1 ⟨1, []⟩ 0 m, Oo, Oo, Oo, Oo, Oo, I m, I (k.1 : Nat), Oo, Oo, Oo, Oo, Oo, Oo, Oo, Oo, Oo, Oo, Oo, Oo, Oo, Oo, Oo, Oo, Oo, Oo, Oo, Oo, Oo, Oo, Oo, Oo, Oo, Oo, Oo, Oo], heapX [(⟨0, []⟩, ⟨0, []⟩, ⟨1, [[TL (tabF q q f)]]⟩)] [{ l := ⟨1, []⟩, k := 1, R := TR (tabF k.1 n (mixF (tuF f) zz k.1 0)), nils := m - k.1, src := ⟨1, []⟩, base := ⟨1, []⟩ }], 900⟩) (fun k => m - k.1) ⟨0, Nat.zero_le _⟩ ?_ (fun k => ?_)
  ·
    (apply Le.headG [_] [{ l := ⟨1, []⟩, k := 1, R := [], nils := m, src := ⟨3, []⟩, base := ⟨3, []⟩ }] (fun _ => False))
    (case' hlen => rfl)
    (case' hms => rfl)
    all_goals (try dsimp only [srcs])
    (case' hfr | hob => (repeat' (first | refine La ?_ ?_ | exact Lc | refine Lo ?_ | refine ⟨⟨_, rfl, ?_⟩, ?_⟩ | refine Lx ?_)))
    (case' hok => first | exact ⟨MI.ok_make rfl, trivial⟩ | exact trivial)
    (case' hN => rfl)
    (case' hS => rfl)
    all_goals (first | exact Ld | (rfl))
  obtain ⟨i, hi⟩ := k
  simp only
  by_cases hlt : i < m
  ·
    have hti : (TR (tabF i n (mixF (tuF f) zz i 0))).length = i := by rw [TR_len, tabF_len]
    rw [show m - i = (m - (i + 1)) + 1 by omega]
    repeat' (first | ((first | apply Ba | (apply Bb; (· rfl); (· rfl)) | (apply Bc; (· exact nxE)) | (apply Bd; (· rfl); (· rfl); (· exact nxE))); (· first | exact OpOk.loadCell rfl rfl rfl rfl (set_at (by simp only [outer_len]; rw [hti]; omega)) rfl | exact Ok.stT rfl rfl rfl (by dsimp only; rw [hti]; omega) rfl | exact Ok.pe)) | ((first | apply Ca | (apply Cb; (· exact nxE))); (· first | exact Ok.stT rfl rfl rfl (by dsimp only; rw [hti]; omega) rfl | exact Ok.e0)) | refine Sx ?_ | (refine Sy (fun h => ?_) (fun h => ?_) <;> try (exfalso; omega; done)) | refine Sz (fun h => ?_) (fun h => ?_))
    refine AW.loop (X := {k : Nat // k ≤ n}) (fun k => ⟨[Oo, I n, .clo (.func 215) [] [Bx 1 0], Oo, Oo, Oo, Oo, .own 1 ⟨1, []⟩ 0 m, I i, Oo, Oo, Oo, Oo, I m, I i, Oo, Oo, Oo, Oo, Oo, Oo, Oo, Oo, Oo, Oo, Oo, I n, I (k.1 : Nat), Oo, Oo, Oo, Oo, Oo, Oo, Oo, Oo, Oo, Oo, Oo, Oo, Oo, Oo, Oo], heapX [(⟨0, []⟩, ⟨0, []⟩, ⟨1, [[TL (tabF q q f)]]⟩)] [{ l := ⟨1, []⟩, k := 1, R := TR (tabF (i + 1) n (mixF (tuF f) zz i k.1)), nils := m - (i + 1), src := ⟨1, []⟩, base := ⟨1, []⟩ }], 900⟩) (fun k => n - k.1) ⟨0, Nat.zero_le _⟩ ?_ (fun k => ?_)
    ·
      (apply Le.headG [_] [{ l := ⟨1, []⟩, k := 1, R := TR (tabF (i + 1) n (mixF (tuF f) zz i 0)), nils := m - (i + 1), src := ⟨1, []⟩, base := ⟨1, []⟩, cut := i, ext := some ⟨906, []⟩ }] (fun _ => False))
      (case' hlen => rfl)
      (case' hms => rfl)
      all_goals (try dsimp only [srcs])
      (case' hfr | hob => (repeat' (first | refine La ?_ ?_ | exact Lc | refine Lo ?_ | refine ⟨⟨_, rfl, ?_⟩, ?_⟩ | refine Lx ?_)))
      (case' hok => first | exact ⟨MI.ok_fill (r := List.replicate n [DI 0]) zz_snoc hti (by simp) rfl (Cg) rfl, trivial⟩ | exact trivial)
      (case' hN => rfl)
      (case' hS => rfl)
      all_goals (first | exact Ld | ((first | (simp [AllP, TR_len, tabF_len]; done) | (simp [AllP, TR_len, tabF_len]; omega))))
    obtain ⟨j, hj⟩ := k
    simp only
    by_cases hlt2 : j < n
    ·
      have hrw := TRF_get (n := n) (f := (mixF (tuF f) zz i j)) (show i < i + 1 by omega)
      have hlr : (IR (rowF n ((mixF (tuF f) zz i j) i))).length = n := by rw [IR_len, rowF_len]
      repeat' (first | ((first | apply Ba | (apply Bb; (· rfl); (· rfl)) | (apply Bc; (· exact nxE)) | (apply Bd; (· rfl); (· rfl); (· exact nxE))); (· first | exact Ok.ldTn rfl rfl rfl hrw hlr | exact OpOk.callS ([(⟨0, []⟩, ⟨0, []⟩, ⟨1, [[TL (tabF q q f)]]⟩)]) rfl rfl (tuFn_ac f q i j (by omega) (by omega)) (by intro p hp; simp only [List.mem_cons, List.not_mem_nil, or_false] at hp; rcases hp with rfl <;> rfl) hs1_ok (.d _) (.cons (.dd _) (.cons (.dd _) (.cons (AR.ptr _ _ _ _ (by simp)) .nil))) | exact Ok.st1 rfl rfl (congrArg (Option.map (dobj 1)) hrw) (by simp [rowF_len]; omega) (by rw [IRF_get hlt2]; rfl) rfl rfl IR_set | exact Ok.pe)) | ((first | apply Ca | (apply Cb; (· exact nxE))); (· first | exact Ok.st1 rfl rfl (congrArg (Option.map (dobj 1)) hrw) (by simp [rowF_len]; omega) (by rw [IRF_get hlt2]; rfl) rfl rfl IR_set | exact Ok.e0)) | refine Sx ?_ | (refine Sy (fun h => ?_) (fun h => ?_) <;> try (exfalso; omega; done)) | refine Sz (fun h => ?_) (fun h => ?_))
      refine ⟨⟨j + 1, by omega⟩, ?_, by simp only; omega⟩
      (apply Le.headG [_] [{ l := ⟨1, []⟩, k := 1, R := TR (tabF (i + 1) n (mixF (tuF f) zz i (j + 1))), nils := m - (i + 1), src := ⟨1, []⟩, base := ⟨1, []⟩ }] (fun _ => False))
      (case' hlen => rfl)
      (case' hms => rfl)
      all_goals (try dsimp only [srcs])
      (case' hfr | hob => (repeat' (first | refine La ?_ ?_ | exact Lc | refine Lo ?_ | refine ⟨⟨_, rfl, ?_⟩, ?_⟩ | refine Lx ?_)))
      (case' hok => first | exact ⟨MI.ok_row (tabF_set (fun a b _ _ => mixF_set)) hrw (by simp) rfl (Cg), trivial⟩ | exact trivial)
      (case' hN => rfl)
      (case' hS => rfl)
      all_goals (first | exact Ld | (rfl))
    ·
      have hjn : j = n := by omega
      subst hjn
      rw [mixF_row]
      repeat' (first | ((first | apply Ba | (apply Bb; (· rfl); (· rfl)) | (apply Bc; (· exact nxE)) | (apply Bd; (· rfl); (· rfl); (· exact nxE))); (· first | exact Ok.pe)) | ((first | apply Ca | (apply Cb; (· exact nxE))); (· first | exact Ok.e0)) | refine Sx ?_ | (refine Sy (fun h => ?_) (fun h => ?_) <;> try (exfalso; omega; done)) | refine Sz (fun h => ?_) (fun h => ?_))
      refine ⟨⟨i + 1, by omega⟩, ?_, by simp only; omega⟩
      (apply Le.headG [_] [{ l := ⟨1, []⟩, k := 1, R := TR (tabF (i + 1) j (mixF (tuF f) zz (i + 1) 0)), nils := m - (i + 1), src := ⟨1, []⟩, base := ⟨1, []⟩ }] (fun _ => False))
      (case' hlen => rfl)
      (case' hms => rfl)
      all_goals (try dsimp only [srcs])
      (case' hfr | hob => (repeat' (first | refine La ?_ ?_ | exact Lc | refine Lo ?_ | refine ⟨⟨_, rfl, ?_⟩, ?_⟩ | refine Lx ?_)))
      (case' hok => first | exact ⟨MI.ok_same rfl (Cg), trivial⟩ | exact trivial)
      (case' hN => rfl)
      (case' hS => rfl)
      all_goals (first | exact Ld | (rfl))
  ·
    have him : i = m := by omega
    subst him
    rw [Nat.sub_self, mixF_all]
    repeat' (first | ((first | apply Ba | (apply Bb; (· rfl); (· rfl)) | (apply Bc; (· exact nxE)) | (apply Bd; (· rfl); (· rfl); (· exact nxE))); (· first | exact Ok.pe)) | ((first | apply Ca | (apply Cb; (· exact nxE))); (· first | exact Ok.e0)) | refine Sx ?_ | (refine Sy (fun h => ?_) (fun h => ?_) <;> try (exfalso; omega; done)) | refine Sz (fun h => ?_) (fun h => ?_))
    refine Ya ?_
    (apply Le.headG [⟨0, []⟩] [mi1 ⟨1, []⟩ (TR (tabF i n (tuF f)))] (fun _ => False))
    (case' hlen => rfl)
    (case' hms => rfl)
    all_goals (try dsimp only [srcs])
    (case' hfr | hob => (repeat' (first | refine La ?_ ?_ | exact Lc | refine Lo ?_ | refine ⟨⟨_, rfl, ?_⟩, ?_⟩ | refine Lx ?_)))
    (case' hok => first | exact ⟨MI.ok_same rfl (Cg), trivial⟩ | exact trivial)
    (case' hN => rfl)
    (case' hS => rfl)
    all_goals (first | exact Ld | (rfl))
set_option maxHeartbeats 1000000 in
theorem transposed_ac (f : Nat → Nat → Int) (n : Nat) (h0 : 0 < n) (hn : n ≤ 1000) : AC Tryz.prog 178 [TL (tabF n n f)] H0 (own1 1 n) (hpM 1 (TR (tabF n n (tuF f)))) := by
  have hlen : (mRows 1 (TR (tabF n n f))).length = n := by rw [mTR_len, tabF_len]
  have hR0 : (mRows 1 (TR (tabF n n f)))[(0 : Int).toNat]? = some [.sl 1 (IR (rowF n (f 0)))] := TR_get (tabF_get h0)
  have hR0l : (IR (rowF n (f 0))).length = n := by rw [IR_len, rowF_len]
  have hF := mbyTu_ac n n n rfl rfl f hn hn
  refine AC.of_body 0 Tryz.func178 rfl (fun l h => absurd rfl h) (fun C hC => ?_)
  have hD : ∀ l, ¬ C.D0 l := fun l h => (hC l).1 h rfl
  simp only [startFr, Tryz.ntmps178, List.length_cons, List.length_nil, Nat.reduceAdd, Nat.reduceSub, List.replicate_succ, List.replicate_zero, List.cons_append, List.nil_append]
  repeat' (first | ((first | apply Ba | (apply Bb; (· rfl); (· rfl)) | (apply Bc; (· exact nxE)) | (apply Bd; (· rfl); (· rfl); (· exact nxE))); (· first | exact Ok.lenD rfl rfl hlen | exact Ok.lenD rfl rfl hR0l | exact OpOk.callSX (hs1 (TD (tabF n n f))) [mi1 ⟨1, []⟩ (TR (tabF n n (tuF f)))] rfl rfl hF (by intro p hp; simp only [List.mem_cons, List.not_mem_nil, or_false] at hp; rcases hp with rfl; rfl) hs1_ok (by simp [Loc.cov]) (.cons (.dd _) (.cons (.dd _) (.cons (AR.clo' .nil (.cons (AR.ptr _ _ _ _ (by simp)) .nil)) .nil))) (by simp [rn, emb]; rfl) | exact Ok.pe)) | ((first | apply Ca | (apply Cb; (· exact nxE))); (· first | exact OpOk.callSX (hs1 (TD (tabF n n f))) [mi1 ⟨1, []⟩ (TR (tabF n n (tuF f)))] rfl rfl hF (by intro p hp; simp only [List.mem_cons, List.not_mem_nil, or_false] at hp; rcases hp with rfl; rfl) hs1_ok (by simp [Loc.cov]) (.cons (.dd _) (.cons (.dd _) (.cons (AR.clo' .nil (.cons (AR.ptr _ _ _ _ (by simp)) .nil)) .nil))) (by simp [rn, emb]; rfl) | exact Ok.e0)) | refine Sx ?_ | (refine Sy (fun h => ?_) (fun h => ?_) <;> try (exfalso; omega; done)) | refine Sz (fun h => ?_) (fun h => ?_))
  refine Ya ?_
  (apply Le.headG [] [{ l := ⟨0, []⟩, k := 1, R := TR (tabF n n (tuF f)), src := ⟨9, [1]⟩, base := ⟨9, [1]⟩ }] (fun _ => False))
  (case' hlen => rfl)
  (case' hms => rfl)
  all_goals (try dsimp only [srcs])
  (case' hfr | hob => (repeat' (first | refine La ?_ ?_ | exact Lc | refine Lo ?_ | refine ⟨⟨_, rfl, ?_⟩, ?_⟩ | refine Lx ?_)))
  (case' hok => first | exact ⟨MI.ok_same rfl (Cg), trivial⟩ | exact trivial)
  (case' hN => rfl)
  (case' hS => rfl)
  all_goals (first | exact Ld | (rfl))
/-- The column of the star that belongs to a node. -/
noncomputable def coL (t : List (List Int)) (n : Nat) (r : Int × Int) (v : Nat) : List Int := rowF n (tuF (starF (entN (shT t n r.1 r.2)) n) v)
set_option maxHeartbeats 2000000 in
theorem starColumn_ac (t : List (List Int)) (n : Nat) (hM : MatOk t n) (p q : Int) (hp : -10000000 ≤ p ∧ p ≤ 10000000) (hq : 0 < q ∧ q ≤ 10) (hst : StarM (shT t n p q) n) (v : Nat) (hv : v < n) : AC Tryz.prog 100 [TL t, .agg [I p, I q], I v] H0 (own1 1 (coL t n (p, q) v).length) (hp1 (IO (coL t n (p, q) v))) := by
  have hn := hM.le
  have h0 := hM.pos
  have hSh := (shifted_ac t n hM p q hp hq).frzT (by rw [TR_len]; exact shT_sq.l)
  have hSt := (starOf_ac (shT t n p q) n hst).frzT2 (by rw [TR_len, tabF_len])
  unfold coL
  simp only
  rw [rowF_len]
  generalize shT t n p q = b at *
  generalize starF (entN b) n = s at *
  have hTu := transposed_ac s n (by omega) (by omega)
  have hrv : (TR (tabF n n (tuF s)))[v]? = some (IR (rowF n (tuF s v))) := TRF_get hv
  have hrl : (IR (rowF n (tuF s v))).length = n := by rw [IR_len, rowF_len]
  refine AC.of_body 0 Tryz.func100 rfl (fun l h => absurd rfl h) (fun C hC => ?_)
  have hD : ∀ l, ¬ C.D0 l := fun l h => (hC l).1 h rfl
  simp only [startFr, Tryz.ntmps100, List.length_cons, List.length_nil, Nat.reduceAdd, Nat.reduceSub, List.replicate_succ, List.replicate_zero, List.cons_append, List.nil_append]
  repeat' (first | ((first | apply Ba | (apply Bb; (· rfl); (· rfl)) | (apply Bc; (· exact nxE)) | (apply Bd; (· rfl); (· rfl); (· exact nxE))); (· first | exact Kz rfl rfl (hSh) (Ad (Aa (Ad (Ad An)) An)) | exact Kz rfl rfl (hSt) (Ad An) | exact Ok.ldTn rfl rfl rfl hrv hrl | exact Tb rfl rfl (hTu) (Sd Sn) | exact Ok.pe)) | ((first | apply Ca | (apply Cb; (· exact nxE))); (· first | exact Tb rfl rfl (hTu) (Sd Sn) | exact Ok.e0)) | refine Sx ?_ | (refine Sy (fun h => ?_) (fun h => ?_) <;> try (exfalso; omega; done)) | refine Sz (fun h => ?_) (fun h => ?_))
  refine Ya ?_
  (apply Le.head [(⟨0, []⟩, Loc.at ⟨12, [0]⟩ v, IO (rowF n (tuF s v)))])
  (case' hfr | hob => (repeat' (first | refine La ?_ ?_ | exact Lc | refine Lo ?_ | refine ⟨⟨_, rfl, ?_⟩, ?_⟩ | refine Lx ?_)))
  all_goals (first | exact Ld | (exact ⟨⟨_, congrArg (Option.map (dobj 1)) hrv, ObA.data⟩, trivial⟩))
end Go.Proofs.YtpgcmpbamlnkkaaGreat
end

section
namespace Go.Proofs.YtpgcmpbamlnkkaaGreat
set_option linter.unusedSimpArgs false
set_option linter.unusedVariables false
open Go Go.RowKit
attribute [local irreducible] AL AD AW OpOk Le AC thenQ blockQ EndQ

/-- Which ratios are valid. -/
def isRtG (r : Int × Int) : Bool := wi r.1 (-1000000) 1000000 && (wi r.2 1 1000000 && (Nat.gcd r.1.natAbs r.2.toNat == 1))
structure DrR (r : Int × Int) : Prop where
  n : -2000000 ≤ r.1 ∧ r.1 ≤ 2000000
  d : -1 ≤ r.2 ∧ r.2 ≤ 1000000
  s : isRtG r = true → r.2 ≤ 10
theorem isRtG_ok {r : Int × Int} (h : isRtG r = true) : RtZ r ∧ isRt r = true := by
  unfold isRtG at h
  rw [Bool.and_eq_true, Bool.and_eq_true, beq_iff_eq] at h
  obtain ⟨h1, h2, h3⟩ := h
  have a1 := wi_iff.1 h1
  have a2 := wi_iff.1 h2
  exact ⟨⟨by omega, by omega, h3⟩, h1⟩
theorem isRtG_of {r : Int × Int} (h : RtZ r) : isRtG r = isRt r := by
  unfold isRtG isRt
  rw [Bool.eq_iff_iff, Bool.and_eq_true, Bool.and_eq_true, beq_iff_eq]
  exact ⟨fun hh => hh.1, fun hh => ⟨hh, wi_iff.2 h.d, h.g⟩⟩
theorem redR_small {a b : Int} (hb : 1 ≤ b ∧ b ≤ 1000000) (ha : -1000000 ≤ a ∧ a ≤ 1000000) : (-1000000 ≤ (redR a b).1 ∧ (redR a b).1 ≤ 1000000) ∧ (0 < (redR a b).2 ∧ (redR a b).2 ≤ b) := redR_bnd (by omega) ha
theorem gcd2 {x y : Int} (hy : 1 ≤ y) : Nat.gcd (2 * x).natAbs (2 * y).toNat ≠ 1 := fun h => by
  have h1 : 2 ∣ Nat.gcd (2 * x).natAbs (2 * y).toNat := Nat.dvd_gcd (by rw [Int.natAbs_mul]; exact Nat.dvd_mul_right _ _) (by rw [show (2 * y).toNat = 2 * y.toNat by omega]; exact Nat.dvd_mul_right _ _)
  rw [h] at h1
  omega
set_option maxHeartbeats 2000000 in
theorem l01DrawRatio_ex (code : List Int) (hc : CodeOk code) (s : Src) (hs : SrcOk code s) : ∃ (r : Int × Int) (s' : Src), DrR r ∧ SrcOk code s' ∧ AC Tryz.prog 136 [Bx 3 0] (srcH code s) (.agg [I r.1, I r.2]) (srcH code s') := by
  obtain ⟨a, s1, a1, a2, h1, q1, N1⟩ := next_ex hc hs 80
  obtain ⟨b, s2, b1, b2, h2, q2, N2⟩ := next_ex hc h1 9
  have hR := l01RatioZ_ac (a - 40) (1 + b) (by omega) (by omega)
  obtain ⟨r1, r2⟩ := redR_small (a := a - 40) (b := 1 + b) (by omega) (by omega)
  generalize redR (a - 40) (1 + b) = r at *
  obtain ⟨x, y⟩ := r
  simp only at r1 r2 hR
  obtain ⟨z, s3, z1, z2, h3, q3, N3⟩ := next_ex hc h2 24
  by_cases c0 : z = 0
  · refine ⟨(2 * x, 2 * y), s3, ⟨by simp only; omega, by simp only; omega, fun h => ?_⟩, h3, ?_⟩
    · unfold isRtG at h
      rw [Bool.and_eq_true, Bool.and_eq_true, beq_iff_eq] at h
      exact absurd h.2.2 (gcd2 (by omega))
    · show AC _ _ _ (heapL [(⟨0, []⟩, ⟨0, []⟩, srcO code s)]) _ _
      refine AC.of_body 1 Tryz.func136 rfl (fun l h => by simp [heapL, upd] at h; simp [h]) (fun C hC => ?_)
      simp only [startFr, Tryz.ntmps136, List.length_cons, List.length_nil, Nat.reduceAdd, Nat.reduceSub, List.replicate_succ, List.replicate_zero, List.cons_append, List.nil_append]
      have hD : ∀ l, C.D0 l → l = ⟨0, []⟩ := fun l h => by have := (hC l).1 h; simp [heapL, upd] at this; exact this
      repeat' (first | ((first | apply Ba | (apply Bb; (· rfl); (· rfl)) | (apply Bc; (· exact nxE)) | (apply Bd; (· rfl); (· rfl); (· exact nxE))); (· first | exact Kz rfl rfl (hR) (Ad (Ad An)) | exact Nx N1 rfl rfl rfl rfl rfl | exact Nx N2 rfl rfl rfl rfl rfl | exact Nx N3 rfl rfl rfl rfl rfl | exact Ok.pe)) | ((first | apply Ca | (apply Cb; (· exact nxE))); (· first | exact Nx N1 rfl rfl rfl rfl rfl | exact Nx N2 rfl rfl rfl rfl rfl | exact Nx N3 rfl rfl rfl rfl rfl | exact Ok.e0)) | refine Sx ?_ | (refine Sy (fun h => ?_) (fun h => ?_) <;> try (exfalso; omega; done)) | refine Sz (fun h => ?_) (fun h => ?_))
      all_goals
        refine Ya ?_
        (apply Le.headZ (hs := [(⟨0, []⟩, ⟨0, []⟩, _)]) [⟨0, []⟩] rfl)
        all_goals (try dsimp only [srcs])
        (case' hfr | hob => (repeat' (first | refine La ?_ ?_ | refine ARs.agg ?_ | refine ARs.tup ?_ | (first | exact AR.i (by first | rfl | omega)) | refine La ?_ ?_ | exact Lc | refine Lo ?_ | refine ⟨⟨_, rfl, ?_⟩, ?_⟩ | refine Lx ?_)))
        all_goals (first | exact Ld | exact trivial | (first | exact AR.i (by first | rfl | omega)))
  by_cases c1 : z = 1
  · obtain ⟨u, s4, hu, h4, p4, q4, K4⟩ := pick_ex hc h3 [1000000, 1000001, -1000000] 3 rfl
    obtain ⟨v, s5, hv, h5, p5, q5, K5⟩ := pick_ex hc h4 [1, 1000000, 0, -1] 4 rfl
    refine ⟨(u, v), s5, ?_, h5, ?_⟩
    · simp at hu hv
      refine ⟨by simp only; omega, by simp only; omega, ?_⟩
      rcases hu with rfl | rfl | rfl <;> rcases hv with rfl | rfl | rfl | rfl <;> decide
    · show AC _ _ _ (heapL [(⟨0, []⟩, ⟨0, []⟩, srcO code s)]) _ _
      refine AC.of_body 1 Tryz.func136 rfl (fun l h => by simp [heapL, upd] at h; simp [h]) (fun C hC => ?_)
      simp only [startFr, Tryz.ntmps136, List.length_cons, List.length_nil, Nat.reduceAdd, Nat.reduceSub, List.replicate_succ, List.replicate_zero, List.cons_append, List.nil_append]
      have hD : ∀ l, C.D0 l → l = ⟨0, []⟩ := fun l h => by have := (hC l).1 h; simp [heapL, upd] at this; exact this
      repeat' (first | ((first | apply Ba | (apply Bb; (· rfl); (· rfl)) | (apply Bc; (· exact nxE)) | (apply Bd; (· rfl); (· rfl); (· exact nxE))); (· first | exact Kz rfl rfl (hR) (Ad (Ad An)) | exact Nx N1 rfl rfl rfl rfl rfl | exact Nx N2 rfl rfl rfl rfl rfl | exact Nx N3 rfl rfl rfl rfl rfl | exact Kx K4 rfl rfl rfl rfl rfl rfl (by decide) | exact Kx K5 rfl rfl rfl rfl rfl rfl (by decide) | exact Ok.bs3 rfl rfl rfl rfl rfl | exact Ok.bs4 rfl rfl rfl rfl rfl rfl | exact Ok.pe)) | ((first | apply Ca | (apply Cb; (· exact nxE))); (· first | exact Nx N1 rfl rfl rfl rfl rfl | exact Nx N2 rfl rfl rfl rfl rfl | exact Nx N3 rfl rfl rfl rfl rfl | exact Kx K4 rfl rfl rfl rfl rfl rfl (by decide) | exact Kx K5 rfl rfl rfl rfl rfl rfl (by decide) | exact Ok.bs3 rfl rfl rfl rfl rfl | exact Ok.bs4 rfl rfl rfl rfl rfl rfl | exact Ok.e0)) | refine Sx ?_ | (refine Sy (fun h => ?_) (fun h => ?_) <;> try (exfalso; omega; done)) | refine Sz (fun h => ?_) (fun h => ?_))
      all_goals
        refine Ya ?_
        (apply Le.headZ (hs := [(⟨0, []⟩, ⟨0, []⟩, _)]) [⟨0, []⟩] rfl)
        all_goals (try dsimp only [srcs])
        (case' hfr | hob => (repeat' (first | refine La ?_ ?_ | exact Lc | refine Lo ?_ | refine ⟨⟨_, rfl, ?_⟩, ?_⟩ | refine Lx ?_)))
        all_goals (first | exact Ld | exact trivial | (rfl))
  · refine ⟨(x, y), s3, ⟨by simp only; omega, by simp only; omega, fun _ => by simp only; omega⟩, h3, ?_⟩
    show AC _ _ _ (heapL [(⟨0, []⟩, ⟨0, []⟩, srcO code s)]) _ _
    refine AC.of_body 1 Tryz.func136 rfl (fun l h => by simp [heapL, upd] at h; simp [h]) (fun C hC => ?_)
    simp only [startFr, Tryz.ntmps136, List.length_cons, List.length_nil, Nat.reduceAdd, Nat.reduceSub, List.replicate_succ, List.replicate_zero, List.cons_append, List.nil_append]
    have hD : ∀ l, C.D0 l → l = ⟨0, []⟩ := fun l h => by have := (hC l).1 h; simp [heapL, upd] at this; exact this
    repeat' (first | ((first | apply Ba | (apply Bb; (· rfl); (· rfl)) | (apply Bc; (· exact nxE)) | (apply Bd; (· rfl); (· rfl); (· exact nxE))); (· first | exact Kz rfl rfl (hR) (Ad (Ad An)) | exact Nx N1 rfl rfl rfl rfl rfl | exact Nx N2 rfl rfl rfl rfl rfl | exact Nx N3 rfl rfl rfl rfl rfl | exact Ok.pe)) | ((first | apply Ca | (apply Cb; (· exact nxE))); (· first | exact Nx N1 rfl rfl rfl rfl rfl | exact Nx N2 rfl rfl rfl rfl rfl | exact Nx N3 rfl rfl rfl rfl rfl | exact Ok.e0)) | refine Sx ?_ | (refine Sy (fun h => ?_) (fun h => ?_) <;> try (exfalso; omega; done)) | refine Sz (fun h => ?_) (fun h => ?_))
    all_goals
      refine Ya ?_
      (apply Le.headZ (hs := [(⟨0, []⟩, ⟨0, []⟩, _)]) [⟨0, []⟩] rfl)
      all_goals (try dsimp only [srcs])
      (case' hfr | hob => (repeat' (first | refine La ?_ ?_ | exact Lc | refine Lo ?_ | refine ⟨⟨_, rfl, ?_⟩, ?_⟩ | refine Lx ?_)))
      all_goals (first | exact Ld | exact trivial | (rfl))
/-! ### Vectors -/
def dvF (code : List Int) (q : QS) : QS := ((nxt code (nxt code q.1 31).2 8).2, q.2 ++ [if (nxt code (nxt code q.1 31).2 8).1 = 0 then -1000000000000000 else (nxt code q.1 31).1 - 15])
theorem dvF_ok {code : List Int} (hc : CodeOk code) {s : Src} (hs : SrcOk code s) (n : Nat) : SrcOk code (itr (dvF code) n (s, [])).1 ∧ (itr (dvF code) n (s, [])).2.length = n :=
  itr_ok (p := fun k (q : QS) => SrcOk code q.1 ∧ q.2.length = k) ⟨hs, rfl⟩ (fun k x h => ⟨(nxt_ok hc (nxt_ok hc h.1 31).2.2 8).2.2, by simp [dvF, h.2]⟩) n
set_option maxHeartbeats 4000000 in
theorem l02DrawVector_ex (code : List Int) (hc : CodeOk code) (s : Src) (hs : SrcOk code s) (n : Nat) (hn : n ≤ 1000) : ∃ (x : List Int) (s' : Src), x.length ≤ n + 1 ∧ SrcOk code s' ∧ AC Tryz.prog 68 [Bx 3 0, I n] (srcH code s) (IL x) (srcH code s') := by
  obtain ⟨hA, hAl⟩ := dvF_ok hc hs n
  generalize hqA : itr (dvF code) n (s, []) = qA at hA hAl
  obtain ⟨s2, xs⟩ := qA
  simp only at hA hAl
  obtain ⟨y, s3, y1, y2, h3, q3, N3⟩ := next_ex hc hA 60
  obtain ⟨v, s4, hv, h4, V4⟩ := l01DrawValue_ex code hc s3 h3
  refine ⟨if y = 0 then xs ++ [v] else if y = 1 then [] else xs, if y = 0 then s4 else s3, ?_, by split <;> assumption, ?_⟩
  · (repeat' split) <;> (first | (simp; done) | (simp; omega) | omega)
  have hyl : (IR xs).length = n := by rw [IR_len, hAl]
  show AC _ _ _ (heapL [(⟨0, []⟩, ⟨0, []⟩, srcO code s)]) _ _
  refine AC.of_body 1 Tryz.func68 rfl (fun l h => by simp [heapL, upd] at h; simp [h]) (fun C hC => ?_)
  simp only [startFr, Tryz.ntmps68, List.length_cons, List.length_nil, Nat.reduceAdd, Nat.reduceSub, List.replicate_succ, List.replicate_zero, List.cons_append, List.nil_append]
  have hD : ∀ l, C.D0 l → l = ⟨0, []⟩ := fun l h => by have := (hC l).1 h; simp [heapL, upd] at this; exact this
  repeat' (first | ((first | apply Ba | (apply Bb; (· rfl); (· rfl)) | (apply Bc; (· exact nxE)) | (apply Bd; (· rfl); (· rfl); (· exact nxE))); (· first | exact Ok.pe)) | ((first | apply Ca | (apply Cb; (· exact nxE))); (· first | exact Ok.e0)) | refine Sx ?_ | (refine Sy (fun h => ?_) (fun h => ?_) <;> try (exfalso; omega; done)) | refine Sz (fun h => ?_) (fun h => ?_))
  refine AW.loop (X := {k : Nat // k ≤ n}) (fun k => ⟨[Bx 3 0, I ((n : Int) - (k.1 : Nat)), Oo, Oo, Oo, .own 1 ⟨1, []⟩ 0 (itr (dvF code) (k.1 : Nat) (s, [])).2.length, Oo, Oo, Oo, Oo, Oo, Oo, Oo, Oo, Oo, Oo, Oo, Oo, Oo, Oo, Oo, Oo, Oo, Oo, Oo, Oo, Oo, Oo, Oo, Oo, Oo, Oo, Oo, Oo, Oo, Oo, Oo], heapL [(⟨0, []⟩, ⟨0, []⟩, srcO code (itr (dvF code) k.1 (s, [])).1), (⟨1, []⟩, ⟨1, []⟩, IO (itr (dvF code) k.1 (s, [])).2)], 900⟩) (fun k => n - k.1) ⟨0, Nat.zero_le _⟩ ?_ (fun k => ?_)
  ·
    (apply Le.headZ [_, _] rfl)
    all_goals (try dsimp only [srcs])
    (case' hfr | hob => (repeat' (first | refine La ?_ ?_ | exact Lc | refine Lo ?_ | refine ⟨⟨_, rfl, ?_⟩, ?_⟩ | refine Lx ?_)))
    all_goals (first | (rfl) | exact Ld)
  obtain ⟨w, hw⟩ := k
  simp only
  by_cases hlt : w < n
  · obtain ⟨i1, i2⟩ := dvF_ok hc hs w
    have hst : itr (dvF code) (w + 1) (s, []) = dvF code (itr (dvF code) w (s, [])) := rfl
    generalize itr (dvF code) w (s, []) = q at i1 i2 hst ⊢
    obtain ⟨s5, ys⟩ := q
    simp only at i1 i2 ⊢
    obtain ⟨a, s6, a1, a2, h6, q6, N6⟩ := next_ex hc i1 31
    obtain ⟨b, s7, b1, b2, h7, q7, N7⟩ := next_ex hc h6 8
    have hst := hst.trans (show dvF code (s5, ys) = (s7, ys ++ [if b = 0 then -1000000000000000 else a - 15]) by unfold dvF; simp only [q6, q7])
    have hyl : (IR ys).length = ys.length := IR_len
    by_cases hb : b = 0
    · rw [if_pos hb] at hst
      have hix : 0 + (((ys.length + 1 : Nat) : Int) - 1).toNat = ys.length := by omega
      have hlr : (dobj 1 (IR ys ++ [[DI (a - 15)]])).rows[0 + (((ys.length + 1 : Nat) : Int) - 1).toNat]? = some [I (a - 15)] := by rw [hix]; simp [dobj]
      have hls : (dobj 1 (IR ys ++ [[DI (a - 15)]])).rows.set (0 + (((ys.length + 1 : Nat) : Int) - 1).toNat) ([I (a - 15)].set 0 (I (-1000000000000000))) = (dobj 1 (IR (ys ++ [-1000000000000000]))).rows := by rw [hix]; simp [dobj]
      repeat' (first | ((first | apply Ba | (apply Bb; (· rfl); (· rfl)) | (apply Bc; (· exact nxE)) | (apply Bd; (· rfl); (· rfl); (· exact nxE))); (· first | exact Nx N6 rfl rfl rfl rfl rfl | exact Nx N7 rfl rfl rfl rfl rfl | exact Ok.append1 (row := [DI (a - 15)]) rfl rfl (by decide) rfl rfl hyl rfl rfl rfl (by rfl) (by omega) (by omega) | exact Ok.storeC rfl rfl rfl rfl hlr (by simp) rfl rfl rfl hls | exact Ok.pe)) | ((first | apply Ca | (apply Cb; (· exact nxE))); (· first | exact Nx N6 rfl rfl rfl rfl rfl | exact Nx N7 rfl rfl rfl rfl rfl | exact Ok.append1 (row := [DI (a - 15)]) rfl rfl (by decide) rfl rfl hyl rfl rfl rfl (by rfl) (by omega) (by omega) | exact Ok.storeC rfl rfl rfl rfl hlr (by simp) rfl rfl rfl hls | exact Ok.e0)) | refine Sx ?_ | (refine Sy (fun h => ?_) (fun h => ?_) <;> try (exfalso; omega; done)) | refine Sz (fun h => ?_) (fun h => ?_))
      refine ⟨⟨w + 1, by omega⟩, ?_, by simp only; omega⟩
      simp only [hst]
      (apply Le.headZ [_, _] rfl)
      all_goals (try dsimp only [srcs])
      (case' hfr | hob => (repeat' (first | refine La ?_ ?_ | exact Lc | refine Lo ?_ | refine ⟨⟨_, rfl, ?_⟩, ?_⟩ | refine Lx ?_)))
      all_goals (first | ((simp; done)) | exact Ld)
    · rw [if_neg hb] at hst
      repeat' (first | ((first | apply Ba | (apply Bb; (· rfl); (· rfl)) | (apply Bc; (· exact nxE)) | (apply Bd; (· rfl); (· rfl); (· exact nxE))); (· first | exact Nx N6 rfl rfl rfl rfl rfl | exact Nx N7 rfl rfl rfl rfl rfl | exact Ok.append1 (row := [DI (a - 15)]) rfl rfl (by decide) rfl rfl hyl rfl rfl rfl (by rfl) (by omega) (by omega) | exact Ok.pe)) | ((first | apply Ca | (apply Cb; (· exact nxE))); (· first | exact Nx N6 rfl rfl rfl rfl rfl | exact Nx N7 rfl rfl rfl rfl rfl | exact Ok.append1 (row := [DI (a - 15)]) rfl rfl (by decide) rfl rfl hyl rfl rfl rfl (by rfl) (by omega) (by omega) | exact Ok.e0)) | refine Sx ?_ | (refine Sy (fun h => ?_) (fun h => ?_) <;> try (exfalso; omega; done)) | refine Sz (fun h => ?_) (fun h => ?_))
      refine ⟨⟨w + 1, by omega⟩, ?_, by simp only; omega⟩
      simp only [hst]
      (apply Le.headZ [_, _] rfl)
      all_goals (try dsimp only [srcs])
      (case' hfr | hob => (repeat' (first | refine La ?_ ?_ | exact Lc | refine Lo ?_ | refine ⟨⟨_, rfl, ?_⟩, ?_⟩ | refine Lx ?_)))
      all_goals (first | ((simp; done)) | exact Ld)
  obtain rfl : w = n := by omega
  rw [hqA]
  simp only
  have hyl2 : (IR xs).length = xs.length := IR_len
  by_cases c0 : y = 0
  · simp only [if_pos c0]
    repeat' (first | ((first | apply Ba | (apply Bb; (· rfl); (· rfl)) | (apply Bc; (· exact nxE)) | (apply Bd; (· rfl); (· rfl); (· exact nxE))); (· first | exact Nx N3 rfl rfl rfl rfl rfl | exact Zx (args := []) V4 rfl rfl rfl rfl .nil (fun _ => by simp [rn]) | exact Ok.append1 (row := [DI v]) rfl rfl (by decide) rfl rfl hyl2 rfl rfl rfl (by rfl) (by omega) (by omega) | exact Ok.pe)) | ((first | apply Ca | (apply Cb; (· exact nxE))); (· first | exact Nx N3 rfl rfl rfl rfl rfl | exact Zx (args := []) V4 rfl rfl rfl rfl .nil (fun _ => by simp [rn]) | exact Ok.append1 (row := [DI v]) rfl rfl (by decide) rfl rfl hyl2 rfl rfl rfl (by rfl) (by omega) (by omega) | exact Ok.e0)) | refine Sx ?_ | (refine Sy (fun h => ?_) (fun h => ?_) <;> try (exfalso; omega; done)) | refine Sz (fun h => ?_) (fun h => ?_))
    refine Ya ?_
    (apply Le.headZ (hs := [(⟨0, []⟩, ⟨0, []⟩, _)]) [⟨0, []⟩] rfl)
    all_goals (try dsimp only [srcs])
    (case' hfr | hob => (repeat' (first | refine La ?_ ?_ | refine ARs.agg ?_ | refine ARs.tup ?_ | (exact AR.whole (rows := IR (xs ++ [v])) (by simp; rfl) (by simp) (by simp)) | refine La ?_ ?_ | exact Lc | refine Lo ?_ | refine ⟨⟨_, rfl, ?_⟩, ?_⟩ | refine Lx ?_)))
    all_goals (first | exact Ld | exact trivial | (exact AR.whole (rows := IR (xs ++ [v])) (by simp; rfl) (by simp) (by simp)))
  · simp only [if_neg c0]
    by_cases c1 : y = 1
    · simp only [if_pos c1]
      repeat' (first | ((first | apply Ba | (apply Bb; (· rfl); (· rfl)) | (apply Bc; (· exact nxE)) | (apply Bd; (· rfl); (· rfl); (· exact nxE))); (· first | exact Nx N3 rfl rfl rfl rfl rfl | exact Ok.pe)) | ((first | apply Ca | (apply Cb; (· exact nxE))); (· first | exact Nx N3 rfl rfl rfl rfl rfl | exact Ok.e0)) | refine Sx ?_ | (refine Sy (fun h => ?_) (fun h => ?_) <;> try (exfalso; omega; done)) | refine Sz (fun h => ?_) (fun h => ?_))
      refine Ya ?_
      (apply Le.headZ (hs := [(⟨0, []⟩, ⟨0, []⟩, _)]) [⟨0, []⟩] rfl)
      all_goals (try dsimp only [srcs])
      (case' hfr | hob => (repeat' (first | refine La ?_ ?_ | exact Lc | refine Lo ?_ | refine ⟨⟨_, rfl, ?_⟩, ?_⟩ | refine Lx ?_)))
      all_goals (first | exact Ld | exact trivial | (rfl))
    · simp only [if_neg c1]
      repeat' (first | ((first | apply Ba | (apply Bb; (· rfl); (· rfl)) | (apply Bc; (· exact nxE)) | (apply Bd; (· rfl); (· rfl); (· exact nxE))); (· first | exact Nx N3 rfl rfl rfl rfl rfl | exact Ok.pe)) | ((first | apply Ca | (apply Cb; (· exact nxE))); (· first | exact Nx N3 rfl rfl rfl rfl rfl | exact Ok.e0)) | refine Sx ?_ | (refine Sy (fun h => ?_) (fun h => ?_) <;> try (exfalso; omega; done)) | refine Sz (fun h => ?_) (fun h => ?_))
      refine Ya ?_
      (apply Le.headZ (hs := [(⟨0, []⟩, ⟨0, []⟩, _)]) [⟨0, []⟩] rfl)
      all_goals (try dsimp only [srcs])
      (case' hfr | hob => (repeat' (first | refine La ?_ ?_ | refine ARs.agg ?_ | refine ARs.tup ?_ | (exact AR.whole rfl (by simp) (by simp)) | refine La ?_ ?_ | exact Lc | refine Lo ?_ | refine ⟨⟨_, rfl, ?_⟩, ?_⟩ | refine Lx ?_)))
      all_goals (first | exact Ld | exact trivial | (exact AR.whole rfl (by simp) (by simp)))
end Go.Proofs.YtpgcmpbamlnkkaaGreat
end
