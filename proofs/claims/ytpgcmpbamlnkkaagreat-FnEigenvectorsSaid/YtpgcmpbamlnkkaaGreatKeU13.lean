/-
  Walks in the abstract reading, part 13.
-/
import Derived.Test.YtpgcmpbamlnkkaaGreatKeU12
section
namespace Go.Proofs.YtpgcmpbamlnkkaaGreat
set_option linter.unusedSimpArgs false
set_option linter.unusedVariables false
open Go Go.RowKit
attribute [local irreducible] AL AD AW OpOk Le AC thenQ blockQ EndQ

theorem iIsVector_ac (x : List Int) (hx : x.length ≤ 100000000) : AC Tryz.prog 120 [IL x] H0 (Bo (isVec x)) H0 := by
  have hW := within_ac x.length 1 10
  have hA := areValues_ac x hx
  have hl : (IR x).length = x.length := IR_len
  unfold isVec
  cases hw : wi (x.length : Int) 1 10
  · rw [hw] at hW
    rw [Bool.false_and]
    refine AC.of_body 0 Tryz.func120 rfl (fun l h => absurd rfl h) (fun C hC => ?_)
    have hD : ∀ l, ¬ C.D0 l := fun l h => (hC l).1 h rfl
    simp only [startFr, Tryz.ntmps120, List.length_cons, List.length_nil, Nat.reduceAdd, Nat.reduceSub, List.replicate_succ, List.replicate_zero, List.cons_append, List.nil_append]
    repeat' (first | ((first | apply Ba | (apply Bb; (· rfl); (· rfl)) | (apply Bc; (· exact nxE)) | (apply Bd; (· rfl); (· rfl); (· exact nxE))); (· first | exact Ok.lenD rfl rfl hl | exact Kz rfl rfl (hW) (Ad (Ad (Ad An))) | exact Ok.pe)) | ((first | apply Ca | (apply Cb; (· exact nxE))); (· first | exact Ok.e0)) | refine Sx ?_ | (refine Sy (fun h => ?_) (fun h => ?_) <;> try (exfalso; omega; done)) | refine Sz (fun h => ?_) (fun h => ?_))
    refine Ya ?_
    (apply Le.headZ (hs := []) [] rfl)
    all_goals (try dsimp only [srcs])
    (case' hfr => (repeat' (first | refine La ?_ ?_ | exact Lc | refine Lo ?_ | refine ⟨⟨_, rfl, ?_⟩, ?_⟩ | refine Lx ?_)))
    all_goals (first | exact Ld | exact trivial | (rfl))
  · rw [hw] at hW
    rw [Bool.true_and]
    refine AC.of_body 0 Tryz.func120 rfl (fun l h => absurd rfl h) (fun C hC => ?_)
    have hD : ∀ l, ¬ C.D0 l := fun l h => (hC l).1 h rfl
    simp only [startFr, Tryz.ntmps120, List.length_cons, List.length_nil, Nat.reduceAdd, Nat.reduceSub, List.replicate_succ, List.replicate_zero, List.cons_append, List.nil_append]
    repeat' (first | ((first | apply Ba | (apply Bb; (· rfl); (· rfl)) | (apply Bc; (· exact nxE)) | (apply Bd; (· rfl); (· rfl); (· exact nxE))); (· first | exact Ok.lenD rfl rfl hl | exact Kz rfl rfl (hW) (Ad (Ad (Ad An))) | exact Kz rfl rfl (hA) (Ad An) | exact Ok.pe)) | ((first | apply Ca | (apply Cb; (· exact nxE))); (· first | exact Ok.e0)) | refine Sx ?_ | (refine Sy (fun h => ?_) (fun h => ?_) <;> try (exfalso; omega; done)) | refine Sz (fun h => ?_) (fun h => ?_))
    refine Ya ?_
    (apply Le.headZ (hs := []) [] rfl)
    all_goals (try dsimp only [srcs])
    (case' hfr => (repeat' (first | refine La ?_ ?_ | exact Lc | refine Lo ?_ | refine ⟨⟨_, rfl, ?_⟩, ?_⟩ | refine Lx ?_)))
    all_goals (first | exact Ld | exact trivial | (rfl))
/-- The greatest element. -/
def mxL (x : List Int) : Int := x.foldl max (-1000000000000000)
theorem mxL_take {x : List Int} {k : Nat} {v : Int} (h : x[k]? = some v) : mxL (x.take (k + 1)) = max (mxL (x.take k)) v := by
  obtain ⟨hk, rfl⟩ := List.getElem?_eq_some_iff.1 h
  unfold mxL
  rw [List.take_succ_eq_append_getElem hk, List.foldl_append]; rfl
theorem sumOf_ac (x : List Int) (hx : x.length ≤ 100000000) : AC Tryz.prog 191 [IL x] H0 (I (mxL x)) H0 := by
  have hl : (IR x).length = x.length := IR_len
  refine AC.of_body 0 Tryz.func191 rfl (fun l h => absurd rfl h) (fun C hC => ?_)
  have hD : ∀ l, ¬ C.D0 l := fun l h => (hC l).1 h rfl
  simp only [startFr, Tryz.ntmps191, List.length_cons, List.length_nil, Nat.reduceAdd, Nat.reduceSub, List.replicate_succ, List.replicate_zero, List.cons_append, List.nil_append]
  repeat' (first | ((first | apply Ba | (apply Bb; (· rfl); (· rfl)) | (apply Bc; (· exact nxE)) | (apply Bd; (· rfl); (· rfl); (· exact nxE))); (· first | exact Ok.lenD rfl rfl hl | exact Ok.pe)) | ((first | apply Ca | (apply Cb; (· exact nxE))); (· first | exact Ok.e0)) | refine Sx ?_ | (refine Sy (fun h => ?_) (fun h => ?_) <;> try (exfalso; omega; done)) | refine Sz (fun h => ?_) (fun h => ?_))
  refine AW.loop (X := {k : Nat // k ≤ x.length}) (fun k => ⟨[Oo, Oo, Oo, I (mxL (x.take k.1)), Oo, Oo, IL x, I x.length, I (k.1 : Nat), Oo, Oo, Oo, Oo, Oo, Oo, Oo, Oo], heapL [], 900⟩) (fun k => x.length - k.1) ⟨0, Nat.zero_le _⟩ ?_ (fun k => ?_)
  ·
    (apply Le.headZ [] rfl)
    all_goals (try dsimp only [srcs])
    (case' hfr | hob => (repeat' (first | refine La ?_ ?_ | exact Lc | refine Lo ?_ | refine ⟨⟨_, rfl, ?_⟩, ?_⟩ | refine Lx ?_)))
    all_goals (first | (rfl) | exact Ld)
  obtain ⟨k, hk⟩ := k
  simp only
  by_cases hlt : k < x.length
  · obtain ⟨v, hv⟩ : ∃ v, x[k]? = some v := ⟨x[k], by simp⟩
    have hrow := IR_get hv
    have hm := mxL_take hv
    repeat' (first | ((first | apply Ba | (apply Bb; (· rfl); (· rfl)) | (apply Bc; (· exact nxE)) | (apply Bd; (· rfl); (· rfl); (· exact nxE))); (· first | exact Ok.pe)) | ((first | apply Ca | (apply Cb; (· exact nxE))); (· first | exact Ok.e0)) | refine Sx ?_ | (refine Sy (fun h => ?_) (fun h => ?_) <;> try (exfalso; omega; done)) | refine Sz (fun h => ?_) (fun h => ?_))
    refine ⟨⟨k + 1, by omega⟩, ?_, by simp only; omega⟩
    simp only [hm]
    (apply Le.headZ [] rfl)
    all_goals (try dsimp only [srcs])
    (case' hfr | hob => (repeat' (first | refine La ?_ ?_ | exact Lc | refine Lo ?_ | refine ⟨⟨_, rfl, ?_⟩, ?_⟩ | refine Lx ?_)))
    all_goals (first | (rfl) | exact Ld)
  · obtain rfl : k = x.length := by omega
    rw [List.take_length]
    repeat' (first | ((first | apply Ba | (apply Bb; (· rfl); (· rfl)) | (apply Bc; (· exact nxE)) | (apply Bd; (· rfl); (· rfl); (· exact nxE))); (· first | exact Ok.pe)) | ((first | apply Ca | (apply Cb; (· exact nxE))); (· first | exact Ok.e0)) | refine Sx ?_ | (refine Sy (fun h => ?_) (fun h => ?_) <;> try (exfalso; omega; done)) | refine Sz (fun h => ?_) (fun h => ?_))
    refine Ya ?_
    (apply Le.headZ (hs := []) [] rfl)
    all_goals (try dsimp only [srcs])
    (case' hfr => (repeat' (first | refine La ?_ ?_ | exact Lc | refine Lo ?_ | refine ⟨⟨_, rfl, ?_⟩, ?_⟩ | refine Lx ?_)))
    all_goals (first | exact Ld | exact trivial | (rfl))
def someB (x : List Int) : Bool := x.any fun a => !decide (a = -1000000000000000)
theorem mxL_some {x : List Int} (h : x.all isVal = true) : decide (mxL x ≠ -1000000000000000) = someB x := by
  have key : ∀ (x : List Int) (m : Int), (∀ a ∈ x, a = -1000000000000000 ∨ -1000000 ≤ a) → -1000000000000000 ≤ m → -1000000000000000 ≤ x.foldl max m ∧ (x.foldl max m = -1000000000000000 ↔ m = -1000000000000000 ∧ ∀ a ∈ x, a = -1000000000000000) := by
    intro x
    induction x with
    | nil => intro m _ hm; exact ⟨hm, by simp⟩
    | cons a q ih =>
      intro m ha hm
      have h1 := ha a (by simp)
      obtain ⟨i1, i2⟩ := ih (max m a) (fun b hb => ha b (by simp [hb])) (by omega)
      refine ⟨i1, ?_⟩
      rw [List.foldl_cons, i2]
      simp only [List.mem_cons, forall_eq_or_imp]
      constructor
      · rintro ⟨e1, e2⟩; exact ⟨by omega, by omega, e2⟩
      · rintro ⟨e1, e2, e3⟩; exact ⟨by omega, e3⟩
  rw [List.all_eq_true] at h
  have := (key x (-1000000000000000) (fun a ha => by
    have := isVal_iff.1 (h a ha)
    unfold BOT at this
    omega) (Int.le_refl _)).2
  rw [Bool.eq_iff_iff, decide_eq_true_eq]
  unfold someB mxL
  rw [List.any_eq_true]
  constructor
  · intro hne
    apply Classical.byContradiction
    intro hno
    refine hne (this.2 ⟨rfl, fun a ha => ?_⟩)
    apply Classical.byContradiction
    intro hn
    exact hno ⟨a, ha, by simp [hn]⟩
  · rintro ⟨a, ha, hb⟩ e
    have := (this.1 e).2 a ha
    simp [this] at hb
def askB (t : List (List Int)) (r : Int × Int) (x : List Int) : Bool := isSq t && (isRtG r && (isVec x && decide ((x.length : Int) = t.length)))
def egV (x : List Int) : Nat → Int := fun j => (x[j]?).getD 0
def egY (t : List (List Int)) (q : Int) (x : List Int) : List Int := rowF t.length fun i => apA (entN (shT t t.length 0 q)) (egV x) i t.length
def egQ (t : List (List Int)) (r : Int × Int) (x : List Int) (i : Nat) : Bool := decide ((egY t r.2 x).getD i 0 = timesB (x.getD i 0) r.1)
def egL (t : List (List Int)) (r : Int × Int) (x : List Int) (i : Nat) : Bool := decide ((egY t r.2 x).getD i 0 ≤ timesB (x.getD i 0) r.1)
def eigB (t : List (List Int)) (r : Int × Int) (x : List Int) : Bool := (askB t r x && someB x) && (List.range t.length).all (egQ t r x)
def subB (t : List (List Int)) (r : Int × Int) (x : List Int) : Bool := (askB t r x && someB x) && (List.range t.length).all (egL t r x)
theorem isVec_vals {x : List Int} (h : isVec x = true) : x.all isVal = true ∧ 1 ≤ x.length ∧ x.length ≤ 10 := by
  unfold isVec at h
  rw [Bool.and_eq_true] at h
  have := wi_iff.1 h.1
  exact ⟨h.2, by omega, by omega⟩
set_option maxHeartbeats 1000000 in
theorem isEigenAsked_ac (t : List (List Int)) (r : Int × Int) (x : List Int) (hr : DrR r) (ht : t.length ≤ 100000000) (hrr : ∀ q ∈ t, q.length ≤ 100000000) (hx : x.length ≤ 100000000) : AC Tryz.prog 116 [TL t, .agg [I r.1, I r.2], IL x] H0 (Bo (askB t r x && someB x)) H0 := by
  have hQ := iIsSquare_ac t ht hrr
  have hR := iIsRatioG_ac r (by have := hr.n; omega)
  have hV := iIsVector_ac x hx
  have hSu := sumOf_ac x hx
  have htl : (mRows 1 (TR t)).length = t.length := mTR_len
  have hxl : (IR x).length = x.length := IR_len
  have hms := mxL_some (x := x)
  obtain ⟨p, q⟩ := r
  simp only at hR
  unfold askB
  cases hs : isSq t
  · rw [hs] at hQ
    simp only [Bool.false_and]
    refine AC.of_body 0 Tryz.func116 rfl (fun l h => absurd rfl h) (fun C hC => ?_)
    have hD : ∀ l, ¬ C.D0 l := fun l h => (hC l).1 h rfl
    simp only [startFr, Tryz.ntmps116, List.length_cons, List.length_nil, Nat.reduceAdd, Nat.reduceSub, List.replicate_succ, List.replicate_zero, List.cons_append, List.nil_append]
    repeat' (first | ((first | apply Ba | (apply Bb; (· rfl); (· rfl)) | (apply Bc; (· exact nxE)) | (apply Bd; (· rfl); (· rfl); (· exact nxE))); (· first | exact Kz rfl rfl (hQ) (Ad An) | exact Kz rfl rfl (hR) (Aa (Ad (Ad An)) An) | exact Ok.pe)) | ((first | apply Ca | (apply Cb; (· exact nxE))); (· first | exact Ok.e0)) | refine Sx ?_ | (refine Sy (fun h => ?_) (fun h => ?_) <;> try (exfalso; omega; done)) | refine Sz (fun h => ?_) (fun h => ?_))
    refine Ya ?_
    (apply Le.headZ (hs := []) [] rfl)
    all_goals (try dsimp only [srcs])
    (case' hfr => (repeat' (first | refine La ?_ ?_ | exact Lc | refine Lo ?_ | refine ⟨⟨_, rfl, ?_⟩, ?_⟩ | refine Lx ?_)))
    all_goals (first | exact Ld | exact trivial | (rfl))
  rw [hs] at hQ
  cases hg : isRtG (p, q)
  · rw [hg] at hR
    simp only [Bool.false_and, Bool.and_false]
    refine AC.of_body 0 Tryz.func116 rfl (fun l h => absurd rfl h) (fun C hC => ?_)
    have hD : ∀ l, ¬ C.D0 l := fun l h => (hC l).1 h rfl
    simp only [startFr, Tryz.ntmps116, List.length_cons, List.length_nil, Nat.reduceAdd, Nat.reduceSub, List.replicate_succ, List.replicate_zero, List.cons_append, List.nil_append]
    repeat' (first | ((first | apply Ba | (apply Bb; (· rfl); (· rfl)) | (apply Bc; (· exact nxE)) | (apply Bd; (· rfl); (· rfl); (· exact nxE))); (· first | exact Kz rfl rfl (hQ) (Ad An) | exact Kz rfl rfl (hR) (Aa (Ad (Ad An)) An) | exact Ok.pe)) | ((first | apply Ca | (apply Cb; (· exact nxE))); (· first | exact Ok.e0)) | refine Sx ?_ | (refine Sy (fun h => ?_) (fun h => ?_) <;> try (exfalso; omega; done)) | refine Sz (fun h => ?_) (fun h => ?_))
    refine Ya ?_
    (apply Le.headZ (hs := []) [] rfl)
    all_goals (try dsimp only [srcs])
    (case' hfr => (repeat' (first | refine La ?_ ?_ | exact Lc | refine Lo ?_ | refine ⟨⟨_, rfl, ?_⟩, ?_⟩ | refine Lx ?_)))
    all_goals (first | exact Ld | exact trivial | (rfl))
  rw [hg] at hR
  cases hv : isVec x
  · rw [hv] at hV
    simp only [Bool.false_and, Bool.and_false]
    refine AC.of_body 0 Tryz.func116 rfl (fun l h => absurd rfl h) (fun C hC => ?_)
    have hD : ∀ l, ¬ C.D0 l := fun l h => (hC l).1 h rfl
    simp only [startFr, Tryz.ntmps116, List.length_cons, List.length_nil, Nat.reduceAdd, Nat.reduceSub, List.replicate_succ, List.replicate_zero, List.cons_append, List.nil_append]
    repeat' (first | ((first | apply Ba | (apply Bb; (· rfl); (· rfl)) | (apply Bc; (· exact nxE)) | (apply Bd; (· rfl); (· rfl); (· exact nxE))); (· first | exact Kz rfl rfl (hQ) (Ad An) | exact Kz rfl rfl (hR) (Aa (Ad (Ad An)) An) | exact Kz rfl rfl (hV) (Ad An) | exact Ok.pe)) | ((first | apply Ca | (apply Cb; (· exact nxE))); (· first | exact Ok.e0)) | refine Sx ?_ | (refine Sy (fun h => ?_) (fun h => ?_) <;> try (exfalso; omega; done)) | refine Sz (fun h => ?_) (fun h => ?_))
    refine Ya ?_
    (apply Le.headZ (hs := []) [] rfl)
    all_goals (try dsimp only [srcs])
    (case' hfr => (repeat' (first | refine La ?_ ?_ | exact Lc | refine Lo ?_ | refine ⟨⟨_, rfl, ?_⟩, ?_⟩ | refine Lx ?_)))
    all_goals (first | exact Ld | exact trivial | (rfl))
  rw [hv] at hV
  simp only [Bool.true_and]
  have hms := hms (isVec_vals hv).1
  by_cases hle : (x.length : Int) = t.length
  · rw [decide_eq_true hle, Bool.true_and, ← hms]
    generalize mxL x = m at *
    refine AC.of_body 0 Tryz.func116 rfl (fun l h => absurd rfl h) (fun C hC => ?_)
    have hD : ∀ l, ¬ C.D0 l := fun l h => (hC l).1 h rfl
    simp only [startFr, Tryz.ntmps116, List.length_cons, List.length_nil, Nat.reduceAdd, Nat.reduceSub, List.replicate_succ, List.replicate_zero, List.cons_append, List.nil_append]
    repeat' (first | ((first | apply Ba | (apply Bb; (· rfl); (· rfl)) | (apply Bc; (· exact nxE)) | (apply Bd; (· rfl); (· rfl); (· exact nxE))); (· first | exact Kz rfl rfl (hQ) (Ad An) | exact Kz rfl rfl (hR) (Aa (Ad (Ad An)) An) | exact Kz rfl rfl (hV) (Ad An) | exact Ok.lenD rfl rfl hxl | exact Ok.lenD rfl rfl htl | exact Kz rfl rfl (hSu) (Ad An) | exact Ok.pe)) | ((first | apply Ca | (apply Cb; (· exact nxE))); (· first | exact Ok.e0)) | refine Sx ?_ | (refine Sy (fun h => ?_) (fun h => ?_) <;> try (exfalso; omega; done)) | refine Sz (fun h => ?_) (fun h => ?_))
    refine Ya ?_
    (apply Le.headZ (hs := []) [] rfl)
    all_goals (try dsimp only [srcs])
    (case' hfr => (repeat' (first | refine La ?_ ?_ | exact Lc | refine Lo ?_ | refine ⟨⟨_, rfl, ?_⟩, ?_⟩ | refine Lx ?_)))
    all_goals (first | exact Ld | exact trivial | (rfl))
  · rw [decide_eq_false hle, Bool.false_and]
    refine AC.of_body 0 Tryz.func116 rfl (fun l h => absurd rfl h) (fun C hC => ?_)
    have hD : ∀ l, ¬ C.D0 l := fun l h => (hC l).1 h rfl
    simp only [startFr, Tryz.ntmps116, List.length_cons, List.length_nil, Nat.reduceAdd, Nat.reduceSub, List.replicate_succ, List.replicate_zero, List.cons_append, List.nil_append]
    repeat' (first | ((first | apply Ba | (apply Bb; (· rfl); (· rfl)) | (apply Bc; (· exact nxE)) | (apply Bd; (· rfl); (· rfl); (· exact nxE))); (· first | exact Kz rfl rfl (hQ) (Ad An) | exact Kz rfl rfl (hR) (Aa (Ad (Ad An)) An) | exact Kz rfl rfl (hV) (Ad An) | exact Ok.lenD rfl rfl hxl | exact Ok.lenD rfl rfl htl | exact Ok.pe)) | ((first | apply Ca | (apply Cb; (· exact nxE))); (· first | exact Ok.e0)) | refine Sx ?_ | (refine Sy (fun h => ?_) (fun h => ?_) <;> try (exfalso; omega; done)) | refine Sz (fun h => ?_) (fun h => ?_))
    refine Ya ?_
    (apply Le.headZ (hs := []) [] rfl)
    all_goals (try dsimp only [srcs])
    (case' hfr => (repeat' (first | refine La ?_ ?_ | exact Lc | refine Lo ?_ | refine ⟨⟨_, rfl, ?_⟩, ?_⟩ | refine Lx ?_)))
    all_goals (first | exact Ld | exact trivial | (rfl))
theorem askB_ok {t : List (List Int)} {r : Int × Int} {x : List Int} (hr : DrR r) (h : askB t r x = true) : MatOk t t.length ∧ isSq t = true ∧ isRtG r = true ∧ (0 < r.2 ∧ r.2 ≤ 10) ∧ (-1000000 ≤ r.1 ∧ r.1 ≤ 1000000) ∧ x.length = t.length ∧ isVec x = true ∧ ∀ j, j < t.length → x.getD j 0 = BOT ∨ (-1000000 ≤ x.getD j 0 ∧ x.getD j 0 ≤ 1000000) := by
  unfold askB at h
  rw [Bool.and_eq_true, Bool.and_eq_true, Bool.and_eq_true, decide_eq_true_eq] at h
  obtain ⟨h1, h2, h3, h4⟩ := h
  obtain ⟨hz, hi⟩ := isRtG_ok h2
  have h5 := hr.s h2
  have h6 := wi_iff.1 hi
  have h7 := hz.d
  have hl : x.length = t.length := by omega
  refine ⟨isSq_ok h1, h1, h2, by omega, h6, hl, h3, fun j hj => ?_⟩
  have hv := (isVec_vals h3).1
  rw [List.all_eq_true] at hv
  refine isVal_iff.1 (hv _ ?_)
  rw [List.getD_eq_getElem?_getD, List.getElem?_eq_getElem (by omega)]
  exact List.getElem_mem _
theorem eg_apOk {t : List (List Int)} {n : Nat} {q : Int} {x : List Int} (hM : MatOk t n) (hq : 0 < q ∧ q ≤ 10) (hx : ∀ j, j < n → x.getD j 0 = BOT ∨ (-1000000 ≤ x.getD j 0 ∧ x.getD j 0 ≤ 1000000)) : ApOk (entN (shT t n 0 q)) (egV x) n n := by
  refine ⟨fun i j hi hj => ?_, fun j hj => ?_⟩
  · rw [shT_ent hi hj]
    rcases sh_cell hM (p := 0) (q := q) (by omega) hq i j with e | e
    · exact .inl e
    · exact .inr (by omega)
  · have e : egV x j = x.getD j 0 := by unfold egV; rw [List.getD_eq_getElem?_getD]
    rw [e]
    rcases hx j hj with e | e
    · exact .inl e
    · exact .inr (by omega)
theorem egY_len {t : List (List Int)} {q : Int} {x : List Int} : (egY t q x).length = t.length := rowF_len
set_option maxHeartbeats 2000000 in
theorem iIsEigenVector_ac (t : List (List Int)) (r : Int × Int) (x : List Int) (hr : DrR r) (ht : t.length ≤ 100000000) (hrr : ∀ q ∈ t, q.length ≤ 100000000) (hx : x.length ≤ 100000000) : AC Tryz.prog 40 [TL t, .agg [I r.1, I r.2], IL x] H0 (Bo (eigB t r x)) H0 := by
  have hE := isEigenAsked_ac t r x hr ht hrr hx
  have hok := askB_ok (t := t) (x := x) hr
  unfold eigB
  cases hb : (askB t r x && someB x)
  · rw [hb] at hE
    rw [Bool.false_and]
    refine AC.of_body 0 Tryz.func40 rfl (fun l h => absurd rfl h) (fun C hC => ?_)
    have hD : ∀ l, ¬ C.D0 l := fun l h => (hC l).1 h rfl
    simp only [startFr, Tryz.ntmps40, List.length_cons, List.length_nil, Nat.reduceAdd, Nat.reduceSub, List.replicate_succ, List.replicate_zero, List.cons_append, List.nil_append]
    repeat' (first | ((first | apply Ba | (apply Bb; (· rfl); (· rfl)) | (apply Bc; (· exact nxE)) | (apply Bd; (· rfl); (· rfl); (· exact nxE))); (· first | exact Kz rfl rfl (hE) (Ad (Aa (Ad (Ad An)) (Ad An))) | exact Ok.pe)) | ((first | apply Ca | (apply Cb; (· exact nxE))); (· first | exact Ok.e0)) | refine Sx ?_ | (refine Sy (fun h => ?_) (fun h => ?_) <;> try (exfalso; omega; done)) | refine Sz (fun h => ?_) (fun h => ?_))
    refine Ya ?_
    (apply Le.headZ (hs := []) [] rfl)
    all_goals (try dsimp only [srcs])
    (case' hfr => (repeat' (first | refine La ?_ ?_ | exact Lc | refine Lo ?_ | refine ⟨⟨_, rfl, ?_⟩, ?_⟩ | refine Lx ?_)))
    all_goals (first | exact Ld | exact trivial | (rfl))
  rw [hb] at hE
  rw [Bool.true_and]
  rw [Bool.and_eq_true] at hb
  obtain ⟨hM, hs, hg, hq, hp, hxl, hv, hxb⟩ := hok hb.1
  have hle := hM.le
  have hSt := (stretched_ac t t.length hM r.2 (by omega)).frzT (by rw [TR_len]; exact shT_sq.l)
  have hT := timesVector_ac (shT t t.length 0 r.2) t.length t.length (egV x) ⟨shT_sq.l, shT_sq.r⟩ (by omega) (by omega) (eg_apOk hM hq hxb)
  rw [show rowF t.length (egV x) = x from rowF_self hxl] at hT
  have hT : AC Tryz.prog 117 [TL (shT t t.length 0 r.2), IL x] H0 (own1 1 t.length) (hp1 (IO (egY t r.2 x))) := hT
  have hT2 : AC Tryz.prog 117 [TL (shT t t.length 0 r.2), IL x] H0 (IL (egY t r.2 x)) H0 := hT.frz (AR.whole (l := ⟨0, []⟩) rfl trivial (by rw [IR_len, egY_len]))
  have hyl := egY_len (t := t) (q := r.2) (x := x)
  have hyr : (IR (egY t r.2 x)).length = t.length := by rw [IR_len, hyl]
  have hQd : ∀ i, egQ t r x i = decide ((egY t r.2 x).getD i 0 = timesB (x.getD i 0) r.1) := fun _ => rfl
  clear hT
  obtain ⟨p, q⟩ := r
  simp only at *
  generalize egY t q x = y at *
  generalize shT t t.length 0 q = s at *
  generalize egQ t (p, q) x = f at *
  refine AC.of_body 0 Tryz.func40 rfl (fun l h => absurd rfl h) (fun C hC => ?_)
  have hD : ∀ l, ¬ C.D0 l := fun l h => (hC l).1 h rfl
  simp only [startFr, Tryz.ntmps40, List.length_cons, List.length_nil, Nat.reduceAdd, Nat.reduceSub, List.replicate_succ, List.replicate_zero, List.cons_append, List.nil_append]
  repeat' (first | ((first | apply Ba | (apply Bb; (· rfl); (· rfl)) | (apply Bc; (· exact nxE)) | (apply Bd; (· rfl); (· rfl); (· exact nxE))); (· first | exact Kz rfl rfl (hE) (Ad (Aa (Ad (Ad An)) (Ad An))) | exact Kz rfl rfl (hSt) (Ad (Ad An)) | exact Kz rfl rfl (hT2) (Ad (Ad An)) | exact Ok.lenD rfl rfl hyr | exact Ok.pe)) | ((first | apply Ca | (apply Cb; (· exact nxE))); (· first | exact Ok.e0)) | refine Sx ?_ | (refine Sy (fun h => ?_) (fun h => ?_) <;> try (exfalso; omega; done)) | refine Sz (fun h => ?_) (fun h => ?_))
  refine AW.loop (X := {k : Nat // k ≤ t.length ∧ (List.range t.length).all f = ((List.range t.length).drop k).all f}) (fun k => ⟨[Oo, Oo, IL x, Oo, Bx 2 0, Oo, Oo, Oo, Oo, Oo, Oo, Oo, Oo, Oo, Oo, Oo, Oo, Oo, Oo, IL y, I t.length, I (k.1 : Nat), Oo, Oo, Oo, Oo, Oo, Oo, Oo, Oo, Oo, Oo, Oo, Oo, Oo, Oo], heapL [(⟨0, []⟩, ⟨0, []⟩, ⟨2, [[I p, I q]]⟩)], 900⟩) (fun k => t.length - k.1) ⟨0, Nat.zero_le _, rfl⟩ ?_ (fun k => ?_)
  ·
    (apply Le.headZ [_] rfl)
    all_goals (try dsimp only [srcs])
    (case' hfr | hob => (repeat' (first | refine La ?_ ?_ | exact Lc | refine Lo ?_ | refine ⟨⟨_, rfl, ?_⟩, ?_⟩ | refine Lx ?_)))
    all_goals (first | (rfl) | exact Ld)
  obtain ⟨i, hi, hall⟩ := k
  simp only
  by_cases hlt : i < t.length
  case neg =>
    obtain rfl : i = t.length := by omega
    rw [hall, List.drop_of_length_le (by simp)]
    repeat' (first | ((first | apply Ba | (apply Bb; (· rfl); (· rfl)) | (apply Bc; (· exact nxE)) | (apply Bd; (· rfl); (· rfl); (· exact nxE))); (· first | exact Ok.pe)) | ((first | apply Ca | (apply Cb; (· exact nxE))); (· first | exact Ok.e0)) | refine Sx ?_ | (refine Sy (fun h => ?_) (fun h => ?_) <;> try (exfalso; omega; done)) | refine Sz (fun h => ?_) (fun h => ?_))
    refine Ya ?_
    (apply Le.headZ (hs := []) [] rfl)
    all_goals (try dsimp only [srcs])
    (case' hfr => (repeat' (first | refine La ?_ ?_ | exact Lc | refine Lo ?_ | refine ⟨⟨_, rfl, ?_⟩, ?_⟩ | refine Lx ?_)))
    all_goals (first | exact Ld | exact trivial | (rfl))
  have hxi := getD_cell hxl hlt
  have hyi := getD_cell hyl hlt
  have hno := fun h => all_no (f := f) (range_at hlt) h
  have hst := fun h => all_step (f := f) (range_at hlt) hall h
  have hTm := times_ac (x.getD i 0) p (fun h1 _ => by have := (hxb i hlt).resolve_left h1; omega)
  rw [hQd i] at hno hst
  by_cases hok : y.getD i 0 = timesB (x.getD i 0) p
  · have hst := hst (decide_eq_true hok)
    rw [← hok] at hTm
    repeat' (first | ((first | apply Ba | (apply Bb; (· rfl); (· rfl)) | (apply Bc; (· exact nxE)) | (apply Bd; (· rfl); (· rfl); (· exact nxE))); (· first | exact Kz rfl rfl (hTm) (Ad (Ad An)) | exact Ok.pe)) | ((first | apply Ca | (apply Cb; (· exact nxE))); (· first | exact Ok.e0)) | refine Sx ?_ | (refine Sy (fun h => ?_) (fun h => ?_) <;> try (exfalso; omega; done)) | refine Sz (fun h => ?_) (fun h => ?_))
    refine ⟨⟨i + 1, by omega, hst⟩, ?_, by simp only; omega⟩
    (apply Le.headZ [_] rfl)
    all_goals (try dsimp only [srcs])
    (case' hfr | hob => (repeat' (first | refine La ?_ ?_ | exact Lc | refine Lo ?_ | refine ⟨⟨_, rfl, ?_⟩, ?_⟩ | refine Lx ?_)))
    all_goals (first | (rfl) | exact Ld)
  · rw [hno (decide_eq_false hok)]
    repeat' (first | ((first | apply Ba | (apply Bb; (· rfl); (· rfl)) | (apply Bc; (· exact nxE)) | (apply Bd; (· rfl); (· rfl); (· exact nxE))); (· first | exact Kz rfl rfl (hTm) (Ad (Ad An)) | exact Ok.pe)) | ((first | apply Ca | (apply Cb; (· exact nxE))); (· first | exact Ok.e0)) | refine Sx ?_ | (refine Sy (fun h => ?_) (fun h => ?_) <;> try (exfalso; omega; done)) | refine Sz (fun h => ?_) (fun h => ?_))
    refine Ya ?_
    (apply Le.headZ (hs := []) [] rfl)
    all_goals (try dsimp only [srcs])
    (case' hfr => (repeat' (first | refine La ?_ ?_ | exact Lc | refine Lo ?_ | refine ⟨⟨_, rfl, ?_⟩, ?_⟩ | refine Lx ?_)))
    all_goals (first | exact Ld | exact trivial | (rfl))
set_option maxHeartbeats 2000000 in
theorem iIsSubEigen_ac (t : List (List Int)) (r : Int × Int) (x : List Int) (hr : DrR r) (ht : t.length ≤ 100000000) (hrr : ∀ q ∈ t, q.length ≤ 100000000) (hx : x.length ≤ 100000000) : AC Tryz.prog 42 [TL t, .agg [I r.1, I r.2], IL x] H0 (Bo (subB t r x)) H0 := by
  have hE := isEigenAsked_ac t r x hr ht hrr hx
  have hok := askB_ok (t := t) (x := x) hr
  unfold subB
  cases hb : (askB t r x && someB x)
  · rw [hb] at hE
    rw [Bool.false_and]
    refine AC.of_body 0 Tryz.func42 rfl (fun l h => absurd rfl h) (fun C hC => ?_)
    have hD : ∀ l, ¬ C.D0 l := fun l h => (hC l).1 h rfl
    simp only [startFr, Tryz.ntmps42, List.length_cons, List.length_nil, Nat.reduceAdd, Nat.reduceSub, List.replicate_succ, List.replicate_zero, List.cons_append, List.nil_append]
    repeat' (first | ((first | apply Ba | (apply Bb; (· rfl); (· rfl)) | (apply Bc; (· exact nxE)) | (apply Bd; (· rfl); (· rfl); (· exact nxE))); (· first | exact Kz rfl rfl (hE) (Ad (Aa (Ad (Ad An)) (Ad An))) | exact Ok.pe)) | ((first | apply Ca | (apply Cb; (· exact nxE))); (· first | exact Ok.e0)) | refine Sx ?_ | (refine Sy (fun h => ?_) (fun h => ?_) <;> try (exfalso; omega; done)) | refine Sz (fun h => ?_) (fun h => ?_))
    refine Ya ?_
    (apply Le.headZ (hs := []) [] rfl)
    all_goals (try dsimp only [srcs])
    (case' hfr => (repeat' (first | refine La ?_ ?_ | exact Lc | refine Lo ?_ | refine ⟨⟨_, rfl, ?_⟩, ?_⟩ | refine Lx ?_)))
    all_goals (first | exact Ld | exact trivial | (rfl))
  rw [hb] at hE
  rw [Bool.true_and]
  rw [Bool.and_eq_true] at hb
  obtain ⟨hM, hs, hg, hq, hp, hxl, hv, hxb⟩ := hok hb.1
  have hle := hM.le
  have hSt := (stretched_ac t t.length hM r.2 (by omega)).frzT (by rw [TR_len]; exact shT_sq.l)
  have hT := timesVector_ac (shT t t.length 0 r.2) t.length t.length (egV x) ⟨shT_sq.l, shT_sq.r⟩ (by omega) (by omega) (eg_apOk hM hq hxb)
  rw [show rowF t.length (egV x) = x from rowF_self hxl] at hT
  have hT : AC Tryz.prog 117 [TL (shT t t.length 0 r.2), IL x] H0 (own1 1 t.length) (hp1 (IO (egY t r.2 x))) := hT
  have hT2 : AC Tryz.prog 117 [TL (shT t t.length 0 r.2), IL x] H0 (IL (egY t r.2 x)) H0 := hT.frz (AR.whole (l := ⟨0, []⟩) rfl trivial (by rw [IR_len, egY_len]))
  have hyl := egY_len (t := t) (q := r.2) (x := x)
  have hyr : (IR (egY t r.2 x)).length = t.length := by rw [IR_len, hyl]
  have hQd : ∀ i, egL t r x i = decide ((egY t r.2 x).getD i 0 ≤ timesB (x.getD i 0) r.1) := fun _ => rfl
  clear hT
  obtain ⟨p, q⟩ := r
  simp only at *
  generalize egY t q x = y at *
  generalize shT t t.length 0 q = s at *
  generalize egL t (p, q) x = f at *
  refine AC.of_body 0 Tryz.func42 rfl (fun l h => absurd rfl h) (fun C hC => ?_)
  have hD : ∀ l, ¬ C.D0 l := fun l h => (hC l).1 h rfl
  simp only [startFr, Tryz.ntmps42, List.length_cons, List.length_nil, Nat.reduceAdd, Nat.reduceSub, List.replicate_succ, List.replicate_zero, List.cons_append, List.nil_append]
  repeat' (first | ((first | apply Ba | (apply Bb; (· rfl); (· rfl)) | (apply Bc; (· exact nxE)) | (apply Bd; (· rfl); (· rfl); (· exact nxE))); (· first | exact Kz rfl rfl (hE) (Ad (Aa (Ad (Ad An)) (Ad An))) | exact Kz rfl rfl (hSt) (Ad (Ad An)) | exact Kz rfl rfl (hT2) (Ad (Ad An)) | exact Ok.lenD rfl rfl hyr | exact Ok.pe)) | ((first | apply Ca | (apply Cb; (· exact nxE))); (· first | exact Ok.e0)) | refine Sx ?_ | (refine Sy (fun h => ?_) (fun h => ?_) <;> try (exfalso; omega; done)) | refine Sz (fun h => ?_) (fun h => ?_))
  refine AW.loop (X := {k : Nat // k ≤ t.length ∧ (List.range t.length).all f = ((List.range t.length).drop k).all f}) (fun k => ⟨[Oo, Oo, IL x, Oo, Bx 2 0, Oo, Oo, Oo, Oo, Oo, Oo, Oo, Oo, Oo, Oo, Oo, Oo, Oo, Oo, IL y, I t.length, I (k.1 : Nat), Oo, Oo, Oo, Oo, Oo, Oo, Oo, Oo, Oo, Oo, Oo, Oo, Oo, Oo], heapL [(⟨0, []⟩, ⟨0, []⟩, ⟨2, [[I p, I q]]⟩)], 900⟩) (fun k => t.length - k.1) ⟨0, Nat.zero_le _, rfl⟩ ?_ (fun k => ?_)
  ·
    (apply Le.headZ [_] rfl)
    all_goals (try dsimp only [srcs])
    (case' hfr | hob => (repeat' (first | refine La ?_ ?_ | exact Lc | refine Lo ?_ | refine ⟨⟨_, rfl, ?_⟩, ?_⟩ | refine Lx ?_)))
    all_goals (first | (rfl) | exact Ld)
  obtain ⟨i, hi, hall⟩ := k
  simp only
  by_cases hlt : i < t.length
  case neg =>
    obtain rfl : i = t.length := by omega
    rw [hall, List.drop_of_length_le (by simp)]
    repeat' (first | ((first | apply Ba | (apply Bb; (· rfl); (· rfl)) | (apply Bc; (· exact nxE)) | (apply Bd; (· rfl); (· rfl); (· exact nxE))); (· first | exact Ok.pe)) | ((first | apply Ca | (apply Cb; (· exact nxE))); (· first | exact Ok.e0)) | refine Sx ?_ | (refine Sy (fun h => ?_) (fun h => ?_) <;> try (exfalso; omega; done)) | refine Sz (fun h => ?_) (fun h => ?_))
    refine Ya ?_
    (apply Le.headZ (hs := []) [] rfl)
    all_goals (try dsimp only [srcs])
    (case' hfr => (repeat' (first | refine La ?_ ?_ | exact Lc | refine Lo ?_ | refine ⟨⟨_, rfl, ?_⟩, ?_⟩ | refine Lx ?_)))
    all_goals (first | exact Ld | exact trivial | (rfl))
  have hxi := getD_cell hxl hlt
  have hyi := getD_cell hyl hlt
  have hno := fun h => all_no (f := f) (range_at hlt) h
  have hst := fun h => all_step (f := f) (range_at hlt) hall h
  have hTm := times_ac (x.getD i 0) p (fun h1 _ => by have := (hxb i hlt).resolve_left h1; omega)
  rw [hQd i] at hno hst
  by_cases hok : y.getD i 0 ≤ timesB (x.getD i 0) p
  · have hst := hst (decide_eq_true hok)
    repeat' (first | ((first | apply Ba | (apply Bb; (· rfl); (· rfl)) | (apply Bc; (· exact nxE)) | (apply Bd; (· rfl); (· rfl); (· exact nxE))); (· first | exact Kz rfl rfl (hTm) (Ad (Ad An)) | exact Ok.pe)) | ((first | apply Ca | (apply Cb; (· exact nxE))); (· first | exact Ok.e0)) | refine Sx ?_ | (refine Sy (fun h => ?_) (fun h => ?_) <;> try (exfalso; omega; done)) | refine Sz (fun h => ?_) (fun h => ?_))
    refine ⟨⟨i + 1, by omega, hst⟩, ?_, by simp only; omega⟩
    (apply Le.headZ [_] rfl)
    all_goals (try dsimp only [srcs])
    (case' hfr | hob => (repeat' (first | refine La ?_ ?_ | exact Lc | refine Lo ?_ | refine ⟨⟨_, rfl, ?_⟩, ?_⟩ | refine Lx ?_)))
    all_goals (first | (rfl) | exact Ld)
  · rw [hno (decide_eq_false hok)]
    repeat' (first | ((first | apply Ba | (apply Bb; (· rfl); (· rfl)) | (apply Bc; (· exact nxE)) | (apply Bd; (· rfl); (· rfl); (· exact nxE))); (· first | exact Kz rfl rfl (hTm) (Ad (Ad An)) | exact Ok.pe)) | ((first | apply Ca | (apply Cb; (· exact nxE))); (· first | exact Ok.e0)) | refine Sx ?_ | (refine Sy (fun h => ?_) (fun h => ?_) <;> try (exfalso; omega; done)) | refine Sz (fun h => ?_) (fun h => ?_))
    refine Ya ?_
    (apply Le.headZ (hs := []) [] rfl)
    all_goals (try dsimp only [srcs])
    (case' hfr => (repeat' (first | refine La ?_ ?_ | exact Lc | refine Lo ?_ | refine ⟨⟨_, rfl, ?_⟩, ?_⟩ | refine Lx ?_)))
    all_goals (first | exact Ld | exact trivial | (rfl))
end Go.Proofs.YtpgcmpbamlnkkaaGreat
end

section
namespace Go.Proofs.YtpgcmpbamlnkkaaGreat
set_option linter.unusedSimpArgs false
set_option linter.unusedVariables false
open Go Go.RowKit
attribute [local irreducible] AL AD AW OpOk Le AC thenQ blockQ EndQ

theorem timesB_comm {a b : Int} : timesB a b = timesB b a := by
  unfold timesB
  by_cases h : a = BOT ∨ b = BOT
  · rw [if_pos h, if_pos (Or.symm h)]
  · rw [if_neg h, if_neg (fun h' => h (Or.symm h'))]; omega
def outF (f : Nat → Bool) (n k : Nat) : Int := if ((List.range n).take k).all f = true then 0 else -1
def somF (x : List Int) (k : Nat) : Bool := (x.take k).any fun a => !decide (a = -1000000000000000)
theorem outF_step {f : Nat → Bool} {n k : Nat} (h : k < n) : outF f n (k + 1) = if f k = true then outF f n k else -1 := by
  unfold outF
  rw [show (List.range n).take (k + 1) = (List.range n).take k ++ [k] by rw [List.take_succ_eq_append_getElem (by simpa using h)]; simp]
  rw [List.all_append]
  cases hfk : f k <;> simp [hfk]
theorem somF_step {x : List Int} {k : Nat} {v : Int} (h : x[k]? = some v) : somF x (k + 1) = (somF x k || !decide (v = -1000000000000000)) := by
  obtain ⟨hk, rfl⟩ := List.getElem?_eq_some_iff.1 h
  unfold somF
  rw [List.take_succ_eq_append_getElem hk, List.any_append]
  simp
def cpI (t : List (List Int)) (r : Int × Int) (x : List Int) : Int := if (askB t r x && (List.range t.length).all (egL t r x)) = true then (if someB x = true then outF (egQ t r x) t.length t.length else 1) else 1
theorem cpI_eq {t : List (List Int)} {r : Int × Int} {x : List Int} : decide (cpI t r x = 0) = eigB t r x ∧ decide (cpI t r x ≤ 0) = subB t r x := by
  unfold cpI eigB subB outF
  rw [List.take_of_length_le (by simp)]
  have hle : (List.range t.length).all (egQ t r x) = true → (List.range t.length).all (egL t r x) = true := fun h => by
    rw [List.all_eq_true] at h ⊢
    intro i hi
    have := h i hi
    unfold egQ at this
    unfold egL
    rw [decide_eq_true_eq] at this ⊢
    omega
  cases ha : askB t r x <;> cases hs : someB x <;> cases hL : (List.range t.length).all (egL t r x) <;> cases hQ : (List.range t.length).all (egQ t r x) <;> simp
  all_goals
    rw [hQ, hL] at hle
    simp at hle
set_option maxHeartbeats 4000000 in
theorem l05Compare_ac (t : List (List Int)) (r : Int × Int) (x : List Int) (hr : DrR r) (ht : t.length ≤ 100000000) (hrr : ∀ q ∈ t, q.length ≤ 100000000) (hx : x.length ≤ 100000000) : AC Tryz.prog 119 [TL t, .agg [I r.1, I r.2], IL x] H0 (I (cpI t r x)) H0 := by
  have hQ := l02Square_ac t ht hrr
  have hR := sIsRatioG_ac r (by have := hr.n; omega)
  have hV := l02Vector_ac x hx
  have htl : (mRows 1 (TR t)).length = t.length := mTR_len
  have hxr : (IR x).length = x.length := IR_len
  have hok := askB_ok (t := t) (x := x) hr
  have hsum : someB x = somF x x.length := by unfold someB somF; rw [List.take_length]
  cases hb : askB t r x
  · have hI : cpI t r x = 1 := by unfold cpI; rw [hb]; rfl
    rw [hI]
    unfold askB at hb
    obtain ⟨p, q⟩ := r
    simp only at hR
    cases hs : isSq t
    · rw [hs] at hQ
      refine AC.of_body 0 Tryz.func119 rfl (fun l h => absurd rfl h) (fun C hC => ?_)
      have hD : ∀ l, ¬ C.D0 l := fun l h => (hC l).1 h rfl
      simp only [startFr, Tryz.ntmps119, List.length_cons, List.length_nil, Nat.reduceAdd, Nat.reduceSub, List.replicate_succ, List.replicate_zero, List.cons_append, List.nil_append]
      repeat' (first | ((first | apply Ba | (apply Bb; (· rfl); (· rfl)) | (apply Bc; (· exact nxE)) | (apply Bd; (· rfl); (· rfl); (· exact nxE))); (· first | exact Kz rfl rfl (hQ) (Ad An) | exact Kz rfl rfl (hR) (Aa (Ad (Ad An)) An) | exact Ok.pe)) | ((first | apply Ca | (apply Cb; (· exact nxE))); (· first | exact Ok.e0)) | refine Sx ?_ | (refine Sy (fun h => ?_) (fun h => ?_) <;> try (exfalso; omega; done)) | refine Sz (fun h => ?_) (fun h => ?_))
      refine Ya ?_
      (apply Le.headZ (hs := []) [] rfl)
      all_goals (try dsimp only [srcs])
      (case' hfr => (repeat' (first | refine La ?_ ?_ | exact Lc | refine Lo ?_ | refine ⟨⟨_, rfl, ?_⟩, ?_⟩ | refine Lx ?_)))
      all_goals (first | exact Ld | exact trivial | (rfl))
    rw [hs] at hQ hb
    cases hg : isRtG (p, q)
    · rw [hg] at hR
      refine AC.of_body 0 Tryz.func119 rfl (fun l h => absurd rfl h) (fun C hC => ?_)
      have hD : ∀ l, ¬ C.D0 l := fun l h => (hC l).1 h rfl
      simp only [startFr, Tryz.ntmps119, List.length_cons, List.length_nil, Nat.reduceAdd, Nat.reduceSub, List.replicate_succ, List.replicate_zero, List.cons_append, List.nil_append]
      repeat' (first | ((first | apply Ba | (apply Bb; (· rfl); (· rfl)) | (apply Bc; (· exact nxE)) | (apply Bd; (· rfl); (· rfl); (· exact nxE))); (· first | exact Kz rfl rfl (hQ) (Ad An) | exact Kz rfl rfl (hR) (Aa (Ad (Ad An)) An) | exact Ok.pe)) | ((first | apply Ca | (apply Cb; (· exact nxE))); (· first | exact Ok.e0)) | refine Sx ?_ | (refine Sy (fun h => ?_) (fun h => ?_) <;> try (exfalso; omega; done)) | refine Sz (fun h => ?_) (fun h => ?_))
      refine Ya ?_
      (apply Le.headZ (hs := []) [] rfl)
      all_goals (try dsimp only [srcs])
      (case' hfr => (repeat' (first | refine La ?_ ?_ | exact Lc | refine Lo ?_ | refine ⟨⟨_, rfl, ?_⟩, ?_⟩ | refine Lx ?_)))
      all_goals (first | exact Ld | exact trivial | (rfl))
    rw [hg] at hR hb
    cases hv : isVec x
    · rw [hv] at hV
      refine AC.of_body 0 Tryz.func119 rfl (fun l h => absurd rfl h) (fun C hC => ?_)
      have hD : ∀ l, ¬ C.D0 l := fun l h => (hC l).1 h rfl
      simp only [startFr, Tryz.ntmps119, List.length_cons, List.length_nil, Nat.reduceAdd, Nat.reduceSub, List.replicate_succ, List.replicate_zero, List.cons_append, List.nil_append]
      repeat' (first | ((first | apply Ba | (apply Bb; (· rfl); (· rfl)) | (apply Bc; (· exact nxE)) | (apply Bd; (· rfl); (· rfl); (· exact nxE))); (· first | exact Kz rfl rfl (hQ) (Ad An) | exact Kz rfl rfl (hR) (Aa (Ad (Ad An)) An) | exact Kz rfl rfl (hV) (Ad An) | exact Ok.pe)) | ((first | apply Ca | (apply Cb; (· exact nxE))); (· first | exact Ok.e0)) | refine Sx ?_ | (refine Sy (fun h => ?_) (fun h => ?_) <;> try (exfalso; omega; done)) | refine Sz (fun h => ?_) (fun h => ?_))
      refine Ya ?_
      (apply Le.headZ (hs := []) [] rfl)
      all_goals (try dsimp only [srcs])
      (case' hfr => (repeat' (first | refine La ?_ ?_ | exact Lc | refine Lo ?_ | refine ⟨⟨_, rfl, ?_⟩, ?_⟩ | refine Lx ?_)))
      all_goals (first | exact Ld | exact trivial | (rfl))
    rw [hv] at hV hb
    have hne : ¬ (x.length : Int) = t.length := by simpa using hb
    refine AC.of_body 0 Tryz.func119 rfl (fun l h => absurd rfl h) (fun C hC => ?_)
    have hD : ∀ l, ¬ C.D0 l := fun l h => (hC l).1 h rfl
    simp only [startFr, Tryz.ntmps119, List.length_cons, List.length_nil, Nat.reduceAdd, Nat.reduceSub, List.replicate_succ, List.replicate_zero, List.cons_append, List.nil_append]
    repeat' (first | ((first | apply Ba | (apply Bb; (· rfl); (· rfl)) | (apply Bc; (· exact nxE)) | (apply Bd; (· rfl); (· rfl); (· exact nxE))); (· first | exact Kz rfl rfl (hQ) (Ad An) | exact Kz rfl rfl (hR) (Aa (Ad (Ad An)) An) | exact Kz rfl rfl (hV) (Ad An) | exact Ok.lenD rfl rfl hxr | exact Ok.lenD rfl rfl htl | exact Ok.pe)) | ((first | apply Ca | (apply Cb; (· exact nxE))); (· first | exact Ok.e0)) | refine Sx ?_ | (refine Sy (fun h => ?_) (fun h => ?_) <;> try (exfalso; omega; done)) | refine Sz (fun h => ?_) (fun h => ?_))
    refine Ya ?_
    (apply Le.headZ (hs := []) [] rfl)
    all_goals (try dsimp only [srcs])
    (case' hfr => (repeat' (first | refine La ?_ ?_ | exact Lc | refine Lo ?_ | refine ⟨⟨_, rfl, ?_⟩, ?_⟩ | refine Lx ?_)))
    all_goals (first | exact Ld | exact trivial | (rfl))
  obtain ⟨hM, hs, hg, hq, hp, hxl, hv, hxb⟩ := hok hb
  have hle := hM.le
  rw [hs] at hQ
  rw [hg] at hR
  rw [hv] at hV
  have hSt := l05Stretch_ac t t.length hM r.2 (by omega)
  have hT := l02Apply_ac (shT t t.length 0 r.2) t.length t.length (egV x) ⟨shT_sq.l, shT_sq.r⟩ (by omega) (by omega) (eg_apOk hM hq hxb)
  rw [show rowF t.length (egV x) = x from rowF_self hxl] at hT
  have hT : AC Tryz.prog 66 [TL (shT t t.length 0 r.2), IL x] H0 (own1 1 t.length) (hp1 (IO (egY t r.2 x))) := hT
  have hT2 : AC Tryz.prog 66 [TL (shT t t.length 0 r.2), IL x] H0 (IL (egY t r.2 x)) H0 := hT.frz (AR.whole (l := ⟨0, []⟩) rfl trivial (by rw [IR_len, egY_len]))
  have hyl := egY_len (t := t) (q := r.2) (x := x)
  have hQd : ∀ i, egQ t r x i = decide ((egY t r.2 x).getD i 0 = timesB (x.getD i 0) r.1) := fun _ => rfl
  have hLd : ∀ i, egL t r x i = decide ((egY t r.2 x).getD i 0 ≤ timesB (x.getD i 0) r.1) := fun _ => rfl
  clear hT
  unfold cpI
  rw [hb, Bool.true_and, hsum]
  obtain ⟨p, q⟩ := r
  simp only at *
  generalize egY t q x = y at *
  generalize shT t t.length 0 q = s at *
  generalize egQ t (p, q) x = f at *
  generalize egL t (p, q) x = g at *
  refine AC.of_body 0 Tryz.func119 rfl (fun l h => absurd rfl h) (fun C hC => ?_)
  have hD : ∀ l, ¬ C.D0 l := fun l h => (hC l).1 h rfl
  simp only [startFr, Tryz.ntmps119, List.length_cons, List.length_nil, Nat.reduceAdd, Nat.reduceSub, List.replicate_succ, List.replicate_zero, List.cons_append, List.nil_append]
  repeat' (first | ((first | apply Ba | (apply Bb; (· rfl); (· rfl)) | (apply Bc; (· exact nxE)) | (apply Bd; (· rfl); (· rfl); (· exact nxE))); (· first | exact Kz rfl rfl (hQ) (Ad An) | exact Kz rfl rfl (hR) (Aa (Ad (Ad An)) An) | exact Kz rfl rfl (hV) (Ad An) | exact Ok.lenD rfl rfl hxr | exact Ok.lenD rfl rfl htl | exact Kz rfl rfl (hSt) (Ad (Ad An)) | exact Kz rfl rfl (hT2) (Ad (Ad An)) | exact Ok.pe)) | ((first | apply Ca | (apply Cb; (· exact nxE))); (· first | exact Ok.e0)) | refine Sx ?_ | (refine Sy (fun h => ?_) (fun h => ?_) <;> try (exfalso; omega; done)) | refine Sz (fun h => ?_) (fun h => ?_))
  refine AW.loop (X := {k : Nat // k ≤ x.length ∧ (List.range t.length).all g = ((List.range t.length).drop k).all g}) (fun k => ⟨[Oo, Oo, IL x, Oo, Bx 2 0, Oo, Oo, IL y, I (outF f t.length k.1), Bo (somF x k.1), I (k.1 : Nat), Oo, Oo, Oo, Oo, Oo, Oo, Oo, Oo, Oo, Oo, Oo, Oo, Oo, Oo, Oo, Oo, Oo, Oo, Oo, Oo, Oo, Oo, Oo, Oo, Oo, Oo, Oo, Oo, Oo, Oo, Oo, Oo, Oo, Oo, Oo, Oo, Oo, Oo, Oo, Oo, Oo, Oo, Oo, Oo, Oo, Oo, Oo, Oo, Oo, Oo, Oo, Oo, Oo, Oo, Oo, Oo, Oo, Oo, Oo, Oo, Oo, Oo, Oo, Oo, Oo], heapL [(⟨0, []⟩, ⟨0, []⟩, ⟨2, [[I p, I q]]⟩)], 900⟩) (fun k => x.length - k.1) ⟨0, Nat.zero_le _, rfl⟩ ?_ (fun k => ?_)
  ·
    (apply Le.headZ [_] rfl)
    all_goals (try dsimp only [srcs])
    (case' hfr | hob => (repeat' (first | refine La ?_ ?_ | exact Lc | refine Lo ?_ | refine ⟨⟨_, rfl, ?_⟩, ?_⟩ | refine Lx ?_)))
    all_goals (first | (rfl) | exact Ld)
  obtain ⟨i, hi, hall⟩ := k
  simp only
  by_cases hlt : i < x.length
  case neg =>
    obtain rfl : i = x.length := by omega
    rw [hall, List.drop_of_length_le (by simp; omega), List.all_nil, if_pos rfl]
    rw [show outF f t.length t.length = outF f t.length x.length by rw [hxl]]
    cases hsb : somF x x.length
    ·
      repeat' (first | ((first | apply Ba | (apply Bb; (· rfl); (· rfl)) | (apply Bc; (· exact nxE)) | (apply Bd; (· rfl); (· rfl); (· exact nxE))); (· first | exact Ok.lenD rfl rfl hxr | exact Ok.pe)) | ((first | apply Ca | (apply Cb; (· exact nxE))); (· first | exact Ok.e0)) | refine Sx ?_ | (refine Sy (fun h => ?_) (fun h => ?_) <;> try (exfalso; omega; done)) | refine Sz (fun h => ?_) (fun h => ?_))
      refine Ya ?_
      (apply Le.headZ (hs := []) [] rfl)
      all_goals (try dsimp only [srcs])
      (case' hfr => (repeat' (first | refine La ?_ ?_ | exact Lc | refine Lo ?_ | refine ⟨⟨_, rfl, ?_⟩, ?_⟩ | refine Lx ?_)))
      all_goals (first | exact Ld | exact trivial | (rfl))
    ·
      repeat' (first | ((first | apply Ba | (apply Bb; (· rfl); (· rfl)) | (apply Bc; (· exact nxE)) | (apply Bd; (· rfl); (· rfl); (· exact nxE))); (· first | exact Ok.lenD rfl rfl hxr | exact Ok.pe)) | ((first | apply Ca | (apply Cb; (· exact nxE))); (· first | exact Ok.e0)) | refine Sx ?_ | (refine Sy (fun h => ?_) (fun h => ?_) <;> try (exfalso; omega; done)) | refine Sz (fun h => ?_) (fun h => ?_))
      refine Ya ?_
      (apply Le.headZ (hs := []) [] rfl)
      all_goals (try dsimp only [srcs])
      (case' hfr => (repeat' (first | refine La ?_ ?_ | exact Lc | refine Lo ?_ | refine ⟨⟨_, rfl, ?_⟩, ?_⟩ | refine Lx ?_)))
      all_goals (first | exact Ld | exact trivial | (rfl))
  have hlt' : i < t.length := by omega
  have hxi := getD_cell hxl hlt'
  have hyi := getD_cell hyl hlt'
  have hxi0 : x[i]? = some (x.getD i 0) := by rw [List.getD_eq_getElem?_getD, List.getElem?_eq_getElem (by omega)]; rfl
  have hso := somF_step hxi0
  have hou := outF_step (f := f) hlt'
  have hno := fun h => all_no (f := g) (range_at hlt') h
  have hst := fun h => all_step (f := g) (range_at hlt') hall h
  have hxbi := hxb i hlt'
  have hTm := l01Times_ac p (x.getD i 0) (fun _ h1 => by have := hxbi.resolve_left h1; omega)
  rw [timesB_comm] at hTm
  rw [hLd i] at hno hst
  rw [hQd i] at hou
  have hsx : ∀ b, somF x i = b → somF x (i + 1) = (b || !decide (x.getD i 0 = -1000000000000000)) := fun b h => by rw [hso, h]
  clear hso
  obtain ⟨z, hz⟩ : ∃ z, z = timesB (x.getD i 0) p := ⟨_, rfl⟩
  obtain ⟨v, hv0⟩ : ∃ v, v = y.getD i 0 := ⟨_, rfl⟩
  rw [← hz, ← hv0] at hou hno hst
  rw [← hz] at hTm
  rw [← hv0] at hyi
  by_cases hok : v ≤ z
  case neg =>
    rw [hno (decide_eq_false hok), if_neg (by decide)]
    cases hsb : somF x i
    ·
      repeat' (first | ((first | apply Ba | (apply Bb; (· rfl); (· rfl)) | (apply Bc; (· exact nxE)) | (apply Bd; (· rfl); (· rfl); (· exact nxE))); (· first | exact Ok.lenD rfl rfl hxr | exact Kz rfl rfl (hTm) (Ad (Ad An)) | exact Ok.pe)) | ((first | apply Ca | (apply Cb; (· exact nxE))); (· first | exact Ok.e0)) | refine Sx ?_ | (refine Sy (fun h => ?_) (fun h => ?_) <;> try (exfalso; omega; done)) | refine Sz (fun h => ?_) (fun h => ?_))
      all_goals
        refine Ya ?_
        (apply Le.headZ (hs := []) [] rfl)
        all_goals (try dsimp only [srcs])
        (case' hfr => (repeat' (first | refine La ?_ ?_ | exact Lc | refine Lo ?_ | refine ⟨⟨_, rfl, ?_⟩, ?_⟩ | refine Lx ?_)))
        all_goals (first | exact Ld | exact trivial | (rfl))
    ·
      repeat' (first | ((first | apply Ba | (apply Bb; (· rfl); (· rfl)) | (apply Bc; (· exact nxE)) | (apply Bd; (· rfl); (· rfl); (· exact nxE))); (· first | exact Ok.lenD rfl rfl hxr | exact Kz rfl rfl (hTm) (Ad (Ad An)) | exact Ok.pe)) | ((first | apply Ca | (apply Cb; (· exact nxE))); (· first | exact Ok.e0)) | refine Sx ?_ | (refine Sy (fun h => ?_) (fun h => ?_) <;> try (exfalso; omega; done)) | refine Sz (fun h => ?_) (fun h => ?_))
      all_goals
        refine Ya ?_
        (apply Le.headZ (hs := []) [] rfl)
        all_goals (try dsimp only [srcs])
        (case' hfr => (repeat' (first | refine La ?_ ?_ | exact Lc | refine Lo ?_ | refine ⟨⟨_, rfl, ?_⟩, ?_⟩ | refine Lx ?_)))
        all_goals (first | exact Ld | exact trivial | (rfl))
  have hst := hst (decide_eq_true hok)
  cases hsb : somF x i
  · have hso := hsx _ hsb
    rw [Bool.false_or] at hso
    by_cases he : v = z
    · rw [decide_eq_true he, if_pos rfl] at hou
      repeat' (first | ((first | apply Ba | (apply Bb; (· rfl); (· rfl)) | (apply Bc; (· exact nxE)) | (apply Bd; (· rfl); (· rfl); (· exact nxE))); (· first | exact Ok.lenD rfl rfl hxr | exact Kz rfl rfl (hTm) (Ad (Ad An)) | exact Ok.pe)) | ((first | apply Ca | (apply Cb; (· exact nxE))); (· first | exact Ok.e0)) | refine Sx ?_ | (refine Sy (fun h => ?_) (fun h => ?_) <;> try (exfalso; omega; done)) | refine Sz (fun h => ?_) (fun h => ?_))
      all_goals
        refine ⟨⟨i + 1, by omega, hst⟩, ?_, by simp only; omega⟩
        simp only [hou, hso]
        (apply Le.headZ [_] rfl)
        all_goals (try dsimp only [srcs])
        (case' hfr | hob => (repeat' (first | refine La ?_ ?_ | exact Lc | refine Lo ?_ | refine ⟨⟨_, rfl, ?_⟩, ?_⟩ | refine Lx ?_)))
        all_goals (first | ((first | rfl | (simp; done))) | exact Ld)
    · rw [decide_eq_false he, if_neg (by decide)] at hou
      repeat' (first | ((first | apply Ba | (apply Bb; (· rfl); (· rfl)) | (apply Bc; (· exact nxE)) | (apply Bd; (· rfl); (· rfl); (· exact nxE))); (· first | exact Ok.lenD rfl rfl hxr | exact Kz rfl rfl (hTm) (Ad (Ad An)) | exact Ok.pe)) | ((first | apply Ca | (apply Cb; (· exact nxE))); (· first | exact Ok.e0)) | refine Sx ?_ | (refine Sy (fun h => ?_) (fun h => ?_) <;> try (exfalso; omega; done)) | refine Sz (fun h => ?_) (fun h => ?_))
      all_goals
        refine ⟨⟨i + 1, by omega, hst⟩, ?_, by simp only; omega⟩
        simp only [hou, hso]
        (apply Le.headZ [_] rfl)
        all_goals (try dsimp only [srcs])
        (case' hfr | hob => (repeat' (first | refine La ?_ ?_ | exact Lc | refine Lo ?_ | refine ⟨⟨_, rfl, ?_⟩, ?_⟩ | refine Lx ?_)))
        all_goals (first | ((first | rfl | (simp; done))) | exact Ld)
  · have hso := hsx _ hsb
    rw [Bool.true_or] at hso
    by_cases he : v = z
    · rw [decide_eq_true he, if_pos rfl] at hou
      repeat' (first | ((first | apply Ba | (apply Bb; (· rfl); (· rfl)) | (apply Bc; (· exact nxE)) | (apply Bd; (· rfl); (· rfl); (· exact nxE))); (· first | exact Ok.lenD rfl rfl hxr | exact Kz rfl rfl (hTm) (Ad (Ad An)) | exact Ok.pe)) | ((first | apply Ca | (apply Cb; (· exact nxE))); (· first | exact Ok.e0)) | refine Sx ?_ | (refine Sy (fun h => ?_) (fun h => ?_) <;> try (exfalso; omega; done)) | refine Sz (fun h => ?_) (fun h => ?_))
      all_goals
        refine ⟨⟨i + 1, by omega, hst⟩, ?_, by simp only; omega⟩
        simp only [hou, hso]
        (apply Le.headZ [_] rfl)
        all_goals (try dsimp only [srcs])
        (case' hfr | hob => (repeat' (first | refine La ?_ ?_ | exact Lc | refine Lo ?_ | refine ⟨⟨_, rfl, ?_⟩, ?_⟩ | refine Lx ?_)))
        all_goals (first | ((first | rfl | (simp; done))) | exact Ld)
    · rw [decide_eq_false he, if_neg (by decide)] at hou
      repeat' (first | ((first | apply Ba | (apply Bb; (· rfl); (· rfl)) | (apply Bc; (· exact nxE)) | (apply Bd; (· rfl); (· rfl); (· exact nxE))); (· first | exact Ok.lenD rfl rfl hxr | exact Kz rfl rfl (hTm) (Ad (Ad An)) | exact Ok.pe)) | ((first | apply Ca | (apply Cb; (· exact nxE))); (· first | exact Ok.e0)) | refine Sx ?_ | (refine Sy (fun h => ?_) (fun h => ?_) <;> try (exfalso; omega; done)) | refine Sz (fun h => ?_) (fun h => ?_))
      all_goals
        refine ⟨⟨i + 1, by omega, hst⟩, ?_, by simp only; omega⟩
        simp only [hou, hso]
        (apply Le.headZ [_] rfl)
        all_goals (try dsimp only [srcs])
        (case' hfr | hob => (repeat' (first | refine La ?_ ?_ | exact Lc | refine Lo ?_ | refine ⟨⟨_, rfl, ?_⟩, ?_⟩ | refine Lx ?_)))
        all_goals (first | ((first | rfl | (simp; done))) | exact Ld)
theorem sIsEigenVector_ac (t : List (List Int)) (r : Int × Int) (x : List Int) (hr : DrR r) (ht : t.length ≤ 100000000) (hrr : ∀ q ∈ t, q.length ≤ 100000000) (hx : x.length ≤ 100000000) : AC Tryz.prog 41 [TL t, .agg [I r.1, I r.2], IL x] H0 (Bo (eigB t r x)) H0 := by
  have hCp := l05Compare_ac t r x hr ht hrr hx
  rw [← cpI_eq.1]
  obtain ⟨p, q⟩ := r
  simp only at hCp
  generalize cpI t (p, q) x = c at *
  refine AC.of_body 0 Tryz.func41 rfl (fun l h => absurd rfl h) (fun C hC => ?_)
  have hD : ∀ l, ¬ C.D0 l := fun l h => (hC l).1 h rfl
  simp only [startFr, Tryz.ntmps41, List.length_cons, List.length_nil, Nat.reduceAdd, Nat.reduceSub, List.replicate_succ, List.replicate_zero, List.cons_append, List.nil_append]
  repeat' (first | ((first | apply Ba | (apply Bb; (· rfl); (· rfl)) | (apply Bc; (· exact nxE)) | (apply Bd; (· rfl); (· rfl); (· exact nxE))); (· first | exact Kz rfl rfl (hCp) (Ad (Aa (Ad (Ad An)) (Ad An))) | exact Ok.pe)) | ((first | apply Ca | (apply Cb; (· exact nxE))); (· first | exact Ok.e0)) | refine Sx ?_ | (refine Sy (fun h => ?_) (fun h => ?_) <;> try (exfalso; omega; done)) | refine Sz (fun h => ?_) (fun h => ?_))
  refine Ya ?_
  (apply Le.headZ (hs := []) [] rfl)
  all_goals (try dsimp only [srcs])
  (case' hfr => (repeat' (first | refine La ?_ ?_ | exact Lc | refine Lo ?_ | refine ⟨⟨_, rfl, ?_⟩, ?_⟩ | refine Lx ?_)))
  all_goals (first | exact Ld | exact trivial | (rfl))
theorem sIsSubEigen_ac (t : List (List Int)) (r : Int × Int) (x : List Int) (hr : DrR r) (ht : t.length ≤ 100000000) (hrr : ∀ q ∈ t, q.length ≤ 100000000) (hx : x.length ≤ 100000000) : AC Tryz.prog 43 [TL t, .agg [I r.1, I r.2], IL x] H0 (Bo (subB t r x)) H0 := by
  have hCp := l05Compare_ac t r x hr ht hrr hx
  rw [← cpI_eq.2]
  obtain ⟨p, q⟩ := r
  simp only at hCp
  generalize cpI t (p, q) x = c at *
  refine AC.of_body 0 Tryz.func43 rfl (fun l h => absurd rfl h) (fun C hC => ?_)
  have hD : ∀ l, ¬ C.D0 l := fun l h => (hC l).1 h rfl
  simp only [startFr, Tryz.ntmps43, List.length_cons, List.length_nil, Nat.reduceAdd, Nat.reduceSub, List.replicate_succ, List.replicate_zero, List.cons_append, List.nil_append]
  repeat' (first | ((first | apply Ba | (apply Bb; (· rfl); (· rfl)) | (apply Bc; (· exact nxE)) | (apply Bd; (· rfl); (· rfl); (· exact nxE))); (· first | exact Kz rfl rfl (hCp) (Ad (Aa (Ad (Ad An)) (Ad An))) | exact Ok.pe)) | ((first | apply Ca | (apply Cb; (· exact nxE))); (· first | exact Ok.e0)) | refine Sx ?_ | (refine Sy (fun h => ?_) (fun h => ?_) <;> try (exfalso; omega; done)) | refine Sz (fun h => ?_) (fun h => ?_))
  refine Ya ?_
  (apply Le.headZ (hs := []) [] rfl)
  all_goals (try dsimp only [srcs])
  (case' hfr => (repeat' (first | refine La ?_ ?_ | exact Lc | refine Lo ?_ | refine ⟨⟨_, rfl, ?_⟩, ?_⟩ | refine Lx ?_)))
  all_goals (first | exact Ld | exact trivial | (rfl))
end Go.Proofs.YtpgcmpbamlnkkaaGreat
end
