/-
  Walks in the abstract reading, part 9.
-/
import Derived.Test.YtdgodkpobomneaaKwU7
import Derived.Test.YtdgodkpobomneaaKwU8
section
namespace Go.Proofs.Ytdgodkpobomneaa
set_option linter.unusedSimpArgs false
set_option linter.unusedVariables false
open Go Go.RowKit
attribute [local irreducible] AL AD AW OpOk Le AC thenQ blockQ EndQ

theorem getD_atW [Mode] {c : List Nat} {k : Nat} (hk : k < c.length) : c[k]? = some (c.getD k 0) := by
  rw [List.getD_eq_getElem?_getD, List.getElem?_eq_getElem hk]; rfl
theorem getQ_atW [Mode] {ms : List (List (List Int))} {k : Nat} (hk : k < ms.length) : ms[k]? = some (ms.getD k []) := by
  rw [List.getD_eq_getElem?_getD, List.getElem?_eq_getElem hk]; rfl
/-- A matrix applied to a vector. -/
def stepL (t : List (List Int)) (n : Nat) (x : List Int) : List Int := rowF n fun i => apA (entN t) (fun j => x.getD j 0) i n
theorem stepL_len [Mode] {t : List (List Int)} {n : Nat} {x : List Int} : (stepL t n x).length = n := rowF_len
theorem rowF_selfD [Mode] {x : List Int} {n : Nat} (h : x.length = n) : rowF n (fun j => x.getD j 0) = x := by
  apply List.ext_getElem?
  intro i
  by_cases hi : i < n
  · rw [rowF_get hi]; simp [List.getElem?_eq_getElem (show i < x.length by omega)]
  · rw [List.getElem?_eq_none (by rw [rowF_len]; omega), List.getElem?_eq_none (by omega)]
theorem isVal_at [Mode] {x : List Int} {n : Nat} (h : x.all isVal = true) (hl : x.length = n) {j : Nat} (hj : j < n) : x.getD j 0 = BOT ∨ (-1000000 ≤ x.getD j 0 ∧ x.getD j 0 ≤ 1000000) := by
  have h1 : x.getD j 0 ∈ x := by rw [List.getD_eq_getElem?_getD, List.getElem?_eq_getElem (by omega)]; exact List.getElem_mem _
  exact isVal_iff.1 (List.all_eq_true.1 h _ h1)
theorem apOk_step [Mode] {t : List (List Int)} {n : Nat} (hM : MatOk t n) {x : List Int} (hl : x.length = n) (hv : x.all isVal = true) : ApOk (entN t) (fun j => x.getD j 0) n n := ⟨fun i j _ _ => by
  by_cases e : entN t i j = BOT
  · exact .inl e
  · have := hM.b j i e; right; omega, fun j hj => by
  rcases isVal_at hv hl hj with e | e
  · exact .inl e
  · right; omega⟩
theorem timesStep_ac [Mode] (t : List (List Int)) (n : Nat) (hM : MatOk t n) (x : List Int) (hl : x.length = n) (hv : x.all isVal = true) : AC Try.prog 50 [TL t, IL x] H0 (IL (stepL t n x)) H0 := by
  have hn := hM.le
  have := timesVector_ac t n n (fun j => x.getD j 0) ⟨hM.sq.l, hM.sq.r⟩ (by omega) (by omega) (apOk_step hM hl hv)
  rw [rowF_selfD hl] at this
  exact this.frz (AR.whole (lent := fun _ => True) rfl trivial (by rw [IR_len]; exact stepL_len))
theorem applyStep_ac [Mode] (t : List (List Int)) (n : Nat) (hM : MatOk t n) (x : List Int) (hl : x.length = n) (hv : x.all isVal = true) : AC Try.prog 56 [TL t, IL x] H0 (IL (stepL t n x)) H0 := by
  have hn := hM.le
  have := l02Apply_ac t n n (fun j => x.getD j 0) ⟨hM.sq.l, hM.sq.r⟩ (by omega) (by omega) (apOk_step hM hl hv)
  rw [rowF_selfD hl] at this
  exact this.frz (AR.whole (lent := fun _ => True) rfl trivial (by rw [IR_len]; exact stepL_len))
theorem cloneD_ac [Mode] (xs : List Int) (hn : xs.length ≤ 100000000) : AC Try.prog 49 [IL xs] H0 (IL xs) H0 := (cloneInt_ac xs hn).frz (AR.whole (lent := fun _ => True) rfl trivial (by rw [IR_len]))
theorem l01OwnD_ac [Mode] (xs : List Int) (hn : xs.length ≤ 100000000) : AC Try.prog 55 [IL xs] H0 (IL xs) H0 := (l01Own_ac xs hn).frz (AR.whole (lent := fun _ => True) rfl trivial (by rw [IR_len]))
theorem vec_all [Mode] {x : List Int} (hl : 1 ≤ x.length ∧ x.length ≤ 10) : isVec x = x.all isVal := by
  unfold isVec
  rw [wi_iff.2 (by omega), Bool.true_and]
/-! ### Codes -/
def moC (ms : List (List (List Int))) (x : List Int) : Int := if areMo ms = true ∧ isVec x = true then (if x.length = (ms.headD []).length then 0 else 5) else 1
def woB (ms : List (List (List Int))) (w : List Int) : Bool := w.all (fun a => wi a 0 ((ms.length : Int) - 1)) && decide ((w.length : Int) ≤ 6)
def inC (c : Int) (b : Bool) : Int := if c = 0 then (if b = true then 0 else 2) else c
theorem checkModes_ac [Mode] (ms : List (List (List Int))) (hm : MsOk ms) (x : List Int) (hx : x.length ≤ 1000000) : AC Try.prog 46 [QL ms, IL x] H0 (I (moC ms x)) H0 := by
  have hA := iAreModes_ac ms hm
  have hV := iIsVector_ac x (by omega)
  have hxr : (IR x).length = x.length := IR_len
  unfold moC
  cases ha : areMo ms
  · rw [ha] at hA
    rw [if_neg (by simp)]
    refine AC.of_body 0 Try.func46 rfl (fun l h => absurd rfl h) (fun C hC => ?_)
    have hD : ∀ l, ¬ C.D0 l := fun l h => (hC l).1 h rfl
    simp only [startFr, Try.ntmps46, List.length_cons, List.length_nil, Nat.reduceAdd, Nat.reduceSub, List.replicate_succ, List.replicate_zero, List.cons_append, List.nil_append]
    repeat' (first | ((first | apply Ba | (apply Bb; (· rfl); (· rfl)) | (apply Bc; (· exact nxE)) | (apply Bd; (· rfl); (· rfl); (· exact nxE))); (· first | exact Kz rfl rfl (hA) (Ad An) | exact Ok.pe)) | ((first | apply Ca | (apply Cb; (· exact nxE))); (· first | exact Ok.e0)) | refine Sx ?_ | (refine Sy (fun h => ?_) (fun h => ?_) <;> try (exfalso; omega; done)) | refine Sz (fun h => ?_) (fun h => ?_))
    refine Ya ?_
    (apply Le.headZ (hs := []) [] rfl)
    all_goals (try dsimp only [srcs])
    (case' hfr => (repeat' (first | refine La ?_ ?_ | exact Lc | refine Lo ?_ | refine ⟨⟨_, rfl, ?_⟩, ?_⟩ | refine Lx ?_)))
    all_goals (first | exact Ld | exact trivial | (rfl))
  rw [ha] at hA
  cases hv : isVec x
  · rw [hv] at hV
    rw [if_neg (by simp)]
    refine AC.of_body 0 Try.func46 rfl (fun l h => absurd rfl h) (fun C hC => ?_)
    have hD : ∀ l, ¬ C.D0 l := fun l h => (hC l).1 h rfl
    simp only [startFr, Try.ntmps46, List.length_cons, List.length_nil, Nat.reduceAdd, Nat.reduceSub, List.replicate_succ, List.replicate_zero, List.cons_append, List.nil_append]
    repeat' (first | ((first | apply Ba | (apply Bb; (· rfl); (· rfl)) | (apply Bc; (· exact nxE)) | (apply Bd; (· rfl); (· rfl); (· exact nxE))); (· first | exact Kz rfl rfl (hA) (Ad An) | exact Kz rfl rfl (hV) (Ad An) | exact Ok.pe)) | ((first | apply Ca | (apply Cb; (· exact nxE))); (· first | exact Ok.e0)) | refine Sx ?_ | (refine Sy (fun h => ?_) (fun h => ?_) <;> try (exfalso; omega; done)) | refine Sz (fun h => ?_) (fun h => ?_))
    refine Ya ?_
    (apply Le.headZ (hs := []) [] rfl)
    all_goals (try dsimp only [srcs])
    (case' hfr => (repeat' (first | refine La ?_ ?_ | exact Lc | refine Lo ?_ | refine ⟨⟨_, rfl, ?_⟩, ?_⟩ | refine Lx ?_)))
    all_goals (first | exact Ld | exact trivial | (rfl))
  rw [hv] at hV
  rw [if_pos ⟨rfl, rfl⟩]
  obtain ⟨t0, q, rfl, hq, h0, hqs⟩ := areMo_ok ha
  have hg0 : (QR (t0 :: q))[(0 : Int).toNat]? = some [TD t0] := rfl
  have htl : (mRows 1 (TR t0)).length = t0.length := by rw [mTR_len]
  have hle := h0.le
  by_cases hl : x.length = t0.length
  · rw [if_pos (show x.length = ((t0 :: q).headD []).length from hl)]
    refine AC.of_body 0 Try.func46 rfl (fun l h => absurd rfl h) (fun C hC => ?_)
    have hD : ∀ l, ¬ C.D0 l := fun l h => (hC l).1 h rfl
    simp only [startFr, Try.ntmps46, List.length_cons, List.length_nil, Nat.reduceAdd, Nat.reduceSub, List.replicate_succ, List.replicate_zero, List.cons_append, List.nil_append]
    repeat' (first | ((first | apply Ba | (apply Bb; (· rfl); (· rfl)) | (apply Bc; (· exact nxE)) | (apply Bd; (· rfl); (· rfl); (· exact nxE))); (· first | exact Kz rfl rfl (hA) (Ad An) | exact Kz rfl rfl (hV) (Ad An) | exact Ok.lenD rfl rfl hxr | exact Ok.lenD rfl rfl htl | exact Ok.pe)) | ((first | apply Ca | (apply Cb; (· exact nxE))); (· first | exact Ok.e0)) | refine Sx ?_ | (refine Sy (fun h => ?_) (fun h => ?_) <;> try (exfalso; omega; done)) | refine Sz (fun h => ?_) (fun h => ?_))
    refine Ya ?_
    (apply Le.headZ (hs := []) [] rfl)
    all_goals (try dsimp only [srcs])
    (case' hfr => (repeat' (first | refine La ?_ ?_ | exact Lc | refine Lo ?_ | refine ⟨⟨_, rfl, ?_⟩, ?_⟩ | refine Lx ?_)))
    all_goals (first | exact Ld | exact trivial | (rfl))
  · rw [if_neg (show ¬ x.length = ((t0 :: q).headD []).length from hl)]
    refine AC.of_body 0 Try.func46 rfl (fun l h => absurd rfl h) (fun C hC => ?_)
    have hD : ∀ l, ¬ C.D0 l := fun l h => (hC l).1 h rfl
    simp only [startFr, Try.ntmps46, List.length_cons, List.length_nil, Nat.reduceAdd, Nat.reduceSub, List.replicate_succ, List.replicate_zero, List.cons_append, List.nil_append]
    repeat' (first | ((first | apply Ba | (apply Bb; (· rfl); (· rfl)) | (apply Bc; (· exact nxE)) | (apply Bd; (· rfl); (· rfl); (· exact nxE))); (· first | exact Kz rfl rfl (hA) (Ad An) | exact Kz rfl rfl (hV) (Ad An) | exact Ok.lenD rfl rfl hxr | exact Ok.lenD rfl rfl htl | exact Ok.pe)) | ((first | apply Ca | (apply Cb; (· exact nxE))); (· first | exact Ok.e0)) | refine Sx ?_ | (refine Sy (fun h => ?_) (fun h => ?_) <;> try (exfalso; omega; done)) | refine Sz (fun h => ?_) (fun h => ?_))
    refine Ya ?_
    (apply Le.headZ (hs := []) [] rfl)
    all_goals (try dsimp only [srcs])
    (case' hfr => (repeat' (first | refine La ?_ ?_ | exact Lc | refine Lo ?_ | refine ⟨⟨_, rfl, ?_⟩, ?_⟩ | refine Lx ?_)))
    all_goals (first | exact Ld | exact trivial | (rfl))
theorem l25Code_ac [Mode] (ms : List (List (List Int))) (hm : MsOk ms) (x : List Int) (hx : x.length ≤ 1000000) (b : Bool) : AC Try.prog 52 [QL ms, IL x, Bo b] H0 (I (inC (moC ms x) b)) H0 := by
  have hA := sAreModes_ac ms hm
  have hV := l02Vector_ac x (by omega)
  have hxr : (IR x).length = x.length := IR_len
  unfold inC moC
  cases ha : areMo ms
  · rw [ha] at hA
    rw [if_neg (show ¬ (false = true ∧ isVec x = true) by simp), if_neg (by decide)]
    refine AC.of_body 0 Try.func52 rfl (fun l h => absurd rfl h) (fun C hC => ?_)
    have hD : ∀ l, ¬ C.D0 l := fun l h => (hC l).1 h rfl
    simp only [startFr, Try.ntmps52, List.length_cons, List.length_nil, Nat.reduceAdd, Nat.reduceSub, List.replicate_succ, List.replicate_zero, List.cons_append, List.nil_append]
    repeat' (first | ((first | apply Ba | (apply Bb; (· rfl); (· rfl)) | (apply Bc; (· exact nxE)) | (apply Bd; (· rfl); (· rfl); (· exact nxE))); (· first | exact Kz rfl rfl (hA) (Ad An) | exact Ok.pe)) | ((first | apply Ca | (apply Cb; (· exact nxE))); (· first | exact Ok.e0)) | refine Sx ?_ | (refine Sy (fun h => ?_) (fun h => ?_) <;> try (exfalso; omega; done)) | refine Sz (fun h => ?_) (fun h => ?_))
    refine Ya ?_
    (apply Le.headZ (hs := []) [] rfl)
    all_goals (try dsimp only [srcs])
    (case' hfr => (repeat' (first | refine La ?_ ?_ | exact Lc | refine Lo ?_ | refine ⟨⟨_, rfl, ?_⟩, ?_⟩ | refine Lx ?_)))
    all_goals (first | exact Ld | exact trivial | (rfl))
  rw [ha] at hA
  cases hv : isVec x
  · rw [hv] at hV
    rw [if_neg (show ¬ (true = true ∧ false = true) by simp), if_neg (by decide)]
    refine AC.of_body 0 Try.func52 rfl (fun l h => absurd rfl h) (fun C hC => ?_)
    have hD : ∀ l, ¬ C.D0 l := fun l h => (hC l).1 h rfl
    simp only [startFr, Try.ntmps52, List.length_cons, List.length_nil, Nat.reduceAdd, Nat.reduceSub, List.replicate_succ, List.replicate_zero, List.cons_append, List.nil_append]
    repeat' (first | ((first | apply Ba | (apply Bb; (· rfl); (· rfl)) | (apply Bc; (· exact nxE)) | (apply Bd; (· rfl); (· rfl); (· exact nxE))); (· first | exact Kz rfl rfl (hA) (Ad An) | exact Kz rfl rfl (hV) (Ad An) | exact Ok.pe)) | ((first | apply Ca | (apply Cb; (· exact nxE))); (· first | exact Ok.e0)) | refine Sx ?_ | (refine Sy (fun h => ?_) (fun h => ?_) <;> try (exfalso; omega; done)) | refine Sz (fun h => ?_) (fun h => ?_))
    refine Ya ?_
    (apply Le.headZ (hs := []) [] rfl)
    all_goals (try dsimp only [srcs])
    (case' hfr => (repeat' (first | refine La ?_ ?_ | exact Lc | refine Lo ?_ | refine ⟨⟨_, rfl, ?_⟩, ?_⟩ | refine Lx ?_)))
    all_goals (first | exact Ld | exact trivial | (rfl))
  rw [hv] at hV
  rw [if_pos (show true = true ∧ true = true from ⟨rfl, rfl⟩)]
  obtain ⟨t0, q, rfl, hq, h0, hqs⟩ := areMo_ok ha
  have hg0 : (QR (t0 :: q))[(0 : Int).toNat]? = some [TD t0] := rfl
  have htl : (mRows 1 (TR t0)).length = t0.length := by rw [mTR_len]
  have hle := h0.le
  by_cases hl : x.length = t0.length
  · rw [if_pos (show x.length = ((t0 :: q).headD []).length from hl), if_pos rfl]
    cases b
    · rw [if_neg (by simp)]
      refine AC.of_body 0 Try.func52 rfl (fun l h => absurd rfl h) (fun C hC => ?_)
      have hD : ∀ l, ¬ C.D0 l := fun l h => (hC l).1 h rfl
      simp only [startFr, Try.ntmps52, List.length_cons, List.length_nil, Nat.reduceAdd, Nat.reduceSub, List.replicate_succ, List.replicate_zero, List.cons_append, List.nil_append]
      repeat' (first | ((first | apply Ba | (apply Bb; (· rfl); (· rfl)) | (apply Bc; (· exact nxE)) | (apply Bd; (· rfl); (· rfl); (· exact nxE))); (· first | exact Kz rfl rfl (hA) (Ad An) | exact Kz rfl rfl (hV) (Ad An) | exact Ok.lenD rfl rfl hxr | exact Ok.lenD rfl rfl htl | exact Ok.pe)) | ((first | apply Ca | (apply Cb; (· exact nxE))); (· first | exact Ok.e0)) | refine Sx ?_ | (refine Sy (fun h => ?_) (fun h => ?_) <;> try (exfalso; omega; done)) | refine Sz (fun h => ?_) (fun h => ?_))
      refine Ya ?_
      (apply Le.headZ (hs := []) [] rfl)
      all_goals (try dsimp only [srcs])
      (case' hfr => (repeat' (first | refine La ?_ ?_ | exact Lc | refine Lo ?_ | refine ⟨⟨_, rfl, ?_⟩, ?_⟩ | refine Lx ?_)))
      all_goals (first | exact Ld | exact trivial | (rfl))
    · rw [if_pos rfl]
      refine AC.of_body 0 Try.func52 rfl (fun l h => absurd rfl h) (fun C hC => ?_)
      have hD : ∀ l, ¬ C.D0 l := fun l h => (hC l).1 h rfl
      simp only [startFr, Try.ntmps52, List.length_cons, List.length_nil, Nat.reduceAdd, Nat.reduceSub, List.replicate_succ, List.replicate_zero, List.cons_append, List.nil_append]
      repeat' (first | ((first | apply Ba | (apply Bb; (· rfl); (· rfl)) | (apply Bc; (· exact nxE)) | (apply Bd; (· rfl); (· rfl); (· exact nxE))); (· first | exact Kz rfl rfl (hA) (Ad An) | exact Kz rfl rfl (hV) (Ad An) | exact Ok.lenD rfl rfl hxr | exact Ok.lenD rfl rfl htl | exact Ok.pe)) | ((first | apply Ca | (apply Cb; (· exact nxE))); (· first | exact Ok.e0)) | refine Sx ?_ | (refine Sy (fun h => ?_) (fun h => ?_) <;> try (exfalso; omega; done)) | refine Sz (fun h => ?_) (fun h => ?_))
      refine Ya ?_
      (apply Le.headZ (hs := []) [] rfl)
      all_goals (try dsimp only [srcs])
      (case' hfr => (repeat' (first | refine La ?_ ?_ | exact Lc | refine Lo ?_ | refine ⟨⟨_, rfl, ?_⟩, ?_⟩ | refine Lx ?_)))
      all_goals (first | exact Ld | exact trivial | (rfl))
  · rw [if_neg (show ¬ x.length = ((t0 :: q).headD []).length from hl), if_neg (by decide)]
    refine AC.of_body 0 Try.func52 rfl (fun l h => absurd rfl h) (fun C hC => ?_)
    have hD : ∀ l, ¬ C.D0 l := fun l h => (hC l).1 h rfl
    simp only [startFr, Try.ntmps52, List.length_cons, List.length_nil, Nat.reduceAdd, Nat.reduceSub, List.replicate_succ, List.replicate_zero, List.cons_append, List.nil_append]
    repeat' (first | ((first | apply Ba | (apply Bb; (· rfl); (· rfl)) | (apply Bc; (· exact nxE)) | (apply Bd; (· rfl); (· rfl); (· exact nxE))); (· first | exact Kz rfl rfl (hA) (Ad An) | exact Kz rfl rfl (hV) (Ad An) | exact Ok.lenD rfl rfl hxr | exact Ok.lenD rfl rfl htl | exact Ok.pe)) | ((first | apply Ca | (apply Cb; (· exact nxE))); (· first | exact Ok.e0)) | refine Sx ?_ | (refine Sy (fun h => ?_) (fun h => ?_) <;> try (exfalso; omega; done)) | refine Sz (fun h => ?_) (fun h => ?_))
    refine Ya ?_
    (apply Le.headZ (hs := []) [] rfl)
    all_goals (try dsimp only [srcs])
    (case' hfr => (repeat' (first | refine La ?_ ?_ | exact Lc | refine Lo ?_ | refine ⟨⟨_, rfl, ?_⟩, ?_⟩ | refine Lx ?_)))
    all_goals (first | exact Ld | exact trivial | (rfl))
theorem isWord_ac [Mode] (ms : List (List (List Int))) (w : List Int) (hm : ms.length ≤ 100000000) (hw : w.length ≤ 1000000) : AC Try.prog 60 [QL ms, IL w] H0 (Bo (woB ms w)) H0 := by
  have hA := allWithin_ac w 0 ((ms.length : Int) - 1) (by omega)
  have hwr : (IR w).length = w.length := IR_len
  have hmr : (QR ms).length = ms.length := by simp
  unfold woB
  by_cases hl : (w.length : Int) ≤ 6
  · rw [decide_eq_true hl, Bool.and_true]
    generalize (w.all fun a => wi a 0 ((ms.length : Int) - 1)) = b at *
    refine AC.of_body 0 Try.func60 rfl (fun l h => absurd rfl h) (fun C hC => ?_)
    have hD : ∀ l, ¬ C.D0 l := fun l h => (hC l).1 h rfl
    simp only [startFr, Try.ntmps60, List.length_cons, List.length_nil, Nat.reduceAdd, Nat.reduceSub, List.replicate_succ, List.replicate_zero, List.cons_append, List.nil_append]
    repeat' (first | ((first | apply Ba | (apply Bb; (· rfl); (· rfl)) | (apply Bc; (· exact nxE)) | (apply Bd; (· rfl); (· rfl); (· exact nxE))); (· first | exact Ok.lenD rfl rfl hwr | exact Ok.lenD rfl rfl hmr | exact Kz rfl rfl (hA) (Ad (Ad (Ad An))) | exact Ok.pe)) | ((first | apply Ca | (apply Cb; (· exact nxE))); (· first | exact Ok.e0)) | refine Sx ?_ | (refine Sy (fun h => ?_) (fun h => ?_) <;> try (exfalso; omega; done)) | refine Sz (fun h => ?_) (fun h => ?_))
    refine Ya ?_
    (apply Le.headZ (hs := []) [] rfl)
    all_goals (try dsimp only [srcs])
    (case' hfr => (repeat' (first | refine La ?_ ?_ | exact Lc | refine Lo ?_ | refine ⟨⟨_, rfl, ?_⟩, ?_⟩ | refine Lx ?_)))
    all_goals (first | exact Ld | exact trivial | (rfl))
  · rw [decide_eq_false hl, Bool.and_false]
    refine AC.of_body 0 Try.func60 rfl (fun l h => absurd rfl h) (fun C hC => ?_)
    have hD : ∀ l, ¬ C.D0 l := fun l h => (hC l).1 h rfl
    simp only [startFr, Try.ntmps60, List.length_cons, List.length_nil, Nat.reduceAdd, Nat.reduceSub, List.replicate_succ, List.replicate_zero, List.cons_append, List.nil_append]
    repeat' (first | ((first | apply Ba | (apply Bb; (· rfl); (· rfl)) | (apply Bc; (· exact nxE)) | (apply Bd; (· rfl); (· rfl); (· exact nxE))); (· first | exact Ok.lenD rfl rfl hwr | exact Ok.lenD rfl rfl hmr | exact Ok.pe)) | ((first | apply Ca | (apply Cb; (· exact nxE))); (· first | exact Ok.e0)) | refine Sx ?_ | (refine Sy (fun h => ?_) (fun h => ?_) <;> try (exfalso; omega; done)) | refine Sz (fun h => ?_) (fun h => ?_))
    refine Ya ?_
    (apply Le.headZ (hs := []) [] rfl)
    all_goals (try dsimp only [srcs])
    (case' hfr => (repeat' (first | refine La ?_ ?_ | exact Lc | refine Lo ?_ | refine ⟨⟨_, rfl, ?_⟩, ?_⟩ | refine Lx ?_)))
    all_goals (first | exact Ld | exact trivial | (rfl))
theorem l25Word_ac [Mode] (ms : List (List (List Int))) (w : List Int) (hm : ms.length ≤ 100000000) (hw : w.length ≤ 1000000) : AC Try.prog 61 [QL ms, IL w] H0 (Bo (woB ms w)) H0 := by
  have hA := l01Within_ac w 6 0 ((ms.length : Int) - 1) (by omega)
  have hmr : (QR ms).length = ms.length := by simp
  rw [show wiB w 6 0 ((ms.length : Int) - 1) = woB ms w from rfl] at hA
  generalize woB ms w = b at *
  refine AC.of_body 0 Try.func61 rfl (fun l h => absurd rfl h) (fun C hC => ?_)
  have hD : ∀ l, ¬ C.D0 l := fun l h => (hC l).1 h rfl
  simp only [startFr, Try.ntmps61, List.length_cons, List.length_nil, Nat.reduceAdd, Nat.reduceSub, List.replicate_succ, List.replicate_zero, List.cons_append, List.nil_append]
  repeat' (first | ((first | apply Ba | (apply Bb; (· rfl); (· rfl)) | (apply Bc; (· exact nxE)) | (apply Bd; (· rfl); (· rfl); (· exact nxE))); (· first | exact Ok.lenD rfl rfl hmr | exact Kz rfl rfl (hA) (Ad (Ad (Ad (Ad An)))) | exact Ok.pe)) | ((first | apply Ca | (apply Cb; (· exact nxE))); (· first | exact Ok.e0)) | refine Sx ?_ | (refine Sy (fun h => ?_) (fun h => ?_) <;> try (exfalso; omega; done)) | refine Sz (fun h => ?_) (fun h => ?_))
  refine Ya ?_
  (apply Le.headZ (hs := []) [] rfl)
  all_goals (try dsimp only [srcs])
  (case' hfr => (repeat' (first | refine La ?_ ?_ | exact Lc | refine Lo ?_ | refine ⟨⟨_, rfl, ?_⟩, ?_⟩ | refine Lx ?_)))
  all_goals (first | exact Ld | exact trivial | (rfl))
/-- Modes and a vector that fits. -/
structure MoOk (ms : List (List (List Int))) (x : List Int) (n : Nat) : Prop where
  n1 : 1 ≤ n
  n2 : n ≤ 10
  m : 1 ≤ ms.length ∧ ms.length ≤ 4
  ok : ∀ t ∈ ms, MatOk t n
  l : x.length = n
  v : x.all isVal = true
theorem moC_ok [Mode] {ms : List (List (List Int))} {x : List Int} (h : moC ms x = 0) : ∃ n, MoOk ms x n ∧ ∃ t0 q, ms = t0 :: q ∧ q.length ≤ 3 ∧ MatOk t0 n ∧ ∀ t ∈ q, MatOk t n := by
  unfold moC at h
  by_cases h1 : areMo ms = true ∧ isVec x = true
  case neg => rw [if_neg h1] at h; cases h
  rw [if_pos h1] at h
  obtain ⟨ha, hv⟩ := h1
  obtain ⟨t0, q, rfl, hq, h0, hqs⟩ := areMo_ok ha
  by_cases hl : x.length = ((t0 :: q).headD []).length
  case neg => rw [if_neg hl] at h; cases h
  have hl : x.length = t0.length := hl
  have hle := h0.le
  have hpos := h0.pos
  rw [vec_all (by omega)] at hv
  exact ⟨t0.length, ⟨hpos, hle, by simp; omega, fun t ht => by
    rcases List.mem_cons.1 ht with rfl | ht
    · exact h0
    · exact hqs t ht, hl, hv⟩, t0, q, rfl, hq, h0, hqs⟩
theorem woB_nat [Mode] {ms : List (List (List Int))} {w : List Int} (h : woB ms w = true) : ∃ u : List Nat, w = cN u ∧ u.length ≤ 6 ∧ ∀ m ∈ u, m < ms.length := by
  unfold woB at h
  rw [Bool.and_eq_true, List.all_eq_true] at h
  obtain ⟨h1, h2⟩ := h
  have h2 := of_decide_eq_true h2
  refine ⟨w.map Int.toNat, ?_, by rw [List.length_map]; omega, fun m hm => ?_⟩
  · unfold cN
    rw [List.map_map]
    conv => lhs; rw [← List.map_id w]
    exact List.map_congr_left fun a ha => by have := wi_iff.1 (h1 a ha); simp only [Function.comp, id]; omega
  · obtain ⟨a, ha, rfl⟩ := List.mem_map.1 hm
    have := wi_iff.1 (h1 a ha)
    omega
/-! ### The vector behind a word -/
def afR (ms : List (List (List Int))) (n : Nat) : List Nat → List Int → Option (List Int)
  | [], x => some x
  | m :: w, x => if (stepL (ms.getD m []) n x).all isVal = true then afR ms n w (stepL (ms.getD m []) n x) else none
def afC (ms : List (List (List Int))) (x : List Int) (w : List Int) : Int := if inC (moC ms x) (woB ms w) = 0 then (match afR ms (ms.headD []).length (w.map Int.toNat) x with | none => 3 | some _ => 0) else inC (moC ms x) (woB ms w)
def afL (ms : List (List (List Int))) (x : List Int) (w : List Int) : List Int := if inC (moC ms x) (woB ms w) = 0 then (match afR ms (ms.headD []).length (w.map Int.toNat) x with | none => [] | some y => y) else []
theorem inC_ok [Mode] {c : Int} {b : Bool} (h : inC c b = 0) : c = 0 ∧ b = true := by
  unfold inC at h
  by_cases h0 : c = 0
  · rw [if_pos h0] at h
    cases b
    · cases h
    · exact ⟨h0, rfl⟩
  · rw [if_neg h0] at h; exact absurd h h0
theorem cN_toNat [Mode] {u : List Nat} : (cN u).map Int.toNat = u := by
  unfold cN
  rw [List.map_map]
  conv => rhs; rw [← List.map_id u]
  exact List.map_congr_left fun a _ => by simp
set_option maxHeartbeats 2000000 in
theorem sAfterWord_ac [Mode] (ms : List (List (List Int))) (hm : MsOk ms) (x : List Int) (hx : x.length ≤ 1000000) (w : List Int) (hw : w.length ≤ 1000000) : AC Try.prog 16 [QL ms, IL x, IL w] H0 (.tup [IL (afL ms x w), I (afC ms x w)]) H0 := by
  have hWo := l25Word_ac ms w hm.n hw
  have hCo := l25Code_ac ms hm x hx (woB ms w)
  unfold afL afC
  by_cases h0 : inC (moC ms x) (woB ms w) = 0
  case neg =>
    rw [if_neg h0, if_neg h0]
    generalize inC (moC ms x) (woB ms w) = c at *
    generalize woB ms w = b at *
    refine AC.of_body 0 Try.func16 rfl (fun l h => absurd rfl h) (fun C hC => ?_)
    have hD : ∀ l, ¬ C.D0 l := fun l h => (hC l).1 h rfl
    simp only [startFr, Try.ntmps16, List.length_cons, List.length_nil, Nat.reduceAdd, Nat.reduceSub, List.replicate_succ, List.replicate_zero, List.cons_append, List.nil_append]
    repeat' (first | ((first | apply Ba | (apply Bb; (· rfl); (· rfl)) | (apply Bc; (· exact nxE)) | (apply Bd; (· rfl); (· rfl); (· exact nxE))); (· first | exact Kz rfl rfl (hWo) (Ad (Ad An)) | exact Kz rfl rfl (hCo) (Ad (Ad (Ad An))) | exact Ok.pe)) | ((first | apply Ca | (apply Cb; (· exact nxE))); (· first | exact Ok.e0)) | refine Sx ?_ | (refine Sy (fun h => ?_) (fun h => ?_) <;> try (exfalso; omega; done)) | refine Sz (fun h => ?_) (fun h => ?_))
    refine Yb ?_
    (apply Le.headZ (hs := []) [] rfl)
    all_goals (try dsimp only [srcs])
    (case' hfr => (repeat' (first | refine La ?_ ?_ | exact Lc | refine Lo ?_ | refine ⟨⟨_, rfl, ?_⟩, ?_⟩ | refine Lx ?_)))
    all_goals (first | exact Ld | exact trivial | (rfl))
  rw [if_pos h0, if_pos h0]
  obtain ⟨h1, h2⟩ := inC_ok h0
  obtain ⟨n, ho, t0, q, e, _, h00, _⟩ := moC_ok h1
  rw [h0] at hCo
  rw [h2] at hCo hWo
  obtain ⟨u, rfl, hu, hmem⟩ := woB_nat h2
  have hn2 := ho.n2
  have hO := l01OwnD_ac x (by omega)
  rw [cN_toNat, show (ms.headD []).length = n by rw [e]; exact h00.sq.l]
  have hur : (IR (cN u)).length = u.length := by simp
  have hown := hO
  clear hO
  refine AC.of_body 0 Try.func16 rfl (fun l h => absurd rfl h) (fun C hC => ?_)
  have hD : ∀ l, ¬ C.D0 l := fun l h => (hC l).1 h rfl
  simp only [startFr, Try.ntmps16, List.length_cons, List.length_nil, Nat.reduceAdd, Nat.reduceSub, List.replicate_succ, List.replicate_zero, List.cons_append, List.nil_append]
  repeat' (first | ((first | apply Ba | (apply Bb; (· rfl); (· rfl)) | (apply Bc; (· exact nxE)) | (apply Bd; (· rfl); (· rfl); (· exact nxE))); (· first | exact Kz rfl rfl (hWo) (Ad (Ad An)) | exact Kz rfl rfl (hCo) (Ad (Ad (Ad An))) | exact Kz rfl rfl (hown) (Ad An) | exact Ok.pe)) | ((first | apply Ca | (apply Cb; (· exact nxE))); (· first | exact Ok.e0)) | refine Sx ?_ | (refine Sy (fun h => ?_) (fun h => ?_) <;> try (exfalso; omega; done)) | refine Sz (fun h => ?_) (fun h => ?_))
  refine AW.loop (X := {s : Nat × List Int // s.1 ≤ u.length ∧ s.2.length = n ∧ s.2.all isVal = true ∧ afR ms n u x = afR ms n (u.drop s.1) s.2}) (fun s => ⟨[QL ms, Oo, IL (cN u), Oo, Oo, Oo, Oo, Oo, Oo, IL s.1.2, I (s.1.1 : Nat), Oo, Oo, Oo, Oo, Oo, Oo, Oo, Oo, Oo, Oo, Oo, Oo, Oo, Oo, Oo, Oo, Oo, Oo, Oo, Oo, Oo, Oo, Oo, Oo, Oo, Oo, Oo, Oo, Oo, Oo], heapL [], 900⟩) (fun s => u.length - s.1.1) ⟨(0, x), Nat.zero_le _, ho.l, ho.v, rfl⟩ ?_ (fun s => ?_)
  ·
    (apply Le.headZ [] rfl)
    all_goals (try dsimp only [srcs])
    (case' hfr | hob => (repeat' (first | refine La ?_ ?_ | exact Lc | refine Lo ?_ | refine ⟨⟨_, rfl, ?_⟩, ?_⟩ | refine Lx ?_)))
    all_goals (first | (rfl) | exact Ld)
  obtain ⟨⟨k, y⟩, hk, hy, hyv, hR⟩ := s
  simp only at hk hy hyv hR ⊢
  rw [hR]
  by_cases hlt : k < u.length
  case neg =>
    rw [List.drop_of_length_le (by omega)]
    simp only [afR]
    repeat' (first | ((first | apply Ba | (apply Bb; (· rfl); (· rfl)) | (apply Bc; (· exact nxE)) | (apply Bd; (· rfl); (· rfl); (· exact nxE))); (· first | exact Ok.lenD rfl rfl hur | exact Ok.pe)) | ((first | apply Ca | (apply Cb; (· exact nxE))); (· first | exact Ok.e0)) | refine Sx ?_ | (refine Sy (fun h => ?_) (fun h => ?_) <;> try (exfalso; omega; done)) | refine Sz (fun h => ?_) (fun h => ?_))
    refine Yb ?_
    (apply Le.headZ (hs := []) [] rfl)
    all_goals (try dsimp only [srcs])
    (case' hfr => (repeat' (first | refine La ?_ ?_ | exact Lc | refine Lo ?_ | refine ⟨⟨_, rfl, ?_⟩, ?_⟩ | refine Lx ?_)))
    all_goals (first | exact Ld | exact trivial | (rfl))
  have hcell := cN_get (getD_atW hlt)
  have hmk : u.getD k 0 < ms.length := hmem _ (List.mem_of_getElem? (getD_atW hlt))
  have hdrop : u.drop k = u.getD k 0 :: u.drop (k + 1) := by
    rw [List.drop_eq_getElem_cons hlt, List.getD_eq_getElem?_getD, List.getElem?_eq_getElem hlt]; rfl
  have hget : ms[u.getD k 0]? = some (ms.getD (u.getD k 0) []) := getQ_atW hmk
  have hrow := QR_get hget
  have hMt := ho.ok _ (List.mem_of_getElem? hget)
  rw [hdrop]
  simp only [afR]
  rw [hdrop] at hR
  simp only [afR] at hR
  generalize u.getD k 0 = m at *
  generalize ms.getD m [] = t at *
  have hS := applyStep_ac t n hMt y hy hyv
  have hV := l02Vector_ac (stepL t n y) (by rw [stepL_len]; omega)
  have hsl : (stepL t n y).length = n := stepL_len
  rw [vec_all (by have := ho.n1; omega)] at hV
  have hQ := hS
  clear hS
  generalize stepL t n y = z at *
  cases hz : z.all isVal
  · rw [hz] at hV
    rw [if_neg (by simp)]
    repeat' (first | ((first | apply Ba | (apply Bb; (· rfl); (· rfl)) | (apply Bc; (· exact nxE)) | (apply Bd; (· rfl); (· rfl); (· exact nxE))); (· first | exact Ok.lenD rfl rfl hur | exact Kz rfl rfl (hQ) (Ad (Ad An)) | exact Kz rfl rfl (hV) (Ad An) | exact Ok.pe)) | ((first | apply Ca | (apply Cb; (· exact nxE))); (· first | exact Ok.e0)) | refine Sx ?_ | (refine Sy (fun h => ?_) (fun h => ?_) <;> try (exfalso; omega; done)) | refine Sz (fun h => ?_) (fun h => ?_))
    refine Yb ?_
    (apply Le.headZ (hs := []) [] rfl)
    all_goals (try dsimp only [srcs])
    (case' hfr => (repeat' (first | refine La ?_ ?_ | exact Lc | refine Lo ?_ | refine ⟨⟨_, rfl, ?_⟩, ?_⟩ | refine Lx ?_)))
    all_goals (first | exact Ld | exact trivial | (rfl))
  · rw [hz] at hV
    rw [hz, if_pos rfl] at hR
    rw [if_pos rfl, ← hR]
    repeat' (first | ((first | apply Ba | (apply Bb; (· rfl); (· rfl)) | (apply Bc; (· exact nxE)) | (apply Bd; (· rfl); (· rfl); (· exact nxE))); (· first | exact Ok.lenD rfl rfl hur | exact Kz rfl rfl (hQ) (Ad (Ad An)) | exact Kz rfl rfl (hV) (Ad An) | exact Ok.pe)) | ((first | apply Ca | (apply Cb; (· exact nxE))); (· first | exact Ok.e0)) | refine Sx ?_ | (refine Sy (fun h => ?_) (fun h => ?_) <;> try (exfalso; omega; done)) | refine Sz (fun h => ?_) (fun h => ?_))
    refine ⟨⟨(k + 1, z), by simp only; omega, hsl, hz, hR⟩, ?_, by simp only; omega⟩
    (apply Le.headZ [] rfl)
    all_goals (try dsimp only [srcs])
    (case' hfr | hob => (repeat' (first | refine La ?_ ?_ | exact Lc | refine Lo ?_ | refine ⟨⟨_, rfl, ?_⟩, ?_⟩ | refine Lx ?_)))
    all_goals (first | (rfl) | exact Ld)
set_option maxHeartbeats 2000000 in
theorem iAfterWord_ac [Mode] (ms : List (List (List Int))) (hm : MsOk ms) (x : List Int) (hx : x.length ≤ 1000000) (w : List Int) (hw : w.length ≤ 1000000) : AC Try.prog 15 [QL ms, IL x, IL w] H0 (.tup [IL (afL ms x w), I (afC ms x w)]) H0 := by
  have hWo := isWord_ac ms w hm.n hw
  have hCo := checkModes_ac ms hm x hx
  unfold afL afC
  by_cases h1 : moC ms x = 0
  case neg =>
    have e : inC (moC ms x) (woB ms w) = moC ms x := by unfold inC; rw [if_neg h1]
    rw [e, if_neg h1, if_neg h1]
    generalize moC ms x = c at *
    refine AC.of_body 0 Try.func15 rfl (fun l h => absurd rfl h) (fun C hC => ?_)
    have hD : ∀ l, ¬ C.D0 l := fun l h => (hC l).1 h rfl
    simp only [startFr, Try.ntmps15, List.length_cons, List.length_nil, Nat.reduceAdd, Nat.reduceSub, List.replicate_succ, List.replicate_zero, List.cons_append, List.nil_append]
    repeat' (first | ((first | apply Ba | (apply Bb; (· rfl); (· rfl)) | (apply Bc; (· exact nxE)) | (apply Bd; (· rfl); (· rfl); (· exact nxE))); (· first | exact Kz rfl rfl (hCo) (Ad (Ad An)) | exact Ok.pe)) | ((first | apply Ca | (apply Cb; (· exact nxE))); (· first | exact Ok.e0)) | refine Sx ?_ | (refine Sy (fun h => ?_) (fun h => ?_) <;> try (exfalso; omega; done)) | refine Sz (fun h => ?_) (fun h => ?_))
    refine Yb ?_
    (apply Le.headZ (hs := []) [] rfl)
    all_goals (try dsimp only [srcs])
    (case' hfr => (repeat' (first | refine La ?_ ?_ | exact Lc | refine Lo ?_ | refine ⟨⟨_, rfl, ?_⟩, ?_⟩ | refine Lx ?_)))
    all_goals (first | exact Ld | exact trivial | (rfl))
  rw [h1] at hCo
  cases h2 : woB ms w
  · have e : inC (moC ms x) false = 2 := by unfold inC; rw [if_pos h1]; rfl
    rw [e, if_neg (by decide), if_neg (by decide)]
    rw [h2] at hWo
    refine AC.of_body 0 Try.func15 rfl (fun l h => absurd rfl h) (fun C hC => ?_)
    have hD : ∀ l, ¬ C.D0 l := fun l h => (hC l).1 h rfl
    simp only [startFr, Try.ntmps15, List.length_cons, List.length_nil, Nat.reduceAdd, Nat.reduceSub, List.replicate_succ, List.replicate_zero, List.cons_append, List.nil_append]
    repeat' (first | ((first | apply Ba | (apply Bb; (· rfl); (· rfl)) | (apply Bc; (· exact nxE)) | (apply Bd; (· rfl); (· rfl); (· exact nxE))); (· first | exact Kz rfl rfl (hCo) (Ad (Ad An)) | exact Kz rfl rfl (hWo) (Ad (Ad An)) | exact Ok.pe)) | ((first | apply Ca | (apply Cb; (· exact nxE))); (· first | exact Ok.e0)) | refine Sx ?_ | (refine Sy (fun h => ?_) (fun h => ?_) <;> try (exfalso; omega; done)) | refine Sz (fun h => ?_) (fun h => ?_))
    refine Yb ?_
    (apply Le.headZ (hs := []) [] rfl)
    all_goals (try dsimp only [srcs])
    (case' hfr => (repeat' (first | refine La ?_ ?_ | exact Lc | refine Lo ?_ | refine ⟨⟨_, rfl, ?_⟩, ?_⟩ | refine Lx ?_)))
    all_goals (first | exact Ld | exact trivial | (rfl))
  have e0 : inC (moC ms x) true = 0 := by unfold inC; rw [if_pos h1]; rfl
  rw [e0, if_pos rfl, if_pos rfl]
  rw [h2] at hWo
  obtain ⟨n, ho, t0, q, e, _, h00, _⟩ := moC_ok h1
  obtain ⟨u, rfl, hu, hmem⟩ := woB_nat h2
  have hn2 := ho.n2
  have hO := cloneD_ac x (by omega)
  rw [cN_toNat, show (ms.headD []).length = n by rw [e]; exact h00.sq.l]
  have hur : (IR (cN u)).length = u.length := by simp
  have hown := hO
  clear hO
  refine AC.of_body 0 Try.func15 rfl (fun l h => absurd rfl h) (fun C hC => ?_)
  have hD : ∀ l, ¬ C.D0 l := fun l h => (hC l).1 h rfl
  simp only [startFr, Try.ntmps15, List.length_cons, List.length_nil, Nat.reduceAdd, Nat.reduceSub, List.replicate_succ, List.replicate_zero, List.cons_append, List.nil_append]
  repeat' (first | ((first | apply Ba | (apply Bb; (· rfl); (· rfl)) | (apply Bc; (· exact nxE)) | (apply Bd; (· rfl); (· rfl); (· exact nxE))); (· first | exact Kz rfl rfl (hCo) (Ad (Ad An)) | exact Kz rfl rfl (hWo) (Ad (Ad An)) | exact Kz rfl rfl (hown) (Ad An) | exact Ok.lenD rfl rfl hur | exact Ok.pe)) | ((first | apply Ca | (apply Cb; (· exact nxE))); (· first | exact Ok.e0)) | refine Sx ?_ | (refine Sy (fun h => ?_) (fun h => ?_) <;> try (exfalso; omega; done)) | refine Sz (fun h => ?_) (fun h => ?_))
  refine AW.loop (X := {s : Nat × List Int // s.1 ≤ u.length ∧ s.2.length = n ∧ s.2.all isVal = true ∧ afR ms n u x = afR ms n (u.drop s.1) s.2}) (fun s => ⟨[QL ms, IL s.1.2, Oo, Oo, Oo, Oo, Oo, Oo, Oo, Oo, Oo, Oo, Oo, Oo, Oo, Oo, Oo, Oo, Oo, Oo, Oo, Oo, Oo, IL (cN u), I u.length, I (s.1.1 : Nat), Oo, Oo, Oo, Oo, Oo, Oo, Oo, Oo, Oo, Oo, Oo, Oo, Oo, Oo], heapL [], 900⟩) (fun s => u.length - s.1.1) ⟨(0, x), Nat.zero_le _, ho.l, ho.v, rfl⟩ ?_ (fun s => ?_)
  ·
    (apply Le.headZ [] rfl)
    all_goals (try dsimp only [srcs])
    (case' hfr | hob => (repeat' (first | refine La ?_ ?_ | exact Lc | refine Lo ?_ | refine ⟨⟨_, rfl, ?_⟩, ?_⟩ | refine Lx ?_)))
    all_goals (first | (rfl) | exact Ld)
  obtain ⟨⟨k, y⟩, hk, hy, hyv, hR⟩ := s
  simp only at hk hy hyv hR ⊢
  rw [hR]
  by_cases hlt : k < u.length
  case neg =>
    rw [List.drop_of_length_le (by omega)]
    simp only [afR]
    repeat' (first | ((first | apply Ba | (apply Bb; (· rfl); (· rfl)) | (apply Bc; (· exact nxE)) | (apply Bd; (· rfl); (· rfl); (· exact nxE))); (· first | exact Ok.pe)) | ((first | apply Ca | (apply Cb; (· exact nxE))); (· first | exact Ok.e0)) | refine Sx ?_ | (refine Sy (fun h => ?_) (fun h => ?_) <;> try (exfalso; omega; done)) | refine Sz (fun h => ?_) (fun h => ?_))
    refine Yb ?_
    (apply Le.headZ (hs := []) [] rfl)
    all_goals (try dsimp only [srcs])
    (case' hfr => (repeat' (first | refine La ?_ ?_ | exact Lc | refine Lo ?_ | refine ⟨⟨_, rfl, ?_⟩, ?_⟩ | refine Lx ?_)))
    all_goals (first | exact Ld | exact trivial | (rfl))
  have hcell := cN_get (getD_atW hlt)
  have hmk : u.getD k 0 < ms.length := hmem _ (List.mem_of_getElem? (getD_atW hlt))
  have hdrop : u.drop k = u.getD k 0 :: u.drop (k + 1) := by
    rw [List.drop_eq_getElem_cons hlt, List.getD_eq_getElem?_getD, List.getElem?_eq_getElem hlt]; rfl
  have hget : ms[u.getD k 0]? = some (ms.getD (u.getD k 0) []) := getQ_atW hmk
  have hrow := QR_get hget
  have hMt := ho.ok _ (List.mem_of_getElem? hget)
  rw [hdrop]
  simp only [afR]
  rw [hdrop] at hR
  simp only [afR] at hR
  generalize u.getD k 0 = m at *
  generalize ms.getD m [] = t at *
  have hS := timesStep_ac t n hMt y hy hyv
  have hV := areValues_ac (stepL t n y) (by rw [stepL_len]; omega)
  have hsl : (stepL t n y).length = n := stepL_len
  have hQ := hS
  clear hS
  generalize stepL t n y = z at *
  cases hz : z.all isVal
  · rw [hz] at hV
    rw [if_neg (by simp)]
    repeat' (first | ((first | apply Ba | (apply Bb; (· rfl); (· rfl)) | (apply Bc; (· exact nxE)) | (apply Bd; (· rfl); (· rfl); (· exact nxE))); (· first | exact Kz rfl rfl (hQ) (Ad (Ad An)) | exact Kz rfl rfl (hV) (Ad An) | exact Ok.pe)) | ((first | apply Ca | (apply Cb; (· exact nxE))); (· first | exact Ok.e0)) | refine Sx ?_ | (refine Sy (fun h => ?_) (fun h => ?_) <;> try (exfalso; omega; done)) | refine Sz (fun h => ?_) (fun h => ?_))
    refine Yb ?_
    (apply Le.headZ (hs := []) [] rfl)
    all_goals (try dsimp only [srcs])
    (case' hfr => (repeat' (first | refine La ?_ ?_ | exact Lc | refine Lo ?_ | refine ⟨⟨_, rfl, ?_⟩, ?_⟩ | refine Lx ?_)))
    all_goals (first | exact Ld | exact trivial | (rfl))
  · rw [hz] at hV
    rw [hz, if_pos rfl] at hR
    rw [if_pos rfl, ← hR]
    repeat' (first | ((first | apply Ba | (apply Bb; (· rfl); (· rfl)) | (apply Bc; (· exact nxE)) | (apply Bd; (· rfl); (· rfl); (· exact nxE))); (· first | exact Kz rfl rfl (hQ) (Ad (Ad An)) | exact Kz rfl rfl (hV) (Ad An) | exact Ok.pe)) | ((first | apply Ca | (apply Cb; (· exact nxE))); (· first | exact Ok.e0)) | refine Sx ?_ | (refine Sy (fun h => ?_) (fun h => ?_) <;> try (exfalso; omega; done)) | refine Sz (fun h => ?_) (fun h => ?_))
    refine ⟨⟨(k + 1, z), by simp only; omega, hsl, hz, hR⟩, ?_, by simp only; omega⟩
    (apply Le.headZ [] rfl)
    all_goals (try dsimp only [srcs])
    (case' hfr | hob => (repeat' (first | refine La ?_ ?_ | exact Lc | refine Lo ?_ | refine ⟨⟨_, rfl, ?_⟩, ?_⟩ | refine Lx ?_)))
    all_goals (first | (rfl) | exact Ld)
/-! ### The greatest vectors -/
theorem smT_ok [Mode] {n : Nat} : ∀ {q : List (List (List Int))} {t0 : List (List Int)}, MatOk t0 n → (∀ t ∈ q, MatOk t n) → MatOk (smT n t0 q) n
  | [], _, h0, _ => h0
  | t :: q, t0, h0, hq => by
    have ht := hq t (by simp)
    refine smT_ok (q := q) (t0 := tabF n n (addF t0 t)) ⟨⟨tabF_len, tabF_rc.r⟩, h0.pos, h0.le, fun u v hne => ?_⟩ (fun s hs => hq s (by simp [hs]))
    by_cases hv : v < n
    · by_cases hu : u < n
      · rw [tabF_ent hv hu] at hne ⊢
        unfold addF at hne ⊢
        have e1 := h0.b u v
        have e2 := ht.b u v
        unfold BOT at *
        omega
      · have := entN_out (t := tabF n n (addF t0 t)) tabF_rc hv hu
        rw [this]; omega
    · have := entN_out2 (t := tabF n n (addF t0 t)) (u := u) (tabF_rc (m := n) (n := n)) hv
      rw [this]; omega
def grR (A : List (List Int)) (n : Nat) : Nat → List Int → Option (List Int)
  | 0, x => some x
  | k + 1, x => if (stepL A n x).all isVal = true then grR A n k (stepL A n x) else none
def grC (ms : List (List (List Int))) (x : List Int) (k : Int) : Int := if inC (moC ms x) (wi k 0 6) = 0 then (match grR (smM ms) (ms.headD []).length k.toNat x with | none => 3 | some _ => 0) else inC (moC ms x) (wi k 0 6)
def grL (ms : List (List (List Int))) (x : List Int) (k : Int) : List Int := if inC (moC ms x) (wi k 0 6) = 0 then (match grR (smM ms) (ms.headD []).length k.toNat x with | none => [] | some y => y) else []
set_option maxHeartbeats 2000000 in
theorem sGreatestAfter_ac [Mode] (ms : List (List (List Int))) (hm : MsOk ms) (x : List Int) (hx : x.length ≤ 1000000) (k : Int) : AC Try.prog 13 [QL ms, IL x, I k] H0 (.tup [IL (grL ms x k), I (grC ms x k)]) H0 := by
  have hIn := l01In_ac k 0 6
  have hCo := l25Code_ac ms hm x hx (wi k 0 6)
  unfold grL grC
  by_cases h0 : inC (moC ms x) (wi k 0 6) = 0
  case neg =>
    rw [if_neg h0, if_neg h0]
    generalize inC (moC ms x) (wi k 0 6) = c at *
    generalize wi k 0 6 = b at *
    refine AC.of_body 0 Try.func13 rfl (fun l h => absurd rfl h) (fun C hC => ?_)
    have hD : ∀ l, ¬ C.D0 l := fun l h => (hC l).1 h rfl
    simp only [startFr, Try.ntmps13, List.length_cons, List.length_nil, Nat.reduceAdd, Nat.reduceSub, List.replicate_succ, List.replicate_zero, List.cons_append, List.nil_append]
    repeat' (first | ((first | apply Ba | (apply Bb; (· rfl); (· rfl)) | (apply Bc; (· exact nxE)) | (apply Bd; (· rfl); (· rfl); (· exact nxE))); (· first | exact Kz rfl rfl (hIn) (Ad (Ad (Ad An))) | exact Kz rfl rfl (hCo) (Ad (Ad (Ad An))) | exact Ok.pe)) | ((first | apply Ca | (apply Cb; (· exact nxE))); (· first | exact Ok.e0)) | refine Sx ?_ | (refine Sy (fun h => ?_) (fun h => ?_) <;> try (exfalso; omega; done)) | refine Sz (fun h => ?_) (fun h => ?_))
    refine Yb ?_
    (apply Le.headZ (hs := []) [] rfl)
    all_goals (try dsimp only [srcs])
    (case' hfr => (repeat' (first | refine La ?_ ?_ | exact Lc | refine Lo ?_ | refine ⟨⟨_, rfl, ?_⟩, ?_⟩ | refine Lx ?_)))
    all_goals (first | exact Ld | exact trivial | (rfl))
  rw [if_pos h0, if_pos h0]
  obtain ⟨h1, h2⟩ := inC_ok h0
  obtain ⟨n, ho, t0, q, e, hq3, h00, hqs⟩ := moC_ok h1
  rw [h0] at hCo
  rw [h2] at hCo hIn
  have hk6 := wi_iff.1 h2
  obtain ⟨N, rfl⟩ : ∃ N : Nat, k = N := ⟨k.toNat, by omega⟩
  have hn2 := ho.n2
  have hO := l01OwnD_ac x (by omega)
  have hSu := l25Sum_ac t0 q n h00 hqs hq3
  have hA := smT_ok h00 hqs
  have esm : smM ms = smT n t0 q := by rw [e]; unfold smM; rw [show ((t0 :: q).headD []).length = n from h00.sq.l]; rfl
  rw [esm, show (ms.headD []).length = n by rw [e]; exact h00.sq.l, Int.toNat_natCast]
  rw [← e] at hSu
  have hown := hO
  clear hO
  generalize smT n t0 q = A at *
  refine AC.of_body 0 Try.func13 rfl (fun l h => absurd rfl h) (fun C hC => ?_)
  have hD : ∀ l, ¬ C.D0 l := fun l h => (hC l).1 h rfl
  simp only [startFr, Try.ntmps13, List.length_cons, List.length_nil, Nat.reduceAdd, Nat.reduceSub, List.replicate_succ, List.replicate_zero, List.cons_append, List.nil_append]
  repeat' (first | ((first | apply Ba | (apply Bb; (· rfl); (· rfl)) | (apply Bc; (· exact nxE)) | (apply Bd; (· rfl); (· rfl); (· exact nxE))); (· first | exact Kz rfl rfl (hIn) (Ad (Ad (Ad An))) | exact Kz rfl rfl (hCo) (Ad (Ad (Ad An))) | exact Kz rfl rfl (hSu) (Ad An) | exact Kz rfl rfl (hown) (Ad An) | exact Ok.pe)) | ((first | apply Ca | (apply Cb; (· exact nxE))); (· first | exact Ok.e0)) | refine Sx ?_ | (refine Sy (fun h => ?_) (fun h => ?_) <;> try (exfalso; omega; done)) | refine Sz (fun h => ?_) (fun h => ?_))
  refine AW.loop (X := {s : Nat × List Int // s.1 ≤ 6 ∧ s.2.length = n ∧ s.2.all isVal = true ∧ grR A n N x = grR A n s.1 s.2}) (fun s => ⟨[Oo, Oo, I (s.1.1 : Nat), Oo, Oo, Oo, Oo, Oo, Oo, TL A, IL s.1.2, Oo, Oo, Oo, Oo, Oo, Oo, Oo, Oo, Oo, Oo, Oo, Oo, Oo, Oo, Oo, Oo, Oo, Oo, Oo, Oo, Oo, Oo, Oo], heapL [], 900⟩) (fun s => s.1.1) ⟨(N, x), by simp only; omega, ho.l, ho.v, rfl⟩ ?_ (fun s => ?_)
  ·
    (apply Le.headZ [] rfl)
    all_goals (try dsimp only [srcs])
    (case' hfr | hob => (repeat' (first | refine La ?_ ?_ | exact Lc | refine Lo ?_ | refine ⟨⟨_, rfl, ?_⟩, ?_⟩ | refine Lx ?_)))
    all_goals (first | (rfl) | exact Ld)
  obtain ⟨⟨j, y⟩, hj, hy, hyv, hR⟩ := s
  simp only at hj hy hyv hR ⊢
  rw [hR]
  cases j with
  | zero =>
    simp only [grR]
    repeat' (first | ((first | apply Ba | (apply Bb; (· rfl); (· rfl)) | (apply Bc; (· exact nxE)) | (apply Bd; (· rfl); (· rfl); (· exact nxE))); (· first | exact Ok.pe)) | ((first | apply Ca | (apply Cb; (· exact nxE))); (· first | exact Ok.e0)) | refine Sx ?_ | (refine Sy (fun h => ?_) (fun h => ?_) <;> try (exfalso; omega; done)) | refine Sz (fun h => ?_) (fun h => ?_))
    refine Yb ?_
    (apply Le.headZ (hs := []) [] rfl)
    all_goals (try dsimp only [srcs])
    (case' hfr => (repeat' (first | refine La ?_ ?_ | exact Lc | refine Lo ?_ | refine ⟨⟨_, rfl, ?_⟩, ?_⟩ | refine Lx ?_)))
    all_goals (first | exact Ld | exact trivial | (rfl))
  | succ j =>
    simp only [grR]
    simp only [grR] at hR
    have hS := applyStep_ac A n hA y hy hyv
    have hV := l02Vector_ac (stepL A n y) (by rw [stepL_len]; omega)
    have hsl : (stepL A n y).length = n := stepL_len
    rw [vec_all (by have := ho.n1; omega)] at hV
    have hQ := hS
    clear hS
    generalize stepL A n y = z at *
    cases hz : z.all isVal
    · rw [hz] at hV
      rw [if_neg (by simp)]
      repeat' (first | ((first | apply Ba | (apply Bb; (· rfl); (· rfl)) | (apply Bc; (· exact nxE)) | (apply Bd; (· rfl); (· rfl); (· exact nxE))); (· first | exact Kz rfl rfl (hQ) (Ad (Ad An)) | exact Kz rfl rfl (hV) (Ad An) | exact Ok.pe)) | ((first | apply Ca | (apply Cb; (· exact nxE))); (· first | exact Ok.e0)) | refine Sx ?_ | (refine Sy (fun h => ?_) (fun h => ?_) <;> try (exfalso; omega; done)) | refine Sz (fun h => ?_) (fun h => ?_))
      refine Yb ?_
      (apply Le.headZ (hs := []) [] rfl)
      all_goals (try dsimp only [srcs])
      (case' hfr => (repeat' (first | refine La ?_ ?_ | exact Lc | refine Lo ?_ | refine ⟨⟨_, rfl, ?_⟩, ?_⟩ | refine Lx ?_)))
      all_goals (first | exact Ld | exact trivial | (rfl))
    · rw [hz] at hV
      rw [hz, if_pos rfl] at hR
      rw [if_pos rfl, ← hR]
      repeat' (first | ((first | apply Ba | (apply Bb; (· rfl); (· rfl)) | (apply Bc; (· exact nxE)) | (apply Bd; (· rfl); (· rfl); (· exact nxE))); (· first | exact Kz rfl rfl (hQ) (Ad (Ad An)) | exact Kz rfl rfl (hV) (Ad An) | exact Ok.pe)) | ((first | apply Ca | (apply Cb; (· exact nxE))); (· first | exact Ok.e0)) | refine Sx ?_ | (refine Sy (fun h => ?_) (fun h => ?_) <;> try (exfalso; omega; done)) | refine Sz (fun h => ?_) (fun h => ?_))
      refine ⟨⟨(j, z), by simp only; omega, hsl, hz, hR⟩, ?_, by simp only; omega⟩
      (apply Le.headZ [] rfl)
      all_goals (try dsimp only [srcs])
      (case' hfr | hob => (repeat' (first | refine La ?_ ?_ | exact Lc | refine Lo ?_ | refine ⟨⟨_, rfl, ?_⟩, ?_⟩ | refine Lx ?_)))
      all_goals (first | ((first | rfl | (simp; done) | (congr 1; omega) | omega)) | exact Ld)
set_option maxHeartbeats 2000000 in
theorem iGreatestAfter_ac [Mode] (ms : List (List (List Int))) (hm : MsOk ms) (x : List Int) (hx : x.length ≤ 1000000) (k : Int) : AC Try.prog 12 [QL ms, IL x, I k] H0 (.tup [IL (grL ms x k), I (grC ms x k)]) H0 := by
  have hIn := within_ac k 0 6
  have hCo := checkModes_ac ms hm x hx
  unfold grL grC
  by_cases h1 : moC ms x = 0
  case neg =>
    have e : inC (moC ms x) (wi k 0 6) = moC ms x := by unfold inC; rw [if_neg h1]
    rw [e, if_neg h1, if_neg h1]
    generalize moC ms x = c at *
    refine AC.of_body 0 Try.func12 rfl (fun l h => absurd rfl h) (fun C hC => ?_)
    have hD : ∀ l, ¬ C.D0 l := fun l h => (hC l).1 h rfl
    simp only [startFr, Try.ntmps12, List.length_cons, List.length_nil, Nat.reduceAdd, Nat.reduceSub, List.replicate_succ, List.replicate_zero, List.cons_append, List.nil_append]
    repeat' (first | ((first | apply Ba | (apply Bb; (· rfl); (· rfl)) | (apply Bc; (· exact nxE)) | (apply Bd; (· rfl); (· rfl); (· exact nxE))); (· first | exact Kz rfl rfl (hCo) (Ad (Ad An)) | exact Ok.pe)) | ((first | apply Ca | (apply Cb; (· exact nxE))); (· first | exact Ok.e0)) | refine Sx ?_ | (refine Sy (fun h => ?_) (fun h => ?_) <;> try (exfalso; omega; done)) | refine Sz (fun h => ?_) (fun h => ?_))
    refine Yb ?_
    (apply Le.headZ (hs := []) [] rfl)
    all_goals (try dsimp only [srcs])
    (case' hfr => (repeat' (first | refine La ?_ ?_ | exact Lc | refine Lo ?_ | refine ⟨⟨_, rfl, ?_⟩, ?_⟩ | refine Lx ?_)))
    all_goals (first | exact Ld | exact trivial | (rfl))
  rw [h1] at hCo
  cases h2 : wi k 0 6
  · have e : inC (moC ms x) false = 2 := by unfold inC; rw [if_pos h1]; rfl
    rw [e, if_neg (by decide), if_neg (by decide)]
    rw [h2] at hIn
    refine AC.of_body 0 Try.func12 rfl (fun l h => absurd rfl h) (fun C hC => ?_)
    have hD : ∀ l, ¬ C.D0 l := fun l h => (hC l).1 h rfl
    simp only [startFr, Try.ntmps12, List.length_cons, List.length_nil, Nat.reduceAdd, Nat.reduceSub, List.replicate_succ, List.replicate_zero, List.cons_append, List.nil_append]
    repeat' (first | ((first | apply Ba | (apply Bb; (· rfl); (· rfl)) | (apply Bc; (· exact nxE)) | (apply Bd; (· rfl); (· rfl); (· exact nxE))); (· first | exact Kz rfl rfl (hCo) (Ad (Ad An)) | exact Kz rfl rfl (hIn) (Ad (Ad (Ad An))) | exact Ok.pe)) | ((first | apply Ca | (apply Cb; (· exact nxE))); (· first | exact Ok.e0)) | refine Sx ?_ | (refine Sy (fun h => ?_) (fun h => ?_) <;> try (exfalso; omega; done)) | refine Sz (fun h => ?_) (fun h => ?_))
    refine Yb ?_
    (apply Le.headZ (hs := []) [] rfl)
    all_goals (try dsimp only [srcs])
    (case' hfr => (repeat' (first | refine La ?_ ?_ | exact Lc | refine Lo ?_ | refine ⟨⟨_, rfl, ?_⟩, ?_⟩ | refine Lx ?_)))
    all_goals (first | exact Ld | exact trivial | (rfl))
  have e0 : inC (moC ms x) true = 0 := by unfold inC; rw [if_pos h1]; rfl
  rw [e0, if_pos rfl, if_pos rfl]
  rw [h2] at hIn
  obtain ⟨n, ho, t0, q, e, hq3, h00, hqs⟩ := moC_ok h1
  have hk6 := wi_iff.1 h2
  obtain ⟨N, rfl⟩ : ∃ N : Nat, k = N := ⟨k.toNat, by omega⟩
  have hn2 := ho.n2
  have hO := cloneD_ac x (by omega)
  have hSu := sumOfModes_ac t0 q n h00 hqs hq3
  have hA := smT_ok h00 hqs
  have esm : smM ms = smT n t0 q := by rw [e]; unfold smM; rw [show ((t0 :: q).headD []).length = n from h00.sq.l]; rfl
  rw [esm, show (ms.headD []).length = n by rw [e]; exact h00.sq.l, Int.toNat_natCast]
  rw [← e] at hSu
  have hown := hO
  clear hO
  generalize smT n t0 q = A at *
  refine AC.of_body 0 Try.func12 rfl (fun l h => absurd rfl h) (fun C hC => ?_)
  have hD : ∀ l, ¬ C.D0 l := fun l h => (hC l).1 h rfl
  simp only [startFr, Try.ntmps12, List.length_cons, List.length_nil, Nat.reduceAdd, Nat.reduceSub, List.replicate_succ, List.replicate_zero, List.cons_append, List.nil_append]
  repeat' (first | ((first | apply Ba | (apply Bb; (· rfl); (· rfl)) | (apply Bc; (· exact nxE)) | (apply Bd; (· rfl); (· rfl); (· exact nxE))); (· first | exact Kz rfl rfl (hCo) (Ad (Ad An)) | exact Kz rfl rfl (hIn) (Ad (Ad (Ad An))) | exact Kz rfl rfl (hSu) (Ad An) | exact Kz rfl rfl (hown) (Ad An) | exact Ok.pe)) | ((first | apply Ca | (apply Cb; (· exact nxE))); (· first | exact Ok.e0)) | refine Sx ?_ | (refine Sy (fun h => ?_) (fun h => ?_) <;> try (exfalso; omega; done)) | refine Sz (fun h => ?_) (fun h => ?_))
  refine AW.loop (X := {s : Nat × List Int // s.1 ≤ N ∧ s.2.length = n ∧ s.2.all isVal = true ∧ grR A n N x = grR A n (N - s.1) s.2}) (fun s => ⟨[Oo, IL s.1.2, Oo, Oo, Oo, Oo, Oo, Oo, Oo, TL A, Oo, Oo, Oo, Oo, Oo, Oo, Oo, Oo, Oo, Oo, Oo, Oo, Oo, I (N : Nat), I (s.1.1 : Nat), Oo, Oo, Oo, Oo, Oo, Oo, Oo, Oo, Oo], heapL [], 900⟩) (fun s => N - s.1.1) ⟨(0, x), by simp only; omega, ho.l, ho.v, by simp only [Nat.sub_zero]⟩ ?_ (fun s => ?_)
  ·
    (apply Le.headZ [] rfl)
    all_goals (try dsimp only [srcs])
    (case' hfr | hob => (repeat' (first | refine La ?_ ?_ | exact Lc | refine Lo ?_ | refine ⟨⟨_, rfl, ?_⟩, ?_⟩ | refine Lx ?_)))
    all_goals (first | (rfl) | exact Ld)
  obtain ⟨⟨j, y⟩, hj, hy, hyv, hR⟩ := s
  simp only at hj hy hyv hR ⊢
  rw [hR]
  by_cases hlt : j < N
  case neg =>
    rw [show N - j = 0 by omega]
    simp only [grR]
    repeat' (first | ((first | apply Ba | (apply Bb; (· rfl); (· rfl)) | (apply Bc; (· exact nxE)) | (apply Bd; (· rfl); (· rfl); (· exact nxE))); (· first | exact Ok.pe)) | ((first | apply Ca | (apply Cb; (· exact nxE))); (· first | exact Ok.e0)) | refine Sx ?_ | (refine Sy (fun h => ?_) (fun h => ?_) <;> try (exfalso; omega; done)) | refine Sz (fun h => ?_) (fun h => ?_))
    refine Yb ?_
    (apply Le.headZ (hs := []) [] rfl)
    all_goals (try dsimp only [srcs])
    (case' hfr => (repeat' (first | refine La ?_ ?_ | exact Lc | refine Lo ?_ | refine ⟨⟨_, rfl, ?_⟩, ?_⟩ | refine Lx ?_)))
    all_goals (first | exact Ld | exact trivial | (rfl))
  rw [show N - j = (N - (j + 1)) + 1 by omega]
  rw [show N - j = (N - (j + 1)) + 1 by omega] at hR
  simp only [grR]
  simp only [grR] at hR
  have hS := timesStep_ac A n hA y hy hyv
  have hV := areValues_ac (stepL A n y) (by rw [stepL_len]; omega)
  have hsl : (stepL A n y).length = n := stepL_len
  have hQ := hS
  clear hS
  generalize stepL A n y = z at *
  cases hz : z.all isVal
  · rw [hz] at hV
    rw [if_neg (by simp)]
    repeat' (first | ((first | apply Ba | (apply Bb; (· rfl); (· rfl)) | (apply Bc; (· exact nxE)) | (apply Bd; (· rfl); (· rfl); (· exact nxE))); (· first | exact Kz rfl rfl (hQ) (Ad (Ad An)) | exact Kz rfl rfl (hV) (Ad An) | exact Ok.pe)) | ((first | apply Ca | (apply Cb; (· exact nxE))); (· first | exact Ok.e0)) | refine Sx ?_ | (refine Sy (fun h => ?_) (fun h => ?_) <;> try (exfalso; omega; done)) | refine Sz (fun h => ?_) (fun h => ?_))
    refine Yb ?_
    (apply Le.headZ (hs := []) [] rfl)
    all_goals (try dsimp only [srcs])
    (case' hfr => (repeat' (first | refine La ?_ ?_ | exact Lc | refine Lo ?_ | refine ⟨⟨_, rfl, ?_⟩, ?_⟩ | refine Lx ?_)))
    all_goals (first | exact Ld | exact trivial | (rfl))
  · rw [hz] at hV
    rw [hz, if_pos rfl] at hR
    rw [if_pos rfl, ← hR]
    repeat' (first | ((first | apply Ba | (apply Bb; (· rfl); (· rfl)) | (apply Bc; (· exact nxE)) | (apply Bd; (· rfl); (· rfl); (· exact nxE))); (· first | exact Kz rfl rfl (hQ) (Ad (Ad An)) | exact Kz rfl rfl (hV) (Ad An) | exact Ok.pe)) | ((first | apply Ca | (apply Cb; (· exact nxE))); (· first | exact Ok.e0)) | refine Sx ?_ | (refine Sy (fun h => ?_) (fun h => ?_) <;> try (exfalso; omega; done)) | refine Sz (fun h => ?_) (fun h => ?_))
    refine ⟨⟨(j + 1, z), by simp only; omega, hsl, hz, hR⟩, ?_, by simp only; omega⟩
    (apply Le.headZ [] rfl)
    all_goals (try dsimp only [srcs])
    (case' hfr | hob => (repeat' (first | refine La ?_ ?_ | exact Lc | refine Lo ?_ | refine ⟨⟨_, rfl, ?_⟩, ?_⟩ | refine Lx ?_)))
    all_goals (first | (rfl) | exact Ld)
end Go.Proofs.Ytdgodkpobomneaa
end

section
namespace Go.Proofs.Ytdgodkpobomneaa
set_option linter.unusedSimpArgs false
set_option linter.unusedVariables false
open Go Go.RowKit
attribute [local irreducible] AL AD AW OpOk Le AC thenQ blockQ EndQ

end Go.Proofs.Ytdgodkpobomneaa
end

section
namespace Go.Proofs.Ytdgodkpobomneaa
set_option linter.unusedSimpArgs false
set_option linter.unusedVariables false
open Go Go.RowKit
attribute [local irreducible] AL AD AW OpOk Le AC thenQ blockQ EndQ

def allM (t : List (List Int)) : Bool := t.all fun r => r.all isVal
theorem isMat_sq [Mode] {t : List (List Int)} {n : Nat} (h : Sq t n) (h1 : 1 ≤ n) (h2 : n ≤ 10) : isMat t = allM t := by
  rw [isMat_all]
  have hc : colN t = n := by
    unfold colN
    cases t with
    | nil => have := h.l; simp at this; omega
    | cons a q => exact h.r a (by simp)
  rw [hc, decide_eq_true (by have := h.l; omega), Bool.true_and]
  unfold allM
  rw [Bool.eq_iff_iff, List.all_eq_true, List.all_eq_true]
  constructor
  · intro hh r hr
    have := hh r hr
    unfold okM isVec at this
    simp only [Bool.and_eq_true] at this
    exact this.1.2
  · intro hh r hr
    have := hh r hr
    unfold okM isVec
    rw [this, wi_iff.2 (by have := h.r r hr; omega), h.r r hr]
    simp
theorem ckFn_ac [Mode] (r : List Int) (hr : r.length ≤ 100000000) : AC Try.prog 124 [IL r] H0 (Bo (!(r.all isVal))) H0 := by
  have hA := areValues_ac r hr
  refine AC.of_body 0 Try.func124 rfl (fun l h => absurd rfl h) (fun C hC => ?_)
  have hD : ∀ l, ¬ C.D0 l := fun l h => (hC l).1 h rfl
  simp only [startFr, Try.ntmps124, List.length_cons, List.length_nil, Nat.reduceAdd, Nat.reduceSub, List.replicate_succ, List.replicate_zero, List.cons_append, List.nil_append]
  repeat' (first | ((first | apply Ba | (apply Bb; (· rfl); (· rfl)) | (apply Bc; (· exact nxE)) | (apply Bd; (· rfl); (· rfl); (· exact nxE))); (· first | exact Kz rfl rfl (hA) (Ad An) | exact Ok.pe)) | ((first | apply Ca | (apply Cb; (· exact nxE))); (· first | exact Ok.e0)) | refine Sx ?_ | (refine Sy (fun h => ?_) (fun h => ?_) <;> try (exfalso; omega; done)) | refine Sz (fun h => ?_) (fun h => ?_))
  refine Ya ?_
  (apply Le.headZ (hs := []) [] rfl)
  all_goals (try dsimp only [srcs])
  (case' hfr => (repeat' (first | refine La ?_ ?_ | exact Lc | refine Lo ?_ | refine ⟨⟨_, rfl, ?_⟩, ?_⟩ | refine Lx ?_)))
  all_goals (first | exact Ld | exact trivial | (rfl))
theorem checkedMatrix_ac [Mode] (t : List (List Int)) (ht : t.length ≤ 100000000) (hr : ∀ r ∈ t, r.length ≤ 100000000) : AC Try.prog 67 [TL t] H0 (.tup [TL (if allM t = true then t else []), I (if allM t = true then 0 else 3)]) H0 := by
  have hQ : AC Try.prog 123 [TL t, .clo (.func 124) [] []] H0 (Bo (t.any fun r => !(r.all isVal))) H0 := containsFuncT_ac t ht 124 [] [] (by simp) (by simp) (by intro p hp; simp at hp) (by simp) 0 (by simp) (fun r => !(r.all isVal)) (fun r h => ckFn_ac r (hr r h))
  rw [show (t.any fun r => !(r.all isVal)) = !(allM t) by unfold allM; rw [List.all_eq_not_any_not, Bool.not_not]] at hQ
  cases ha : allM t
  · rw [ha] at hQ
    simp only [Bool.false_eq_true, if_false]
    refine AC.of_body 0 Try.func67 rfl (fun l h => absurd rfl h) (fun C hC => ?_)
    have hD : ∀ l, ¬ C.D0 l := fun l h => (hC l).1 h rfl
    simp only [startFr, Try.ntmps67, List.length_cons, List.length_nil, Nat.reduceAdd, Nat.reduceSub, List.replicate_succ, List.replicate_zero, List.cons_append, List.nil_append]
    repeat' (first | ((first | apply Ba | (apply Bb; (· rfl); (· rfl)) | (apply Bc; (· exact nxE)) | (apply Bd; (· rfl); (· rfl); (· exact nxE))); (· first | exact Ez rfl rfl hQ (Sd (Ce Sn)) | exact Ok.pe)) | ((first | apply Ca | (apply Cb; (· exact nxE))); (· first | exact Ok.e0)) | refine Sx ?_ | (refine Sy (fun h => ?_) (fun h => ?_) <;> try (exfalso; omega; done)) | refine Sz (fun h => ?_) (fun h => ?_))
    refine Yb ?_
    (apply Le.headZ (hs := []) [] rfl)
    all_goals (try dsimp only [srcs])
    (case' hfr => (repeat' (first | refine La ?_ ?_ | exact Lc | refine Lo ?_ | refine ⟨⟨_, rfl, ?_⟩, ?_⟩ | refine Lx ?_)))
    all_goals (first | exact Ld | exact trivial | (rfl))
  · rw [ha] at hQ
    simp only [if_true]
    refine AC.of_body 0 Try.func67 rfl (fun l h => absurd rfl h) (fun C hC => ?_)
    have hD : ∀ l, ¬ C.D0 l := fun l h => (hC l).1 h rfl
    simp only [startFr, Try.ntmps67, List.length_cons, List.length_nil, Nat.reduceAdd, Nat.reduceSub, List.replicate_succ, List.replicate_zero, List.cons_append, List.nil_append]
    repeat' (first | ((first | apply Ba | (apply Bb; (· rfl); (· rfl)) | (apply Bc; (· exact nxE)) | (apply Bd; (· rfl); (· rfl); (· exact nxE))); (· first | exact Ez rfl rfl hQ (Sd (Ce Sn)) | exact Ok.pe)) | ((first | apply Ca | (apply Cb; (· exact nxE))); (· first | exact Ok.e0)) | refine Sx ?_ | (refine Sy (fun h => ?_) (fun h => ?_) <;> try (exfalso; omega; done)) | refine Sz (fun h => ?_) (fun h => ?_))
    refine Yb ?_
    (apply Le.headZ (hs := []) [] rfl)
    all_goals (try dsimp only [srcs])
    (case' hfr => (repeat' (first | refine La ?_ ?_ | exact Lc | refine Lo ?_ | refine ⟨⟨_, rfl, ?_⟩, ?_⟩ | refine Lx ?_)))
    all_goals (first | exact Ld | exact trivial | (rfl))
theorem checkedVector_ac [Mode] (x : List Int) (hx : x.length ≤ 100000000) : AC Try.prog 71 [IL x] H0 (.tup [IL (if x.all isVal = true then x else []), I (if x.all isVal = true then 0 else 3)]) H0 := by
  have hA := areValues_ac x hx
  cases ha : x.all isVal
  · rw [ha] at hA
    simp only [Bool.false_eq_true, if_false]
    refine AC.of_body 0 Try.func71 rfl (fun l h => absurd rfl h) (fun C hC => ?_)
    have hD : ∀ l, ¬ C.D0 l := fun l h => (hC l).1 h rfl
    simp only [startFr, Try.ntmps71, List.length_cons, List.length_nil, Nat.reduceAdd, Nat.reduceSub, List.replicate_succ, List.replicate_zero, List.cons_append, List.nil_append]
    repeat' (first | ((first | apply Ba | (apply Bb; (· rfl); (· rfl)) | (apply Bc; (· exact nxE)) | (apply Bd; (· rfl); (· rfl); (· exact nxE))); (· first | exact Kz rfl rfl (hA) (Ad An) | exact Ok.pe)) | ((first | apply Ca | (apply Cb; (· exact nxE))); (· first | exact Ok.e0)) | refine Sx ?_ | (refine Sy (fun h => ?_) (fun h => ?_) <;> try (exfalso; omega; done)) | refine Sz (fun h => ?_) (fun h => ?_))
    refine Yb ?_
    (apply Le.headZ (hs := []) [] rfl)
    all_goals (try dsimp only [srcs])
    (case' hfr => (repeat' (first | refine La ?_ ?_ | exact Lc | refine Lo ?_ | refine ⟨⟨_, rfl, ?_⟩, ?_⟩ | refine Lx ?_)))
    all_goals (first | exact Ld | exact trivial | (rfl))
  · rw [ha] at hA
    simp only [if_true]
    refine AC.of_body 0 Try.func71 rfl (fun l h => absurd rfl h) (fun C hC => ?_)
    have hD : ∀ l, ¬ C.D0 l := fun l h => (hC l).1 h rfl
    simp only [startFr, Try.ntmps71, List.length_cons, List.length_nil, Nat.reduceAdd, Nat.reduceSub, List.replicate_succ, List.replicate_zero, List.cons_append, List.nil_append]
    repeat' (first | ((first | apply Ba | (apply Bb; (· rfl); (· rfl)) | (apply Bc; (· exact nxE)) | (apply Bd; (· rfl); (· rfl); (· exact nxE))); (· first | exact Kz rfl rfl (hA) (Ad An) | exact Ok.pe)) | ((first | apply Ca | (apply Cb; (· exact nxE))); (· first | exact Ok.e0)) | refine Sx ?_ | (refine Sy (fun h => ?_) (fun h => ?_) <;> try (exfalso; omega; done)) | refine Sz (fun h => ?_) (fun h => ?_))
    refine Yb ?_
    (apply Le.headZ (hs := []) [] rfl)
    all_goals (try dsimp only [srcs])
    (case' hfr => (repeat' (first | refine La ?_ ?_ | exact Lc | refine Lo ?_ | refine ⟨⟨_, rfl, ?_⟩, ?_⟩ | refine Lx ?_)))
    all_goals (first | exact Ld | exact trivial | (rfl))
end Go.Proofs.Ytdgodkpobomneaa
end
