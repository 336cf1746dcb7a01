/-
  Walks in the abstract reading: shifted timetables, by both sides; the least period can be kept, and no shorter one.
-/
import Derived.Test.YtpgcmpbamlnkkaaKtU12
namespace Go.Proofs.Ytpgcmpbamlnkkaa
set_option linter.unusedSimpArgs false
set_option linter.unusedVariables false
open Go Go.RowKit
attribute [local irreducible] AL AD AW OpOk Le AC thenQ blockQ EndQ

def shM (st : List Int) (b : Int) (K : Nat) : Nat → Int := fun v => if v < K then st.getD v 0 + b else st.getD v 0
abbrev shS (st : List Int) (b : Int) : List Int := rowF st.length fun v => st.getD v 0 + b
theorem shM_0 {st : List Int} {b : Int} : rowF st.length (shM st b 0) = st := by
  apply List.ext_getElem?
  intro i
  by_cases hi : i < st.length
  · rw [rowF_get hi]; simp [shM, List.getElem?_eq_getElem hi]
  · rw [List.getElem?_eq_none (by rw [rowF_len]; omega), List.getElem?_eq_none (by omega)]
theorem shM_all {st : List Int} {b : Int} : rowF st.length (shM st b st.length) = shS st b := rowF_congr fun j hj => by simp only [shM, if_pos hj]
theorem shM_set {st : List Int} {b : Int} {K : Nat} {x : Int} (hx : st.getD K 0 + b = x) : (IR (rowF st.length (shM st b K))).set K [DI x] = IR (rowF st.length (shM st b (K + 1))) := by
  have h : (IR (rowF st.length (shM st b K))).set K [DI x] = IR ((rowF st.length (shM st b K)).set K x) := IR_set
  rw [h, rowF_set]
  congr 1
  refine rowF_congr fun j hj => ?_
  simp only [shM]
  by_cases e : j = K
  · subst e; rw [if_pos rfl, if_pos (by omega), hx]
  · rw [if_neg e]
    by_cases e2 : j < K
    · rw [if_pos e2, if_pos (by omega)]
    · rw [if_neg e2, if_neg (by omega)]
def shC (ev : Int) (xs : List Pl) (P : Int) (st : List Int) (b : Int) : Int := if ttC ev xs P st = 0 then (if wi b (-1000000) 1000000 = true then (if ttB ev P (shS st b) = true then 0 else 3) else 2) else ttC ev xs P st
def shP (ev : Int) (xs : List Pl) (P : Int) (st : List Int) (b : Int) : Int := if shC ev xs P st b = 0 then P else 0
def shO (ev : Int) (xs : List Pl) (P : Int) (st : List Int) (b : Int) : List Int := if shC ev xs P st b = 0 then shS st b else []
theorem sh_no {ev : Int} {xs : List Pl} {P : Int} {st : List Int} {b c : Int} (h : shC ev xs P st b = c) (hc : c ≠ 0) : shP ev xs P st b = 0 ∧ shO ev xs P st b = [] := by
  unfold shP shO
  rw [h, if_neg hc, if_neg hc]
  exact ⟨rfl, rfl⟩
theorem sh_yes {ev : Int} {xs : List Pl} {P : Int} {st : List Int} {b : Int} (h : shC ev xs P st b = 0) : shP ev xs P st b = P ∧ shO ev xs P st b = shS st b := by
  unfold shP shO
  rw [if_pos h, if_pos h]
  exact ⟨rfl, rfl⟩
theorem l07Shift_ac (st : List Int) (b : Int) (hl : st.length ≤ 1000) (hs : ∀ j, j < st.length → 0 ≤ st.getD j 0 ∧ st.getD j 0 ≤ 1000000) (hb : -1000000 ≤ b ∧ b ≤ 1000000) : AC Try.prog 136 [IL st, I b] H0 (IL (shS st b)) H0 := by
  have hsr : (IR st).length = st.length := IR_len
  refine AC.of_body 0 Try.func136 rfl (fun l h => absurd rfl h) (fun C hC => ?_)
  have hD : ∀ l, ¬ C.D0 l := fun l h => (hC l).1 h rfl
  simp only [startFr, Try.ntmps136, List.length_cons, List.length_nil, Nat.reduceAdd, Nat.reduceSub, List.replicate_succ, List.replicate_zero, List.cons_append, List.nil_append]
  repeat' (first | ((first | apply Ba | (apply Bb; (· rfl); (· rfl)) | (apply Bc; (· exact nxE)) | (apply Bd; (· rfl); (· rfl); (· exact nxE))); (· first | exact Ok.pe)) | ((first | apply Ca | (apply Cb; (· exact nxE))); (· first | exact Ok.e0)) | refine Sx ?_ | (refine Sy (fun h => ?_) (fun h => ?_) <;> try (exfalso; omega; done)) | refine Sz (fun h => ?_) (fun h => ?_))
  refine AW.loop (X := {k : Nat // k ≤ st.length}) (fun k => ⟨[IL st, I b, Oo, Oo, Oo, .own 1 ⟨0, []⟩ 0 (k.1 : Nat), I (k.1 : Nat), Oo, Oo, Oo, Oo, Oo, Oo, Oo, Oo, Oo, Oo, Oo, Oo, Oo, Oo, Oo, Oo, Oo], heapL [(⟨0, []⟩, ⟨0, []⟩, IO (rowF k.1 fun v => st.getD v 0 + b))], 900⟩) (fun k => st.length - k.1) ⟨0, Nat.zero_le _⟩ ?_ (fun k => ?_)
  ·
    (apply Le.headZ [_] rfl)
    all_goals (try dsimp only [srcs])
    (case' hfr | hob => (repeat' (first | refine La ?_ ?_ | exact Lc | refine Lo ?_ | refine ⟨⟨_, rfl, ?_⟩, ?_⟩ | refine Lx ?_)))
    all_goals (first | (rfl) | exact Ld)
  obtain ⟨k, hk⟩ := k
  simp only
  by_cases hlt : k < st.length
  case neg =>
    obtain rfl : k = st.length := by omega
    have hlen : (IR (shS st b)).length = st.length := by rw [IR_len, rowF_len]
    repeat' (first | ((first | apply Ba | (apply Bb; (· rfl); (· rfl)) | (apply Bc; (· exact nxE)) | (apply Bd; (· rfl); (· rfl); (· exact nxE))); (· first | exact Ok.lenD rfl rfl hsr | exact Ok.pe)) | ((first | apply Ca | (apply Cb; (· exact nxE))); (· first | exact Ok.e0)) | refine Sx ?_ | (refine Sy (fun h => ?_) (fun h => ?_) <;> try (exfalso; omega; done)) | refine Sz (fun h => ?_) (fun h => ?_))
    refine Ya ?_
    (apply Le.headZ (hs := []) [] rfl)
    all_goals (try dsimp only [srcs])
    (case' hfr => (repeat' (first | refine La ?_ ?_ | exact Lc | refine Lo ?_ | refine ⟨⟨_, rfl, ?_⟩, ?_⟩ | refine Lx ?_)))
    all_goals (first | exact Ld | exact trivial | (rfl))
  have hcell := tb_cell (x := st) (v := k) rfl (by omega)
  rw [Int.toNat_natCast] at hcell
  have hv := hs k hlt
  have hT := l01Times_ac (st.getD k 0) b (fun _ _ => by omega)
  rw [show timesB (st.getD k 0) b = st.getD k 0 + b by unfold timesB BOT; rw [if_neg (by omega)]] at hT
  have hm : (fun v => st.getD v 0 + b) k = st.getD k 0 + b := rfl
  have hol : (IR (rowF k fun v => st.getD v 0 + b)).length = k := by rw [IR_len, rowF_len]
  have hx := rowF_next (g := fun v => st.getD v 0 + b) (k := k) hm
  generalize (fun v => st.getD v 0 + b) = g at *
  generalize st.getD k 0 = a at *
  have hQ := hT
  clear hT
  repeat' (first | ((first | apply Ba | (apply Bb; (· rfl); (· rfl)) | (apply Bc; (· exact nxE)) | (apply Bd; (· rfl); (· rfl); (· exact nxE))); (· first | exact Ok.lenD rfl rfl hsr | exact Kz rfl rfl (hQ) (Ad (Ad An)) | exact Ok.append1 (row := [DI (a + b)]) rfl rfl (by decide) rfl rfl hol rfl rfl rfl (by rfl) (by omega) (by omega) | exact Ok.pe)) | ((first | apply Ca | (apply Cb; (· exact nxE))); (· first | exact Ok.append1 (row := [DI (a + b)]) rfl rfl (by decide) rfl rfl hol rfl rfl rfl (by rfl) (by omega) (by omega) | exact Ok.e0)) | refine Sx ?_ | (refine Sy (fun h => ?_) (fun h => ?_) <;> try (exfalso; omega; done)) | refine Sz (fun h => ?_) (fun h => ?_))
  refine ⟨⟨k + 1, by omega⟩, ?_, by simp only; omega⟩
  (apply Le.headZ [_] rfl)
  all_goals (try dsimp only [srcs])
  (case' hfr | hob => (repeat' (first | refine La ?_ ?_ | exact Lc | refine Lo ?_ | refine ⟨⟨_, rfl, ?_⟩, ?_⟩ | refine Lx ?_)))
  all_goals (first | ((first | (rw [hx]; simp; done) | (rw [hx]; rw [IR_app]; done))) | exact Ld)
set_option maxHeartbeats 4000000 in
theorem sShiftTimetable_ac (ev : Int) (xs : List Pl) (P : Int) (st : List Int) (b : Int) (hx : xs.length ≤ 1000) (hs : st.length ≤ 1000) : AC Try.prog 46 [grD ev xs, ttA P st, I b] H0 (.tup [ttA (shP ev xs P st b) (shO ev xs P st b), I (shC ev xs P st b)]) H0 := by
  have hK := l20Code_ac ev xs P st hx (by omega)
  have hF := l01Finite_ac b
  by_cases h0 : ttC ev xs P st = 0
  case neg =>
    have e : shC ev xs P st b = ttC ev xs P st := by unfold shC; rw [if_neg h0]
    obtain ⟨e1, e2⟩ := sh_no e h0
    rw [e, e1, e2]
    generalize ttC ev xs P st = c at *
    refine AC.of_body 0 Try.func46 rfl (fun l h => absurd rfl h) (fun C hC => ?_)
    have hD : ∀ l, ¬ C.D0 l := fun l h => (hC l).1 h rfl
    simp only [startFr, Try.ntmps46, List.length_cons, List.length_nil, Nat.reduceAdd, Nat.reduceSub, List.replicate_succ, List.replicate_zero, List.cons_append, List.nil_append]
    repeat' (first | ((first | apply Ba | (apply Bb; (· rfl); (· rfl)) | (apply Bc; (· exact nxE)) | (apply Bd; (· rfl); (· rfl); (· exact nxE))); (· first | exact Kz rfl rfl (hK) (Aa (Ad (Ad An)) (Aa (Ad (Ad An)) An)) | exact Ok.pe)) | ((first | apply Ca | (apply Cb; (· exact nxE))); (· first | exact Ok.e0)) | refine Sx ?_ | (refine Sy (fun h => ?_) (fun h => ?_) <;> try (exfalso; omega; done)) | refine Sz (fun h => ?_) (fun h => ?_))
    refine Yb ?_
    (apply Le.headZ (hs := []) [] rfl)
    all_goals (try dsimp only [srcs])
    (case' hfr => (repeat' (first | refine La ?_ ?_ | exact Lc | refine Lo ?_ | refine ⟨⟨_, rfl, ?_⟩, ?_⟩ | refine Lx ?_)))
    all_goals (first | exact Ld | exact trivial | (rfl))
  obtain ⟨n, rfl, g1, g2, g3, hv, hg, ht, _⟩ := ttC_ok h0
  have hsl := ht.l
  have hss := ht.s
  rw [← hsl] at hss
  cases hf : wi b (-1000000) 1000000
  · have e : shC n xs P st b = 2 := by unfold shC; rw [if_pos h0, hf]; rfl
    obtain ⟨e1, e2⟩ := sh_no e (by decide)
    rw [e, e1, e2]
    rw [h0] at hK
    rw [hf] at hF
    refine AC.of_body 0 Try.func46 rfl (fun l h => absurd rfl h) (fun C hC => ?_)
    have hD : ∀ l, ¬ C.D0 l := fun l h => (hC l).1 h rfl
    simp only [startFr, Try.ntmps46, List.length_cons, List.length_nil, Nat.reduceAdd, Nat.reduceSub, List.replicate_succ, List.replicate_zero, List.cons_append, List.nil_append]
    repeat' (first | ((first | apply Ba | (apply Bb; (· rfl); (· rfl)) | (apply Bc; (· exact nxE)) | (apply Bd; (· rfl); (· rfl); (· exact nxE))); (· first | exact Kz rfl rfl (hK) (Aa (Ad (Ad An)) (Aa (Ad (Ad An)) An)) | exact Kz rfl rfl (hF) (Ad An) | exact Ok.pe)) | ((first | apply Ca | (apply Cb; (· exact nxE))); (· first | exact Ok.e0)) | refine Sx ?_ | (refine Sy (fun h => ?_) (fun h => ?_) <;> try (exfalso; omega; done)) | refine Sz (fun h => ?_) (fun h => ?_))
    refine Yb ?_
    (apply Le.headZ (hs := []) [] rfl)
    all_goals (try dsimp only [srcs])
    (case' hfr => (repeat' (first | refine La ?_ ?_ | exact Lc | refine Lo ?_ | refine ⟨⟨_, rfl, ?_⟩, ?_⟩ | refine Lx ?_)))
    all_goals (first | exact Ld | exact trivial | (rfl))
  have hb := wi_iff.1 hf
  have hS := l07Shift_ac st b hs hss hb
  have hl2 : (shS st b).length = st.length := rowF_len
  have hT := sIsTimetable_ac n xs P (shS st b) hx (by omega)
  rw [hg, Bool.true_and] at hT
  rw [h0] at hK
  rw [hf] at hF
  have hQ := hS
  clear hS
  cases hb2 : ttB n P (shS st b)
  · have e : shC n xs P st b = 3 := by unfold shC; rw [if_pos h0, hf, if_pos rfl, hb2]; rfl
    obtain ⟨e1, e2⟩ := sh_no e (by decide)
    rw [e, e1, e2]
    rw [hb2] at hT
    generalize shS st b = y at *
    refine AC.of_body 0 Try.func46 rfl (fun l h => absurd rfl h) (fun C hC => ?_)
    have hD : ∀ l, ¬ C.D0 l := fun l h => (hC l).1 h rfl
    simp only [startFr, Try.ntmps46, List.length_cons, List.length_nil, Nat.reduceAdd, Nat.reduceSub, List.replicate_succ, List.replicate_zero, List.cons_append, List.nil_append]
    repeat' (first | ((first | apply Ba | (apply Bb; (· rfl); (· rfl)) | (apply Bc; (· exact nxE)) | (apply Bd; (· rfl); (· rfl); (· exact nxE))); (· first | exact Kz rfl rfl (hK) (Aa (Ad (Ad An)) (Aa (Ad (Ad An)) An)) | exact Kz rfl rfl (hF) (Ad An) | exact Kz rfl rfl (hQ) (Ad (Ad An)) | exact Kz rfl rfl (hT) (Aa (Ad (Ad An)) (Aa (Ad (Ad An)) An)) | exact Ok.pe)) | ((first | apply Ca | (apply Cb; (· exact nxE))); (· first | exact Ok.e0)) | refine Sx ?_ | (refine Sy (fun h => ?_) (fun h => ?_) <;> try (exfalso; omega; done)) | refine Sz (fun h => ?_) (fun h => ?_))
    refine Yb ?_
    (apply Le.headZ (hs := []) [] rfl)
    all_goals (try dsimp only [srcs])
    (case' hfr => (repeat' (first | refine La ?_ ?_ | exact Lc | refine Lo ?_ | refine ⟨⟨_, rfl, ?_⟩, ?_⟩ | refine Lx ?_)))
    all_goals (first | exact Ld | exact trivial | (rfl))
  · have e : shC n xs P st b = 0 := by unfold shC; rw [if_pos h0, hf, if_pos rfl, hb2]; rfl
    obtain ⟨e1, e2⟩ := sh_yes e
    rw [e, e1, e2]
    rw [hb2] at hT
    generalize shS st b = y at *
    refine AC.of_body 0 Try.func46 rfl (fun l h => absurd rfl h) (fun C hC => ?_)
    have hD : ∀ l, ¬ C.D0 l := fun l h => (hC l).1 h rfl
    simp only [startFr, Try.ntmps46, List.length_cons, List.length_nil, Nat.reduceAdd, Nat.reduceSub, List.replicate_succ, List.replicate_zero, List.cons_append, List.nil_append]
    repeat' (first | ((first | apply Ba | (apply Bb; (· rfl); (· rfl)) | (apply Bc; (· exact nxE)) | (apply Bd; (· rfl); (· rfl); (· exact nxE))); (· first | exact Kz rfl rfl (hK) (Aa (Ad (Ad An)) (Aa (Ad (Ad An)) An)) | exact Kz rfl rfl (hF) (Ad An) | exact Kz rfl rfl (hQ) (Ad (Ad An)) | exact Kz rfl rfl (hT) (Aa (Ad (Ad An)) (Aa (Ad (Ad An)) An)) | exact Ok.pe)) | ((first | apply Ca | (apply Cb; (· exact nxE))); (· first | exact Ok.e0)) | refine Sx ?_ | (refine Sy (fun h => ?_) (fun h => ?_) <;> try (exfalso; omega; done)) | refine Sz (fun h => ?_) (fun h => ?_))
    refine Yb ?_
    (apply Le.headZ (hs := []) [] rfl)
    all_goals (try dsimp only [srcs])
    (case' hfr => (repeat' (first | refine La ?_ ?_ | exact Lc | refine Lo ?_ | refine ⟨⟨_, rfl, ?_⟩, ?_⟩ | refine Lx ?_)))
    all_goals (first | exact Ld | exact trivial | (rfl))
set_option maxHeartbeats 4000000 in
theorem iShiftTimetable_ac (ev : Int) (xs : List Pl) (P : Int) (st : List Int) (b : Int) (hx : xs.length ≤ 1000) (hs : st.length ≤ 1000) : AC Try.prog 45 [grD ev xs, ttA P st, I b] H0 (.tup [ttA (shP ev xs P st b) (shO ev xs P st b), I (shC ev xs P st b)]) H0 := by
  have hE := iIsEventGraph_ac ev xs (by omega)
  have hT := isTimetable_ac ev xs P st (by omega)
  have hF := isFinite_ac b
  cases hg : isEG ev xs
  · have e : shC ev xs P st b = 1 := by unfold shC ttC; rw [hg]; simp
    obtain ⟨e1, e2⟩ := sh_no e (by decide)
    rw [e, e1, e2]
    rw [hg] at hE
    refine AC.of_body 0 Try.func45 rfl (fun l h => absurd rfl h) (fun C hC => ?_)
    have hD : ∀ l, ¬ C.D0 l := fun l h => (hC l).1 h rfl
    simp only [startFr, Try.ntmps45, List.length_cons, List.length_nil, Nat.reduceAdd, Nat.reduceSub, List.replicate_succ, List.replicate_zero, List.cons_append, List.nil_append]
    repeat' (first | ((first | apply Ba | (apply Bb; (· rfl); (· rfl)) | (apply Bc; (· exact nxE)) | (apply Bd; (· rfl); (· rfl); (· exact nxE))); (· first | exact Kz rfl rfl (hE) (Aa (Ad (Ad An)) An) | exact Ok.pe)) | ((first | apply Ca | (apply Cb; (· exact nxE))); (· first | exact Ok.e0)) | refine Sx ?_ | (refine Sy (fun h => ?_) (fun h => ?_) <;> try (exfalso; omega; done)) | refine Sz (fun h => ?_) (fun h => ?_))
    refine Yb ?_
    (apply Le.headZ (hs := []) [] rfl)
    all_goals (try dsimp only [srcs])
    (case' hfr => (repeat' (first | refine La ?_ ?_ | exact Lc | refine Lo ?_ | refine ⟨⟨_, rfl, ?_⟩, ?_⟩ | refine Lx ?_)))
    all_goals (first | exact Ld | exact trivial | (rfl))
  rw [hg] at hE
  cases ht0 : ttB ev P st
  · have e : shC ev xs P st b = 2 := by unfold shC ttC; rw [hg, ht0]; simp
    obtain ⟨e1, e2⟩ := sh_no e (by decide)
    rw [e, e1, e2]
    rw [ht0] at hT
    refine AC.of_body 0 Try.func45 rfl (fun l h => absurd rfl h) (fun C hC => ?_)
    have hD : ∀ l, ¬ C.D0 l := fun l h => (hC l).1 h rfl
    simp only [startFr, Try.ntmps45, List.length_cons, List.length_nil, Nat.reduceAdd, Nat.reduceSub, List.replicate_succ, List.replicate_zero, List.cons_append, List.nil_append]
    repeat' (first | ((first | apply Ba | (apply Bb; (· rfl); (· rfl)) | (apply Bc; (· exact nxE)) | (apply Bd; (· rfl); (· rfl); (· exact nxE))); (· first | exact Kz rfl rfl (hE) (Aa (Ad (Ad An)) An) | exact Kz rfl rfl (hT) (Aa (Ad (Ad An)) (Aa (Ad (Ad An)) An)) | exact Ok.pe)) | ((first | apply Ca | (apply Cb; (· exact nxE))); (· first | exact Ok.e0)) | refine Sx ?_ | (refine Sy (fun h => ?_) (fun h => ?_) <;> try (exfalso; omega; done)) | refine Sz (fun h => ?_) (fun h => ?_))
    refine Yb ?_
    (apply Le.headZ (hs := []) [] rfl)
    all_goals (try dsimp only [srcs])
    (case' hfr => (repeat' (first | refine La ?_ ?_ | exact Lc | refine Lo ?_ | refine ⟨⟨_, rfl, ?_⟩, ?_⟩ | refine Lx ?_)))
    all_goals (first | exact Ld | exact trivial | (rfl))
  rw [ht0] at hT
  have h0 : ttC ev xs P st = 0 := by unfold ttC; rw [hg, ht0]; rfl
  obtain ⟨n, rfl, g1, g2, g3, hv, _, ht, _⟩ := ttC_ok h0
  have hsl := ht.l
  have hss := ht.s
  rw [← hsl] at hss
  cases hf : wi b (-1000000) 1000000
  · have e : shC n xs P st b = 2 := by unfold shC; rw [if_pos h0, hf]; rfl
    obtain ⟨e1, e2⟩ := sh_no e (by decide)
    rw [e, e1, e2]
    rw [hf] at hF
    refine AC.of_body 0 Try.func45 rfl (fun l h => absurd rfl h) (fun C hC => ?_)
    have hD : ∀ l, ¬ C.D0 l := fun l h => (hC l).1 h rfl
    simp only [startFr, Try.ntmps45, List.length_cons, List.length_nil, Nat.reduceAdd, Nat.reduceSub, List.replicate_succ, List.replicate_zero, List.cons_append, List.nil_append]
    repeat' (first | ((first | apply Ba | (apply Bb; (· rfl); (· rfl)) | (apply Bc; (· exact nxE)) | (apply Bd; (· rfl); (· rfl); (· exact nxE))); (· first | exact Kz rfl rfl (hE) (Aa (Ad (Ad An)) An) | exact Kz rfl rfl (hT) (Aa (Ad (Ad An)) (Aa (Ad (Ad An)) An)) | exact Kz rfl rfl (hF) (Ad An) | exact Ok.pe)) | ((first | apply Ca | (apply Cb; (· exact nxE))); (· first | exact Ok.e0)) | refine Sx ?_ | (refine Sy (fun h => ?_) (fun h => ?_) <;> try (exfalso; omega; done)) | refine Sz (fun h => ?_) (fun h => ?_))
    refine Yb ?_
    (apply Le.headZ (hs := []) [] rfl)
    all_goals (try dsimp only [srcs])
    (case' hfr => (repeat' (first | refine La ?_ ?_ | exact Lc | refine Lo ?_ | refine ⟨⟨_, rfl, ?_⟩, ?_⟩ | refine Lx ?_)))
    all_goals (first | exact Ld | exact trivial | (rfl))
  have hb := wi_iff.1 hf
  rw [hf] at hF
  have hC := cloneInt_ac st (by omega)
  have hCl := hC
  clear hC
  have hl2 : (shS st b).length = st.length := rowF_len
  have hU := isTimetable_ac n xs P (shS st b) (by omega)
  have hst0 := shM_0 (st := st) (b := b)
  have hcase : (ttB n P (shS st b) = true ∧ shC n xs P st b = 0) ∨ (ttB n P (shS st b) = false ∧ shC n xs P st b = 3) := by
    cases hb2 : ttB n P (shS st b)
    · exact .inr ⟨rfl, by unfold shC; rw [if_pos h0, hf, if_pos rfl, hb2]; rfl⟩
    · exact .inl ⟨rfl, by unfold shC; rw [if_pos h0, hf, if_pos rfl, hb2]; rfl⟩
  refine AC.of_body 0 Try.func45 rfl (fun l h => absurd rfl h) (fun C hC => ?_)
  have hD : ∀ l, ¬ C.D0 l := fun l h => (hC l).1 h rfl
  simp only [startFr, Try.ntmps45, List.length_cons, List.length_nil, Nat.reduceAdd, Nat.reduceSub, List.replicate_succ, List.replicate_zero, List.cons_append, List.nil_append]
  repeat' (first | ((first | apply Ba | (apply Bb; (· rfl); (· rfl)) | (apply Bc; (· exact nxE)) | (apply Bd; (· rfl); (· rfl); (· exact nxE))); (· first | exact Kz rfl rfl (hE) (Aa (Ad (Ad An)) An) | exact Kz rfl rfl (hT) (Aa (Ad (Ad An)) (Aa (Ad (Ad An)) An)) | exact Kz rfl rfl (hF) (Ad An) | exact Eo rfl rfl (hCl) (Sd Sn) | exact Ok.pe)) | ((first | apply Ca | (apply Cb; (· exact nxE))); (· first | exact Eo rfl rfl (hCl) (Sd Sn) | exact Ok.e0)) | refine Sx ?_ | (refine Sy (fun h => ?_) (fun h => ?_) <;> try (exfalso; omega; done)) | refine Sz (fun h => ?_) (fun h => ?_))
  refine AW.loop (X := {k : Nat // k ≤ st.length}) (fun k => ⟨[Oo, Oo, I b, Bx 2 0, Oo, Oo, Bx 2 1, Oo, Bx 2 2, Oo, Oo, Oo, Oo, Oo, Oo, Oo, Oo, Oo, Oo, Oo, Oo, Oo, Oo, Oo, Oo, Oo, Oo, Oo, Oo, Oo, Oo, Oo, I st.length, I (k.1 : Nat), Oo, Oo, Oo, Oo, Oo, Oo, Oo, Oo, Oo, Oo, Oo, Oo, Oo, Oo, Oo, Oo, Oo], heapL [(⟨0, []⟩, ⟨0, []⟩, ⟨2, [[I n, PL xs]]⟩), (⟨1, []⟩, ⟨1, []⟩, ⟨2, [[I 0, .d (.v (.slice none 0 0))]]⟩), (⟨2, []⟩, ⟨2, []⟩, ⟨2, [[I P, .own 1 ⟨3, []⟩ 0 st.length]]⟩), (⟨3, []⟩, ⟨3, []⟩, IO (rowF st.length (shM st b k.1)))], 900⟩) (fun k => st.length - k.1) ⟨0, Nat.zero_le _⟩ ?_ (fun k => ?_)
  ·
    (apply Le.headZ [_, _, _, _] rfl)
    all_goals (try dsimp only [srcs])
    (case' hfr | hob => (repeat' (first | refine La ?_ ?_ | exact Lc | refine Lo ?_ | refine ⟨⟨_, rfl, ?_⟩, ?_⟩ | refine Lx ?_)))
    all_goals (first | ((first | (rw [hst0]; done) | rfl)) | exact Ld)
  obtain ⟨k, hk⟩ := k
  simp only
  by_cases hlt : k < st.length
  · have hown := rowI_at (g := shM st b k) hlt
    have hval : shM st b k k = st.getD k 0 := by simp [shM]
    rw [hval] at hown
    have hv2 := hss k hlt
    have hset := shM_set (st := st) (b := b) (K := k) rfl
    generalize st.getD k 0 = a at *
    repeat' (first | ((first | apply Ba | (apply Bb; (· rfl); (· rfl)) | (apply Bc; (· exact nxE)) | (apply Bd; (· rfl); (· rfl); (· exact nxE))); (· first | exact Ok.ld1 rfl rfl rfl hown | exact Ok.st1 rfl rfl rfl (by simp [rowF_len]; omega) (by rw [hown]; rfl) rfl rfl hset | exact Ok.pe)) | ((first | apply Ca | (apply Cb; (· exact nxE))); (· first | exact Ok.st1 rfl rfl rfl (by simp [rowF_len]; omega) (by rw [hown]; rfl) rfl rfl hset | exact Ok.e0)) | refine Sx ?_ | (refine Sy (fun h => ?_) (fun h => ?_) <;> try (exfalso; omega; done)) | refine Sz (fun h => ?_) (fun h => ?_))
    refine ⟨⟨k + 1, by omega⟩, ?_, by simp only; omega⟩
    (apply Le.headZ [_, _, _, _] rfl)
    all_goals (try dsimp only [srcs])
    (case' hfr | hob => (repeat' (first | refine La ?_ ?_ | exact Lc | refine Lo ?_ | refine ⟨⟨_, rfl, ?_⟩, ?_⟩ | refine Lx ?_)))
    all_goals (first | (rfl) | exact Ld)
  obtain rfl : k = st.length := by omega
  obtain ⟨y, hy⟩ : ∃ y, y = shS st b := ⟨_, rfl⟩
  have hyl2 : y.length = st.length := by rw [hy]; exact rowF_len
  rw [← hy] at hU hcase
  have hyes : shC n xs P st b = 0 → shP n xs P st b = P ∧ shO n xs P st b = y := fun e => by rw [hy]; exact sh_yes e
  rw [shM_all, ← hy, ← hyl2]
  have hyl : (IR y).length = y.length := IR_len
  clear hst0 hT hCl hy
  rcases hcase with ⟨hb2, e⟩ | ⟨hb2, e⟩
  · obtain ⟨e1, e2⟩ := hyes e
    rw [e, e1, e2]
    rw [hb2] at hU
    clear hyes e1 e2
    repeat' (first | ((first | apply Ba | (apply Bb; (· rfl); (· rfl)) | (apply Bc; (· exact nxE)) | (apply Bd; (· rfl); (· rfl); (· exact nxE))); (· first | exact Ez rfl rfl (hU) (Sa (Sd (Sd Sn)) (Sa (Sd (Sw Sn)) Sn)) | exact Ok.pe)) | ((first | apply Ca | (apply Cb; (· exact nxE))); (· first | exact Ok.e0)) | refine Sx ?_ | (refine Sy (fun h => ?_) (fun h => ?_) <;> try (exfalso; omega; done)) | refine Sz (fun h => ?_) (fun h => ?_))
    refine Yb ?_
    (apply Le.headZ (hs := []) [] rfl)
    all_goals (try dsimp only [srcs])
    (case' hfr => (repeat' (first | refine La ?_ ?_ | exact Lc | refine Lo ?_ | refine ⟨⟨_, rfl, ?_⟩, ?_⟩ | refine Lx ?_)))
    all_goals (first | exact Ld | exact trivial | (rfl))
  · obtain ⟨e1, e2⟩ := sh_no e (by decide)
    rw [e, e1, e2]
    rw [hb2] at hU
    clear hyes e1 e2
    repeat' (first | ((first | apply Ba | (apply Bb; (· rfl); (· rfl)) | (apply Bc; (· exact nxE)) | (apply Bd; (· rfl); (· rfl); (· exact nxE))); (· first | exact Ez rfl rfl (hU) (Sa (Sd (Sd Sn)) (Sa (Sd (Sw Sn)) Sn)) | exact Ok.pe)) | ((first | apply Ca | (apply Cb; (· exact nxE))); (· first | exact Ok.e0)) | refine Sx ?_ | (refine Sy (fun h => ?_) (fun h => ?_) <;> try (exfalso; omega; done)) | refine Sz (fun h => ?_) (fun h => ?_))
    refine Yb ?_
    (apply Le.headZ (hs := []) [] rfl)
    all_goals (try dsimp only [srcs])
    (case' hfr => (repeat' (first | refine La ?_ ?_ | exact Lc | refine Lo ?_ | refine ⟨⟨_, rfl, ?_⟩, ?_⟩ | refine Lx ?_)))
    all_goals (first | exact Ld | exact trivial | (rfl))
/-! ### The law -/
theorem lp_law {ev : Int} {xs : List Pl} (h : lpC ev xs = 0) : etC ev xs (lpV ev xs) = 0 ∧ (0 ≤ lpV ev xs ∧ lpV ev xs ≤ 100000) ∧ (lpV ev xs = 0 ∨ ccC ev xs (lpV ev xs - 1) = 0) := by
  obtain ⟨n, rfl, g1, g2, g3, hv, hg, hb, hok, hmin⟩ := lp_ok h
  have hpr : ∀ P : Int, 0 ≤ P ∧ P ≤ 100000 → prC n xs P = 0 := fun P hP => by unfold prC; rw [hg, if_pos rfl, wi_iff.2 hP, if_pos rfl]
  refine ⟨?_, by omega, ?_⟩
  · have hW := wm_okG (r := (lpV n xs, 1)) hv (by simp only; omega) (by simp only; omega)
    have hnp : NoPos (entN (wmT n xs (lpV n xs, 1))) n := (wm_pos_iff hW hv).2 (lpOk_wgt.1 hok)
    exact (et_yes (hpr _ (by omega)) (npB_yes hnp)).1
  · by_cases h0 : lpV n xs = 0
    · exact .inl h0
    · right
      rw [(cc_yes (hpr _ (by omega))).1, if_neg]
      intro e
      have := hmin _ (by omega) ((lpOk_over hv).1 e)
      omega
theorem sh_law {ev : Int} {xs : List Pl} {P : Int} {st : List Int} {b : Int} (h : shC ev xs P st b = 0) : ttC ev xs P st = 0 ∧ shP ev xs P st b = P ∧ ttC ev xs P (shO ev xs P st b) = 0 ∧ slO ev xs P (shO ev xs P st b) = slO ev xs P st := by
  obtain ⟨e1, e2⟩ := sh_yes h
  have h0 : ttC ev xs P st = 0 := Classical.byContradiction fun hn => by unfold shC at h; rw [if_neg hn] at h; exact hn h
  obtain ⟨n, rfl, g1, g2, g3, hv, hg, ht, _⟩ := ttC_ok h0
  have hb2 : ttB n P (shS st b) = true := by
    unfold shC at h
    rw [if_pos h0] at h
    split at h
    · split at h
      · assumption
      · cases h
    · cases h
  have h1 : ttC n xs P (shS st b) = 0 := by unfold ttC; rw [hg, if_pos rfl, hb2, if_pos rfl]
  rw [e1, e2]
  refine ⟨h0, rfl, h1, ?_⟩
  unfold slO
  rw [if_pos h0, if_pos h1]
  refine rowF_congr fun i hi => ?_
  obtain ⟨⟨f1, f2⟩, ⟨t1, t2⟩, _⟩ := okPl_at hv i hi
  have hget : ∀ v : Int, 0 ≤ v ∧ v < n → (shS st b).getD v.toNat 0 = st.getD v.toNat 0 + b := fun v hv' => by
    have hlt : v.toNat < st.length := by have := ht.l; omega
    rw [List.getD_eq_getElem?_getD, rowF_get hlt]
    rfl
  unfold slF
  rw [hget _ ⟨t1, t2⟩, hget _ ⟨f1, f2⟩]
  omega
theorem sh_len {ev : Int} {xs : List Pl} {P : Int} {st : List Int} {b : Int} (hs : st.length ≤ 1000) : (shO ev xs P st b).length ≤ 1000 := by
  unfold shO
  split
  · rw [show (shS st b).length = st.length from rowF_len]; exact hs
  · simp
end Go.Proofs.Ytpgcmpbamlnkkaa
