/-
  Walks in the abstract reading, part 3.
-/
import Derived.Test.YtpgcmpbamlnkkaaKtU2
import Derived.Test.YtpgcmpbamlnkkaaKtU1
import Derived.Test.YtpgcmpbamlnkkaaKtA3
import Derived.Test.YtpgcmpbamlnkkaaKtA2
section
namespace Go.Proofs.Ytpgcmpbamlnkkaa
set_option linter.unusedSimpArgs false
set_option linter.unusedVariables false
open Go Go.RowKit
attribute [local irreducible] AL AD AW OpOk Le AC thenQ blockQ EndQ

theorem sumD_snoc {xs : List Pl} {l : List Nat} {k i : Nat} (h : l[k]? = some i) : sumD xs (l.take (k + 1)) = sumD xs (l.take k) + (plA xs i).d := by
  obtain ⟨hk, rfl⟩ := List.getElem?_eq_some_iff.1 h
  rw [List.take_succ_eq_append_getElem hk, sumD_app]; simp [sumD]
theorem sumT_snoc {xs : List Pl} {l : List Nat} {k i : Nat} (h : l[k]? = some i) : sumT xs (l.take (k + 1)) = sumT xs (l.take k) + (plA xs i).k := by
  obtain ⟨hk, rfl⟩ := List.getElem?_eq_some_iff.1 h
  rw [List.take_succ_eq_append_getElem hk, sumT_app]; simp [sumT]
theorem okPl_at {n : Nat} {xs : List Pl} (hv : ∀ p ∈ xs, okPl n p) (i : Nat) (hi : i < xs.length) : okPl n (plA xs i) := by
  unfold plA
  rw [List.getElem?_eq_getElem hi]
  exact hv _ (List.getElem_mem hi)
theorem sums_take {n : Nat} {xs : List Pl} (hv : ∀ p ∈ xs, okPl n p) {l : List Nat} (hl : ∀ i ∈ l, i < xs.length) (k : Nat) : (0 ≤ sumD xs (l.take k) ∧ sumD xs (l.take k) ≤ 10000 * l.length) ∧ (0 ≤ sumT xs (l.take k) ∧ sumT xs (l.take k) ≤ 5 * l.length) := by
  have h := sum_bnd (D := 10000) (K := 5) (xs := xs) (c := l.take k) (fun i hi => ⟨(okPl_at hv i hi).2.2.1, (okPl_at hv i hi).2.2.2⟩) (fun i hi => hl i (List.mem_of_mem_take hi))
  have : (l.take k).length ≤ l.length := by simp [List.length_take]; omega
  omega
theorem pl_row {n : Nat} {xs : List Pl} {i : Nat} (hi : i < xs.length) : (xs.map Pl.row)[((i : Nat) : Int).toNat]? = some [DI (plA xs i).f, DI (plA xs i).t, DI (plA xs i).d, DI (plA xs i).k] := by
  have h : xs[i]? = some (plA xs i) := by unfold plA; rw [List.getElem?_eq_getElem hi]; rfl
  exact row_get h
set_option maxHeartbeats 1000000 in
theorem l15Sums_ac (ev : Int) (n : Nat) (xs : List Pl) (l : List Nat) (hx : xs.length ≤ 100000000) (hv : ∀ p ∈ xs, okPl n p) (hl : ∀ i ∈ l, i < xs.length) (hn : l.length ≤ 1000) : AC Try.prog 129 [grD ev xs, IL (cN l)] H0 (.tup [I (sumD xs l), I (sumT xs l)]) H0 := by
  have hll : (IR (cN l)).length = l.length := by simp
  refine AC.of_body 0 Try.func129 rfl (fun l h => absurd rfl h) (fun C hC => ?_)
  have hD : ∀ l, ¬ C.D0 l := fun l h => (hC l).1 h rfl
  simp only [startFr, Try.ntmps129, List.length_cons, List.length_nil, Nat.reduceAdd, Nat.reduceSub, List.replicate_succ, List.replicate_zero, List.cons_append, List.nil_append]
  repeat' (first | ((first | apply Ba | (apply Bb; (· rfl); (· rfl)) | (apply Bc; (· exact nxE)) | (apply Bd; (· rfl); (· rfl); (· exact nxE))); (· first | exact Ok.pe)) | ((first | apply Ca | (apply Cb; (· exact nxE))); (· first | exact Ok.e0)) | refine Sx ?_ | (refine Sy (fun h => ?_) (fun h => ?_) <;> try (exfalso; omega; done)) | refine Sz (fun h => ?_) (fun h => ?_))
  refine AW.loop (X := {k : Nat // k ≤ l.length}) (fun k => ⟨[Oo, IL (cN l), Bx 2 0, Oo, Oo, Oo, I (sumD xs (l.take k.1)), I (sumT xs (l.take k.1)), I (k.1 : Nat), Oo, Oo, Oo, Oo, Oo, Oo, Oo, Oo, Oo, Oo, Oo, Oo, Oo, Oo, Oo, Oo, Oo, Oo, Oo, Oo, Oo, Oo, Oo, Oo, Oo, Oo, Oo, Oo, Oo, Oo], heapL [(⟨0, []⟩, ⟨0, []⟩, ⟨2, [[I ev, PL xs]]⟩)], 900⟩) (fun k => l.length - k.1) ⟨0, Nat.zero_le _⟩ ?_ (fun k => ?_)
  ·
    (apply Le.headZ [_] rfl)
    all_goals (try dsimp only [srcs])
    (case' hfr | hob => (repeat' (first | refine La ?_ ?_ | exact Lc | refine Lo ?_ | refine ⟨⟨_, rfl, ?_⟩, ?_⟩ | refine Lx ?_)))
    all_goals (first | (rfl) | exact Ld)
  obtain ⟨k, hk⟩ := k
  simp only
  by_cases hlt : k < l.length
  · obtain ⟨i, hi⟩ : ∃ i, l[k]? = some i := ⟨l[k], by simp⟩
    have hil := hl i (List.mem_of_getElem? hi)
    have hrow := IR_get (xs := cN l) (k := k) (x := (i : Int)) (by simp [hi])
    have hpl := pl_row (n := n) hil
    have ho := okPl_at hv i hil
    obtain ⟨_, _, ⟨h5, h6⟩, ⟨h7, h8⟩⟩ := ho
    have hs := sums_take hv hl k
    have hsd := sumD_snoc (xs := xs) hi
    have hsk := sumT_snoc (xs := xs) hi
    generalize sumD xs (l.take k) = D at hs hsd ⊢
    generalize sumT xs (l.take k) = K at hs hsk ⊢
    generalize plA xs i = p at *
    obtain ⟨pf, pt, pd, pk⟩ := p
    simp only at hpl h5 h6 h7 h8 hsd hsk
    repeat' (first | ((first | apply Ba | (apply Bb; (· rfl); (· rfl)) | (apply Bc; (· exact nxE)) | (apply Bd; (· rfl); (· rfl); (· exact nxE))); (· first | exact Ok.pe)) | ((first | apply Ca | (apply Cb; (· exact nxE))); (· first | exact Ok.e0)) | refine Sx ?_ | (refine Sy (fun h => ?_) (fun h => ?_) <;> try (exfalso; omega; done)) | refine Sz (fun h => ?_) (fun h => ?_))
    refine ⟨⟨k + 1, by omega⟩, ?_, by simp only; omega⟩
    (apply Le.headZ [_] rfl)
    all_goals (try dsimp only [srcs])
    (case' hfr | hob => (repeat' (first | refine La ?_ ?_ | exact Lc | refine Lo ?_ | refine ⟨⟨_, rfl, ?_⟩, ?_⟩ | refine Lx ?_)))
    all_goals (first | ((first | (rw [hsd]; done) | (rw [hsk]; done))) | exact Ld)
  ·
    have hkn : k = l.length := by omega
    subst hkn
    rw [List.take_length]
    repeat' (first | ((first | apply Ba | (apply Bb; (· rfl); (· rfl)) | (apply Bc; (· exact nxE)) | (apply Bd; (· rfl); (· rfl); (· exact nxE))); (· first | exact Ok.pe)) | ((first | apply Ca | (apply Cb; (· exact nxE))); (· first | exact Ok.e0)) | refine Sx ?_ | (refine Sy (fun h => ?_) (fun h => ?_) <;> try (exfalso; omega; done)) | refine Sz (fun h => ?_) (fun h => ?_))
    refine Yb ?_
    (apply Le.headZ (hs := []) [] rfl)
    all_goals (try dsimp only [srcs])
    (case' hfr => (repeat' (first | refine La ?_ ?_ | exact Lc | refine Lo ?_ | refine ⟨⟨_, rfl, ?_⟩, ?_⟩ | refine Lx ?_)))
    all_goals (first | exact Ld | exact trivial | (rfl))
theorem visB_at {xs : List Pl} {l : List Nat} {e : Int} {k i : Nat} (h : l[k]? = some i) : visB xs (l.drop k) e = (decide ((plA xs i).f = e) || decide ((plA xs i).t = e) || visB xs (l.drop (k + 1)) e) := by
  obtain ⟨hk, rfl⟩ := List.getElem?_eq_some_iff.1 h
  unfold visB
  rw [List.drop_eq_getElem_cons hk, List.any_cons]
set_option maxHeartbeats 1000000 in
theorem l15Visits_ac (ev : Int) (n : Nat) (xs : List Pl) (l : List Nat) (e : Int) (hx : xs.length ≤ 100000000) (hl : ∀ i ∈ l, i < xs.length) (hn : l.length ≤ 1000) : AC Try.prog 257 [grD ev xs, IL (cN l), I e] H0 (Bo (visB xs l e)) H0 := by
  have hll : (IR (cN l)).length = l.length := by simp
  refine AC.of_body 0 Try.func257 rfl (fun l h => absurd rfl h) (fun C hC => ?_)
  have hD : ∀ l, ¬ C.D0 l := fun l h => (hC l).1 h rfl
  simp only [startFr, Try.ntmps257, List.length_cons, List.length_nil, Nat.reduceAdd, Nat.reduceSub, List.replicate_succ, List.replicate_zero, List.cons_append, List.nil_append]
  repeat' (first | ((first | apply Ba | (apply Bb; (· rfl); (· rfl)) | (apply Bc; (· exact nxE)) | (apply Bd; (· rfl); (· rfl); (· exact nxE))); (· first | exact Ok.pe)) | ((first | apply Ca | (apply Cb; (· exact nxE))); (· first | exact Ok.e0)) | refine Sx ?_ | (refine Sy (fun h => ?_) (fun h => ?_) <;> try (exfalso; omega; done)) | refine Sz (fun h => ?_) (fun h => ?_))
  refine AW.loop (X := {k : Nat // k ≤ l.length ∧ visB xs l e = visB xs (l.drop k) e}) (fun k => ⟨[Oo, IL (cN l), I e, Bx 2 0, Oo, Oo, Oo, I (k.1 : Nat), Oo, Oo, Oo, Oo, Oo, Oo, Oo, Oo, Oo, Oo, Oo, Oo, Oo, Oo, Oo, Oo, Oo, Oo, Oo, Oo, Oo, Oo, Oo, Oo, Oo, Oo, Oo, Oo, Oo, Oo], heapL [(⟨0, []⟩, ⟨0, []⟩, ⟨2, [[I ev, PL xs]]⟩)], 900⟩) (fun k => l.length - k.1) ⟨0, Nat.zero_le _, by simp⟩ ?_ (fun k => ?_)
  ·
    (apply Le.headZ [_] rfl)
    all_goals (try dsimp only [srcs])
    (case' hfr | hob => (repeat' (first | refine La ?_ ?_ | exact Lc | refine Lo ?_ | refine ⟨⟨_, rfl, ?_⟩, ?_⟩ | refine Lx ?_)))
    all_goals (first | (rfl) | exact Ld)
  obtain ⟨k, hk, hall⟩ := k
  simp only
  by_cases hlt : k < l.length
  · obtain ⟨i, hi⟩ : ∃ i, l[k]? = some i := ⟨l[k], by simp⟩
    have hil := hl i (List.mem_of_getElem? hi)
    have hrow := IR_get (xs := cN l) (k := k) (x := (i : Int)) (by simp [hi])
    have hpl := pl_row (n := n) hil
    rw [visB_at hi] at hall
    generalize plA xs i = p at *
    obtain ⟨pf, pt, pd, pk⟩ := p
    simp only at hpl hall
    repeat' (first | ((first | apply Ba | (apply Bb; (· rfl); (· rfl)) | (apply Bc; (· exact nxE)) | (apply Bd; (· rfl); (· rfl); (· exact nxE))); (· first | exact Ok.pe)) | ((first | apply Ca | (apply Cb; (· exact nxE))); (· first | exact Ok.e0)) | refine Sx ?_ | (refine Sy (fun h => ?_) (fun h => ?_) <;> try (exfalso; omega; done)) | refine Sz (fun h => ?_) (fun h => ?_))
    all_goals first
      | (
        refine Ya ?_
        (apply Le.headZ (hs := []) [] rfl)
        all_goals (try dsimp only [srcs])
        (case' hfr => (repeat' (first | refine La ?_ ?_ | exact Lc | refine Lo ?_ | refine ⟨⟨_, rfl, ?_⟩, ?_⟩ | refine Lx ?_)))
        all_goals (first | exact Ld | exact trivial | ((rw [hall]; simp [*]; done)))
        done)
      | (refine ⟨⟨k + 1, by omega, by rw [hall]; simp [*]⟩, ?_, by simp only; omega⟩
         (apply Le.headZ [_] rfl)
         all_goals (try dsimp only [srcs])
         (case' hfr | hob => (repeat' (first | refine La ?_ ?_ | exact Lc | refine Lo ?_ | refine ⟨⟨_, rfl, ?_⟩, ?_⟩ | refine Lx ?_)))
         all_goals (first | (rfl) | exact Ld)
         done)
  ·
    repeat' (first | ((first | apply Ba | (apply Bb; (· rfl); (· rfl)) | (apply Bc; (· exact nxE)) | (apply Bd; (· rfl); (· rfl); (· exact nxE))); (· first | exact Ok.pe)) | ((first | apply Ca | (apply Cb; (· exact nxE))); (· first | exact Ok.e0)) | refine Sx ?_ | (refine Sy (fun h => ?_) (fun h => ?_) <;> try (exfalso; omega; done)) | refine Sz (fun h => ?_) (fun h => ?_))
    refine Ya ?_
    (apply Le.headZ (hs := []) [] rfl)
    all_goals (try dsimp only [srcs])
    (case' hfr => (repeat' (first | refine La ?_ ?_ | exact Lc | refine Lo ?_ | refine ⟨⟨_, rfl, ?_⟩, ?_⟩ | refine Lx ?_)))
    all_goals (first | exact Ld | exact trivial | ((rw [hall, List.drop_of_length_le (by omega)]; rfl)))
end Go.Proofs.Ytpgcmpbamlnkkaa
end

section
namespace Go.Proofs.Ytpgcmpbamlnkkaa
set_option linter.unusedSimpArgs false
set_option linter.unusedVariables false
open Go Go.RowKit
attribute [local irreducible] AL AD AW OpOk Le AC thenQ blockQ EndQ

theorem PathC.len {xs : List Pl} {n : Nat} {c : List Nat} (hv : ∀ p ∈ xs, okPl n p) (h : PathC xs c) : c.length ≤ n := by
  have hlt := h.wk.lt
  have hnd : (c.map fun i => (plA xs i).f.toNat).Nodup := by
    have := h.nd
    rw [List.nodup_iff_pairwise_ne, List.pairwise_map] at this ⊢
    refine List.Pairwise.imp_of_mem (R := fun a b => (plA xs a).f ≠ (plA xs b).f) ?_ this
    intro a b ha hb hne e
    have h1 := (okPl_at hv a (hlt a ha)).1
    have h2 := (okPl_at hv b (hlt b hb)).1
    omega
  have := nodup_le n _ hnd (fun x hx => by
    obtain ⟨i, hi, rfl⟩ := List.mem_map.1 hx
    have := (okPl_at hv i (hlt i hi)).1
    omega)
  simpa using this
theorem mul_in {a b A B : Int} (ha : 0 ≤ a ∧ a ≤ A) (hb : 0 ≤ b ∧ b ≤ B) : 0 ≤ a * b ∧ a * b ≤ A * B :=
  ⟨Int.mul_nonneg ha.1 hb.1, Int.mul_le_mul ha.2 hb.2 hb.1 (by omega)⟩
theorem hd_row {l : List Nat} (h : l ≠ []) : (IR (cN l))[(0 : Int).toNat]? = some [DI (hdN l)] := by
  have hpl : 0 < l.length := List.length_pos_iff.2 h
  rw [hdN_getD, List.getD_eq_getElem?_getD]; simp [List.getElem?_eq_getElem hpl]
theorem ls_row {l : List Nat} (h : l ≠ []) : (IR (cN l))[((l.length : Int) - 1).toNat]? = some [DI (lsN l)] := by
  have hpl : 0 < l.length := List.length_pos_iff.2 h
  rw [lsN_getD, List.getD_eq_getElem?_getD, show ((l.length : Int) - 1).toNat = l.length - 1 by omega]; simp [List.getElem?_eq_getElem (show l.length - 1 < l.length by omega)]
theorem hdN_mem {l : List Nat} (h : l ≠ []) : hdN l ∈ l := by cases l with | nil => exact absurd rfl h | cons => simp [hdN]
theorem lsN_mem {l : List Nat} (h : l ≠ []) : lsN l ∈ l := by
  unfold lsN
  rw [List.getLastD_eq_getLast?, List.getLast?_eq_some_getLast h]
  exact List.getLast_mem _
set_option maxHeartbeats 4000000 in
theorem l15Grow_ac (ev : Int) (n : Nat) (xs : List Pl) (u1 u2 over : Int) (hn : n ≤ 10) (hx : xs.length ≤ 1000) (hv : ∀ p ∈ xs, okPl n p) (hrn : 0 ≤ u1 ∧ u1 ≤ 100000) (hrd : 0 ≤ u2 ∧ u2 ≤ 50) : ∀ (k : Nat) (l : List Nat), PathC xs l → l.length + k = n + 1 →
    AC Try.prog 215 [grD ev xs, IL (cN l), .agg [I u1, I u2], I over] H0 (IL (cN (growC xs u1 u2 over k l))) H0
  | 0, l, hp, hk => by
    have := hp.len hv
    omega
  | fu + 1, l, hp, hk => by
    have ih := l15Grow_ac ev n xs u1 u2 over hn hx hv hrn hrd fu
    have hpl : 0 < l.length := List.length_pos_iff.2 hp.ne
    have hll : (IR (cN l)).length = l.length := by simp
    have hlt := hp.wk.lt
    have h0 := hd_row hp.ne
    have hz := ls_row hp.ne
    have hdl := hlt _ (hdN_mem hp.ne)
    have hll2 := hlt _ (lsN_mem hp.ne)
    have h1 := pl_row (n := n) hdl
    have h2 := pl_row (n := n) hll2
    have hSu := l15Sums_ac ev n xs l (by omega) hv hlt (by omega)
    have hsb := sums_take hv hlt l.length
    rw [List.take_length] at hsb
    have hm1 := mul_in hrd (show 0 ≤ sumD xs l ∧ sumD xs l ≤ 1000000 by omega)
    have hm2 := mul_in hrn (show 0 ≤ sumT xs l ∧ sumT xs l ≤ 1000 by omega)
    by_cases hcl : lastT xs l = firstF xs l
    · rw [growC, if_pos hcl, wgt_sums]
      unfold lastT firstF at hcl
      rw [hcl] at h2
      generalize plA xs (hdN l) = p at h1 h2
      generalize plA xs (lsN l) = q at h2
      obtain ⟨pf, pt, pd, pk⟩ := p
      obtain ⟨qf, qt, qd, qk⟩ := q
      simp only at h1 h2
      refine AC.of_body 0 Try.func215 rfl (fun l h => absurd rfl h) (fun C hC => ?_)
      have hD : ∀ l, ¬ C.D0 l := fun l h => (hC l).1 h rfl
      simp only [startFr, Try.ntmps215, List.length_cons, List.length_nil, Nat.reduceAdd, Nat.reduceSub, List.replicate_succ, List.replicate_zero, List.cons_append, List.nil_append]
      repeat' (first | ((first | apply Ba | (apply Bb; (· rfl); (· rfl)) | (apply Bc; (· exact nxE)) | (apply Bd; (· rfl); (· rfl); (· exact nxE))); (· first | exact Kz rfl rfl (hSu) (Aa (Ad (Ad An)) (Ad An)) | exact Ok.pe)) | ((first | apply Ca | (apply Cb; (· exact nxE))); (· first | exact Ok.e0)) | refine Sx ?_ | (refine Sy (fun h => ?_) (fun h => ?_) <;> try (exfalso; omega; done)) | refine Sz (fun h => ?_) (fun h => ?_))
      ·
        refine Ya ?_
        (apply Le.headZ (hs := []) [] rfl)
        all_goals (try dsimp only [srcs])
        (case' hfr => (repeat' (first | refine La ?_ ?_ | exact Lc | refine Lo ?_ | refine ⟨⟨_, rfl, ?_⟩, ?_⟩ | refine Lx ?_)))
        all_goals (first | exact Ld | exact trivial | ((rw [if_pos (by assumption)]; done)))
      ·
        rw [if_neg (by assumption)]
        refine Ya ?_
        (apply Le.headZ (hs := []) [] rfl)
        all_goals (try dsimp only [srcs])
        (case' hfr => (repeat' (first | refine La ?_ ?_ | exact Lc | refine Lo ?_ | refine ⟨⟨_, rfl, ?_⟩, ?_⟩ | refine Lx ?_)))
        all_goals (first | exact Ld | exact trivial | (rfl))
    · rw [growC, if_neg hcl]
      generalize hf0 : (fun i => if skipC xs l i then [] else growC xs u1 u2 over fu (l ++ [i])) = f
      have hcl2 := hcl
      unfold lastT firstF at hcl
      have hF : firstF xs l = (plA xs (hdN l)).f := rfl
      have hL : lastT xs l = (plA xs (lsN l)).t := rfl
      generalize plA xs (hdN l) = p at h1 hF hcl
      generalize plA xs (lsN l) = q at h2 hL hcl
      obtain ⟨pf, pt, pd, pk⟩ := p
      obtain ⟨qf, qt, qd, qk⟩ := q
      simp only at h1 h2 hF hL hcl
      refine AC.of_body 0 Try.func215 rfl (fun l h => absurd rfl h) (fun C hC => ?_)
      have hD : ∀ l, ¬ C.D0 l := fun l h => (hC l).1 h rfl
      simp only [startFr, Try.ntmps215, List.length_cons, List.length_nil, Nat.reduceAdd, Nat.reduceSub, List.replicate_succ, List.replicate_zero, List.cons_append, List.nil_append]
      repeat' (first | ((first | apply Ba | (apply Bb; (· rfl); (· rfl)) | (apply Bc; (· exact nxE)) | (apply Bd; (· rfl); (· rfl); (· exact nxE))); (· first | exact Ok.pe)) | ((first | apply Ca | (apply Cb; (· exact nxE))); (· first | exact Ok.e0)) | refine Sx ?_ | (refine Sy (fun h => ?_) (fun h => ?_) <;> try (exfalso; omega; done)) | refine Sz (fun h => ?_) (fun h => ?_))
      refine AW.loop (X := {k : Nat // k ≤ xs.length ∧ tryAll f (List.range' 0 xs.length) = tryAll f (List.range' k (xs.length - k))}) (fun k => ⟨[Oo, IL (cN l), Oo, I over, Bx 2 0, Oo, Bx 2 1, Oo, Oo, I pf, I qt, Oo, Oo, I (k.1 : Nat), Oo, Oo, Oo, Oo, Oo, Oo, Oo, Oo, Oo, Oo, Oo, Oo, Oo, Oo, Oo, Oo, Oo, Oo, Oo, Oo, Oo, Oo, Oo, Oo, Oo, Oo, Oo, Oo, Oo, Oo, Oo, Oo, Oo, Oo, Oo, Oo, Oo, Oo, Oo, Oo, Oo, Oo, Oo, Oo, Oo, Oo, Oo, Oo, Oo, Oo, Oo, Oo, Oo, Oo, Oo, Oo, Oo, Oo, Oo, Oo, Oo, Oo, Oo, Oo, Oo, Oo, Oo, Oo, Oo, Oo, Oo, Oo, Oo, Oo, Oo, Oo, Oo, Oo, Oo, Oo, Oo, Oo, Oo, Oo, Oo, Oo, Oo, Oo, Oo, Oo], heapL [(⟨0, []⟩, ⟨0, []⟩, ⟨2, [[I ev, PL xs]]⟩), (⟨1, []⟩, ⟨1, []⟩, ⟨2, [[I u1, I u2]]⟩)], 900⟩) (fun k => xs.length - k.1) ⟨0, Nat.zero_le _, rfl⟩ ?_ (fun k => ?_)
      ·
        (apply Le.headZ [_, _] rfl)
        all_goals (try dsimp only [srcs])
        (case' hfr | hob => (repeat' (first | refine La ?_ ?_ | exact Lc | refine Lo ?_ | refine ⟨⟨_, rfl, ?_⟩, ?_⟩ | refine Lx ?_)))
        all_goals (first | (rfl) | exact Ld)
      obtain ⟨i, hi1, hi2⟩ := k
      simp only
      by_cases hi : i < xs.length
      · rw [range'_cons hi, tryAll] at hi2
        have hfi : f i = if skipC xs l i then [] else growC xs u1 u2 over fu (l ++ [i]) := by rw [← hf0]
        have hpi := pl_row (n := n) hi
        have hV := l15Visits_ac ev n xs l (plA xs i).t (by omega) hlt (by omega)
        by_cases hskip : skipC xs l i
        · rw [if_pos hskip] at hfi
          have hnx : tryAll f (List.range' 0 xs.length) = tryAll f (List.range' (i + 1) (xs.length - (i + 1))) := by rw [hi2, hfi]; simp
          unfold skipC at hskip
          rw [hF, hL] at hskip
          generalize hvb : visB xs l (plA xs i).t = vb at hV hskip
          generalize plA xs i = s at hpi hV hskip
          obtain ⟨sf, st, sd, sk⟩ := s
          simp only at hpi hV hskip
          repeat' (first | ((first | apply Ba | (apply Bb; (· rfl); (· rfl)) | (apply Bc; (· exact nxE)) | (apply Bd; (· rfl); (· rfl); (· exact nxE))); (· first | exact Kz rfl rfl (hV) (Aa (Ad (Ad An)) (Ad (Ad An))) | exact Ok.pe)) | ((first | apply Ca | (apply Cb; (· exact nxE))); (· first | exact Ok.e0)) | refine Sx ?_ | (refine Sy (fun h => ?_) (fun h => ?_) <;> try (exfalso; omega; done)) | refine Sz (fun h => ?_) (fun h => ?_))
          all_goals try (exfalso; rcases hskip with h5 | h5 | ⟨h5, h6⟩ <;> first | contradiction | omega | (simp_all; done))
          all_goals
            refine ⟨⟨i + 1, by omega, hnx⟩, ?_, by simp only; omega⟩
            (apply Le.headZ [_, _] rfl)
            all_goals (try dsimp only [srcs])
            (case' hfr | hob => (repeat' (first | refine La ?_ ?_ | exact Lc | refine Lo ?_ | refine ⟨⟨_, rfl, ?_⟩, ?_⟩ | refine Lx ?_)))
            all_goals (first | (rfl) | exact Ld)
        · rw [if_neg hskip] at hfi
          have hps := hp.snoc hi hcl2 hskip
          have hG := ih (l ++ [i]) hps (by simp; omega)
          have happ : IR (cN (l ++ [i])) = IR (cN l) ++ [[DI i]] := by simp
          unfold IL at hG
          rw [happ] at hG
          have hO := l01Own_ac (cN l) (by simp; omega)
          rw [show (cN l).length = l.length by simp] at hO
          unfold skipC at hskip
          rw [hF, hL] at hskip
          generalize hvb : visB xs l (plA xs i).t = vb at hV hskip
          generalize plA xs i = s at hpi hV hskip
          obtain ⟨sf, st, sd, sk⟩ := s
          simp only at hpi hV hskip
          repeat' (first | ((first | apply Ba | (apply Bb; (· rfl); (· rfl)) | (apply Bc; (· exact nxE)) | (apply Bd; (· rfl); (· rfl); (· exact nxE))); (· first | exact Kz rfl rfl (hV) (Aa (Ad (Ad An)) (Ad (Ad An))) | exact Zf rfl rfl (hG) (Sa (Sd (Sd Sn)) (Sw (Sa (Sd (Sd Sn)) (Sd Sn)))) | exact Eo rfl rfl (hO) (Sd Sn) | exact Ok.append1 (row := [DI i]) rfl rfl (by decide) rfl rfl (by simp; done) rfl rfl rfl (by rfl) (by omega) (by omega) | exact Ok.pe)) | ((first | apply Ca | (apply Cb; (· exact nxE))); (· first | exact Eo rfl rfl (hO) (Sd Sn) | exact Ok.append1 (row := [DI i]) rfl rfl (by decide) rfl rfl (by simp; done) rfl rfl rfl (by rfl) (by omega) (by omega) | exact Ok.e0)) | refine Sx ?_ | (refine Sy (fun h => ?_) (fun h => ?_) <;> try (exfalso; omega; done)) | refine Sz (fun h => ?_) (fun h => ?_))
          all_goals try (exfalso; first | (exact hskip (.inl (by assumption))) | (exact hskip (.inr (.inl (by assumption)))) | (exact hskip (.inr (.inr ⟨by assumption, by assumption⟩))) | (simp_all; done))
          all_goals first
            | (
              refine Ya ?_
              (apply Le.headZ (hs := []) [] rfl)
              all_goals (try dsimp only [srcs])
              (case' hfr => (repeat' (first | refine La ?_ ?_ | exact Lc | refine Lo ?_ | refine ⟨⟨_, rfl, ?_⟩, ?_⟩ | refine Lx ?_)))
              all_goals (first | exact Ld | exact trivial | ((rw [hi2, hfi, if_pos (by intro e; rw [e] at h; simp at h)]; done)))
              done)
            | (refine ⟨⟨i + 1, by omega, by rw [hi2, hfi, if_neg (by intro e; exact h (by have := List.length_pos_iff.2 e; simp; omega))]⟩, ?_, by simp only; omega⟩
               (apply Le.headZ [_, _] rfl)
               all_goals (try dsimp only [srcs])
               (case' hfr | hob => (repeat' (first | refine La ?_ ?_ | exact Lc | refine Lo ?_ | refine ⟨⟨_, rfl, ?_⟩, ?_⟩ | refine Lx ?_)))
               all_goals (first | (rfl) | exact Ld)
               done)
      ·
        rw [show xs.length - i = 0 by omega, List.range'_zero] at hi2
        rw [hi2]
        repeat' (first | ((first | apply Ba | (apply Bb; (· rfl); (· rfl)) | (apply Bc; (· exact nxE)) | (apply Bd; (· rfl); (· rfl); (· exact nxE))); (· first | exact Ok.pe)) | ((first | apply Ca | (apply Cb; (· exact nxE))); (· first | exact Ok.e0)) | refine Sx ?_ | (refine Sy (fun h => ?_) (fun h => ?_) <;> try (exfalso; omega; done)) | refine Sz (fun h => ?_) (fun h => ?_))
        refine Ya ?_
        (apply Le.headZ (hs := []) [] rfl)
        all_goals (try dsimp only [srcs])
        (case' hfr => (repeat' (first | refine La ?_ ?_ | exact Lc | refine Lo ?_ | refine ⟨⟨_, rfl, ?_⟩, ?_⟩ | refine Lx ?_)))
        all_goals (first | exact Ld | exact trivial | (rfl))
set_option maxHeartbeats 1000000 in
theorem l15Over_ac (ev : Int) (n : Nat) (xs : List Pl) (u1 u2 over : Int) (hn : n ≤ 10) (hx : xs.length ≤ 1000) (hv : ∀ p ∈ xs, okPl n p) (hrn : 0 ≤ u1 ∧ u1 ≤ 100000) (hrd : 0 ≤ u2 ∧ u2 ≤ 50) : AC Try.prog 118 [grD ev xs, .agg [I u1, I u2], I over] H0 (IL (cN (overC xs u1 u2 over n))) H0 := by
  refine AC.of_body 0 Try.func118 rfl (fun l h => absurd rfl h) (fun C hC => ?_)
  have hD : ∀ l, ¬ C.D0 l := fun l h => (hC l).1 h rfl
  simp only [startFr, Try.ntmps118, List.length_cons, List.length_nil, Nat.reduceAdd, Nat.reduceSub, List.replicate_succ, List.replicate_zero, List.cons_append, List.nil_append]
  repeat' (first | ((first | apply Ba | (apply Bb; (· rfl); (· rfl)) | (apply Bc; (· exact nxE)) | (apply Bd; (· rfl); (· rfl); (· exact nxE))); (· first | exact Ok.pe)) | ((first | apply Ca | (apply Cb; (· exact nxE))); (· first | exact Ok.e0)) | refine Sx ?_ | (refine Sy (fun h => ?_) (fun h => ?_) <;> try (exfalso; omega; done)) | refine Sz (fun h => ?_) (fun h => ?_))
  refine AW.loop (X := {k : Nat // k ≤ xs.length ∧ overC xs u1 u2 over n = tryAll (fun i => if (plA xs i).t < (plA xs i).f then [] else growC xs u1 u2 over n [i]) (List.range' k (xs.length - k))}) (fun k => ⟨[Oo, Oo, I over, Bx 2 0, Bx 2 1, Oo, Oo, I (k.1 : Nat), Oo, Oo, Oo, Oo, Oo, Oo, Oo, Oo, Oo, Oo, Oo, Oo, Oo, Oo, Oo, Oo, Oo, Oo, Oo, Oo, Oo, Oo, Oo, Oo, Oo, Oo, Oo, Oo, Oo], heapL [(⟨0, []⟩, ⟨0, []⟩, ⟨2, [[I ev, PL xs]]⟩), (⟨1, []⟩, ⟨1, []⟩, ⟨2, [[I u1, I u2]]⟩)], 900⟩) (fun k => xs.length - k.1) ⟨0, Nat.zero_le _, rfl⟩ ?_ (fun k => ?_)
  ·
    (apply Le.headZ [_, _] rfl)
    all_goals (try dsimp only [srcs])
    (case' hfr | hob => (repeat' (first | refine La ?_ ?_ | exact Lc | refine Lo ?_ | refine ⟨⟨_, rfl, ?_⟩, ?_⟩ | refine Lx ?_)))
    all_goals (first | (rfl) | exact Ld)
  obtain ⟨i, hi1, hi2⟩ := k
  simp only
  by_cases hi : i < xs.length
  · rw [range'_cons hi, tryAll] at hi2
    have hpi := pl_row (n := n) hi
    by_cases hsk : (plA xs i).t < (plA xs i).f
    · rw [if_pos hsk] at hi2
      generalize plA xs i = s at hpi hsk
      obtain ⟨sf, st, sd, sk⟩ := s
      simp only at hpi hsk
      repeat' (first | ((first | apply Ba | (apply Bb; (· rfl); (· rfl)) | (apply Bc; (· exact nxE)) | (apply Bd; (· rfl); (· rfl); (· exact nxE))); (· first | exact Ok.pe)) | ((first | apply Ca | (apply Cb; (· exact nxE))); (· first | exact Ok.e0)) | refine Sx ?_ | (refine Sy (fun h => ?_) (fun h => ?_) <;> try (exfalso; omega; done)) | refine Sz (fun h => ?_) (fun h => ?_))
      refine ⟨⟨i + 1, by omega, by rw [hi2]; simp⟩, ?_, by simp only; omega⟩
      (apply Le.headZ [_, _] rfl)
      all_goals (try dsimp only [srcs])
      (case' hfr | hob => (repeat' (first | refine La ?_ ?_ | exact Lc | refine Lo ?_ | refine ⟨⟨_, rfl, ?_⟩, ?_⟩ | refine Lx ?_)))
      all_goals (first | (rfl) | exact Ld)
    · rw [if_neg hsk] at hi2
      have hG := l15Grow_ac ev n xs u1 u2 over hn hx hv hrn hrd n [i] (PathC.one hi hsk) (by simp; omega)
      generalize plA xs i = s at hpi hsk
      obtain ⟨sf, st, sd, sk⟩ := s
      simp only at hpi hsk
      repeat' (first | ((first | apply Ba | (apply Bb; (· rfl); (· rfl)) | (apply Bc; (· exact nxE)) | (apply Bd; (· rfl); (· rfl); (· exact nxE))); (· first | exact Zf rfl rfl (hG) (Sa (Sd (Sd Sn)) (Sw (Sa (Sd (Sd Sn)) (Sd Sn)))) | exact Ok.pe)) | ((first | apply Ca | (apply Cb; (· exact nxE))); (· first | exact Ok.e0)) | refine Sx ?_ | (refine Sy (fun h => ?_) (fun h => ?_) <;> try (exfalso; omega; done)) | refine Sz (fun h => ?_) (fun h => ?_))
      ·
        refine Ya ?_
        (apply Le.headZ (hs := []) [] rfl)
        all_goals (try dsimp only [srcs])
        (case' hfr => (repeat' (first | refine La ?_ ?_ | exact Lc | refine Lo ?_ | refine ⟨⟨_, rfl, ?_⟩, ?_⟩ | refine Lx ?_)))
        all_goals (first | exact Ld | exact trivial | ((rw [hi2, if_pos (by intro e; rw [e] at h; simp at h)]; done)))
      · refine ⟨⟨i + 1, by omega, by rw [hi2, if_neg (by intro e; exact h (by have := List.length_pos_iff.2 e; simp; omega))]⟩, ?_, by simp only; omega⟩
        (apply Le.headZ [_, _] rfl)
        all_goals (try dsimp only [srcs])
        (case' hfr | hob => (repeat' (first | refine La ?_ ?_ | exact Lc | refine Lo ?_ | refine ⟨⟨_, rfl, ?_⟩, ?_⟩ | refine Lx ?_)))
        all_goals (first | (rfl) | exact Ld)
  ·
    rw [show xs.length - i = 0 by omega, List.range'_zero] at hi2
    rw [hi2]
    repeat' (first | ((first | apply Ba | (apply Bb; (· rfl); (· rfl)) | (apply Bc; (· exact nxE)) | (apply Bd; (· rfl); (· rfl); (· exact nxE))); (· first | exact Ok.pe)) | ((first | apply Ca | (apply Cb; (· exact nxE))); (· first | exact Ok.e0)) | refine Sx ?_ | (refine Sy (fun h => ?_) (fun h => ?_) <;> try (exfalso; omega; done)) | refine Sz (fun h => ?_) (fun h => ?_))
    refine Ya ?_
    (apply Le.headZ (hs := []) [] rfl)
    all_goals (try dsimp only [srcs])
    (case' hfr => (repeat' (first | refine La ?_ ?_ | exact Lc | refine Lo ?_ | refine ⟨⟨_, rfl, ?_⟩, ?_⟩ | refine Lx ?_)))
    all_goals (first | exact Ld | exact trivial | (rfl))
end Go.Proofs.Ytpgcmpbamlnkkaa
end

section
namespace Go.Proofs.Ytpgcmpbamlnkkaa
set_option linter.unusedSimpArgs false
set_option linter.unusedVariables false
open Go Go.RowKit
attribute [local irreducible] AL AD AW OpOk Le AC thenQ blockQ EndQ

/-- A table of m rows of n numbers each. -/
structure Rc (t : List (List Int)) (m n : Nat) : Prop where
  l : t.length = m
  r : ∀ r ∈ t, r.length = n
theorem Rc.get {t : List (List Int)} {m n i j : Nat} (h : Rc t m n) (hi : i < m) (hj : j < n) : ∃ r, t[i]? = some r ∧ r[j]? = some (entN t i j) ∧ r.length = n := by
  have h1 : i < t.length := by rw [h.l]; exact hi
  have h2 := h.r t[i] (List.getElem_mem h1)
  refine ⟨t[i], List.getElem?_eq_getElem h1, ?_, h2⟩
  unfold entN
  rw [List.getElem?_eq_getElem h1, Option.getD_some, List.getElem?_eq_getElem (by rw [h2]; exact hj), Option.getD_some]
def alS (t : List (List Int)) (r e : Nat) (a : Int × Int) (p : Pl) (i : Nat) : Int × Int :=
  if p.t = e ∧ p.k + 1 ≤ r then (if a.1 < entN t (r - 1 - p.k.toNat) p.f.toNat + p.d ∨ (entN t (r - 1 - p.k.toNat) p.f.toNat + p.d = a.1 ∧ a.2 < 0) then (entN t (r - 1 - p.k.toNat) p.f.toNat + p.d, (i : Int)) else a) else a
/-- The allowed time and the place that gives it, off the first k places. -/
def alA (t : List (List Int)) (r e : Nat) (xs : List Pl) : Nat → Int × Int
  | 0 => (0, -1)
  | k + 1 => match xs[k]? with
    | some p => alS t r e (alA t r e xs k) p k
    | none => alA t r e xs k
end Go.Proofs.Ytpgcmpbamlnkkaa
end

section
namespace Go.Proofs.Ytpgcmpbamlnkkaa
open Go Go.RowKit
set_option linter.unusedSimpArgs false
set_option linter.unusedVariables false
attribute [local irreducible] AL AD AW OpOk Le AC thenQ blockQ EndQ

set_option maxHeartbeats 1000000 in
theorem indexFuncPl_ac (xs : List Pl) (hn : xs.length ≤ 100000000) (g : FuncId) [FnBody Try.prog g] (caps : List AV) (hs : HL) (hself : ∀ p ∈ hs, p.2.1 = p.1) (hnd : (hs.map (·.1)).Nodup) (hok : HOk hs) (hcaps : ∀ c ∈ caps, Locs (· ∈ hs.map (·.1)) c) (M : Nat) (hM : ∀ p ∈ hs, p.1.id < M) (pred : Pl → Bool)
    (hg : ∀ p ∈ xs, AC Try.prog g (p.av :: caps) (heapL hs) (Bo (pred p)) (heapL hs)) : AC Try.prog 205 [.d (.sl 4 (xs.map Pl.row)), .clo (.func g) [] caps] (heapL hs) (I (idxOf pred xs 0)) (heapL hs) := by
  refine AC.of_body M Try.func205 rfl (fun l h => by obtain ⟨p, hp, e⟩ := List.mem_map.1 (heapL_iff.1 h); rw [← e]; exact hM p hp) (fun C hC => ?_)
  simp only [startFr, Try.ntmps205, List.length_cons, List.length_nil, Nat.reduceAdd, Nat.reduceSub, List.replicate_succ, List.replicate_zero, List.cons_append, List.nil_append]
  repeat' (first | refine AL.nil ?_ | ((first | apply AL.st | (apply AL.on; (· rfl); (· rfl)) | (apply AD.st; (· exact nxE)) | (apply AD.on; (· rfl); (· rfl); (· exact nxE))); (· first | exact Ok.pe); (· exact setE); (· first | exact updsE | exact rfl); (· exact nxE)) | ((first | apply AL.st0 | (apply AD.st0; (· exact nxE))); (· first | exact Ok.e0); (· exact rfl); (· exact nxE)) | ((first | apply AL.off | apply AD.off); (· rfl); (· rfl); (· rfl); (· exact setE); (· exact nxE)) | ((first | refine AL.gsplit rfl rfl (fun h => ?_) (fun h => ?_) | refine AD.gsplit rfl rfl (fun h => ?_) (fun h => ?_)) <;> try (exfalso; omega; done)) | (first | refine AL.gsplitB rfl rfl (fun h => ?_) (fun h => ?_) | refine AD.gsplitB rfl rfl (fun h => ?_) (fun h => ?_)) | refine AD.fin (by simp only [List.length_cons, List.length_nil, Nat.reduceAdd]; rfl) rfl (by kernel_rfl) ?_ | refine thenN ?_ | refine AW.seq ?_ | refine AW.reg ?_ | refine AW.dr mixedA (by kernel_rfl) ?_ | refine AW.block ?_ | refine AW.condT rfl ?_ | refine AW.condF rfl ?_ | (refine AW.ite rfl (fun h => ?_) (fun h => ?_) <;> try (exfalso; omega; done)) | refine AW.cond _ rfl (fun h => ?_) (fun h => ?_) | refine AW.ret ?_ | refine AW.exit ?_ | refine AW.skip ?_ | refine thenR ?_ | refine thenX ?_ | refine blockN ?_ | refine blockR ?_ | refine blockX ?_ | refine blockY (by decide) ?_)
  have hca : ∀ H lent, ARs H lent id (· ∈ hs.map (·.1)) caps caps := fun H lent => ⟨rfl, fun i c c' h1 h2 => by rw [h1] at h2; cases h2; exact (hcaps c (List.mem_of_getElem? h1)).ar⟩
  have hD : ∀ l, C.D0 l → l.id < M := fun l h => by obtain ⟨p, hp, e⟩ := List.mem_map.1 (heapL_iff.1 ((hC l).1 h)); rw [← e]; exact hM p hp
  refine AW.loop (X := {k : Nat // k ≤ xs.length ∧ idxOf pred xs 0 = idxOf pred (xs.drop k) k}) (fun k => ⟨[PL xs, .clo (.func g) [] caps, .dead, .dead, .dead, .dead, .dead, I xs.length, I (k.1 : Nat), .dead, .dead, .dead, .dead, .dead, .dead, .dead, .dead, .dead, .dead], heapL hs, M⟩) (fun k => xs.length - k.1) ⟨0, Nat.zero_le _, by simp⟩ ?_ (fun k => ?_)
  ·
    refine Le.keep hself hnd hok ?_ hM hD
    repeat' (first | exact trivial | exact ARs.nil | refine ARs.cons ?_ ?_ | exact AR.dead _ | exact AR.dd _ | exact AR.i (by (try dsimp only); omega) | exact AR.ptr _ _ _ _ (by simp [heapL, upd]) | exact AR.own _ _ _ _ (by simp [heapL, upd]) | refine AR.ownE _ _ _ ?_ (by simp [heapL, upd]) | refine ⟨⟨_, rfl, ?_⟩, ?_⟩ | exact ObA.data | refine ObA.box ?_ | refine ObA.frE ?_ | refine ObA.dataE ?_ | refine ARs.agg ?_ | refine ARs.tup ?_ | exact AR.clo' ARs.nil ARs.nil | exact AR.clo' ARs.nil (hca _ _))
  obtain ⟨k, hk, hall⟩ := k
  simp only
  by_cases hlt : k < xs.length
  · obtain ⟨p, hp⟩ : ∃ p, xs[k]? = some p := ⟨xs[k], by simp⟩
    have hrow : (xs.map Pl.row)[((k : Nat) : Int).toNat]? = some [DI p.f, DI p.t, DI p.d, DI p.k] := row_get hp
    have hgp := hg p (List.mem_of_getElem? hp)
    have hst := idxOf_at (f := pred) hp k
    rw [← hall] at hst
    repeat' (first | refine AL.nil ?_ | ((first | apply AL.st | (apply AL.on; (· rfl); (· rfl)) | (apply AD.st; (· exact nxE)) | (apply AD.on; (· rfl); (· rfl); (· exact nxE))); (· first | exact OpOk.callS hs rfl rfl hgp (fun p hp => rfl) hok (.d _) (.cons (ARs.agg (.cons (.dd _) (.cons (.dd _) (.cons (.dd _) (.cons (.dd _) .nil))))) (hca _ _)) | exact Ok.pe); (· exact setE); (· first | exact updsE | exact rfl); (· exact nxE)) | ((first | apply AL.st0 | (apply AD.st0; (· exact nxE))); (· first | exact Ok.e0); (· exact rfl); (· exact nxE)) | ((first | apply AL.off | apply AD.off); (· rfl); (· rfl); (· rfl); (· exact setE); (· exact nxE)) | ((first | refine AL.gsplit rfl rfl (fun h => ?_) (fun h => ?_) | refine AD.gsplit rfl rfl (fun h => ?_) (fun h => ?_)) <;> try (exfalso; omega; done)) | (first | refine AL.gsplitB rfl rfl (fun h => ?_) (fun h => ?_) | refine AD.gsplitB rfl rfl (fun h => ?_) (fun h => ?_)) | refine AD.fin (by simp only [List.length_cons, List.length_nil, Nat.reduceAdd]; rfl) rfl (by kernel_rfl) ?_ | refine thenN ?_ | refine AW.seq ?_ | refine AW.reg ?_ | refine AW.dr mixedA (by kernel_rfl) ?_ | refine AW.block ?_ | refine AW.condT rfl ?_ | refine AW.condF rfl ?_ | (refine AW.ite rfl (fun h => ?_) (fun h => ?_) <;> try (exfalso; omega; done)) | refine AW.cond _ rfl (fun h => ?_) (fun h => ?_) | refine AW.ret ?_ | refine AW.exit ?_ | refine AW.skip ?_ | refine thenR ?_ | refine thenX ?_ | refine blockN ?_ | refine blockR ?_ | refine blockX ?_ | refine blockY (by decide) ?_)
    ·
      (refine end1p (by first | exact .inl rfl | exact .inr rfl) rfl (by first | exact rT rfl | exact rCA rfl rfl rfl rfl (by simp) | exact rCC rfl rfl rfl rfl rfl) ?_ (Le.keep hself hnd hok ?_ hM hD); (· rw [hst, if_pos h])) <;> (repeat' (first | exact trivial | exact ARs.nil | refine ARs.cons ?_ ?_ | exact AR.dead _ | exact AR.dd _ | exact AR.i (by (try dsimp only); omega) | exact AR.ptr _ _ _ _ (by simp [heapL, upd]) | exact AR.own _ _ _ _ (by simp [heapL, upd]) | refine AR.ownE _ _ _ ?_ (by simp [heapL, upd]) | refine ⟨⟨_, rfl, ?_⟩, ?_⟩ | exact ObA.data | refine ObA.box ?_ | refine ObA.frE ?_ | refine ObA.dataE ?_ | refine ARs.agg ?_ | refine ARs.tup ?_ | exact AR.clo' ARs.nil ARs.nil | exact AR.clo' ARs.nil (hca _ _)))
    · refine ⟨⟨k + 1, by omega, by rw [hst, if_neg (by simp [h])]⟩, ?_, by simp only; omega⟩
      refine Le.keep hself hnd hok ?_ hM hD
      repeat' (first | exact trivial | exact ARs.nil | refine ARs.cons ?_ ?_ | exact AR.dead _ | exact AR.dd _ | exact AR.i (by (try dsimp only); omega) | exact AR.ptr _ _ _ _ (by simp [heapL, upd]) | exact AR.own _ _ _ _ (by simp [heapL, upd]) | refine AR.ownE _ _ _ ?_ (by simp [heapL, upd]) | refine ⟨⟨_, rfl, ?_⟩, ?_⟩ | exact ObA.data | refine ObA.box ?_ | refine ObA.frE ?_ | refine ObA.dataE ?_ | refine ARs.agg ?_ | refine ARs.tup ?_ | exact AR.clo' ARs.nil ARs.nil | exact AR.clo' ARs.nil (hca _ _))
  ·
    repeat' (first | refine AL.nil ?_ | ((first | apply AL.st | (apply AL.on; (· rfl); (· rfl)) | (apply AD.st; (· exact nxE)) | (apply AD.on; (· rfl); (· rfl); (· exact nxE))); (· first | exact Ok.pe); (· exact setE); (· first | exact updsE | exact rfl); (· exact nxE)) | ((first | apply AL.st0 | (apply AD.st0; (· exact nxE))); (· first | exact Ok.e0); (· exact rfl); (· exact nxE)) | ((first | apply AL.off | apply AD.off); (· rfl); (· rfl); (· rfl); (· exact setE); (· exact nxE)) | ((first | refine AL.gsplit rfl rfl (fun h => ?_) (fun h => ?_) | refine AD.gsplit rfl rfl (fun h => ?_) (fun h => ?_)) <;> try (exfalso; omega; done)) | (first | refine AL.gsplitB rfl rfl (fun h => ?_) (fun h => ?_) | refine AD.gsplitB rfl rfl (fun h => ?_) (fun h => ?_)) | refine AD.fin (by simp only [List.length_cons, List.length_nil, Nat.reduceAdd]; rfl) rfl (by kernel_rfl) ?_ | refine thenN ?_ | refine AW.seq ?_ | refine AW.reg ?_ | refine AW.dr mixedA (by kernel_rfl) ?_ | refine AW.block ?_ | refine AW.condT rfl ?_ | refine AW.condF rfl ?_ | (refine AW.ite rfl (fun h => ?_) (fun h => ?_) <;> try (exfalso; omega; done)) | refine AW.cond _ rfl (fun h => ?_) (fun h => ?_) | refine AW.ret ?_ | refine AW.exit ?_ | refine AW.skip ?_ | refine thenR ?_ | refine thenX ?_ | refine blockN ?_ | refine blockR ?_ | refine blockX ?_ | refine blockY (by decide) ?_)
    all_goals
      (refine end1p (by first | exact .inl rfl | exact .inr rfl) rfl (by first | exact rT rfl | exact rCA rfl rfl rfl rfl (by simp) | exact rCC rfl rfl rfl rfl rfl) ?_ (Le.keep hself hnd hok ?_ hM hD); (· rw [hall, List.drop_of_length_le (by omega)]; rfl)) <;> (repeat' (first | exact trivial | exact ARs.nil | refine ARs.cons ?_ ?_ | exact AR.dead _ | exact AR.dd _ | exact AR.i (by (try dsimp only); omega) | exact AR.ptr _ _ _ _ (by simp [heapL, upd]) | exact AR.own _ _ _ _ (by simp [heapL, upd]) | refine AR.ownE _ _ _ ?_ (by simp [heapL, upd]) | refine ⟨⟨_, rfl, ?_⟩, ?_⟩ | exact ObA.data | refine ObA.box ?_ | refine ObA.frE ?_ | refine ObA.dataE ?_ | refine ARs.agg ?_ | refine ARs.tup ?_ | exact AR.clo' ARs.nil ARs.nil | exact AR.clo' ARs.nil (hca _ _)))
set_option maxHeartbeats 1000000 in
theorem containsFuncPl_ac (xs : List Pl) (hn : xs.length ≤ 100000000) (g : FuncId) [FnBody Try.prog g] (caps : List AV) (hs : HL) (hself : ∀ p ∈ hs, p.2.1 = p.1) (hnd : (hs.map (·.1)).Nodup) (hok : HOk hs) (hcaps : ∀ c ∈ caps, Locs (· ∈ hs.map (·.1)) c) (M : Nat) (hM : ∀ p ∈ hs, p.1.id < M) (pred : Pl → Bool)
    (hg : ∀ p ∈ xs, AC Try.prog g (p.av :: caps) (heapL hs) (Bo (pred p)) (heapL hs)) : AC Try.prog 102 [PL xs, .clo (.func g) [] caps] (heapL hs) (Bo (xs.any pred)) (heapL hs) := by
  refine AC.of_body M Try.func102 rfl (fun l h => by obtain ⟨p, hp, e⟩ := List.mem_map.1 (heapL_iff.1 h); rw [← e]; exact hM p hp) (fun C hC => ?_)
  simp only [startFr, Try.ntmps102, List.length_cons, List.length_nil, Nat.reduceAdd, Nat.reduceSub, List.replicate_succ, List.replicate_zero, List.cons_append, List.nil_append]
  have hca : ∀ H lent, ARs H lent id (· ∈ hs.map (·.1)) caps caps := fun H lent => ⟨rfl, fun i c c' h1 h2 => by rw [h1] at h2; cases h2; exact (hcaps c (List.mem_of_getElem? h1)).ar⟩
  have hD : ∀ l, C.D0 l → l.id < M := fun l h => by obtain ⟨p, hp, e⟩ := List.mem_map.1 (heapL_iff.1 ((hC l).1 h)); rw [← e]; exact hM p hp
  have hc := indexFuncPl_ac xs hn g caps hs hself hnd hok hcaps M hM pred hg
  repeat' (first | refine AL.nil ?_ | ((first | apply AL.st | (apply AL.on; (· rfl); (· rfl)) | (apply AD.st; (· exact nxE)) | (apply AD.on; (· rfl); (· rfl); (· exact nxE))); (· first | exact OpOk.callS hs rfl rfl hc (fun p hp => rfl) hok (.d _) (.cons (.dd _) (.cons (AR.clo' .nil (hca _ _)) .nil)) | exact Ok.pe); (· exact setE); (· first | exact updsE | exact rfl); (· exact nxE)) | ((first | apply AL.st0 | (apply AD.st0; (· exact nxE))); (· first | exact Ok.e0); (· exact rfl); (· exact nxE)) | ((first | apply AL.off | apply AD.off); (· rfl); (· rfl); (· rfl); (· exact setE); (· exact nxE)) | ((first | refine AL.gsplit rfl rfl (fun h => ?_) (fun h => ?_) | refine AD.gsplit rfl rfl (fun h => ?_) (fun h => ?_)) <;> try (exfalso; omega; done)) | (first | refine AL.gsplitB rfl rfl (fun h => ?_) (fun h => ?_) | refine AD.gsplitB rfl rfl (fun h => ?_) (fun h => ?_)) | refine AD.fin (by simp only [List.length_cons, List.length_nil, Nat.reduceAdd]; rfl) rfl (by kernel_rfl) ?_ | refine thenN ?_ | refine AW.seq ?_ | refine AW.reg ?_ | refine AW.dr mixedA (by kernel_rfl) ?_ | refine AW.block ?_ | refine AW.condT rfl ?_ | refine AW.condF rfl ?_ | (refine AW.ite rfl (fun h => ?_) (fun h => ?_) <;> try (exfalso; omega; done)) | refine AW.cond _ rfl (fun h => ?_) (fun h => ?_) | refine AW.ret ?_ | refine AW.exit ?_ | refine AW.skip ?_ | refine thenR ?_ | refine thenX ?_ | refine blockN ?_ | refine blockR ?_ | refine blockX ?_ | refine blockY (by decide) ?_)
  (refine end1p (by first | exact .inl rfl | exact .inr rfl) rfl (by first | exact rT rfl | exact rCA rfl rfl rfl rfl (by simp) | exact rCC rfl rfl rfl rfl rfl) ?_ (Le.keep hself hnd hok ?_ hM hD); (· rw [idxOf_any])) <;> (repeat' (first | exact trivial | exact ARs.nil | refine ARs.cons ?_ ?_ | exact AR.dead _ | exact AR.dd _ | exact AR.i (by (try dsimp only); omega) | exact AR.ptr _ _ _ _ (by simp [heapL, upd]) | exact AR.own _ _ _ _ (by simp [heapL, upd]) | refine AR.ownE _ _ _ ?_ (by simp [heapL, upd]) | refine ⟨⟨_, rfl, ?_⟩, ?_⟩ | exact ObA.data | refine ObA.box ?_ | refine ObA.frE ?_ | refine ObA.dataE ?_ | refine ARs.agg ?_ | refine ARs.tup ?_ | exact AR.clo' ARs.nil ARs.nil | exact AR.clo' ARs.nil (hca _ _)))
/-- The test of a place in IsEventGraph: its graph lies in the captured variable. -/
theorem isEGfn_ac (ev : Int) (xs : List Pl) (p : Pl) : AC Try.prog 197 [p.av, Bx 2 0] (heapL [(⟨0, []⟩, ⟨0, []⟩, ⟨2, [[I ev, PL xs]]⟩)]) (Bo (!plB (IntKind.i64.wrap (ev - 1)) p)) (heapL [(⟨0, []⟩, ⟨0, []⟩, ⟨2, [[I ev, PL xs]]⟩)]) := by
  refine AC.of_body 1 Try.func197 rfl (fun l h => by simp [heapL, upd] at h; simp [h]) (fun C hC => ?_)
  simp only [startFr, Try.ntmps197, List.length_cons, List.length_nil, Nat.reduceAdd, Nat.reduceSub, List.replicate_succ, List.replicate_zero, List.cons_append, List.nil_append]
  have hD : ∀ l, C.D0 l → l = ⟨0, []⟩ := fun l h => by have := (hC l).1 h; simp [heapL, upd] at this; exact this
  repeat' (first | refine AL.nil ?_ | ((first | apply AL.st | (apply AL.on; (· rfl); (· rfl)) | (apply AD.st; (· exact nxE)) | (apply AD.on; (· rfl); (· rfl); (· exact nxE))); (· first | exact OpOk.call0 [] rfl rfl (isPlace_ac _ _ ⟨_, _, _, _⟩) (.inl rfl) (fun _ => by simp [rn]) (ARs.cons (ARs.agg (ARs.cons (AR.dd _) (ARs.cons (AR.dd _) ARs.nil))) (ARs.cons (ARs.agg (ARs.cons (AR.dd _) (ARs.cons (AR.dd _) (ARs.cons (AR.dd _) (ARs.cons (AR.dd _) ARs.nil))))) ARs.nil)) | exact Ok.pe); (· exact setE); (· first | exact updsE | exact rfl); (· exact nxE)) | ((first | apply AL.st0 | (apply AD.st0; (· exact nxE))); (· first | exact Ok.e0); (· exact rfl); (· exact nxE)) | ((first | apply AL.off | apply AD.off); (· rfl); (· rfl); (· rfl); (· exact setE); (· exact nxE)) | ((first | refine AL.gsplit rfl rfl (fun h => ?_) (fun h => ?_) | refine AD.gsplit rfl rfl (fun h => ?_) (fun h => ?_)) <;> try (exfalso; omega; done)) | (first | refine AL.gsplitB rfl rfl (fun h => ?_) (fun h => ?_) | refine AD.gsplitB rfl rfl (fun h => ?_) (fun h => ?_)) | refine AD.fin (by simp only [List.length_cons, List.length_nil, Nat.reduceAdd]; rfl) rfl (by kernel_rfl) ?_ | refine thenN ?_ | refine AW.seq ?_ | refine AW.reg ?_ | refine AW.dr mixedA (by kernel_rfl) ?_ | refine AW.block ?_ | refine AW.condT rfl ?_ | refine AW.condF rfl ?_ | (refine AW.ite rfl (fun h => ?_) (fun h => ?_) <;> try (exfalso; omega; done)) | refine AW.cond _ rfl (fun h => ?_) (fun h => ?_) | refine AW.ret ?_ | refine AW.exit ?_ | refine AW.skip ?_ | refine thenR ?_ | refine thenX ?_ | refine blockN ?_ | refine blockR ?_ | refine blockX ?_ | refine blockY (by decide) ?_)
  (refine end1p (by first | exact .inl rfl | exact .inr rfl) rfl (by first | exact rT rfl | exact rCA rfl rfl rfl rfl (by simp) | exact rCC rfl rfl rfl rfl rfl) ?_ (Le.head ([(⟨0, []⟩, ⟨0, []⟩, ⟨2, [[I ev, PL xs]]⟩)]) (by first | exact fun l h => absurd h (hD l) | (intro l h; rcases hD l h with rfl; simp [tauL]) | (intro l h; rcases hD l h with rfl | rfl <;> simp [tauL]; done) | (intro l h; rcases hD l h with rfl | rfl | rfl <;> simp [tauL])) ?_ ?_ (by simp) (by simp) (by simp [AllP]) (n' := 1000)); (· rfl)) <;> (repeat' (first | exact trivial | exact ARs.nil | refine ARs.cons ?_ ?_ | exact AR.dead _ | exact AR.dd _ | exact AR.i (by (try dsimp only); omega) | exact AR.ptr _ _ _ _ (by simp [heapL, upd]) | exact AR.own _ _ _ _ (by simp [heapL, upd]) | refine AR.ownE _ _ _ ?_ (by simp [heapL, upd]) | refine ⟨⟨_, rfl, ?_⟩, ?_⟩ | exact ObA.data | refine ObA.box ?_ | refine ObA.frE ?_ | refine ObA.dataE ?_ | refine ARs.agg ?_ | refine ARs.tup ?_ | exact AR.clo' ARs.nil ARs.nil | exact AR.clo' ARs.nil (hca _ _)))
theorem isEG_any (ev : Int) (xs : List Pl) (h : wi ev 1 10 = true) (h30 : (xs.length : Int) ≤ 30) : (!xs.any fun p => !plB (IntKind.i64.wrap (ev - 1)) p) = isEG ev xs := by
  rw [← isEG_wrap, h, decide_eq_true (by omega : xs.length ≤ 30), Bool.true_and, Bool.true_and, List.all_eq_not_any_not]
theorem isEG_no (ev : Int) (xs : List Pl) (h : wi ev 1 10 = false ∨ ¬(xs.length : Int) ≤ 30) : false = isEG ev xs := by
  rw [← isEG_wrap]
  rcases h with h | h
  · rw [h]; rfl
  · rw [decide_eq_false (by omega : ¬ xs.length ≤ 30), Bool.false_and, Bool.and_false]
set_option maxHeartbeats 1000000 in
theorem iIsEventGraph_ac (ev : Int) (xs : List Pl) (hn : xs.length ≤ 100000000) : AC Try.prog 91 [grD ev xs] H0 (Bo (isEG ev xs)) H0 := by
  refine AC.of_body 0 Try.func91 rfl (fun l h => absurd rfl h) (fun C hC => ?_)
  have hD : ∀ l, ¬ C.D0 l := fun l h => (hC l).1 h rfl
  simp only [startFr, Try.ntmps91, List.length_cons, List.length_nil, Nat.reduceAdd, Nat.reduceSub, List.replicate_succ, List.replicate_zero, List.cons_append, List.nil_append]
  have hc := containsFuncPl_ac xs hn 197 [Bx 2 0] [(⟨0, []⟩, ⟨0, []⟩, ⟨2, [[I ev, PL xs]]⟩)] (by simp) (by simp) (by intro p hp r hr c hc; simp at hp; subst hp; simp at hr; subst hr; simp at hc; rcases hc with rfl | rfl <;> exact .d _)
    (by intro c hc; simp at hc; subst hc; exact .ptr _ _ _ _ (by simp)) 1 (by simp) (fun p => !plB (IntKind.i64.wrap (ev - 1)) p) (fun p _ => isEGfn_ac ev xs p)
  repeat' (first | refine AL.nil ?_ | ((first | apply AL.st | (apply AL.on; (· rfl); (· rfl)) | (apply AD.st; (· exact nxE)) | (apply AD.on; (· rfl); (· rfl); (· exact nxE))); (· first | exact OpOk.call0 [] rfl rfl (within_ac _ _ _) (.inl rfl) (fun _ => by simp [rn]) (ARs.cons (AR.dd _) (ARs.cons (AR.dd _) (ARs.cons (AR.dd _) ARs.nil))) | exact OpOk.callS _ rfl rfl hc (by simp [heapL, upd, upds, W.app]) (by intro p hp r hr c hc; simp at hp; subst hp; simp at hr; subst hr; simp at hc; rcases hc with rfl | rfl <;> exact .d _) (.d _) (.cons (.dd _) (.cons (AR.clo' .nil (.cons (AR.ptr _ _ _ _ (by simp)) .nil)) .nil)) | exact Ok.pe); (· exact setE); (· first | exact updsE | exact rfl); (· exact nxE)) | ((first | apply AL.st0 | (apply AD.st0; (· exact nxE))); (· first | exact Ok.e0); (· exact rfl); (· exact nxE)) | ((first | apply AL.off | apply AD.off); (· rfl); (· rfl); (· rfl); (· exact setE); (· exact nxE)) | ((first | refine AL.gsplit rfl rfl (fun h => ?_) (fun h => ?_) | refine AD.gsplit rfl rfl (fun h => ?_) (fun h => ?_)) <;> try (exfalso; omega; done)) | (first | refine AL.gsplitB rfl rfl (fun h => ?_) (fun h => ?_) | refine AD.gsplitB rfl rfl (fun h => ?_) (fun h => ?_)) | refine AD.fin (by simp only [List.length_cons, List.length_nil, Nat.reduceAdd]; rfl) rfl (by kernel_rfl) ?_ | refine thenN ?_ | refine AW.seq ?_ | refine AW.reg ?_ | refine AW.dr mixedA (by kernel_rfl) ?_ | refine AW.block ?_ | refine AW.condT rfl ?_ | refine AW.condF rfl ?_ | (refine AW.ite rfl (fun h => ?_) (fun h => ?_) <;> try (exfalso; omega; done)) | refine AW.cond _ rfl (fun h => ?_) (fun h => ?_) | refine AW.ret ?_ | refine AW.exit ?_ | refine AW.skip ?_ | refine thenR ?_ | refine thenX ?_ | refine blockN ?_ | refine blockR ?_ | refine blockX ?_ | refine blockY (by decide) ?_)
  all_goals
    (refine end1p (by first | exact .inl rfl | exact .inr rfl) rfl (by first | exact rT rfl | exact rCA rfl rfl rfl rfl (by simp) | exact rCC rfl rfl rfl rfl rfl) ?_ (Le.head ([]) (by first | exact fun l h => absurd h (hD l) | (intro l h; rcases hD l h with rfl; simp [tauL]) | (intro l h; rcases hD l h with rfl | rfl <;> simp [tauL]; done) | (intro l h; rcases hD l h with rfl | rfl | rfl <;> simp [tauL])) ?_ ?_ (by simp) (by simp) (by simp [AllP]) (n' := 1000)); (· first | exact congrArg Bo (isEG_any _ _ ‹_› ‹_›) | exact congrArg Bo (isEG_no _ _ (.inl ‹_›)) | exact congrArg Bo (isEG_no _ _ (.inr ‹_›)))) <;> (repeat' (first | exact trivial | exact ARs.nil | refine ARs.cons ?_ ?_ | exact AR.dead _ | exact AR.dd _ | exact AR.i (by (try dsimp only); omega) | exact AR.ptr _ _ _ _ (by simp [heapL, upd]) | exact AR.own _ _ _ _ (by simp [heapL, upd]) | refine AR.ownE _ _ _ ?_ (by simp [heapL, upd]) | refine ⟨⟨_, rfl, ?_⟩, ?_⟩ | exact ObA.data | refine ObA.box ?_ | refine ObA.frE ?_ | refine ObA.dataE ?_ | refine ARs.agg ?_ | refine ARs.tup ?_ | exact AR.clo' ARs.nil ARs.nil | exact AR.clo' ARs.nil (hca _ _)))
end Go.Proofs.Ytpgcmpbamlnkkaa
end

section
namespace Go.Proofs.Ytpgcmpbamlnkkaa
set_option linter.unusedSimpArgs false
set_option linter.unusedVariables false
open Go Go.RowKit
attribute [local irreducible] AL AD AW OpOk Le AC thenQ blockQ EndQ

theorem indexInt_ac (xs : List Int) (y : Int) (hn : xs.length ≤ 100000000) : AC Try.prog 206 [IL xs, I y] H0 (I (idxOf (fun x => decide (x = y)) xs 0)) H0 := by
  refine AC.of_body 0 Try.func206 rfl (fun l h => absurd rfl h) (fun C hC => ?_)
  have hD : ∀ l, ¬ C.D0 l := fun l h => (hC l).1 h rfl
  simp only [startFr, Try.ntmps206, List.length_cons, List.length_nil, Nat.reduceAdd, Nat.reduceSub, List.replicate_succ, List.replicate_zero, List.cons_append, List.nil_append]
  repeat' (first | ((first | apply Ba | (apply Bb; (· rfl); (· rfl)) | (apply Bc; (· exact nxE)) | (apply Bd; (· rfl); (· rfl); (· exact nxE))); (· first | exact Ok.pe)) | ((first | apply Ca | (apply Cb; (· exact nxE))); (· first | exact Ok.e0)) | refine Sx ?_ | (refine Sy (fun h => ?_) (fun h => ?_) <;> try (exfalso; omega; done)) | refine Sz (fun h => ?_) (fun h => ?_))
  refine AW.loop (X := {k : Nat // k ≤ xs.length ∧ idxOf (fun x => decide (x = y)) xs 0 = idxOf (fun x => decide (x = y)) (xs.drop k) k}) (fun k => ⟨[IL xs, I y, Oo, Oo, Oo, Oo, Oo, I xs.length, I (k.1 : Nat), Oo, Oo, Oo, Oo, Oo, Oo, Oo, Oo, Oo, Oo], heapL [], 900⟩) (fun k => xs.length - k.1) ⟨0, Nat.zero_le _, by simp⟩ ?_ (fun k => ?_)
  ·
    (apply Le.headZ [] rfl)
    all_goals (try dsimp only [srcs])
    (case' hfr | hob => (repeat' (first | refine La ?_ ?_ | exact Lc | refine Lo ?_ | refine ⟨⟨_, rfl, ?_⟩, ?_⟩ | refine Lx ?_)))
    all_goals (first | (rfl) | exact Ld)
  obtain ⟨k, hk, hall⟩ := k
  simp only
  by_cases hlt : k < xs.length
  · obtain ⟨x, hx⟩ : ∃ x, xs[k]? = some x := ⟨xs[k], by simp⟩
    have hrow := IR_get hx
    have hst := idxOf_at (f := fun x => decide (x = y)) hx k
    rw [← hall] at hst
    repeat' (first | ((first | apply Ba | (apply Bb; (· rfl); (· rfl)) | (apply Bc; (· exact nxE)) | (apply Bd; (· rfl); (· rfl); (· exact nxE))); (· first | exact Ok.pe)) | ((first | apply Ca | (apply Cb; (· exact nxE))); (· first | exact Ok.e0)) | refine Sx ?_ | (refine Sy (fun h => ?_) (fun h => ?_) <;> try (exfalso; omega; done)) | refine Sz (fun h => ?_) (fun h => ?_))
    ·
      refine Ya ?_
      (apply Le.headZ (hs := []) [] rfl)
      all_goals (try dsimp only [srcs])
      (case' hfr => (repeat' (first | refine La ?_ ?_ | exact Lc | refine Lo ?_ | refine ⟨⟨_, rfl, ?_⟩, ?_⟩ | refine Lx ?_)))
      all_goals (first | exact Ld | exact trivial | ((rw [hst, if_pos (by simpa using h.symm)]; done)))
    · refine ⟨⟨k + 1, by omega, by rw [hst, if_neg (by simpa using fun e => h e.symm)]⟩, ?_, by simp only; omega⟩
      (apply Le.headZ [] rfl)
      all_goals (try dsimp only [srcs])
      (case' hfr | hob => (repeat' (first | refine La ?_ ?_ | exact Lc | refine Lo ?_ | refine ⟨⟨_, rfl, ?_⟩, ?_⟩ | refine Lx ?_)))
      all_goals (first | (rfl) | exact Ld)
  ·
    repeat' (first | ((first | apply Ba | (apply Bb; (· rfl); (· rfl)) | (apply Bc; (· exact nxE)) | (apply Bd; (· rfl); (· rfl); (· exact nxE))); (· first | exact Ok.pe)) | ((first | apply Ca | (apply Cb; (· exact nxE))); (· first | exact Ok.e0)) | refine Sx ?_ | (refine Sy (fun h => ?_) (fun h => ?_) <;> try (exfalso; omega; done)) | refine Sz (fun h => ?_) (fun h => ?_))
    refine Ya ?_
    (apply Le.headZ (hs := []) [] rfl)
    all_goals (try dsimp only [srcs])
    (case' hfr => (repeat' (first | refine La ?_ ?_ | exact Lc | refine Lo ?_ | refine ⟨⟨_, rfl, ?_⟩, ?_⟩ | refine Lx ?_)))
    all_goals (first | exact Ld | exact trivial | ((rw [hall, List.drop_of_length_le (by omega)]; rfl)))
theorem containsInt_ac (xs : List Int) (y : Int) (hn : xs.length ≤ 100000000) : AC Try.prog 105 [IL xs, I y] H0 (Bo (xs.any fun x => decide (x = y))) H0 := by
  refine AC.of_body 0 Try.func105 rfl (fun l h => absurd rfl h) (fun C hC => ?_)
  have hD : ∀ l, ¬ C.D0 l := fun l h => (hC l).1 h rfl
  simp only [startFr, Try.ntmps105, List.length_cons, List.length_nil, Nat.reduceAdd, Nat.reduceSub, List.replicate_succ, List.replicate_zero, List.cons_append, List.nil_append]
  repeat' (first | ((first | apply Ba | (apply Bb; (· rfl); (· rfl)) | (apply Bc; (· exact nxE)) | (apply Bd; (· rfl); (· rfl); (· exact nxE))); (· first | exact Kz rfl rfl (indexInt_ac xs y hn) (Ad (Ad An)) | exact Ok.pe)) | ((first | apply Ca | (apply Cb; (· exact nxE))); (· first | exact Ok.e0)) | refine Sx ?_ | (refine Sy (fun h => ?_) (fun h => ?_) <;> try (exfalso; omega; done)) | refine Sz (fun h => ?_) (fun h => ?_))
  all_goals
    refine Ya ?_
    (apply Le.headZ (hs := []) [] rfl)
    all_goals (try dsimp only [srcs])
    (case' hfr => (repeat' (first | refine La ?_ ?_ | exact Lc | refine Lo ?_ | refine ⟨⟨_, rfl, ?_⟩, ?_⟩ | refine Lx ?_)))
    all_goals (first | exact Ld | exact trivial | ((rw [idxOf_any]; done)))
theorem cN_snoc {ord : List Nat} {e : Nat} : IR (cN (ord ++ [e])) = IR (cN ord) ++ [[DI e]] := by simp
end Go.Proofs.Ytpgcmpbamlnkkaa
end

section
namespace Go.Proofs.Ytpgcmpbamlnkkaa
set_option linter.unusedSimpArgs false
set_option linter.unusedVariables false
open Go Go.RowKit
attribute [local irreducible] AL AD AW OpOk Le AC thenQ blockQ EndQ

theorem allWithin_ac (xs : List Int) (lo hi : Int) (hn : xs.length ≤ 100000000) : AC Try.prog 218 [IL xs, I lo, I hi] H0 (Bo (xs.all fun x => wi x lo hi)) H0 := by
  refine AC.of_body 0 Try.func218 rfl (fun l h => absurd rfl h) (fun C hC => ?_)
  have hD : ∀ l, ¬ C.D0 l := fun l h => (hC l).1 h rfl
  simp only [startFr, Try.ntmps218, List.length_cons, List.length_nil, Nat.reduceAdd, Nat.reduceSub, List.replicate_succ, List.replicate_zero, List.cons_append, List.nil_append]
  repeat' (first | ((first | apply Ba | (apply Bb; (· rfl); (· rfl)) | (apply Bc; (· exact nxE)) | (apply Bd; (· rfl); (· rfl); (· exact nxE))); (· first | exact Ok.pe)) | ((first | apply Ca | (apply Cb; (· exact nxE))); (· first | exact Ok.e0)) | refine Sx ?_ | (refine Sy (fun h => ?_) (fun h => ?_) <;> try (exfalso; omega; done)) | refine Sz (fun h => ?_) (fun h => ?_))
  refine AW.loop (X := {k : Nat // k ≤ xs.length ∧ xs.all (fun x => wi x lo hi) = (xs.drop k).all (fun x => wi x lo hi)}) (fun k => ⟨[Oo, I lo, I hi, Oo, Oo, Oo, Oo, Oo, Oo, IL xs, I xs.length, I (k.1 : Nat), Oo, Oo, Oo, Oo, Oo, Oo, Oo, Oo, Oo], heapL [], 900⟩) (fun k => xs.length - k.1) ⟨0, Nat.zero_le _, by simp⟩ ?_ (fun k => ?_)
  ·
    (apply Le.headZ [] rfl)
    all_goals (try dsimp only [srcs])
    (case' hfr | hob => (repeat' (first | refine La ?_ ?_ | exact Lc | refine Lo ?_ | refine ⟨⟨_, rfl, ?_⟩, ?_⟩ | refine Lx ?_)))
    all_goals (first | (rfl) | exact Ld)
  obtain ⟨k, hk, hall⟩ := k
  simp only
  by_cases hlt : k < xs.length
  · obtain ⟨x, hx⟩ : ∃ x, xs[k]? = some x := ⟨xs[k], by simp⟩
    have hrow := IR_get hx
    repeat' (first | ((first | apply Ba | (apply Bb; (· rfl); (· rfl)) | (apply Bc; (· exact nxE)) | (apply Bd; (· rfl); (· rfl); (· exact nxE))); (· first | exact Kz rfl rfl (within_ac _ _ _) (Ad (Ad (Ad An))) | exact Ok.pe)) | ((first | apply Ca | (apply Cb; (· exact nxE))); (· first | exact Ok.e0)) | refine Sx ?_ | (refine Sy (fun h => ?_) (fun h => ?_) <;> try (exfalso; omega; done)) | refine Sz (fun h => ?_) (fun h => ?_))
    ·
      refine Ya ?_
      (apply Le.headZ (hs := []) [] rfl)
      all_goals (try dsimp only [srcs])
      (case' hfr => (repeat' (first | refine La ?_ ?_ | exact Lc | refine Lo ?_ | refine ⟨⟨_, rfl, ?_⟩, ?_⟩ | refine Lx ?_)))
      all_goals (first | exact Ld | exact trivial | ((rw [all_no hx (by simpa using h)]; done)))
    · refine ⟨⟨k + 1, by omega, all_step hx hall (by simpa using h)⟩, ?_, by simp only; omega⟩
      (apply Le.headZ [] rfl)
      all_goals (try dsimp only [srcs])
      (case' hfr | hob => (repeat' (first | refine La ?_ ?_ | exact Lc | refine Lo ?_ | refine ⟨⟨_, rfl, ?_⟩, ?_⟩ | refine Lx ?_)))
      all_goals (first | (rfl) | exact Ld)
  ·
    have hA : xs.all (fun x => wi x lo hi) = true := by rw [hall, List.drop_of_length_le (by omega)]; rfl
    repeat' (first | ((first | apply Ba | (apply Bb; (· rfl); (· rfl)) | (apply Bc; (· exact nxE)) | (apply Bd; (· rfl); (· rfl); (· exact nxE))); (· first | exact Ok.pe)) | ((first | apply Ca | (apply Cb; (· exact nxE))); (· first | exact Ok.e0)) | refine Sx ?_ | (refine Sy (fun h => ?_) (fun h => ?_) <;> try (exfalso; omega; done)) | refine Sz (fun h => ?_) (fun h => ?_))
    refine Ya ?_
    (apply Le.headZ (hs := []) [] rfl)
    all_goals (try dsimp only [srcs])
    (case' hfr => (repeat' (first | refine La ?_ ?_ | exact Lc | refine Lo ?_ | refine ⟨⟨_, rfl, ?_⟩, ?_⟩ | refine Lx ?_)))
    all_goals (first | exact Ld | exact trivial | ((rw [hA]; done)))
end Go.Proofs.Ytpgcmpbamlnkkaa
end

section
namespace Go.Proofs.Ytpgcmpbamlnkkaa
set_option linter.unusedSimpArgs false
set_option linter.unusedVariables false
open Go Go.RowKit
attribute [local irreducible] AL AD AW OpOk Le AC thenQ blockQ EndQ

/-! ### Tables told by a function -/
def rowF (n : Nat) (g : Nat → Int) : List Int := (List.range n).map g
def tabF (m n : Nat) (f : Nat → Nat → Int) : List (List Int) := (List.range m).map fun i => rowF n (f i)
theorem rowF_len {n : Nat} {g : Nat → Int} : (rowF n g).length = n := by simp [rowF]
theorem tabF_len {m n : Nat} {f : Nat → Nat → Int} : (tabF m n f).length = m := by simp [tabF]
theorem rowF_get {n j : Nat} {g : Nat → Int} (h : j < n) : (rowF n g)[j]? = some (g j) := by simp [rowF, h]
theorem tabF_get {m n i : Nat} {f : Nat → Nat → Int} (h : i < m) : (tabF m n f)[i]? = some (rowF n (f i)) := by simp [tabF, h]
theorem TRF_get {m n i : Nat} {f : Nat → Nat → Int} (h : i < m) : (TR (tabF m n f))[i]? = some (IR (rowF n (f i))) := by simp [tabF_get h]
theorem IRF_get {n j : Nat} {g : Nat → Int} (h : j < n) : (IR (rowF n g))[j]? = some [DI (g j)] := by simp [rowF_get h]
theorem tabF_rc {m n : Nat} {f : Nat → Nat → Int} : Rc (tabF m n f) m n := ⟨tabF_len, fun r hr => by obtain ⟨i, _, rfl⟩ := List.mem_map.1 hr; exact rowF_len⟩
theorem tabF_ent {m n i j : Nat} {f : Nat → Nat → Int} (hi : i < m) (hj : j < n) : entN (tabF m n f) i j = f i j := by
  unfold entN; rw [tabF_get hi, Option.getD_some, rowF_get hj, Option.getD_some]
theorem rowF_congr {n : Nat} {f g : Nat → Int} (h : ∀ j, j < n → f j = g j) : rowF n f = rowF n g := List.map_congr_left fun j hj => h j (List.mem_range.1 hj)
theorem tabF_congr {m n : Nat} {f g : Nat → Nat → Int} (h : ∀ i j, i < m → j < n → f i j = g i j) : tabF m n f = tabF m n g := List.map_congr_left fun i hi => rowF_congr fun j hj => h i j (List.mem_range.1 hi) hj
theorem rowF_self {r : List Int} {n : Nat} (h : r.length = n) : rowF n (fun j => (r[j]?).getD 0) = r := by
  subst h
  apply List.ext_getElem?
  intro j
  by_cases hj : j < r.length
  · rw [rowF_get hj]; simp [hj]
  · rw [List.getElem?_eq_none (by rw [rowF_len]; omega), List.getElem?_eq_none (by omega)]
theorem tabF_self {t : List (List Int)} {m n : Nat} (h : Rc t m n) : tabF m n (entN t) = t := by
  apply List.ext_getElem?
  intro i
  by_cases hi : i < m
  · have h1 : i < t.length := by rw [h.l]; exact hi
    rw [tabF_get hi, List.getElem?_eq_getElem h1]
    congr 1
    have := rowF_self (h.r _ (List.getElem_mem h1))
    rw [← this]
    refine rowF_congr fun j hj => ?_
    unfold entN
    rw [List.getElem?_eq_getElem h1, Option.getD_some]
  · rw [List.getElem?_eq_none (by rw [tabF_len]; omega), List.getElem?_eq_none (by rw [h.l]; omega)]
theorem rowF_set {n j : Nat} {g : Nat → Int} {v : Int} : (rowF n g).set j v = rowF n (fun b => if b = j then v else g b) := by
  apply List.ext_getElem?
  intro b
  rw [List.getElem?_set]
  by_cases hb : b < n
  · rw [rowF_get hb, rowF_get hb, rowF_len]
    by_cases e : j = b
    · subst e; rw [if_pos rfl, if_pos hb, if_pos rfl]
    · rw [if_neg e, if_neg (fun h => e h.symm)]
  · rw [List.getElem?_eq_none (l := rowF n g) (by rw [rowF_len]; omega), List.getElem?_eq_none (l := rowF n _) (by rw [rowF_len]; omega), rowF_len]
    split
    · rename_i e; subst e; rw [if_neg hb]
    · rfl
/-- One cell of a table written. -/
theorem tabF_set {m n i j : Nat} {f f' : Nat → Nat → Int} {v : Int} (h : ∀ a b, a < m → b < n → f' a b = if a = i ∧ b = j then v else f a b) : TR (tabF m n f') = (TR (tabF m n f)).set i (IR ((rowF n (f i)).set j v)) := by
  have e : tabF m n f' = (tabF m n f).set i ((rowF n (f i)).set j v) := by
    apply List.ext_getElem?
    intro a
    rw [List.getElem?_set]
    by_cases ha : a < m
    · rw [tabF_get ha]
      by_cases e : i = a
      · subst e
        rw [if_pos rfl, if_pos (by rw [tabF_len]; exact ha), rowF_set]
        congr 1
        exact rowF_congr fun b hb => by rw [h i b ha hb]; simp
      · rw [if_neg e, tabF_get ha]
        congr 1
        exact rowF_congr fun b hb => by rw [h a b ha hb, if_neg (fun h => e h.1.symm)]
    · rw [List.getElem?_eq_none (by rw [tabF_len]; omega)]
      split
      · rw [if_neg (by rw [tabF_len]; omega)]
      · rw [List.getElem?_eq_none (by rw [tabF_len]; omega)]
  rw [e]; simp [List.map_set]
theorem IR_ne {xs : List Int} : ∀ r ∈ IR xs, r ≠ [] := fun r hr => by obtain ⟨p, _, rfl⟩ := List.mem_map.1 hr; simp
theorem cloneInt_ac (xs : List Int) (hn : xs.length ≤ 100000000) : AC Try.prog 134 [IL xs] H0 (own1 1 xs.length) (hp1 (IO xs)) := by
  refine AC.of_body 0 Try.func134 rfl (fun l h => absurd rfl h) (fun C hC => ?_)
  have hD : ∀ l, ¬ C.D0 l := fun l h => (hC l).1 h rfl
  simp only [startFr, Try.ntmps134, List.length_cons, List.length_nil, Nat.reduceAdd, Nat.reduceSub, List.replicate_succ, List.replicate_zero, List.cons_append, List.nil_append]
  repeat' (first | ((first | apply Ba | (apply Bb; (· rfl); (· rfl)) | (apply Bc; (· exact nxE)) | (apply Bd; (· rfl); (· rfl); (· exact nxE))); (· first | exact Ok.pe)) | ((first | apply Ca | (apply Cb; (· exact nxE))); (· first | exact Ok.e0)) | refine Sx ?_ | (refine Sy (fun h => ?_) (fun h => ?_) <;> try (exfalso; omega; done)) | refine Sz (fun h => ?_) (fun h => ?_))
  refine AL.stAny (OpAny.eqNilD rfl rfl rfl IR_ne) rfl (fun b hb => ?_)
  cases b
  · simp only [List.set_cons_succ, List.set_cons_zero]
    repeat' (first | ((first | apply Ba | (apply Bb; (· rfl); (· rfl)) | (apply Bc; (· exact nxE)) | (apply Bd; (· rfl); (· rfl); (· exact nxE))); (· first | exact Ok.appendD (rows := []) rfl rfl (by decide) rfl rfl rfl rfl IR_len IR_row IR_all (by omega) (by omega) | exact Ok.pe)) | ((first | apply Ca | (apply Cb; (· exact nxE))); (· first | exact Ok.appendD (rows := []) rfl rfl (by decide) rfl rfl rfl rfl IR_len IR_row IR_all (by omega) (by omega) | exact Ok.e0)) | refine Sx ?_ | (refine Sy (fun h => ?_) (fun h => ?_) <;> try (exfalso; omega; done)) | refine Sz (fun h => ?_) (fun h => ?_))
    refine Ya ?_
    (apply Le.head [(⟨0, []⟩, _, _)])
    (case' hfr | hob => (repeat' (first | refine La ?_ ?_ | exact Lc | refine Lo ?_ | refine ⟨⟨_, rfl, ?_⟩, ?_⟩ | refine Lx ?_)))
    all_goals (first | exact Ld | (rfl))
  · have h0 : xs = [] := by simpa using hb rfl
    subst h0
    simp only [List.set_cons_succ, List.set_cons_zero]
    repeat' (first | ((first | apply Ba | (apply Bb; (· rfl); (· rfl)) | (apply Bc; (· exact nxE)) | (apply Bd; (· rfl); (· rfl); (· exact nxE))); (· first | exact Ok.pe)) | ((first | apply Ca | (apply Cb; (· exact nxE))); (· first | exact Ok.e0)) | refine Sx ?_ | (refine Sy (fun h => ?_) (fun h => ?_) <;> try (exfalso; omega; done)) | refine Sz (fun h => ?_) (fun h => ?_))
    exact end1nil (.inl rfl) rfl (rT rfl) hD
theorem TR_take {t : List (List Int)} {k : Nat} {r : List Int} (h : t[k]? = some r) : TR (t.take (k + 1)) = TR (t.take k) ++ [IR r] := by
  obtain ⟨hk, rfl⟩ := List.getElem?_eq_some_iff.1 h
  rw [List.take_succ_eq_append_getElem hk]; exact List.map_append
end Go.Proofs.Ytpgcmpbamlnkkaa
end

section
namespace Go.Proofs.Ytpgcmpbamlnkkaa
set_option linter.unusedSimpArgs false
set_option linter.unusedVariables false
open Go Go.RowKit
attribute [local irreducible] AL AD AW OpOk Le AC thenQ blockQ EndQ

/-- A table of which the first rows, and the first cells of the next one, have been written. -/
def mixF (f g : Nat → Nat → Int) (K J : Nat) : Nat → Nat → Int := fun a b => if a < K ∨ (a = K ∧ b < J) then f a b else g a b
theorem mixF_0 {f g : Nat → Nat → Int} {m n : Nat} : tabF m n (mixF f g 0 0) = tabF m n g := tabF_congr fun i j _ _ => by simp [mixF]
theorem mixF_row {f g : Nat → Nat → Int} {m n K : Nat} : tabF m n (mixF f g K n) = tabF m n (mixF f g (K + 1) 0) := tabF_congr fun i j _ hj => by
  unfold mixF
  by_cases h : i < K ∨ (i = K ∧ j < n)
  · rw [if_pos h, if_pos (by omega)]
  · rw [if_neg h, if_neg (by omega)]
theorem mixF_all {f g : Nat → Nat → Int} {m n : Nat} : tabF m n (mixF f g m 0) = tabF m n f := tabF_congr fun i j hi _ => by simp [mixF, hi]
theorem mixF_set {f g : Nat → Nat → Int} {K J a b : Nat} : mixF f g K (J + 1) a b = if a = K ∧ b = J then f K J else mixF f g K J a b := by
  unfold mixF
  by_cases h : a = K ∧ b = J
  · obtain ⟨rfl, rfl⟩ := h; simp
  · rw [if_neg h]
    by_cases h2 : a < K ∨ (a = K ∧ b < J)
    · rw [if_pos h2, if_pos (by omega)]
    · rw [if_neg h2, if_neg (by omega)]
end Go.Proofs.Ytpgcmpbamlnkkaa
end

section
namespace Go.Proofs.Ytpgcmpbamlnkkaa
set_option linter.unusedSimpArgs false
set_option linter.unusedVariables false
open Go Go.RowKit
attribute [local irreducible] AL AD AW OpOk Le AC thenQ blockQ EndQ

def okP (r e : Nat) (p : Pl) : Prop := p.t = e ∧ p.k + 1 ≤ r
instance {r e : Nat} {p : Pl} : Decidable (okP r e p) := by unfold okP; exact inferInstance
/-! ### Causes -/
/-- Does a cause end at this firing? -/
def stopC (t : List (List Int)) (xs : List Pl) (r e : Nat) : Prop := (alA t r e xs xs.length).2 < 0 ∨ (alA t r e xs xs.length).1 < entN t (r - 1) e
instance {t : List (List Int)} {xs : List Pl} {r e : Nat} : Decidable (stopC t xs r e) := by unfold stopC; exact inferInstance
end Go.Proofs.Ytpgcmpbamlnkkaa
end

section
namespace Go.Proofs.Ytpgcmpbamlnkkaa
set_option linter.unusedSimpArgs false
set_option linter.unusedVariables false
open Go Go.RowKit
attribute [local irreducible] AL AD AW OpOk Le AC thenQ blockQ EndQ

/-! ### Fractions -/
/-! ### Live graphs -/
theorem Live.over {n : Nat} {xs : List Pl} (hl : Live xs n) {u1 u2 over : Int} {c : List Nat} (hc : Circ xs c) (hw : over < wgt xs u1 u2 c) : overC xs u1 u2 over n ≠ [] := overC_finds hc (hl.circ hc).1 hw
end Go.Proofs.Ytpgcmpbamlnkkaa
end

section
namespace Go.Proofs.Ytpgcmpbamlnkkaa
open Go Go.RowKit
set_option linter.unusedSimpArgs false
set_option linter.unusedVariables false
attribute [local irreducible] AL AD AW OpOk Le AC thenQ blockQ EndQ

end Go.Proofs.Ytpgcmpbamlnkkaa
end
