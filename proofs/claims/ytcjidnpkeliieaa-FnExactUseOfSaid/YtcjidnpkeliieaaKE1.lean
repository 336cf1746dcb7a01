/-
  Walks in the abstract reading: the search of circuits of the reference.
-/
import Derived.Test.YtcjidnpkeliieaaKC5
import Derived.Test.YtcjidnpkeliieaaKG3
namespace Go.Proofs.Ytcjidnpkeliieaa
set_option linter.unusedSimpArgs false
set_option linter.unusedVariables false
open Go Go.RowKit
attribute [local irreducible] AL AD AW OpOk Le AC thenQ blockQ EndQ

theorem sumD_snoc {xs : List Pl} {l : List Nat} {k i : Nat} (h : l[k]? = some i) : sumD xs (l.take (k + 1)) = sumD xs (l.take k) + (plA xs i).d := by
  obtain ⟨hk, rfl⟩ := List.getElem?_eq_some_iff.1 h
  rw [List.take_succ_eq_append_getElem hk, sumD_app]; simp [sumD]
theorem sumT_snoc {xs : List Pl} {l : List Nat} {k i : Nat} (h : l[k]? = some i) : sumT xs (l.take (k + 1)) = sumT xs (l.take k) + (plA xs i).k := by
  obtain ⟨hk, rfl⟩ := List.getElem?_eq_some_iff.1 h
  rw [List.take_succ_eq_append_getElem hk, sumT_app]; simp [sumT]
theorem okPl_at {n : Nat} {xs : List Pl} (hv : ∀ p ∈ xs, okPl n p) (i : Nat) (hi : i < xs.length) : okPl n (plA xs i) := by
  unfold plA
  rw [List.getElem?_eq_getElem hi]
  exact hv _ (List.getElem_mem hi)
theorem sums_take {n : Nat} {xs : List Pl} (hv : ∀ p ∈ xs, okPl n p) {l : List Nat} (hl : ∀ i ∈ l, i < xs.length) (k : Nat) : (0 ≤ sumD xs (l.take k) ∧ sumD xs (l.take k) ≤ 10000 * l.length) ∧ (0 ≤ sumT xs (l.take k) ∧ sumT xs (l.take k) ≤ 5 * l.length) := by
  have h := sum_bnd (D := 10000) (K := 5) (xs := xs) (c := l.take k) (fun i hi => ⟨(okPl_at hv i hi).2.2.1, (okPl_at hv i hi).2.2.2⟩) (fun i hi => hl i (List.mem_of_mem_take hi))
  have : (l.take k).length ≤ l.length := by simp [List.length_take]; omega
  omega
theorem pl_row {n : Nat} {xs : List Pl} {i : Nat} (hi : i < xs.length) : (xs.map Pl.row)[((i : Nat) : Int).toNat]? = some [DI (plA xs i).f, DI (plA xs i).t, DI (plA xs i).d, DI (plA xs i).k] := by
  have h : xs[i]? = some (plA xs i) := by unfold plA; rw [List.getElem?_eq_getElem hi]; rfl
  exact row_get h
set_option maxHeartbeats 1000000 in
theorem l15Sums_ac (ev : Int) (n : Nat) (xs : List Pl) (l : List Nat) (hx : xs.length ≤ 100000000) (hv : ∀ p ∈ xs, okPl n p) (hl : ∀ i ∈ l, i < xs.length) (hn : l.length ≤ 1000) : AC Try.prog 91 [grD ev xs, IL (cN l)] H0 (.tup [I (sumD xs l), I (sumT xs l)]) H0 := by
  have hll : (IR (cN l)).length = l.length := by simp
  refine AC.of_body 0 Try.func91 rfl (fun l h => absurd rfl h) (fun C hC => ?_)
  have hD : ∀ l, ¬ C.D0 l := fun l h => (hC l).1 h rfl
  simp only [startFr, Try.ntmps91, List.length_cons, List.length_nil, Nat.reduceAdd, Nat.reduceSub, List.replicate_succ, List.replicate_zero, List.cons_append, List.nil_append]
  repeat' (first | refine Qa ?_ | ((first | apply Ba | (apply Bb; (· rfl); (· rfl)) | (apply Bc; (· exact nxE)) | (apply Bd; (· rfl); (· rfl); (· exact nxE))); (· first | exact Ok.pe); (first | refine Na ?_ | refine Nb ?_)) | ((first | apply Ca | (apply Cb; (· exact nxE))); (· first | exact Ok.e0); (first | refine Nc ?_ | refine Nd ?_)) | refine Oa ?_ | refine Ob ?_ | ((first | refine Ga (fun h => ?_) (fun h => ?_) | refine AD.gsplit rfl rfl (fun h => ?_) (fun h => ?_)) <;> try (exfalso; omega; done)) | (first | refine AL.gsplitB rfl rfl (fun h => ?_) (fun h => ?_) | refine AD.gsplitB rfl rfl (fun h => ?_) (fun h => ?_)) | refine Fa ?_ | refine Qb ?_ | refine Qc ?_ | refine Qd ?_ | refine Fb ?_ | refine Qe ?_ | refine Wa ?_ | refine Wb ?_ | (refine AW.ite rfl (fun h => ?_) (fun h => ?_) <;> try (exfalso; omega; done)) | refine AW.cond _ rfl (fun h => ?_) (fun h => ?_) | refine Qf ?_ | refine Qg ?_ | refine Qh ?_ | refine Qi ?_ | refine Xa ?_ | refine Xb ?_ | refine Xc ?_ | refine Xd ?_ | refine Fc ?_)
  refine AW.loop (X := {k : Nat // k ≤ l.length}) (fun k => ⟨[Oo, IL (cN l), Bx 2 0, Oo, Oo, Oo, I (sumD xs (l.take k.1)), I (sumT xs (l.take k.1)), I (k.1 : Nat), Oo, Oo, Oo, Oo, Oo, Oo, Oo, Oo, Oo, Oo, Oo, Oo, Oo, Oo, Oo, Oo, Oo, Oo, Oo, Oo, Oo, Oo, Oo, Oo, Oo, Oo, Oo, Oo, Oo, Oo], heapL [(⟨0, []⟩, ⟨0, []⟩, ⟨2, [[I ev, PL xs]]⟩)], 900⟩) (fun k => l.length - k.1) ⟨0, Nat.zero_le _⟩ ?_ (fun k => ?_)
  ·
    (apply Le.headZ [_] rfl)
    all_goals (try dsimp only [srcs])
    (case' hfr | hob => (repeat' (first | refine La ?_ ?_ | exact Lc | refine Lo ?_ | refine ⟨⟨_, rfl, ?_⟩, ?_⟩ | refine ObA.box ?_ | refine ObA.frE ?_ | refine ObA.dataE ?_ | refine ARs.agg ?_ | refine ARs.tup ?_ | refine AR.b ?_ | refine AR.iE ?_ | refine AR.e ?_ | refine AR.clo' ARs.nil ?_)))
    all_goals (first | (rfl) | exact Ld)
  obtain ⟨k, hk⟩ := k
  simp only
  by_cases hlt : k < l.length
  · obtain ⟨i, hi⟩ : ∃ i, l[k]? = some i := ⟨l[k], by simp⟩
    have hil := hl i (List.mem_of_getElem? hi)
    have hrow := IR_get (xs := cN l) (k := k) (x := (i : Int)) (by simp [hi])
    have hpl := pl_row (n := n) hil
    have ho := okPl_at hv i hil
    obtain ⟨_, _, ⟨h5, h6⟩, ⟨h7, h8⟩⟩ := ho
    have hs := sums_take hv hl k
    have hsd := sumD_snoc (xs := xs) hi
    have hsk := sumT_snoc (xs := xs) hi
    generalize sumD xs (l.take k) = D at hs hsd ⊢
    generalize sumT xs (l.take k) = K at hs hsk ⊢
    generalize plA xs i = p at *
    obtain ⟨pf, pt, pd, pk⟩ := p
    simp only at hpl h5 h6 h7 h8 hsd hsk
    repeat' (first | refine Qa ?_ | ((first | apply Ba | (apply Bb; (· rfl); (· rfl)) | (apply Bc; (· exact nxE)) | (apply Bd; (· rfl); (· rfl); (· exact nxE))); (· first | exact Ok.pe); (first | refine Na ?_ | refine Nb ?_)) | ((first | apply Ca | (apply Cb; (· exact nxE))); (· first | exact Ok.e0); (first | refine Nc ?_ | refine Nd ?_)) | refine Oa ?_ | refine Ob ?_ | ((first | refine Ga (fun h => ?_) (fun h => ?_) | refine AD.gsplit rfl rfl (fun h => ?_) (fun h => ?_)) <;> try (exfalso; omega; done)) | (first | refine AL.gsplitB rfl rfl (fun h => ?_) (fun h => ?_) | refine AD.gsplitB rfl rfl (fun h => ?_) (fun h => ?_)) | refine Fa ?_ | refine Qb ?_ | refine Qc ?_ | refine Qd ?_ | refine Fb ?_ | refine Qe ?_ | refine Wa ?_ | refine Wb ?_ | (refine AW.ite rfl (fun h => ?_) (fun h => ?_) <;> try (exfalso; omega; done)) | refine AW.cond _ rfl (fun h => ?_) (fun h => ?_) | refine Qf ?_ | refine Qg ?_ | refine Qh ?_ | refine Qi ?_ | refine Xa ?_ | refine Xb ?_ | refine Xc ?_ | refine Xd ?_ | refine Fc ?_)
    refine ⟨⟨k + 1, by omega⟩, ?_, by simp only; omega⟩
    (apply Le.headZ [_] rfl)
    all_goals (try dsimp only [srcs])
    (case' hfr | hob => (repeat' (first | refine La ?_ ?_ | exact Lc | refine Lo ?_ | refine ⟨⟨_, rfl, ?_⟩, ?_⟩ | refine ObA.box ?_ | refine ObA.frE ?_ | refine ObA.dataE ?_ | refine ARs.agg ?_ | refine ARs.tup ?_ | refine AR.b ?_ | refine AR.iE ?_ | refine AR.e ?_ | refine AR.clo' ARs.nil ?_)))
    all_goals (first | ((first | (rw [hsd]; done) | (rw [hsk]; done))) | exact Ld)
  ·
    have hkn : k = l.length := by omega
    subst hkn
    rw [List.take_length]
    repeat' (first | refine Qa ?_ | ((first | apply Ba | (apply Bb; (· rfl); (· rfl)) | (apply Bc; (· exact nxE)) | (apply Bd; (· rfl); (· rfl); (· exact nxE))); (· first | exact Ok.pe); (first | refine Na ?_ | refine Nb ?_)) | ((first | apply Ca | (apply Cb; (· exact nxE))); (· first | exact Ok.e0); (first | refine Nc ?_ | refine Nd ?_)) | refine Oa ?_ | refine Ob ?_ | ((first | refine Ga (fun h => ?_) (fun h => ?_) | refine AD.gsplit rfl rfl (fun h => ?_) (fun h => ?_)) <;> try (exfalso; omega; done)) | (first | refine AL.gsplitB rfl rfl (fun h => ?_) (fun h => ?_) | refine AD.gsplitB rfl rfl (fun h => ?_) (fun h => ?_)) | refine Fa ?_ | refine Qb ?_ | refine Qc ?_ | refine Qd ?_ | refine Fb ?_ | refine Qe ?_ | refine Wa ?_ | refine Wb ?_ | (refine AW.ite rfl (fun h => ?_) (fun h => ?_) <;> try (exfalso; omega; done)) | refine AW.cond _ rfl (fun h => ?_) (fun h => ?_) | refine Qf ?_ | refine Qg ?_ | refine Qh ?_ | refine Qi ?_ | refine Xa ?_ | refine Xb ?_ | refine Xc ?_ | refine Xd ?_ | refine Fc ?_)
    refine Yb ?_
    (apply Le.headZ (hs := []) [] rfl)
    all_goals (try dsimp only [srcs])
    (case' hfr => (repeat' (first | refine La ?_ ?_ | exact Lc | refine Lo ?_ | refine ⟨⟨_, rfl, ?_⟩, ?_⟩ | refine ObA.box ?_ | refine ObA.frE ?_ | refine ObA.dataE ?_ | refine ARs.agg ?_ | refine ARs.tup ?_ | refine AR.b ?_ | refine AR.iE ?_ | refine AR.e ?_ | refine AR.clo' ARs.nil ?_)))
    all_goals (first | exact Ld | exact trivial | (rfl))
theorem visB_at {xs : List Pl} {l : List Nat} {e : Int} {k i : Nat} (h : l[k]? = some i) : visB xs (l.drop k) e = (decide ((plA xs i).f = e) || decide ((plA xs i).t = e) || visB xs (l.drop (k + 1)) e) := by
  obtain ⟨hk, rfl⟩ := List.getElem?_eq_some_iff.1 h
  unfold visB
  rw [List.drop_eq_getElem_cons hk, List.any_cons]
set_option maxHeartbeats 1000000 in
theorem l15Visits_ac (ev : Int) (n : Nat) (xs : List Pl) (l : List Nat) (e : Int) (hx : xs.length ≤ 100000000) (hl : ∀ i ∈ l, i < xs.length) (hn : l.length ≤ 1000) : AC Try.prog 225 [grD ev xs, IL (cN l), I e] H0 (Bo (visB xs l e)) H0 := by
  have hll : (IR (cN l)).length = l.length := by simp
  refine AC.of_body 0 Try.func225 rfl (fun l h => absurd rfl h) (fun C hC => ?_)
  have hD : ∀ l, ¬ C.D0 l := fun l h => (hC l).1 h rfl
  simp only [startFr, Try.ntmps225, List.length_cons, List.length_nil, Nat.reduceAdd, Nat.reduceSub, List.replicate_succ, List.replicate_zero, List.cons_append, List.nil_append]
  repeat' (first | refine Qa ?_ | ((first | apply Ba | (apply Bb; (· rfl); (· rfl)) | (apply Bc; (· exact nxE)) | (apply Bd; (· rfl); (· rfl); (· exact nxE))); (· first | exact Ok.pe); (first | refine Na ?_ | refine Nb ?_)) | ((first | apply Ca | (apply Cb; (· exact nxE))); (· first | exact Ok.e0); (first | refine Nc ?_ | refine Nd ?_)) | refine Oa ?_ | refine Ob ?_ | ((first | refine Ga (fun h => ?_) (fun h => ?_) | refine AD.gsplit rfl rfl (fun h => ?_) (fun h => ?_)) <;> try (exfalso; omega; done)) | (first | refine AL.gsplitB rfl rfl (fun h => ?_) (fun h => ?_) | refine AD.gsplitB rfl rfl (fun h => ?_) (fun h => ?_)) | refine Fa ?_ | refine Qb ?_ | refine Qc ?_ | refine Qd ?_ | refine Fb ?_ | refine Qe ?_ | refine Wa ?_ | refine Wb ?_ | (refine AW.ite rfl (fun h => ?_) (fun h => ?_) <;> try (exfalso; omega; done)) | refine AW.cond _ rfl (fun h => ?_) (fun h => ?_) | refine Qf ?_ | refine Qg ?_ | refine Qh ?_ | refine Qi ?_ | refine Xa ?_ | refine Xb ?_ | refine Xc ?_ | refine Xd ?_ | refine Fc ?_)
  refine AW.loop (X := {k : Nat // k ≤ l.length ∧ visB xs l e = visB xs (l.drop k) e}) (fun k => ⟨[Oo, IL (cN l), I e, Bx 2 0, Oo, Oo, Oo, I (k.1 : Nat), Oo, Oo, Oo, Oo, Oo, Oo, Oo, Oo, Oo, Oo, Oo, Oo, Oo, Oo, Oo, Oo, Oo, Oo, Oo, Oo, Oo, Oo, Oo, Oo, Oo, Oo, Oo, Oo, Oo, Oo], heapL [(⟨0, []⟩, ⟨0, []⟩, ⟨2, [[I ev, PL xs]]⟩)], 900⟩) (fun k => l.length - k.1) ⟨0, Nat.zero_le _, by simp⟩ ?_ (fun k => ?_)
  ·
    (apply Le.headZ [_] rfl)
    all_goals (try dsimp only [srcs])
    (case' hfr | hob => (repeat' (first | refine La ?_ ?_ | exact Lc | refine Lo ?_ | refine ⟨⟨_, rfl, ?_⟩, ?_⟩ | refine ObA.box ?_ | refine ObA.frE ?_ | refine ObA.dataE ?_ | refine ARs.agg ?_ | refine ARs.tup ?_ | refine AR.b ?_ | refine AR.iE ?_ | refine AR.e ?_ | refine AR.clo' ARs.nil ?_)))
    all_goals (first | (rfl) | exact Ld)
  obtain ⟨k, hk, hall⟩ := k
  simp only
  by_cases hlt : k < l.length
  · obtain ⟨i, hi⟩ : ∃ i, l[k]? = some i := ⟨l[k], by simp⟩
    have hil := hl i (List.mem_of_getElem? hi)
    have hrow := IR_get (xs := cN l) (k := k) (x := (i : Int)) (by simp [hi])
    have hpl := pl_row (n := n) hil
    rw [visB_at hi] at hall
    generalize plA xs i = p at *
    obtain ⟨pf, pt, pd, pk⟩ := p
    simp only at hpl hall
    repeat' (first | refine Qa ?_ | ((first | apply Ba | (apply Bb; (· rfl); (· rfl)) | (apply Bc; (· exact nxE)) | (apply Bd; (· rfl); (· rfl); (· exact nxE))); (· first | exact Ok.pe); (first | refine Na ?_ | refine Nb ?_)) | ((first | apply Ca | (apply Cb; (· exact nxE))); (· first | exact Ok.e0); (first | refine Nc ?_ | refine Nd ?_)) | refine Oa ?_ | refine Ob ?_ | ((first | refine Ga (fun h => ?_) (fun h => ?_) | refine AD.gsplit rfl rfl (fun h => ?_) (fun h => ?_)) <;> try (exfalso; omega; done)) | (first | refine AL.gsplitB rfl rfl (fun h => ?_) (fun h => ?_) | refine AD.gsplitB rfl rfl (fun h => ?_) (fun h => ?_)) | refine Fa ?_ | refine Qb ?_ | refine Qc ?_ | refine Qd ?_ | refine Fb ?_ | refine Qe ?_ | refine Wa ?_ | refine Wb ?_ | (refine AW.ite rfl (fun h => ?_) (fun h => ?_) <;> try (exfalso; omega; done)) | refine AW.cond _ rfl (fun h => ?_) (fun h => ?_) | refine Qf ?_ | refine Qg ?_ | refine Qh ?_ | refine Qi ?_ | refine Xa ?_ | refine Xb ?_ | refine Xc ?_ | refine Xd ?_ | refine Fc ?_)
    all_goals first
      | (
        refine Ya ?_
        (apply Le.headZ (hs := []) [] rfl)
        all_goals (try dsimp only [srcs])
        (case' hfr => (repeat' (first | refine La ?_ ?_ | exact Lc | refine Lo ?_ | refine ⟨⟨_, rfl, ?_⟩, ?_⟩ | refine ObA.box ?_ | refine ObA.frE ?_ | refine ObA.dataE ?_ | refine ARs.agg ?_ | refine ARs.tup ?_ | refine AR.b ?_ | refine AR.iE ?_ | refine AR.e ?_ | refine AR.clo' ARs.nil ?_)))
        all_goals (first | exact Ld | exact trivial | ((rw [hall]; simp [*]; done)))
        done)
      | (refine ⟨⟨k + 1, by omega, by rw [hall]; simp [*]⟩, ?_, by simp only; omega⟩
         (apply Le.headZ [_] rfl)
         all_goals (try dsimp only [srcs])
         (case' hfr | hob => (repeat' (first | refine La ?_ ?_ | exact Lc | refine Lo ?_ | refine ⟨⟨_, rfl, ?_⟩, ?_⟩ | refine ObA.box ?_ | refine ObA.frE ?_ | refine ObA.dataE ?_ | refine ARs.agg ?_ | refine ARs.tup ?_ | refine AR.b ?_ | refine AR.iE ?_ | refine AR.e ?_ | refine AR.clo' ARs.nil ?_)))
         all_goals (first | (rfl) | exact Ld)
         done)
  ·
    repeat' (first | refine Qa ?_ | ((first | apply Ba | (apply Bb; (· rfl); (· rfl)) | (apply Bc; (· exact nxE)) | (apply Bd; (· rfl); (· rfl); (· exact nxE))); (· first | exact Ok.pe); (first | refine Na ?_ | refine Nb ?_)) | ((first | apply Ca | (apply Cb; (· exact nxE))); (· first | exact Ok.e0); (first | refine Nc ?_ | refine Nd ?_)) | refine Oa ?_ | refine Ob ?_ | ((first | refine Ga (fun h => ?_) (fun h => ?_) | refine AD.gsplit rfl rfl (fun h => ?_) (fun h => ?_)) <;> try (exfalso; omega; done)) | (first | refine AL.gsplitB rfl rfl (fun h => ?_) (fun h => ?_) | refine AD.gsplitB rfl rfl (fun h => ?_) (fun h => ?_)) | refine Fa ?_ | refine Qb ?_ | refine Qc ?_ | refine Qd ?_ | refine Fb ?_ | refine Qe ?_ | refine Wa ?_ | refine Wb ?_ | (refine AW.ite rfl (fun h => ?_) (fun h => ?_) <;> try (exfalso; omega; done)) | refine AW.cond _ rfl (fun h => ?_) (fun h => ?_) | refine Qf ?_ | refine Qg ?_ | refine Qh ?_ | refine Qi ?_ | refine Xa ?_ | refine Xb ?_ | refine Xc ?_ | refine Xd ?_ | refine Fc ?_)
    refine Ya ?_
    (apply Le.headZ (hs := []) [] rfl)
    all_goals (try dsimp only [srcs])
    (case' hfr => (repeat' (first | refine La ?_ ?_ | exact Lc | refine Lo ?_ | refine ⟨⟨_, rfl, ?_⟩, ?_⟩ | refine ObA.box ?_ | refine ObA.frE ?_ | refine ObA.dataE ?_ | refine ARs.agg ?_ | refine ARs.tup ?_ | refine AR.b ?_ | refine AR.iE ?_ | refine AR.e ?_ | refine AR.clo' ARs.nil ?_)))
    all_goals (first | exact Ld | exact trivial | ((rw [hall, List.drop_of_length_le (by omega)]; rfl)))
end Go.Proofs.Ytcjidnpkeliieaa
