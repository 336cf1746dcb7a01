/-
  Walks in the abstract reading, part 12.
-/
import Derived.Test.YtegfjedklebbfaaKR7
import Derived.Test.YtegfjedklebbfaaKU8
import Derived.Test.YtegfjedklebbfaaKU9
section
namespace Go.Proofs.Ytegfjedklebbfaa
set_option linter.unusedSimpArgs false
set_option linter.unusedVariables false
open Go Go.RowKit
attribute [local irreducible] AL AD AW OpOk Le AC thenQ blockQ EndQ

theorem big_ac (code : List Int) (hl : code.length ≤ 9223372036854775807) : AC Try.prog 13 [.d (BD code)] H0 (Bo (decide (4096 < (code.length : Int)))) H0 := by
  refine AC.of_body 0 Try.func13 rfl (fun l h => absurd rfl h) (fun C hC => ?_)
  have hD : ∀ l, ¬ C.D0 l := fun l h => (hC l).1 h rfl
  simp only [startFr, Try.ntmps13, List.length_cons, List.length_nil, Nat.reduceAdd, Nat.reduceSub, List.replicate_succ, List.replicate_zero, List.cons_append, List.nil_append]
  repeat' (first | refine Qa ?_ | ((first | apply Ba | (apply Bb; (· rfl); (· rfl)) | (apply Bc; (· exact nxE)) | (apply Bd; (· rfl); (· rfl); (· exact nxE))); (· first | exact Ok.pe); (first | refine Na ?_ | refine Nb ?_)) | ((first | apply Ca | (apply Cb; (· exact nxE))); (· first | exact Ok.e0); (first | refine Nc ?_ | refine Nd ?_)) | refine Oa ?_ | refine Ob ?_ | ((first | refine Ga (fun h => ?_) (fun h => ?_) | refine AD.gsplit rfl rfl (fun h => ?_) (fun h => ?_)) <;> try (exfalso; omega; done)) | (first | refine AL.gsplitB rfl rfl (fun h => ?_) (fun h => ?_) | refine AD.gsplitB rfl rfl (fun h => ?_) (fun h => ?_)) | refine Fa ?_ | refine Qb ?_ | refine Qc ?_ | refine Qd ?_ | refine Fb ?_ | refine Qe ?_ | refine Wa ?_ | refine Wb ?_ | (refine AW.ite rfl (fun h => ?_) (fun h => ?_) <;> try (exfalso; omega; done)) | refine AW.cond _ rfl (fun h => ?_) (fun h => ?_) | refine Qf ?_ | refine Qg ?_ | refine Qh ?_ | refine Qi ?_ | refine Xa ?_ | refine Xb ?_ | refine Xc ?_ | refine Xd ?_ | refine Fc ?_)
  refine Ya ?_
  (apply Le.headZ (hs := []) [] rfl)
  all_goals (try dsimp only [srcs])
  (case' hfr => (repeat' (first | refine La ?_ ?_ | exact Lc | refine Lo ?_ | refine ⟨⟨_, rfl, ?_⟩, ?_⟩ | refine ObA.box ?_ | refine ObA.frE ?_ | refine ObA.dataE ?_ | refine ARs.agg ?_ | refine ARs.tup ?_ | refine AR.b ?_ | refine AR.iE ?_ | refine AR.e ?_ | refine AR.clo' ARs.nil ?_)))
  all_goals (first | exact Ld | exact trivial | (rfl))
set_option maxHeartbeats 1000000 in
theorem likeInts_refl (xs : List Int) (hn : xs.length ≤ 100000000) : AC Try.prog 36 [IL xs, IL xs] H0 (Bo true) H0 := by
  refine AC.of_body 0 Try.func36 rfl (fun l h => absurd rfl h) (fun C hC => ?_)
  have hD : ∀ l, ¬ C.D0 l := fun l h => (hC l).1 h rfl
  simp only [startFr, Try.ntmps36, List.length_cons, List.length_nil, Nat.reduceAdd, Nat.reduceSub, List.replicate_succ, List.replicate_zero, List.cons_append, List.nil_append]
  repeat' (first | refine Qa ?_ | ((first | apply Ba | (apply Bb; (· rfl); (· rfl)) | (apply Bc; (· exact nxE)) | (apply Bd; (· rfl); (· rfl); (· exact nxE))); (· first | exact Ok.pe); (first | refine Na ?_ | refine Nb ?_)) | ((first | apply Ca | (apply Cb; (· exact nxE))); (· first | exact Ok.e0); (first | refine Nc ?_ | refine Nd ?_)) | refine Oa ?_ | refine Ob ?_ | ((first | refine Ga (fun h => ?_) (fun h => ?_) | refine AD.gsplit rfl rfl (fun h => ?_) (fun h => ?_)) <;> try (exfalso; omega; done)) | (first | refine AL.gsplitB rfl rfl (fun h => ?_) (fun h => ?_) | refine AD.gsplitB rfl rfl (fun h => ?_) (fun h => ?_)) | refine Fa ?_ | refine Qb ?_ | refine Qc ?_ | refine Qd ?_ | refine Fb ?_ | refine Qe ?_ | refine Wa ?_ | refine Wb ?_ | (refine AW.ite rfl (fun h => ?_) (fun h => ?_) <;> try (exfalso; omega; done)) | refine AW.cond _ rfl (fun h => ?_) (fun h => ?_) | refine Qf ?_ | refine Qg ?_ | refine Qh ?_ | refine Qi ?_ | refine Xa ?_ | refine Xb ?_ | refine Xc ?_ | refine Xd ?_ | refine Fc ?_)
  refine AW.loop (X := {k : Nat // k ≤ xs.length}) (fun k => ⟨[IL xs, IL xs, Oo, Oo, Oo, I (k.1 : Nat), Oo, Oo, Oo, Oo, Oo, Oo, Oo, Oo, Oo, Oo, Oo, Oo, Oo, Oo, Oo, Oo, Oo, Oo, Oo, Oo], heapL [], 900⟩) (fun k => xs.length - k.1) ⟨0, Nat.zero_le _⟩ ?_ (fun k => ?_)
  ·
    (apply Le.headZ [] rfl)
    all_goals (try dsimp only [srcs])
    (case' hfr | hob => (repeat' (first | refine La ?_ ?_ | exact Lc | refine Lo ?_ | refine ⟨⟨_, rfl, ?_⟩, ?_⟩ | refine ObA.box ?_ | refine ObA.frE ?_ | refine ObA.dataE ?_ | refine ARs.agg ?_ | refine ARs.tup ?_ | refine AR.b ?_ | refine AR.iE ?_ | refine AR.e ?_ | refine AR.clo' ARs.nil ?_)))
    all_goals (first | (rfl) | exact Ld)
  obtain ⟨k, hk⟩ := k
  simp only
  by_cases hlt : k < xs.length
  · obtain ⟨x, hx⟩ : ∃ x, xs[k]? = some x := ⟨xs[k], by simp⟩
    have hrow := IR_get hx
    repeat' (first | refine Qa ?_ | ((first | apply Ba | (apply Bb; (· rfl); (· rfl)) | (apply Bc; (· exact nxE)) | (apply Bd; (· rfl); (· rfl); (· exact nxE))); (· first | exact Ok.pe); (first | refine Na ?_ | refine Nb ?_)) | ((first | apply Ca | (apply Cb; (· exact nxE))); (· first | exact Ok.e0); (first | refine Nc ?_ | refine Nd ?_)) | refine Oa ?_ | refine Ob ?_ | ((first | refine Ga (fun h => ?_) (fun h => ?_) | refine AD.gsplit rfl rfl (fun h => ?_) (fun h => ?_)) <;> try (exfalso; omega; done)) | (first | refine AL.gsplitB rfl rfl (fun h => ?_) (fun h => ?_) | refine AD.gsplitB rfl rfl (fun h => ?_) (fun h => ?_)) | refine Fa ?_ | refine Qb ?_ | refine Qc ?_ | refine Qd ?_ | refine Fb ?_ | refine Qe ?_ | refine Wa ?_ | refine Wb ?_ | (refine AW.ite rfl (fun h => ?_) (fun h => ?_) <;> try (exfalso; omega; done)) | refine AW.cond _ rfl (fun h => ?_) (fun h => ?_) | refine Qf ?_ | refine Qg ?_ | refine Qh ?_ | refine Qi ?_ | refine Xa ?_ | refine Xb ?_ | refine Xc ?_ | refine Xd ?_ | refine Fc ?_)
    refine ⟨⟨k + 1, by omega⟩, ?_, by simp only; omega⟩
    (apply Le.headZ [] rfl)
    all_goals (try dsimp only [srcs])
    (case' hfr | hob => (repeat' (first | refine La ?_ ?_ | exact Lc | refine Lo ?_ | refine ⟨⟨_, rfl, ?_⟩, ?_⟩ | refine ObA.box ?_ | refine ObA.frE ?_ | refine ObA.dataE ?_ | refine ARs.agg ?_ | refine ARs.tup ?_ | refine AR.b ?_ | refine AR.iE ?_ | refine AR.e ?_ | refine AR.clo' ARs.nil ?_)))
    all_goals (first | (rfl) | exact Ld)
  · obtain rfl : k = xs.length := by omega
    repeat' (first | refine Qa ?_ | ((first | apply Ba | (apply Bb; (· rfl); (· rfl)) | (apply Bc; (· exact nxE)) | (apply Bd; (· rfl); (· rfl); (· exact nxE))); (· first | exact Ok.pe); (first | refine Na ?_ | refine Nb ?_)) | ((first | apply Ca | (apply Cb; (· exact nxE))); (· first | exact Ok.e0); (first | refine Nc ?_ | refine Nd ?_)) | refine Oa ?_ | refine Ob ?_ | ((first | refine Ga (fun h => ?_) (fun h => ?_) | refine AD.gsplit rfl rfl (fun h => ?_) (fun h => ?_)) <;> try (exfalso; omega; done)) | (first | refine AL.gsplitB rfl rfl (fun h => ?_) (fun h => ?_) | refine AD.gsplitB rfl rfl (fun h => ?_) (fun h => ?_)) | refine Fa ?_ | refine Qb ?_ | refine Qc ?_ | refine Qd ?_ | refine Fb ?_ | refine Qe ?_ | refine Wa ?_ | refine Wb ?_ | (refine AW.ite rfl (fun h => ?_) (fun h => ?_) <;> try (exfalso; omega; done)) | refine AW.cond _ rfl (fun h => ?_) (fun h => ?_) | refine Qf ?_ | refine Qg ?_ | refine Qh ?_ | refine Qi ?_ | refine Xa ?_ | refine Xb ?_ | refine Xc ?_ | refine Xd ?_ | refine Fc ?_)
    refine Ya ?_
    (apply Le.headZ (hs := []) [] rfl)
    all_goals (try dsimp only [srcs])
    (case' hfr => (repeat' (first | refine La ?_ ?_ | exact Lc | refine Lo ?_ | refine ⟨⟨_, rfl, ?_⟩, ?_⟩ | refine ObA.box ?_ | refine ObA.frE ?_ | refine ObA.dataE ?_ | refine ARs.agg ?_ | refine ARs.tup ?_ | refine AR.b ?_ | refine AR.iE ?_ | refine AR.e ?_ | refine AR.clo' ARs.nil ?_)))
    all_goals (first | exact Ld | exact trivial | (rfl))
set_option maxHeartbeats 1000000 in
theorem likeTables9_refl (t : List (List Int)) (hn : t.length ≤ 100000000) (hr : ∀ r ∈ t, r.length ≤ 100000000) : AC Try.prog 43 [TL t, TL t] H0 (Bo true) H0 := by
  have htl : (mRows 1 (TR t)).length = t.length := by simp
  refine AC.of_body 0 Try.func43 rfl (fun l h => absurd rfl h) (fun C hC => ?_)
  have hD : ∀ l, ¬ C.D0 l := fun l h => (hC l).1 h rfl
  simp only [startFr, Try.ntmps43, List.length_cons, List.length_nil, Nat.reduceAdd, Nat.reduceSub, List.replicate_succ, List.replicate_zero, List.cons_append, List.nil_append]
  repeat' (first | refine Qa ?_ | ((first | apply Ba | (apply Bb; (· rfl); (· rfl)) | (apply Bc; (· exact nxE)) | (apply Bd; (· rfl); (· rfl); (· exact nxE))); (· first | exact Ok.pe); (first | refine Na ?_ | refine Nb ?_)) | ((first | apply Ca | (apply Cb; (· exact nxE))); (· first | exact Ok.e0); (first | refine Nc ?_ | refine Nd ?_)) | refine Oa ?_ | refine Ob ?_ | ((first | refine Ga (fun h => ?_) (fun h => ?_) | refine AD.gsplit rfl rfl (fun h => ?_) (fun h => ?_)) <;> try (exfalso; omega; done)) | (first | refine AL.gsplitB rfl rfl (fun h => ?_) (fun h => ?_) | refine AD.gsplitB rfl rfl (fun h => ?_) (fun h => ?_)) | refine Fa ?_ | refine Qb ?_ | refine Qc ?_ | refine Qd ?_ | refine Fb ?_ | refine Qe ?_ | refine Wa ?_ | refine Wb ?_ | (refine AW.ite rfl (fun h => ?_) (fun h => ?_) <;> try (exfalso; omega; done)) | refine AW.cond _ rfl (fun h => ?_) (fun h => ?_) | refine Qf ?_ | refine Qg ?_ | refine Qh ?_ | refine Qi ?_ | refine Xa ?_ | refine Xb ?_ | refine Xc ?_ | refine Xd ?_ | refine Fc ?_)
  refine AW.loop (X := {k : Nat // k ≤ t.length}) (fun k => ⟨[TL t, TL t, Oo, Oo, Oo, I (k.1 : Nat), Oo, Oo, Oo, Oo, Oo, Oo, Oo, Oo, Oo, Oo, Oo, Oo, Oo, Oo, Oo, Oo, Oo, Oo, Oo, Oo, Oo], heapL [], 900⟩) (fun k => t.length - k.1) ⟨0, Nat.zero_le _⟩ ?_ (fun k => ?_)
  ·
    (apply Le.headZ [] rfl)
    all_goals (try dsimp only [srcs])
    (case' hfr | hob => (repeat' (first | refine La ?_ ?_ | exact Lc | refine Lo ?_ | refine ⟨⟨_, rfl, ?_⟩, ?_⟩ | refine ObA.box ?_ | refine ObA.frE ?_ | refine ObA.dataE ?_ | refine ARs.agg ?_ | refine ARs.tup ?_ | refine AR.b ?_ | refine AR.iE ?_ | refine AR.e ?_ | refine AR.clo' ARs.nil ?_)))
    all_goals (first | (rfl) | exact Ld)
  obtain ⟨k, hk⟩ := k
  simp only
  by_cases hlt : k < t.length
  · obtain ⟨x, hx⟩ : ∃ x, t[k]? = some x := ⟨t[k], by simp⟩
    have hrow := TR_get hx
    repeat' (first | refine Qa ?_ | ((first | apply Ba | (apply Bb; (· rfl); (· rfl)) | (apply Bc; (· exact nxE)) | (apply Bd; (· rfl); (· rfl); (· exact nxE))); (· first | exact Kz rfl rfl (likeInts_refl x (hr x (List.mem_of_getElem? hx))) (Ad (Ad An)) | exact Ok.pe); (first | refine Na ?_ | refine Nb ?_)) | ((first | apply Ca | (apply Cb; (· exact nxE))); (· first | exact Ok.e0); (first | refine Nc ?_ | refine Nd ?_)) | refine Oa ?_ | refine Ob ?_ | ((first | refine Ga (fun h => ?_) (fun h => ?_) | refine AD.gsplit rfl rfl (fun h => ?_) (fun h => ?_)) <;> try (exfalso; omega; done)) | (first | refine AL.gsplitB rfl rfl (fun h => ?_) (fun h => ?_) | refine AD.gsplitB rfl rfl (fun h => ?_) (fun h => ?_)) | refine Fa ?_ | refine Qb ?_ | refine Qc ?_ | refine Qd ?_ | refine Fb ?_ | refine Qe ?_ | refine Wa ?_ | refine Wb ?_ | (refine AW.ite rfl (fun h => ?_) (fun h => ?_) <;> try (exfalso; omega; done)) | refine AW.cond _ rfl (fun h => ?_) (fun h => ?_) | refine Qf ?_ | refine Qg ?_ | refine Qh ?_ | refine Qi ?_ | refine Xa ?_ | refine Xb ?_ | refine Xc ?_ | refine Xd ?_ | refine Fc ?_)
    refine ⟨⟨k + 1, by omega⟩, ?_, by simp only; omega⟩
    (apply Le.headZ [] rfl)
    all_goals (try dsimp only [srcs])
    (case' hfr | hob => (repeat' (first | refine La ?_ ?_ | exact Lc | refine Lo ?_ | refine ⟨⟨_, rfl, ?_⟩, ?_⟩ | refine ObA.box ?_ | refine ObA.frE ?_ | refine ObA.dataE ?_ | refine ARs.agg ?_ | refine ARs.tup ?_ | refine AR.b ?_ | refine AR.iE ?_ | refine AR.e ?_ | refine AR.clo' ARs.nil ?_)))
    all_goals (first | (rfl) | exact Ld)
  · obtain rfl : k = t.length := by omega
    repeat' (first | refine Qa ?_ | ((first | apply Ba | (apply Bb; (· rfl); (· rfl)) | (apply Bc; (· exact nxE)) | (apply Bd; (· rfl); (· rfl); (· exact nxE))); (· first | exact Ok.pe); (first | refine Na ?_ | refine Nb ?_)) | ((first | apply Ca | (apply Cb; (· exact nxE))); (· first | exact Ok.e0); (first | refine Nc ?_ | refine Nd ?_)) | refine Oa ?_ | refine Ob ?_ | ((first | refine Ga (fun h => ?_) (fun h => ?_) | refine AD.gsplit rfl rfl (fun h => ?_) (fun h => ?_)) <;> try (exfalso; omega; done)) | (first | refine AL.gsplitB rfl rfl (fun h => ?_) (fun h => ?_) | refine AD.gsplitB rfl rfl (fun h => ?_) (fun h => ?_)) | refine Fa ?_ | refine Qb ?_ | refine Qc ?_ | refine Qd ?_ | refine Fb ?_ | refine Qe ?_ | refine Wa ?_ | refine Wb ?_ | (refine AW.ite rfl (fun h => ?_) (fun h => ?_) <;> try (exfalso; omega; done)) | refine AW.cond _ rfl (fun h => ?_) (fun h => ?_) | refine Qf ?_ | refine Qg ?_ | refine Qh ?_ | refine Qi ?_ | refine Xa ?_ | refine Xb ?_ | refine Xc ?_ | refine Xd ?_ | refine Fc ?_)
    refine Ya ?_
    (apply Le.headZ (hs := []) [] rfl)
    all_goals (try dsimp only [srcs])
    (case' hfr => (repeat' (first | refine La ?_ ?_ | exact Lc | refine Lo ?_ | refine ⟨⟨_, rfl, ?_⟩, ?_⟩ | refine ObA.box ?_ | refine ObA.frE ?_ | refine ObA.dataE ?_ | refine ARs.agg ?_ | refine ARs.tup ?_ | refine AR.b ?_ | refine AR.iE ?_ | refine AR.e ?_ | refine AR.clo' ARs.nil ?_)))
    all_goals (first | exact Ld | exact trivial | (rfl))
set_option maxHeartbeats 1000000 in
theorem below9_ac (xs ys : List Int) (hn : xs.length ≤ 100000000) (hl : ys.length = xs.length) (hle : ∀ (i : Nat) x y, xs[i]? = some x → ys[i]? = some y → x ≤ y) : AC Try.prog 59 [IL xs, IL ys] H0 (Bo true) H0 := by
  refine AC.of_body 0 Try.func59 rfl (fun l h => absurd rfl h) (fun C hC => ?_)
  have hD : ∀ l, ¬ C.D0 l := fun l h => (hC l).1 h rfl
  simp only [startFr, Try.ntmps59, List.length_cons, List.length_nil, Nat.reduceAdd, Nat.reduceSub, List.replicate_succ, List.replicate_zero, List.cons_append, List.nil_append]
  repeat' (first | refine Qa ?_ | ((first | apply Ba | (apply Bb; (· rfl); (· rfl)) | (apply Bc; (· exact nxE)) | (apply Bd; (· rfl); (· rfl); (· exact nxE))); (· first | exact Ok.pe); (first | refine Na ?_ | refine Nb ?_)) | ((first | apply Ca | (apply Cb; (· exact nxE))); (· first | exact Ok.e0); (first | refine Nc ?_ | refine Nd ?_)) | refine Oa ?_ | refine Ob ?_ | ((first | refine Ga (fun h => ?_) (fun h => ?_) | refine AD.gsplit rfl rfl (fun h => ?_) (fun h => ?_)) <;> try (exfalso; omega; done)) | (first | refine AL.gsplitB rfl rfl (fun h => ?_) (fun h => ?_) | refine AD.gsplitB rfl rfl (fun h => ?_) (fun h => ?_)) | refine Fa ?_ | refine Qb ?_ | refine Qc ?_ | refine Qd ?_ | refine Fb ?_ | refine Qe ?_ | refine Wa ?_ | refine Wb ?_ | (refine AW.ite rfl (fun h => ?_) (fun h => ?_) <;> try (exfalso; omega; done)) | refine AW.cond _ rfl (fun h => ?_) (fun h => ?_) | refine Qf ?_ | refine Qg ?_ | refine Qh ?_ | refine Qi ?_ | refine Xa ?_ | refine Xb ?_ | refine Xc ?_ | refine Xd ?_ | refine Fc ?_)
  refine AW.loop (X := {k : Nat // k ≤ xs.length}) (fun k => ⟨[IL xs, IL ys, Oo, Oo, Oo, I (k.1 : Nat), Oo, Oo, Oo, Oo, Oo, Oo, Oo, Oo, Oo, Oo, Oo, Oo, Oo, Oo, Oo, Oo, Oo, Oo, Oo, Oo], heapL [], 900⟩) (fun k => xs.length - k.1) ⟨0, Nat.zero_le _⟩ ?_ (fun k => ?_)
  ·
    (apply Le.headZ [] rfl)
    all_goals (try dsimp only [srcs])
    (case' hfr | hob => (repeat' (first | refine La ?_ ?_ | exact Lc | refine Lo ?_ | refine ⟨⟨_, rfl, ?_⟩, ?_⟩ | refine ObA.box ?_ | refine ObA.frE ?_ | refine ObA.dataE ?_ | refine ARs.agg ?_ | refine ARs.tup ?_ | refine AR.b ?_ | refine AR.iE ?_ | refine AR.e ?_ | refine AR.clo' ARs.nil ?_)))
    all_goals (first | (rfl) | exact Ld)
  obtain ⟨k, hk⟩ := k
  simp only
  by_cases hlt : k < xs.length
  · obtain ⟨x, hx⟩ : ∃ x, xs[k]? = some x := ⟨xs[k], by simp⟩
    obtain ⟨y, hy⟩ : ∃ y, ys[k]? = some y := ⟨ys[k]'(by omega), by simp⟩
    have hrow := IR_get hx
    have hrow2 := IR_get hy
    have hxy := hle k x y hx hy
    repeat' (first | refine Qa ?_ | ((first | apply Ba | (apply Bb; (· rfl); (· rfl)) | (apply Bc; (· exact nxE)) | (apply Bd; (· rfl); (· rfl); (· exact nxE))); (· first | exact Ok.pe); (first | refine Na ?_ | refine Nb ?_)) | ((first | apply Ca | (apply Cb; (· exact nxE))); (· first | exact Ok.e0); (first | refine Nc ?_ | refine Nd ?_)) | refine Oa ?_ | refine Ob ?_ | ((first | refine Ga (fun h => ?_) (fun h => ?_) | refine AD.gsplit rfl rfl (fun h => ?_) (fun h => ?_)) <;> try (exfalso; omega; done)) | (first | refine AL.gsplitB rfl rfl (fun h => ?_) (fun h => ?_) | refine AD.gsplitB rfl rfl (fun h => ?_) (fun h => ?_)) | refine Fa ?_ | refine Qb ?_ | refine Qc ?_ | refine Qd ?_ | refine Fb ?_ | refine Qe ?_ | refine Wa ?_ | refine Wb ?_ | (refine AW.ite rfl (fun h => ?_) (fun h => ?_) <;> try (exfalso; omega; done)) | refine AW.cond _ rfl (fun h => ?_) (fun h => ?_) | refine Qf ?_ | refine Qg ?_ | refine Qh ?_ | refine Qi ?_ | refine Xa ?_ | refine Xb ?_ | refine Xc ?_ | refine Xd ?_ | refine Fc ?_)
    refine ⟨⟨k + 1, by omega⟩, ?_, by simp only; omega⟩
    (apply Le.headZ [] rfl)
    all_goals (try dsimp only [srcs])
    (case' hfr | hob => (repeat' (first | refine La ?_ ?_ | exact Lc | refine Lo ?_ | refine ⟨⟨_, rfl, ?_⟩, ?_⟩ | refine ObA.box ?_ | refine ObA.frE ?_ | refine ObA.dataE ?_ | refine ARs.agg ?_ | refine ARs.tup ?_ | refine AR.b ?_ | refine AR.iE ?_ | refine AR.e ?_ | refine AR.clo' ARs.nil ?_)))
    all_goals (first | (rfl) | exact Ld)
  · obtain rfl : k = xs.length := by omega
    repeat' (first | refine Qa ?_ | ((first | apply Ba | (apply Bb; (· rfl); (· rfl)) | (apply Bc; (· exact nxE)) | (apply Bd; (· rfl); (· rfl); (· exact nxE))); (· first | exact Ok.pe); (first | refine Na ?_ | refine Nb ?_)) | ((first | apply Ca | (apply Cb; (· exact nxE))); (· first | exact Ok.e0); (first | refine Nc ?_ | refine Nd ?_)) | refine Oa ?_ | refine Ob ?_ | ((first | refine Ga (fun h => ?_) (fun h => ?_) | refine AD.gsplit rfl rfl (fun h => ?_) (fun h => ?_)) <;> try (exfalso; omega; done)) | (first | refine AL.gsplitB rfl rfl (fun h => ?_) (fun h => ?_) | refine AD.gsplitB rfl rfl (fun h => ?_) (fun h => ?_)) | refine Fa ?_ | refine Qb ?_ | refine Qc ?_ | refine Qd ?_ | refine Fb ?_ | refine Qe ?_ | refine Wa ?_ | refine Wb ?_ | (refine AW.ite rfl (fun h => ?_) (fun h => ?_) <;> try (exfalso; omega; done)) | refine AW.cond _ rfl (fun h => ?_) (fun h => ?_) | refine Qf ?_ | refine Qg ?_ | refine Qh ?_ | refine Qi ?_ | refine Xa ?_ | refine Xb ?_ | refine Xc ?_ | refine Xd ?_ | refine Fc ?_)
    refine Ya ?_
    (apply Le.headZ (hs := []) [] rfl)
    all_goals (try dsimp only [srcs])
    (case' hfr => (repeat' (first | refine La ?_ ?_ | exact Lc | refine Lo ?_ | refine ⟨⟨_, rfl, ?_⟩, ?_⟩ | refine ObA.box ?_ | refine ObA.frE ?_ | refine ObA.dataE ?_ | refine ARs.agg ?_ | refine ARs.tup ?_ | refine AR.b ?_ | refine AR.iE ?_ | refine AR.e ?_ | refine AR.clo' ARs.nil ?_)))
    all_goals (first | exact Ld | exact trivial | (rfl))
section
variable {P : Program} {o : Oper} {A : Operand → AV} {H : Heap} {new : Nat}
/-- The source of the draws is made. -/
theorem Fx {fo x : Operand} {ts : Array TypeId} {f : FuncId} {code : List Int} {s : Src} (hc : AC P f [.d (BD code)] H0 (Bx 3 0) (srcH code s)) (ho : o.op = .call { callee := .value fo, args := #[x], argTypes := ts }) [FnBody P f] (hfo : A fo = .clo (.func f) [] [])
    (hx : A x = .d (BD code)) : OpOk P o A [] H new (.ptr 3 ⟨new, [0]⟩ 0 0) [.one ⟨new, [0]⟩ (some (srcO code s))] :=
  OpOk.call1n (xs := [x]) [] ho hfo hc (.inl rfl) (fun g => rnO_dobj _ _ _) (by
    show ARs _ _ _ _ _ [A x]
    rw [hx]; exact .cons (AR.dd _) .nil) (by rw [rn])
theorem Zl {fo x : Operand} {xs : List Operand} {ts : Array TypeId} {f : FuncId} {l : Loc} {code : List Int} {s s' : Src} {args : List AV} {res : AV} (hc : AC P f (Bx 3 0 :: args) (srcH code s) res (srcH code s')) (ho : o.op = .call { callee := .value fo, args := (x :: xs).toArray, argTypes := ts }) [FnBody P f] (hfo : A fo = .clo (.func f) [] [])
    (hx : A x = .ptr 3 l 0 0) (hl : H l = some (srcO code s)) (hy : ARs H (fun _ => False) (fun _ => l) (· = ⟨0, []⟩) args (xs.map A)) (hres : ∀ g, rn g res = res) : OpOk P o A [l] H new res [.one l (some (srcO code s'))] :=
  OpOk.callMg ho hfo hc hl hres (by
    rw [List.append_nil]
    show ARs _ _ _ _ _ (A x :: xs.map A)
    rw [hx]; exact .cons (AR.ptr 3 ⟨0, []⟩ 0 0 rfl) hy)
end
theorem drawRepairTable_ex (code : List Int) (hc : CodeOk code) : ∃ (g : DrG) (T : List (List Int)), DrOk code g ∧ TabOk T ∧ AC Try.prog 56 [.d (BD code)] H0 (.tup [grD g.ev g.xs, TL T]) H0 := by
  have hF := l01From_ac code hc
  obtain ⟨g, T, h1, h2, hG⟩ := l26Draw_ex code hc _ (src0_ok hc)
  refine ⟨g, T, h1, h2, ?_⟩
  refine AC.of_body 0 Try.func56 rfl (fun l h => absurd rfl h) (fun C hC => ?_)
  have hD : ∀ l, ¬ C.D0 l := fun l h => (hC l).1 h rfl
  simp only [startFr, Try.ntmps56, List.length_cons, List.length_nil, Nat.reduceAdd, Nat.reduceSub, List.replicate_succ, List.replicate_zero, List.cons_append, List.nil_append]
  repeat' (first | refine Qa ?_ | ((first | apply Ba | (apply Bb; (· rfl); (· rfl)) | (apply Bc; (· exact nxE)) | (apply Bd; (· rfl); (· rfl); (· exact nxE))); (· first | exact Fx hF rfl rfl rfl | exact Zl (args := []) hG rfl rfl rfl rfl .nil (fun _ => by simp [rn]) | exact Ok.pe); (first | refine Na ?_ | refine Nb ?_)) | ((first | apply Ca | (apply Cb; (· exact nxE))); (· first | exact Fx hF rfl rfl rfl | exact Zl (args := []) hG rfl rfl rfl rfl .nil (fun _ => by simp [rn]) | exact Ok.e0); (first | refine Nc ?_ | refine Nd ?_)) | refine Oa ?_ | refine Ob ?_ | ((first | refine Ga (fun h => ?_) (fun h => ?_) | refine AD.gsplit rfl rfl (fun h => ?_) (fun h => ?_)) <;> try (exfalso; omega; done)) | (first | refine AL.gsplitB rfl rfl (fun h => ?_) (fun h => ?_) | refine AD.gsplitB rfl rfl (fun h => ?_) (fun h => ?_)) | refine Fa ?_ | refine Qb ?_ | refine Qc ?_ | refine Qd ?_ | refine Fb ?_ | refine Qe ?_ | refine Wa ?_ | refine Wb ?_ | (refine AW.ite rfl (fun h => ?_) (fun h => ?_) <;> try (exfalso; omega; done)) | refine AW.cond _ rfl (fun h => ?_) (fun h => ?_) | refine Qf ?_ | refine Qg ?_ | refine Qh ?_ | refine Qi ?_ | refine Xa ?_ | refine Xb ?_ | refine Xc ?_ | refine Xd ?_ | refine Fc ?_)
  refine Yb ?_
  (apply Le.headZ (hs := []) [] rfl)
  all_goals (try dsimp only [srcs])
  (case' hfr => (repeat' (first | refine La ?_ ?_ | exact Lc | refine Lo ?_ | refine ⟨⟨_, rfl, ?_⟩, ?_⟩ | refine ObA.box ?_ | refine ObA.frE ?_ | refine ObA.dataE ?_ | refine ARs.agg ?_ | refine ARs.tup ?_ | refine AR.b ?_ | refine AR.iE ?_ | refine AR.e ?_ | refine AR.clo' ARs.nil ?_)))
  all_goals (first | exact Ld | exact trivial | (rfl))
end Go.Proofs.Ytegfjedklebbfaa
end

section
namespace Go.Proofs.Ytegfjedklebbfaa
set_option linter.unusedSimpArgs false
set_option linter.unusedVariables false
open Go Go.RowKit
attribute [local irreducible] AL AD AW OpOk Le AC thenQ blockQ EndQ

/-! ### The firings with a property, in order -/
def earR (c : Nat → Nat → Bool) (k J : Nat) : List (List Int) := ((List.range J).filter (c k)).map fun e : Nat => [(k : Int) + 1, (e : Int)]
def earT (c : Nat → Nat → Bool) (n K : Nat) : List (List Int) := (List.range K).flatMap fun k => earR c k n
def earP (c : Nat → Nat → Bool) (n K J : Nat) : List (List Int) := earT c n K ++ earR c K J
theorem earP_0 {c : Nat → Nat → Bool} {n : Nat} : earP c n 0 0 = [] := rfl
theorem earP_00 {c : Nat → Nat → Bool} {n K : Nat} : earP c n K 0 = earT c n K := by simp [earP, earR]
theorem earP_row {c : Nat → Nat → Bool} {n K : Nat} : earP c n K n = earP c n (K + 1) 0 := by simp [earP, earT, earR, List.range_succ]
theorem earP_yes {c : Nat → Nat → Bool} {n K J : Nat} (h : c K J = true) : earP c n K (J + 1) = earP c n K J ++ [[(K : Int) + 1, (J : Int)]] := by
  simp [earP, earR, List.range_succ, List.filter_append, h]
theorem earP_no {c : Nat → Nat → Bool} {n K J : Nat} (h : c K J = false) : earP c n K (J + 1) = earP c n K J := by
  simp [earP, earR, List.range_succ, List.filter_append, h]
theorem earR_le {c : Nat → Nat → Bool} {k J : Nat} : (earR c k J).length ≤ J := by
  unfold earR
  rw [List.length_map]
  exact Nat.le_trans (List.length_filter_le _ _) (by simp)
theorem earT_le {c : Nat → Nat → Bool} {n : Nat} (hn : n ≤ 10) : ∀ K, (earT c n K).length ≤ 10 * K
  | 0 => by simp [earT]
  | K + 1 => by
    have h1 := earT_le (c := c) hn K
    have h2 : (earR c K n).length ≤ n := earR_le
    have h3 : earT c n (K + 1) = earT c n K ++ earR c K n := by simp [earT, List.range_succ]
    rw [h3, List.length_append]; omega
theorem earP_le {c : Nat → Nat → Bool} {n : Nat} (hn : n ≤ 10) (K J : Nat) : (earP c n K J).length ≤ 10 * K + J := by
  have h1 := earT_le (c := c) hn K
  have h2 : (earR c K J).length ≤ J := earR_le
  unfold earP
  rw [List.length_append]; omega
theorem TR_snoc {t t' : List (List Int)} {r : List Int} (h : t' = t ++ [r]) : TR t' = TR t ++ [IR r] := by subst h; simp
abbrev eaC (t : List (List Int)) (f : Nat → Nat → Int) : Nat → Nat → Bool := fun k e => decide (entN t k e < f k e)
/-- What EarlyFirings answers. -/
def eaOut (ev : Int) (xs : List Pl) (t : List (List Int)) : List (List Int) := if goodI ev xs t = 0 then earT (eaC t (alFn t xs)) ev.toNat t.length else []
abbrev hsE (t al : List (List Int)) : HL := [(⟨1, []⟩, ⟨1, []⟩, ⟨1, [[TL t]]⟩), (⟨6, []⟩, ⟨6, []⟩, ⟨1, [[TL al]]⟩)]
theorem hsE_ok {t al : List (List Int)} : HOk (hsE t al) := by
  intro p hp r hr c hc
  simp only [List.mem_cons, List.not_mem_nil, or_false] at hp
  rcases hp with rfl | rfl
  · simp at hr; subst hr; simp at hc; subst hc; exact .d _
  · simp at hr; subst hr; simp at hc; subst hc; exact .d _
theorem tabF_get2 {m n i : Nat} {f : Nat → Nat → Int} (h : i < m) : (mRows 1 (TR (tabF m n f)))[((i : Nat) : Int).toNat]? = some [.sl 1 (IR (rowF n (f i)))] := TR_get (tabF_get h)
theorem rowI_get2 {n j : Nat} {g : Nat → Int} (h : j < n) : (IR (rowF n g))[((j : Nat) : Int).toNat]? = some [DI (g j)] := IRF_get h
theorem earlyFn_ac (n m i j : Nat) (t : List (List Int)) (f : Nat → Nat → Int) (ht : Rc t m n) (hi : i < m) (hj : j < n) : AC Try.prog 228 [I i, I j, Bx 1 1, Bx 1 6] (heapL (hsE t (tabF m n f))) (Bo (eaC t f i j)) (heapL (hsE t (tabF m n f))) := by
  have htl := ht.l
  have hal : (TR (tabF m n f)).length = m := by rw [TR_len, tabF_len]
  obtain ⟨R, hR1, hR2, hR3⟩ := ht.get hi hj
  have hRr := TR_get hR1
  have hRf := IR_get hR2
  have hRl : (IR R).length = n := by rw [IR_len, hR3]
  have hFr := tabF_get2 (n := n) (f := f) hi
  have hFf := rowI_get2 (g := f i) hj
  have hFl : (IR (rowF n (f i))).length = n := by rw [IR_len, rowF_len]
  refine AC.of_body 7 Try.func228 rfl (fun l h => by simp [heapL, upd] at h; (repeat' split at h) <;> simp_all) (fun C hC => ?_)
  simp only [startFr, Try.ntmps228, List.length_cons, List.length_nil, Nat.reduceAdd, Nat.reduceSub, List.replicate_succ, List.replicate_zero, List.cons_append, List.nil_append]
  have hD : ∀ l, C.D0 l → l = ⟨1, []⟩ ∨ l = ⟨6, []⟩ := fun l h => by have := (hC l).1 h; simp [heapL, upd] at this; (repeat' split at this) <;> simp_all
  repeat' (first | refine Qa ?_ | ((first | apply Ba | (apply Bb; (· rfl); (· rfl)) | (apply Bc; (· exact nxE)) | (apply Bd; (· rfl); (· rfl); (· exact nxE))); (· first | exact Ok.pe); (first | refine Na ?_ | refine Nb ?_)) | ((first | apply Ca | (apply Cb; (· exact nxE))); (· first | exact Ok.e0); (first | refine Nc ?_ | refine Nd ?_)) | refine Oa ?_ | refine Ob ?_ | ((first | refine Ga (fun h => ?_) (fun h => ?_) | refine AD.gsplit rfl rfl (fun h => ?_) (fun h => ?_)) <;> try (exfalso; omega; done)) | (first | refine AL.gsplitB rfl rfl (fun h => ?_) (fun h => ?_) | refine AD.gsplitB rfl rfl (fun h => ?_) (fun h => ?_)) | refine Fa ?_ | refine Qb ?_ | refine Qc ?_ | refine Qd ?_ | refine Fb ?_ | refine Qe ?_ | refine Wa ?_ | refine Wb ?_ | (refine AW.ite rfl (fun h => ?_) (fun h => ?_) <;> try (exfalso; omega; done)) | refine AW.cond _ rfl (fun h => ?_) (fun h => ?_) | refine Qf ?_ | refine Qg ?_ | refine Qh ?_ | refine Qi ?_ | refine Xa ?_ | refine Xb ?_ | refine Xc ?_ | refine Xd ?_ | refine Fc ?_)
  (refine end1p (by first | exact .inl rfl | exact .inr rfl) rfl (by first | exact rT rfl | exact rCA rfl rfl rfl rfl (by simp) | exact rCC rfl rfl rfl rfl rfl) ?_ (Le.head ([(⟨1, []⟩, ⟨1, []⟩, ⟨1, [[TL t]]⟩), (⟨6, []⟩, ⟨6, []⟩, ⟨1, [[TL (tabF m n f)]]⟩)]) (by first | exact fun l h => absurd h (hD l) | (intro l h; rcases hD l h with rfl; simp [tauL]) | (intro l h; rcases hD l h with rfl | rfl <;> simp [tauL]; done) | (intro l h; rcases hD l h with rfl | rfl | rfl <;> simp [tauL])) ?_ ?_ (by simp) (by simp) (by simp [AllP]) (n' := 1000)); (· rfl)) <;> (repeat' (first | exact trivial | exact ARs.nil | refine ARs.cons ?_ ?_ | exact AR.dead _ | exact AR.dd _ | exact AR.i (by (try dsimp only); omega) | exact AR.ptr _ _ _ _ (by simp [heapL, upd]) | exact AR.own _ _ _ _ (by simp [heapL, upd]) | refine AR.ownE _ _ _ ?_ (by simp [heapL, upd]) | refine ⟨⟨_, rfl, ?_⟩, ?_⟩ | exact ObA.data | refine ObA.box ?_ | refine ObA.frE ?_ | refine ObA.dataE ?_ | refine ARs.agg ?_ | refine ARs.tup ?_ | exact AR.clo' ARs.nil ARs.nil | exact AR.clo' ARs.nil (hca _ _)))
set_option maxHeartbeats 1000000 in
theorem firingsE_ac (n m : Nat) (t : List (List Int)) (f : Nat → Nat → Int) (ht : Rc t m n) (hn : n ≤ 10) (hm : m ≤ 1000) : AC Try.prog 227 [TL t, .clo (.func 228) [] [Bx 1 1, Bx 1 6]] (heapL (hsE t (tabF m n f))) (.own 1 ⟨2, []⟩ 0 (earT (eaC t f) n m).length) (heapX (hsE t (tabF m n f)) [mi1 ⟨2, []⟩ (TR (earT (eaC t f) n m))]) := by
  have htl := ht.l
  refine AC.of_body 7 Try.func227 rfl (fun l h => by simp [heapL, upd] at h; (repeat' split at h) <;> simp_all) (fun C hC => ?_)
  simp only [startFr, Try.ntmps227, List.length_cons, List.length_nil, Nat.reduceAdd, Nat.reduceSub, List.replicate_succ, List.replicate_zero, List.cons_append, List.nil_append]
  have hD : ∀ l, C.D0 l → l = ⟨1, []⟩ ∨ l = ⟨6, []⟩ := fun l h => by have := (hC l).1 h; simp [heapL, upd] at this; (repeat' split at this) <;> simp_all
  repeat' (first | refine Qa ?_ | ((first | apply Ba | (apply Bb; (· rfl); (· rfl)) | (apply Bc; (· exact nxE)) | (apply Bd; (· rfl); (· rfl); (· exact nxE))); (· first | exact Ok.pe); (first | refine Na ?_ | refine Nb ?_)) | ((first | apply Ca | (apply Cb; (· exact nxE))); (· first | exact Ok.e0); (first | refine Nc ?_ | refine Nd ?_)) | refine Oa ?_ | refine Ob ?_ | ((first | refine Ga (fun h => ?_) (fun h => ?_) | refine AD.gsplit rfl rfl (fun h => ?_) (fun h => ?_)) <;> try (exfalso; omega; done)) | (first | refine AL.gsplitB rfl rfl (fun h => ?_) (fun h => ?_) | refine AD.gsplitB rfl rfl (fun h => ?_) (fun h => ?_)) | refine Fa ?_ | refine Qb ?_ | refine Qc ?_ | refine Qd ?_ | refine Fb ?_ | refine Qe ?_ | refine Wa ?_ | refine Wb ?_ | (refine AW.ite rfl (fun h => ?_) (fun h => ?_) <;> try (exfalso; omega; done)) | refine AW.cond _ rfl (fun h => ?_) (fun h => ?_) | refine Qf ?_ | refine Qg ?_ | refine Qh ?_ | refine Qi ?_ | refine Xa ?_ | refine Xb ?_ | refine Xc ?_ | refine Xd ?_ | refine Fc ?_)
  refine AW.loop (X := {k : Nat // k ≤ m}) (fun k => ⟨[Oo, .clo (.func 228) [] [Bx 1 1, Bx 1 6], Oo, Oo, Oo, .own 1 ⟨2, []⟩ 0 (earP (eaC t f) n (k.1 : Nat) 0).length, Oo, Oo, Oo, TL t, I m, I (k.1 : Nat), Oo, Oo, Oo, Oo, Oo, Oo, Oo, Oo, Oo, Oo, Oo, Oo, Oo, Oo, Oo, Oo, Oo, Oo, Oo, Oo, Oo, Oo, Oo], heapX (hsE t (tabF m n f)) [mi1 ⟨2, []⟩ (TR (earP (eaC t f) n k.1 0))], 900⟩) (fun k => m - k.1) ⟨0, Nat.zero_le _⟩ ?_ (fun k => ?_)
  ·
    refine (Le.nil 5 1 rfl).trans ?_
    (apply Le.headG [_, _] [{ l := ⟨2, []⟩, k := 1, R := TR (earP (eaC t f) n 0 0), src := ⟨12, []⟩, base := ⟨12, []⟩ }] (fun _ => False))
    (case' hlen => rfl)
    (case' hms => rfl)
    all_goals (try dsimp only [srcs])
    (case' hfr | hob => (repeat' (first | refine La ?_ ?_ | exact Lc | refine Lo ?_ | refine ⟨⟨_, rfl, ?_⟩, ?_⟩ | refine ObA.box ?_ | refine ObA.frE ?_ | refine ObA.dataE ?_ | refine ARs.agg ?_ | refine ARs.tup ?_ | refine AR.b ?_ | refine AR.iE ?_ | refine AR.e ?_ | refine AR.clo' ARs.nil ?_)))
    (case' hok => first | exact ⟨MI.ok_same rfl (fun i x hx => by simp [earP_0] at hx), trivial⟩ | exact trivial)
    (case' hN => rfl)
    (case' hS => rfl)
    all_goals (first | exact Ld | (rfl))
  obtain ⟨i, hi⟩ := k
  simp only
  by_cases hlt : i < m
  ·
    obtain ⟨R, hR1⟩ : ∃ R, t[i]? = some R := ⟨t[i], by simp⟩
    have hR3 := ht.r R (List.mem_of_getElem? hR1)
    have hRr := TR_get hR1
    have hRl : (IR R).length = n := by rw [IR_len, hR3]
    repeat' (first | refine Qa ?_ | ((first | apply Ba | (apply Bb; (· rfl); (· rfl)) | (apply Bc; (· exact nxE)) | (apply Bd; (· rfl); (· rfl); (· exact nxE))); (· first | exact Ok.pe); (first | refine Na ?_ | refine Nb ?_)) | ((first | apply Ca | (apply Cb; (· exact nxE))); (· first | exact Ok.e0); (first | refine Nc ?_ | refine Nd ?_)) | refine Oa ?_ | refine Ob ?_ | ((first | refine Ga (fun h => ?_) (fun h => ?_) | refine AD.gsplit rfl rfl (fun h => ?_) (fun h => ?_)) <;> try (exfalso; omega; done)) | (first | refine AL.gsplitB rfl rfl (fun h => ?_) (fun h => ?_) | refine AD.gsplitB rfl rfl (fun h => ?_) (fun h => ?_)) | refine Fa ?_ | refine Qb ?_ | refine Qc ?_ | refine Qd ?_ | refine Fb ?_ | refine Qe ?_ | refine Wa ?_ | refine Wb ?_ | (refine AW.ite rfl (fun h => ?_) (fun h => ?_) <;> try (exfalso; omega; done)) | refine AW.cond _ rfl (fun h => ?_) (fun h => ?_) | refine Qf ?_ | refine Qg ?_ | refine Qh ?_ | refine Qi ?_ | refine Xa ?_ | refine Xb ?_ | refine Xc ?_ | refine Xd ?_ | refine Fc ?_)
    refine AW.loop (X := {k : Nat // k ≤ n}) (fun k => ⟨[Oo, .clo (.func 228) [] [Bx 1 1, Bx 1 6], Oo, Oo, Oo, .own 1 ⟨2, []⟩ 0 (earP (eaC t f) n i (k.1 : Nat)).length, I i, Oo, Oo, TL t, I m, I i, Oo, Oo, Oo, Oo, Oo, I n, I (k.1 : Nat), Oo, Oo, Oo, Oo, Oo, Oo, Oo, Oo, Oo, Oo, Oo, Oo, Oo, Oo, Oo, Oo], heapX (hsE t (tabF m n f)) [mi1 ⟨2, []⟩ (TR (earP (eaC t f) n i k.1))], 900⟩) (fun k => n - k.1) ⟨0, Nat.zero_le _⟩ ?_ (fun k => ?_)
    ·
      (apply Le.headG [_, _] [mi1 ⟨2, []⟩ (TR (earP (eaC t f) n i 0))] (fun _ => False))
      (case' hlen => rfl)
      (case' hms => rfl)
      all_goals (try dsimp only [srcs])
      (case' hfr | hob => (repeat' (first | refine La ?_ ?_ | exact Lc | refine Lo ?_ | refine ⟨⟨_, rfl, ?_⟩, ?_⟩ | refine ObA.box ?_ | refine ObA.frE ?_ | refine ObA.dataE ?_ | refine ARs.agg ?_ | refine ARs.tup ?_ | refine AR.b ?_ | refine AR.iE ?_ | refine AR.e ?_ | refine AR.clo' ARs.nil ?_)))
      (case' hok => first | exact ⟨MI.ok_same rfl (Cg), trivial⟩ | exact trivial)
      (case' hN => rfl)
      (case' hS => rfl)
      all_goals (first | exact Ld | (rfl))
    obtain ⟨j, hj⟩ := k
    simp only
    by_cases hlt2 : j < n
    ·
      have hE := earlyFn_ac n m i j t f ht hlt hlt2
      have hle := earP_le (c := eaC t f) hn i j
      cases hb : eaC t f i j
      ·
        rw [hb] at hE
        repeat' (first | refine Qa ?_ | ((first | apply Ba | (apply Bb; (· rfl); (· rfl)) | (apply Bc; (· exact nxE)) | (apply Bd; (· rfl); (· rfl); (· exact nxE))); (· first | exact OpOk.callS (hsE t (tabF m n f)) rfl rfl hE (by intro p hp; simp only [List.mem_cons, List.not_mem_nil, or_false] at hp; rcases hp with rfl | rfl <;> rfl) hsE_ok (.d _) (.cons (.dd _) (.cons (.dd _) (.cons (AR.ptr _ _ _ _ (by simp)) (.cons (AR.ptr _ _ _ _ (by simp)) .nil)))) | exact Ok.pe); (first | refine Na ?_ | refine Nb ?_)) | ((first | apply Ca | (apply Cb; (· exact nxE))); (· first | exact Ok.e0); (first | refine Nc ?_ | refine Nd ?_)) | refine Oa ?_ | refine Ob ?_ | ((first | refine Ga (fun h => ?_) (fun h => ?_) | refine AD.gsplit rfl rfl (fun h => ?_) (fun h => ?_)) <;> try (exfalso; omega; done)) | (first | refine AL.gsplitB rfl rfl (fun h => ?_) (fun h => ?_) | refine AD.gsplitB rfl rfl (fun h => ?_) (fun h => ?_)) | refine Fa ?_ | refine Qb ?_ | refine Qc ?_ | refine Qd ?_ | refine Fb ?_ | refine Qe ?_ | refine Wa ?_ | refine Wb ?_ | (refine AW.ite rfl (fun h => ?_) (fun h => ?_) <;> try (exfalso; omega; done)) | refine AW.cond _ rfl (fun h => ?_) (fun h => ?_) | refine Qf ?_ | refine Qg ?_ | refine Qh ?_ | refine Qi ?_ | refine Xa ?_ | refine Xb ?_ | refine Xc ?_ | refine Xd ?_ | refine Fc ?_)
        have e := earP_no (n := n) hb
        refine ⟨⟨j + 1, by omega⟩, ?_, by simp only; omega⟩
        (apply Le.headG [_, _] [mi1 ⟨2, []⟩ (TR (earP (eaC t f) n i (j + 1)))] (fun _ => False))
        (case' hlen => rfl)
        (case' hms => rfl)
        all_goals (try dsimp only [srcs])
        (case' hfr | hob => (repeat' (first | refine La ?_ ?_ | exact Lc | refine Lo ?_ | refine ⟨⟨_, rfl, ?_⟩, ?_⟩ | refine ObA.box ?_ | refine ObA.frE ?_ | refine ObA.dataE ?_ | refine ARs.agg ?_ | refine ARs.tup ?_ | refine AR.b ?_ | refine AR.iE ?_ | refine AR.e ?_ | refine AR.clo' ARs.nil ?_)))
        (case' hok => first | exact ⟨by rw [e]; exact MI.ok_same rfl (Cg), trivial⟩ | exact trivial)
        (case' hN => rfl)
        (case' hS => rfl)
        all_goals (first | exact Ld | ((rw [e]; done)))
      ·
        rw [hb] at hE
        have e := earP_yes (n := n) hb
        repeat' (first | refine Qa ?_ | ((first | apply Ba | (apply Bb; (· rfl); (· rfl)) | (apply Bc; (· exact nxE)) | (apply Bd; (· rfl); (· rfl); (· exact nxE))); (· first | exact OpOk.callS (hsE t (tabF m n f)) rfl rfl hE (by intro p hp; simp only [List.mem_cons, List.not_mem_nil, or_false] at hp; rcases hp with rfl | rfl <;> rfl) hsE_ok (.d _) (.cons (.dd _) (.cons (.dd _) (.cons (AR.ptr _ _ _ _ (by simp)) (.cons (AR.ptr _ _ _ _ (by simp)) .nil)))) | exact Ok.bs2 rfl (by conv => lhs; whnf) (by conv => lhs; whnf) (by rfl) (by rfl) (by rfl) (by rfl) (by rfl) (by rfl) (by decide) | exact Ok.appendT rfl rfl (by decide) rfl rfl rfl (by simp [outer_len]; done) rfl rfl (by rfl) (by omega) (by omega) rfl | exact Ok.pe); (first | refine Na ?_ | refine Nb ?_)) | ((first | apply Ca | (apply Cb; (· exact nxE))); (· first | exact Ok.bs2 rfl (by conv => lhs; whnf) (by conv => lhs; whnf) (by rfl) (by rfl) (by rfl) (by rfl) (by rfl) (by rfl) (by decide) | exact Ok.appendT rfl rfl (by decide) rfl rfl rfl (by simp [outer_len]; done) rfl rfl (by rfl) (by omega) (by omega) rfl | exact Ok.e0); (first | refine Nc ?_ | refine Nd ?_)) | refine Oa ?_ | refine Ob ?_ | ((first | refine Ga (fun h => ?_) (fun h => ?_) | refine AD.gsplit rfl rfl (fun h => ?_) (fun h => ?_)) <;> try (exfalso; omega; done)) | (first | refine AL.gsplitB rfl rfl (fun h => ?_) (fun h => ?_) | refine AD.gsplitB rfl rfl (fun h => ?_) (fun h => ?_)) | refine Fa ?_ | refine Qb ?_ | refine Qc ?_ | refine Qd ?_ | refine Fb ?_ | refine Qe ?_ | refine Wa ?_ | refine Wb ?_ | (refine AW.ite rfl (fun h => ?_) (fun h => ?_) <;> try (exfalso; omega; done)) | refine AW.cond _ rfl (fun h => ?_) (fun h => ?_) | refine Qf ?_ | refine Qg ?_ | refine Qh ?_ | refine Qi ?_ | refine Xa ?_ | refine Xb ?_ | refine Xc ?_ | refine Xd ?_ | refine Fc ?_)
        refine ⟨⟨j + 1, by omega⟩, ?_, by simp only; omega⟩
        (apply Le.headG [_, _] [{ l := ⟨2, []⟩, k := 1, R := TR (earP (eaC t f) n i (j + 1)), src := ⟨913, []⟩, base := ⟨2, []⟩, cut := (earP (eaC t f) n i j).length, ext := some ⟨911, []⟩ }] (fun _ => False))
        (case' hlen => rfl)
        (case' hms => rfl)
        all_goals (try dsimp only [srcs])
        (case' hfr | hob => (repeat' (first | refine La ?_ ?_ | exact Lc | refine Lo ?_ | refine ⟨⟨_, rfl, ?_⟩, ?_⟩ | refine ObA.box ?_ | refine ObA.frE ?_ | refine ObA.dataE ?_ | refine ARs.agg ?_ | refine ARs.tup ?_ | refine AR.b ?_ | refine AR.iE ?_ | refine AR.e ?_ | refine AR.clo' ARs.nil ?_)))
        (case' hok => first | exact ⟨MI.ok_app (TR_snoc e) (by simp) rfl rfl (Cg) rfl, trivial⟩ | exact trivial)
        (case' hN => rfl)
        (case' hS => rfl)
        all_goals (first | exact Ld | ((first | (simp [AllP, e]; done) | (rw [e]; simp; done))))
    ·
      have hjn : j = n := by omega
      subst hjn
      repeat' (first | refine Qa ?_ | ((first | apply Ba | (apply Bb; (· rfl); (· rfl)) | (apply Bc; (· exact nxE)) | (apply Bd; (· rfl); (· rfl); (· exact nxE))); (· first | exact Ok.pe); (first | refine Na ?_ | refine Nb ?_)) | ((first | apply Ca | (apply Cb; (· exact nxE))); (· first | exact Ok.e0); (first | refine Nc ?_ | refine Nd ?_)) | refine Oa ?_ | refine Ob ?_ | ((first | refine Ga (fun h => ?_) (fun h => ?_) | refine AD.gsplit rfl rfl (fun h => ?_) (fun h => ?_)) <;> try (exfalso; omega; done)) | (first | refine AL.gsplitB rfl rfl (fun h => ?_) (fun h => ?_) | refine AD.gsplitB rfl rfl (fun h => ?_) (fun h => ?_)) | refine Fa ?_ | refine Qb ?_ | refine Qc ?_ | refine Qd ?_ | refine Fb ?_ | refine Qe ?_ | refine Wa ?_ | refine Wb ?_ | (refine AW.ite rfl (fun h => ?_) (fun h => ?_) <;> try (exfalso; omega; done)) | refine AW.cond _ rfl (fun h => ?_) (fun h => ?_) | refine Qf ?_ | refine Qg ?_ | refine Qh ?_ | refine Qi ?_ | refine Xa ?_ | refine Xb ?_ | refine Xc ?_ | refine Xd ?_ | refine Fc ?_)
      refine ⟨⟨i + 1, by omega⟩, ?_, by simp only; omega⟩
      rw [earP_row]
      (apply Le.headG [_, _] [mi1 ⟨2, []⟩ (TR (earP (eaC t f) j (i + 1) 0))] (fun _ => False))
      (case' hlen => rfl)
      (case' hms => rfl)
      all_goals (try dsimp only [srcs])
      (case' hfr | hob => (repeat' (first | refine La ?_ ?_ | exact Lc | refine Lo ?_ | refine ⟨⟨_, rfl, ?_⟩, ?_⟩ | refine ObA.box ?_ | refine ObA.frE ?_ | refine ObA.dataE ?_ | refine ARs.agg ?_ | refine ARs.tup ?_ | refine AR.b ?_ | refine AR.iE ?_ | refine AR.e ?_ | refine AR.clo' ARs.nil ?_)))
      (case' hok => first | exact ⟨MI.ok_same rfl (Cg), trivial⟩ | exact trivial)
      (case' hN => rfl)
      (case' hS => rfl)
      all_goals (first | exact Ld | (rfl))
  ·
    have him : i = m := by omega
    subst him
    rw [earP_00]
    repeat' (first | refine Qa ?_ | ((first | apply Ba | (apply Bb; (· rfl); (· rfl)) | (apply Bc; (· exact nxE)) | (apply Bd; (· rfl); (· rfl); (· exact nxE))); (· first | exact Ok.pe); (first | refine Na ?_ | refine Nb ?_)) | ((first | apply Ca | (apply Cb; (· exact nxE))); (· first | exact Ok.e0); (first | refine Nc ?_ | refine Nd ?_)) | refine Oa ?_ | refine Ob ?_ | ((first | refine Ga (fun h => ?_) (fun h => ?_) | refine AD.gsplit rfl rfl (fun h => ?_) (fun h => ?_)) <;> try (exfalso; omega; done)) | (first | refine AL.gsplitB rfl rfl (fun h => ?_) (fun h => ?_) | refine AD.gsplitB rfl rfl (fun h => ?_) (fun h => ?_)) | refine Fa ?_ | refine Qb ?_ | refine Qc ?_ | refine Qd ?_ | refine Fb ?_ | refine Qe ?_ | refine Wa ?_ | refine Wb ?_ | (refine AW.ite rfl (fun h => ?_) (fun h => ?_) <;> try (exfalso; omega; done)) | refine AW.cond _ rfl (fun h => ?_) (fun h => ?_) | refine Qf ?_ | refine Qg ?_ | refine Qh ?_ | refine Qi ?_ | refine Xa ?_ | refine Xb ?_ | refine Xc ?_ | refine Xd ?_ | refine Fc ?_)
    refine Ya ?_
    (apply Le.headG [⟨1, []⟩, ⟨6, []⟩] [mi1 ⟨2, []⟩ (TR (earT (eaC t f) n i))] (fun _ => False))
    (case' hlen => rfl)
    (case' hms => rfl)
    all_goals (try dsimp only [srcs])
    (case' hfr | hob => (repeat' (first | refine La ?_ ?_ | exact Lc | refine Lo ?_ | refine ⟨⟨_, rfl, ?_⟩, ?_⟩ | refine ObA.box ?_ | refine ObA.frE ?_ | refine ObA.dataE ?_ | refine ARs.agg ?_ | refine ARs.tup ?_ | refine AR.b ?_ | refine AR.iE ?_ | refine AR.e ?_ | refine AR.clo' ARs.nil ?_)))
    (case' hok => first | exact ⟨MI.ok_same rfl (Cg), trivial⟩ | exact trivial)
    (case' hN => rfl)
    (case' hS => rfl)
    all_goals (first | exact Ld | (rfl))
set_option maxHeartbeats 1000000 in
theorem earlyFirings_ac (n m : Nat) (xs : List Pl) (t : List (List Int)) (hx : xs.length ≤ 100000000) (hv : ∀ p ∈ xs, okPl n p) (ht : Rc t m n) (hb : bndT t) (hn : n ≤ 10) (hm : m ≤ 1000) : AC Try.prog 144 [grD n xs, TL t] H0 (own1 1 (earT (eaC t (alFn t xs)) n m).length) (hpM 1 (TR (earT (eaC t (alFn t xs)) n m))) := by
  have htl := ht.l
  have hAL := (allowedTimes_ac n m xs t hx hv ht hb hn (by omega)).frzT (by rw [TR_len, alTab_len])
  rw [alTab_tabF] at hAL
  have hF := firingsE_ac n m t (alFn t xs) ht hn hm
  refine AC.of_body 0 Try.func144 rfl (fun l h => absurd rfl h) (fun C hC => ?_)
  have hD : ∀ l, ¬ C.D0 l := fun l h => (hC l).1 h rfl
  simp only [startFr, Try.ntmps144, List.length_cons, List.length_nil, Nat.reduceAdd, Nat.reduceSub, List.replicate_succ, List.replicate_zero, List.cons_append, List.nil_append]
  repeat' (first | refine Qa ?_ | ((first | apply Ba | (apply Bb; (· rfl); (· rfl)) | (apply Bc; (· exact nxE)) | (apply Bd; (· rfl); (· rfl); (· exact nxE))); (· first | exact Kz rfl rfl (hAL) (Aa (Ad (Ad An)) (Ad An)) | exact OpOk.callSX (hsE t (tabF m n (alFn t xs))) [mi1 ⟨2, []⟩ (TR (earT (eaC t (alFn t xs)) n m))] rfl rfl hF (by intro p hp; simp only [List.mem_cons, List.not_mem_nil, or_false] at hp; rcases hp with rfl | rfl <;> rfl) hsE_ok (by simp [Loc.cov]) (.cons (.dd _) (.cons (AR.clo' .nil (.cons (AR.ptr _ _ _ _ (by simp)) (.cons (AR.ptr _ _ _ _ (by simp)) .nil))) .nil)) (by simp [rn, emb]; rfl) | exact Ok.pe); (first | refine Na ?_ | refine Nb ?_)) | ((first | apply Ca | (apply Cb; (· exact nxE))); (· first | exact OpOk.callSX (hsE t (tabF m n (alFn t xs))) [mi1 ⟨2, []⟩ (TR (earT (eaC t (alFn t xs)) n m))] rfl rfl hF (by intro p hp; simp only [List.mem_cons, List.not_mem_nil, or_false] at hp; rcases hp with rfl | rfl <;> rfl) hsE_ok (by simp [Loc.cov]) (.cons (.dd _) (.cons (AR.clo' .nil (.cons (AR.ptr _ _ _ _ (by simp)) (.cons (AR.ptr _ _ _ _ (by simp)) .nil))) .nil)) (by simp [rn, emb]; rfl) | exact Ok.e0); (first | refine Nc ?_ | refine Nd ?_)) | refine Oa ?_ | refine Ob ?_ | ((first | refine Ga (fun h => ?_) (fun h => ?_) | refine AD.gsplit rfl rfl (fun h => ?_) (fun h => ?_)) <;> try (exfalso; omega; done)) | (first | refine AL.gsplitB rfl rfl (fun h => ?_) (fun h => ?_) | refine AD.gsplitB rfl rfl (fun h => ?_) (fun h => ?_)) | refine Fa ?_ | refine Qb ?_ | refine Qc ?_ | refine Qd ?_ | refine Fb ?_ | refine Qe ?_ | refine Wa ?_ | refine Wb ?_ | (refine AW.ite rfl (fun h => ?_) (fun h => ?_) <;> try (exfalso; omega; done)) | refine AW.cond _ rfl (fun h => ?_) (fun h => ?_) | refine Qf ?_ | refine Qg ?_ | refine Qh ?_ | refine Qi ?_ | refine Xa ?_ | refine Xb ?_ | refine Xc ?_ | refine Xd ?_ | refine Fc ?_)
  refine Ya ?_
  (apply Le.headG [] [{ l := ⟨0, []⟩, k := 1, R := TR (earT (eaC t (alFn t xs)) n m), src := ⟨10, [2]⟩, base := ⟨10, [2]⟩ }] (fun _ => False))
  (case' hlen => rfl)
  (case' hms => rfl)
  all_goals (try dsimp only [srcs])
  (case' hfr | hob => (repeat' (first | refine La ?_ ?_ | exact Lc | refine Lo ?_ | refine ⟨⟨_, rfl, ?_⟩, ?_⟩ | refine ObA.box ?_ | refine ObA.frE ?_ | refine ObA.dataE ?_ | refine ARs.agg ?_ | refine ARs.tup ?_ | refine AR.b ?_ | refine AR.iE ?_ | refine AR.e ?_ | refine AR.clo' ARs.nil ?_)))
  (case' hok => first | exact ⟨MI.ok_same rfl (Cg), trivial⟩ | exact trivial)
  (case' hN => rfl)
  (case' hS => rfl)
  all_goals (first | exact Ld | (rfl))
set_option maxHeartbeats 1000000 in
theorem iEarlyFirings_ac (ev : Int) (xs : List Pl) (t : List (List Int)) (hx : xs.length ≤ 100000000) (ht : t.length ≤ 100000000) (hr : ∀ r ∈ t, r.length ≤ 100000000) : AC Try.prog 49 [grD ev xs, TL t] H0 (.tup [own1 1 (eaOut ev xs t).length, I (goodI ev xs t)]) (hpM 1 (TR (eaOut ev xs t))) := by
  have hc := checkDue_ac ev xs t hx ht hr
  by_cases h0 : goodI ev xs t = 0
  · obtain ⟨n, rfl, h1, h2, h3, h4, h5, h6⟩ := code_ok h0
    have hmm : t.length ≤ 1000 := by have := (dueB_ok h5).2.1; omega
    unfold eaOut
    rw [if_pos h0, h0, Int.toNat_natCast]
    rw [h0] at hc
    refine AC.of_body 0 Try.func49 rfl (fun l h => absurd rfl h) (fun C hC => ?_)
    have hD : ∀ l, ¬ C.D0 l := fun l h => (hC l).1 h rfl
    simp only [startFr, Try.ntmps49, List.length_cons, List.length_nil, Nat.reduceAdd, Nat.reduceSub, List.replicate_succ, List.replicate_zero, List.cons_append, List.nil_append]
    repeat' (first | refine Qa ?_ | ((first | apply Ba | (apply Bb; (· rfl); (· rfl)) | (apply Bc; (· exact nxE)) | (apply Bd; (· rfl); (· rfl); (· exact nxE))); (· first | exact Kz rfl rfl (hc) (Aa (Ad (Ad An)) (Ad An)) | exact Tb rfl rfl (earlyFirings_ac n t.length xs t hx h4 (dueB_ok h5).1 (dueB_bnd h5) h2 hmm) (Sa (Sd (Sd Sn)) (Sd Sn)) | exact Ok.pe); (first | refine Na ?_ | refine Nb ?_)) | ((first | apply Ca | (apply Cb; (· exact nxE))); (· first | exact Tb rfl rfl (earlyFirings_ac n t.length xs t hx h4 (dueB_ok h5).1 (dueB_bnd h5) h2 hmm) (Sa (Sd (Sd Sn)) (Sd Sn)) | exact Ok.e0); (first | refine Nc ?_ | refine Nd ?_)) | refine Oa ?_ | refine Ob ?_ | ((first | refine Ga (fun h => ?_) (fun h => ?_) | refine AD.gsplit rfl rfl (fun h => ?_) (fun h => ?_)) <;> try (exfalso; omega; done)) | (first | refine AL.gsplitB rfl rfl (fun h => ?_) (fun h => ?_) | refine AD.gsplitB rfl rfl (fun h => ?_) (fun h => ?_)) | refine Fa ?_ | refine Qb ?_ | refine Qc ?_ | refine Qd ?_ | refine Fb ?_ | refine Qe ?_ | refine Wa ?_ | refine Wb ?_ | (refine AW.ite rfl (fun h => ?_) (fun h => ?_) <;> try (exfalso; omega; done)) | refine AW.cond _ rfl (fun h => ?_) (fun h => ?_) | refine Qf ?_ | refine Qg ?_ | refine Qh ?_ | refine Qi ?_ | refine Xa ?_ | refine Xb ?_ | refine Xc ?_ | refine Xd ?_ | refine Fc ?_)
    refine Yb ?_
    (apply Le.headG [] [{ l := ⟨0, []⟩, k := 1, R := TR (earT (eaC t (alFn t xs)) n t.length), src := ⟨11, [0]⟩, base := ⟨11, [0]⟩ }] (fun _ => False))
    (case' hlen => rfl)
    (case' hms => rfl)
    all_goals (try dsimp only [srcs])
    (case' hfr | hob => (repeat' (first | refine La ?_ ?_ | exact Lc | refine Lo ?_ | refine ⟨⟨_, rfl, ?_⟩, ?_⟩ | refine ObA.box ?_ | refine ObA.frE ?_ | refine ObA.dataE ?_ | refine ARs.agg ?_ | refine ARs.tup ?_ | refine AR.b ?_ | refine AR.iE ?_ | refine AR.e ?_ | refine AR.clo' ARs.nil ?_)))
    (case' hok => first | exact ⟨MI.ok_same rfl (Cg), trivial⟩ | exact trivial)
    (case' hN => rfl)
    (case' hS => rfl)
    all_goals (first | exact Ld | (rfl))
  · unfold eaOut
    rw [if_neg h0]
    refine AC.of_body 0 Try.func49 rfl (fun l h => absurd rfl h) (fun C hC => ?_)
    have hD : ∀ l, ¬ C.D0 l := fun l h => (hC l).1 h rfl
    simp only [startFr, Try.ntmps49, List.length_cons, List.length_nil, Nat.reduceAdd, Nat.reduceSub, List.replicate_succ, List.replicate_zero, List.cons_append, List.nil_append]
    repeat' (first | refine Qa ?_ | ((first | apply Ba | (apply Bb; (· rfl); (· rfl)) | (apply Bc; (· exact nxE)) | (apply Bd; (· rfl); (· rfl); (· exact nxE))); (· first | exact Kz rfl rfl (hc) (Aa (Ad (Ad An)) (Ad An)) | exact Ok.pe); (first | refine Na ?_ | refine Nb ?_)) | ((first | apply Ca | (apply Cb; (· exact nxE))); (· first | exact Ok.e0); (first | refine Nc ?_ | refine Nd ?_)) | refine Oa ?_ | refine Ob ?_ | ((first | refine Ga (fun h => ?_) (fun h => ?_) | refine AD.gsplit rfl rfl (fun h => ?_) (fun h => ?_)) <;> try (exfalso; omega; done)) | (first | refine AL.gsplitB rfl rfl (fun h => ?_) (fun h => ?_) | refine AD.gsplitB rfl rfl (fun h => ?_) (fun h => ?_)) | refine Fa ?_ | refine Qb ?_ | refine Qc ?_ | refine Qd ?_ | refine Fb ?_ | refine Qe ?_ | refine Wa ?_ | refine Wb ?_ | (refine AW.ite rfl (fun h => ?_) (fun h => ?_) <;> try (exfalso; omega; done)) | refine AW.cond _ rfl (fun h => ?_) (fun h => ?_) | refine Qf ?_ | refine Qg ?_ | refine Qh ?_ | refine Qi ?_ | refine Xa ?_ | refine Xb ?_ | refine Xc ?_ | refine Xd ?_ | refine Fc ?_)
    rw [show TR ([] : List (List Int)) = [] from rfl, hpM_nil]
    exact end2nil (.inl rfl) rfl (rT rfl) (rT rfl) hD
end Go.Proofs.Ytegfjedklebbfaa
end

section
namespace Go.Proofs.Ytegfjedklebbfaa
set_option linter.unusedSimpArgs false
set_option linter.unusedVariables false
open Go Go.RowKit

theorem alA_congr {t t' : List (List Int)} {xs : List Pl} {r e : Nat} : ∀ k, (∀ i p, i < k → xs[i]? = some p → okP r e p → valP t r p = valP t' r p) → alA t r e xs k = alA t' r e xs k
  | 0, _ => rfl
  | k + 1, h => by
    have ih := alA_congr k (fun i p hi => h i p (by omega))
    cases hx : xs[k]? with
    | none => rw [alA, hx, alA, hx]; exact ih
    | some p =>
      rw [alA_step hx, alA_step hx, ih, alS_eq, alS_eq]
      by_cases ho : okP r e p
      · rw [if_pos ho, if_pos ho, h k p (by omega) hx ho]
      · rw [if_neg ho, if_neg ho]
/-- What an allowed time depends on. -/
theorem alT_dep {m n : Nat} {xs : List Pl} (hv : ∀ p ∈ xs, okPl n p) {f g : Nat → Nat → Int} {k e : Nat} (hk : k < m) (h : ∀ p ∈ xs, p.t = (e : Int) → p.k ≤ k → f (k - p.k.toNat) p.f.toNat = g (k - p.k.toNat) p.f.toNat) : alT (tabF m n f) (k + 1) e xs = alT (tabF m n g) (k + 1) e xs := by
  unfold alT
  rw [alA_congr]
  intro i p _ hp ⟨h1, h2⟩
  have hm := List.mem_of_getElem? hp
  obtain ⟨⟨g1, g2⟩, _⟩ := hv p hm
  unfold valP
  rw [show k + 1 - 1 - p.k.toNat = k - p.k.toNat by omega, tabF_ent (by omega) (by omega), tabF_ent (by omega) (by omega), h p hm h1 (by omega)]
structure RepInv (m n : Nat) (xs : List Pl) (ord : List Nat) (K J : Nat) (g : Nat → Nat → Int) : Prop where
  rows : ∀ a e, a < K → e < n → alT (tabF m n g) (a + 1) e xs ≤ g a e
  cur : ∀ e, e ∈ ord.take J → alT (tabF m n g) (K + 1) e xs ≤ g K e
theorem take_nd {ord : List Nat} (hn : ord.Nodup) {J e : Nat} (h : ord[J]? = some e) : e ∉ ord.take J := by
  intro hm
  obtain ⟨i, hi, e2⟩ := List.getElem_of_mem hm
  obtain ⟨hJ, e1⟩ := List.getElem?_eq_some_iff.1 h
  rw [List.length_take] at hi
  rw [List.getElem_take] at e2
  have := (List.getElem_inj hn).1 (e2.trans e1.symm)
  omega
theorem wPl_of {xs : List Pl} {p : Pl} (hp : p ∈ xs) {e : Nat} (h1 : p.t = (e : Int)) (h2 : p.k = 0) (h3 : 0 ≤ p.f) : wPl xs e p.f.toNat = true := by
  unfold wPl
  rw [List.any_eq_true]
  exact ⟨p, hp, by simp [h1, h2, Int.toNat_of_nonneg h3]⟩
theorem RepInv.step {m n : Nat} {xs : List Pl} (hv : ∀ p ∈ xs, okPl n p) {ord : List Nat} (ho : OrdOk (wPl xs) n ord) {K J e : Nat} {g : Nat → Nat → Int} (hK : K < m) (hJ : ord[J]? = some e) (h : RepInv m n xs ord K J g) : RepInv m n xs ord K (J + 1) (repS m n xs K g e) := by
  have hnd := take_nd ho.nd hJ
  have hne : ∀ a b, (a ≠ K ∨ b ≠ e) → repS m n xs K g e a b = g a b := fun a b h => by
    unfold repS; rw [if_neg (by omega)]
  -- those that an event of the order's beginning waits for
  have hpre : ∀ (i e' : Nat), ord[i]? = some e' → i ≤ J → ∀ p ∈ xs, p.t = (e' : Int) → p.k ≤ (K : Int) → repS m n xs K g e (K - p.k.toNat) p.f.toNat = g (K - p.k.toNat) p.f.toNat := by
    intro i e' hi hiJ p hp h1 h2
    obtain ⟨⟨g1, g2⟩, _, _, ⟨g3, g4⟩⟩ := hv p hp
    refine hne _ _ ?_
    by_cases hk : p.k = 0
    · right
      intro he
      have hil := (List.getElem?_eq_some_iff.1 hi).1
      have := ho.wait i hil p.f.toNat (by omega) (by rw [List.getD_eq_getElem?_getD, hi, Option.getD_some]; exact wPl_of hp h1 hk g1)
      rw [he] at this
      exact hnd ((List.take_subset_take_left ord hiJ) this)
    · left; omega
  refine ⟨fun a e' ha he' => ?_, fun e' he' => ?_⟩
  · rw [hne a e' (.inl (by omega)), alT_dep hv (g := g) (by omega) (fun p _ _ _ => hne _ _ (.inl (by omega)))]
    exact h.rows a e' ha he'
  · rw [List.take_add_one, hJ, Option.toList_some] at he'
    rcases List.mem_append.1 he' with he2 | he2
    · have hee : e' ≠ e := fun x => hnd (x ▸ he2)
      obtain ⟨i, hi, e2⟩ := List.getElem_of_mem he2
      rw [List.length_take] at hi
      rw [List.getElem_take] at e2
      rw [hne K e' (.inr hee), alT_dep hv (g := g) hK (fun p hp h1 h2 => hpre i e' (by rw [List.getElem?_eq_getElem (by omega), e2]) (by omega) p hp h1 h2)]
      exact h.cur e' he2
    · simp at he2; subst he2
      have e1 : repS m n xs K g e' K e' = max (g K e') (alT (tabF m n g) (K + 1) e' xs) := by unfold repS; rw [if_pos ⟨rfl, rfl⟩]
      rw [e1, alT_dep hv (g := g) hK (fun p hp h1 h2 => hpre J e' hJ (Nat.le_refl _) p hp h1 h2)]
      omega
theorem RepInv.row {m n : Nat} {xs : List Pl} (hv : ∀ p ∈ xs, okPl n p) {ord : List Nat} (ho : OrdOk (wPl xs) n ord) {K : Nat} {f : Nat → Nat → Int} (hK : K < m) (h : RepInv m n xs ord K 0 f) : ∀ J, J ≤ ord.length → RepInv m n xs ord K J (repRow m n xs K f (ord.take J))
  | 0, _ => by simpa [repRow] using h
  | J + 1, hJ => by
    have hj : ord[J]? = some (ord[J]'(by omega)) := List.getElem?_eq_getElem (by omega)
    rw [repRow_step hj]
    exact (h.row hv ho hK J (by omega)).step hv ho hK hj
theorem RepInv.all {m n : Nat} {xs : List Pl} (hv : ∀ p ∈ xs, okPl n p) {ord : List Nat} (ho : OrdOk (wPl xs) n ord) (hl : ord.length = n) {f : Nat → Nat → Int} : ∀ K, K ≤ m → RepInv m n xs ord K 0 (repAll m n xs ord f K)
  | 0, _ => ⟨fun a e h => absurd h (Nat.not_lt_zero a), fun e h => by simp at h⟩
  | K + 1, hK => by
    have ih := RepInv.all (m := m) hv ho hl (f := f) K (by omega)
    have h1 := ih.row hv ho (by omega) ord.length (Nat.le_refl _)
    rw [List.take_length] at h1
    refine ⟨fun a e ha he => ?_, fun e h => by simp at h⟩
    by_cases e1 : a = K
    · subst e1
      exact h1.cur e (by rw [List.take_length]; exact nodup_full ho.nd ho.lt hl he)
    · exact h1.rows a e (by omega) he
theorem repS_ge {m n k e : Nat} {xs : List Pl} {f : Nat → Nat → Int} (a b : Nat) : f a b ≤ repS m n xs k f e a b := by
  unfold repS
  split
  · rename_i h; obtain ⟨rfl, rfl⟩ := h; omega
  · omega
theorem repRow_ge {m n k : Nat} {xs : List Pl} : ∀ {l : List Nat} {f : Nat → Nat → Int} (a b : Nat), f a b ≤ repRow m n xs k f l a b
  | [], f, a, b => Int.le_refl _
  | e :: l, f, a, b => Int.le_trans (repS_ge (m := m) (n := n) (k := k) (e := e) (xs := xs) a b) (repRow_ge (l := l) a b)
theorem repAll_ge {m n : Nat} {xs : List Pl} {ord : List Nat} {f : Nat → Nat → Int} : ∀ (K a b : Nat), f a b ≤ repAll m n xs ord f K a b
  | 0, a, b => Int.le_refl _
  | K + 1, a, b => Int.le_trans (repAll_ge (m := m) (n := n) (xs := xs) (ord := ord) K a b) (repRow_ge a b)
theorem repRow_same {m n k : Nat} {xs : List Pl} {f : Nat → Nat → Int} : ∀ {l : List Nat}, (∀ e ∈ l, alT (tabF m n f) (k + 1) e xs ≤ f k e) → repRow m n xs k f l = f
  | [], _ => rfl
  | e :: l, h => by
    have h1 : repS m n xs k f e = f := by
      funext a b
      unfold repS
      split
      · rename_i hab
        obtain ⟨rfl, rfl⟩ := hab
        have := h b (by simp)
        omega
      · rfl
    have h2 : repRow m n xs k f (e :: l) = repRow m n xs k (repS m n xs k f e) l := rfl
    rw [h2, h1]
    exact repRow_same fun e he => h e (by simp [he])
theorem repAll_same {m n : Nat} {xs : List Pl} {ord : List Nat} {f : Nat → Nat → Int} (hlt : ∀ e ∈ ord, e < n) (h : ∀ a e, a < m → e < n → alT (tabF m n f) (a + 1) e xs ≤ f a e) : ∀ K, K ≤ m → repAll m n xs ord f K = f
  | 0, _ => rfl
  | K + 1, hK => by
    have ih := repAll_same (m := m) (ord := ord) hlt h K (by omega)
    have h2 : repAll m n xs ord f (K + 1) = repRow m n xs K (repAll m n xs ord f K) ord := rfl
    rw [h2, ih]
    exact repRow_same fun e he => h K e (by omega) (hlt e he)
theorem tabF_entN {m n : Nat} {f : Nat → Nat → Int} : tabF m n (entN (tabF m n f)) = tabF m n f := by
  unfold tabF
  refine List.map_congr_left fun i hi => ?_
  rw [List.mem_range] at hi
  exact rowF_congr fun j hj => tabF_ent hi hj
/-- What is held of a repaired table. -/
structure Repaired (ev : Int) (xs : List Pl) (t x : List (List Int)) : Prop where
  good : goodI ev xs x = 0
  early : eaOut ev xs x = []
  code : rpC ev xs x = 0
  again : rpOut ev xs x = x
  len : x.length = t.length
  rows : ∀ (k : Nat) (a b : List Int), t[k]? = some a → x[k]? = some b → a.length = b.length ∧ ∀ (e : Nat) (u v : Int), a[e]? = some u → b[e]? = some v → u ≤ v
theorem dueB_rc {n : Nat} {t : List (List Int)} (h : dueB n t = true) : Rc t t.length n := by
  unfold dueB at h
  simp only [Bool.and_eq_true, List.all_eq_true, decide_eq_true_eq] at h
  exact ⟨rfl, fun r hr => by have := (h.1 r hr).1; omega⟩
theorem repaired {ev : Int} {xs : List Pl} {t : List (List Int)} (h : rpC ev xs t = 0) : Repaired ev xs t (rpOut ev xs t) := by
  have hout : rpOut ev xs t = rpTab ev xs t := by unfold rpOut; rw [if_pos h]
  rw [hout]
  have hg : goodI ev xs t = 0 ∧ dueB ev (rpTab ev xs t) = true := by
    unfold rpC at h
    by_cases hg : goodI ev xs t = 0
    · rw [if_pos hg] at h
      by_cases hd : dueB ev (rpTab ev xs t) = true
      · exact ⟨hg, hd⟩
      · rw [if_neg hd] at h; exact absurd h (by decide)
    · rw [if_neg hg] at h; exact absurd h hg
  obtain ⟨n, rfl, h1, h2, h3, h4, h5, h6⟩ := code_ok hg.1
  have hlo := liveB_ord (n := n) h4
  rw [h6] at hlo
  obtain ⟨ord, hord⟩ := Option.isSome_iff_exists.1 hlo.symm
  obtain ⟨o1, o2⟩ := ordF_some OrdOk.nil hord
  have hol : ord.length = n := by simpa using o2
  have hrt : rpTab n xs t = tabF t.length n (repAll t.length n xs ord (entN t) t.length) := by unfold rpTab; rw [Int.toNat_natCast, hord]; rfl
  have hinv := RepInv.all h4 o1 hol (m := t.length) (f := entN t) t.length (Nat.le_refl _)
  have hge := fun a b => repAll_ge (m := t.length) (n := n) (xs := xs) (ord := ord) (f := entN t) t.length a b
  have hdue := hg.2
  rw [hrt] at hdue ⊢
  generalize repAll t.length n xs ord (entN t) t.length = g at *
  have hfix : ∀ a e, a < t.length → e < n → alT (tabF t.length n g) (a + 1) e xs ≤ entN (tabF t.length n g) a e := fun a e ha he => by
    rw [tabF_ent ha he]; exact hinv.rows a e ha he
  have hgd : goodI n xs (tabF t.length n g) = 0 := by
    have hx := hg.1
    unfold goodI at hx ⊢
    rw [hdue]
    have hd : dueB n t = true := h5
    rw [hd] at hx
    exact hx
  have hsame : rpTab n xs (tabF t.length n g) = tabF t.length n g := by
    unfold rpTab
    rw [Int.toNat_natCast, hord, tabF_len]
    rw [show (some ord).getD [] = ord from rfl, repAll_same o1.lt (fun a e ha he => by rw [tabF_entN]; exact hfix a e ha he) _ (Nat.le_refl _), tabF_entN]
  have hcode : rpC n xs (tabF t.length n g) = 0 := by
    unfold rpC
    rw [if_pos hgd, hsame, if_pos hdue]
  refine ⟨hgd, ?_, hcode, ?_, tabF_len, fun k a b ha hb => ?_⟩
  · unfold eaOut
    rw [if_pos hgd, Int.toNat_natCast, tabF_len]
    unfold earT
    rw [List.flatMap_eq_nil_iff]
    intro k hk
    rw [List.mem_range] at hk
    unfold earR
    rw [List.map_eq_nil_iff, List.filter_eq_nil_iff]
    intro e he
    rw [List.mem_range] at he
    have hfk : alFn (tabF t.length n g) xs k e ≤ entN (tabF t.length n g) k e := hfix k e hk he
    simp only [decide_eq_true_eq]
    omega
  · unfold rpOut
    rw [if_pos hcode, hsame]
  · have hk : k < t.length := (List.getElem?_eq_some_iff.1 ha).1
    rw [tabF_get hk] at hb
    cases hb
    have hrc := dueB_rc h5
    have hal := hrc.r a (List.mem_of_getElem? ha)
    refine ⟨by rw [hal, rowF_len], fun e u v hu hv' => ?_⟩
    have he : e < n := by have := (List.getElem?_eq_some_iff.1 hu).1; omega
    rw [rowF_get he] at hv'
    cases hv'
    have hgk : entN t k e ≤ g k e := hge k e
    have e1 : entN t k e = u := by unfold entN; rw [ha, Option.getD_some, hu, Option.getD_some]
    omega
end Go.Proofs.Ytegfjedklebbfaa
end
