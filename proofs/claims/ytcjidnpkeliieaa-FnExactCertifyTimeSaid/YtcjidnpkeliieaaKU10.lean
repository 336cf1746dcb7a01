/-
  Walks in the abstract reading, part 10.
-/
import Derived.Test.YtcjidnpkeliieaaKU8
import Derived.Test.YtcjidnpkeliieaaKU9
import Derived.Test.YtcjidnpkeliieaaKU6
import Derived.Test.YtcjidnpkeliieaaKU7
import Derived.Test.YtcjidnpkeliieaaKU5
import Derived.Test.YtcjidnpkeliieaaKA3
section
namespace Go.Proofs.Ytcjidnpkeliieaa
set_option linter.unusedSimpArgs false
set_option linter.unusedVariables false
open Go Go.RowKit
attribute [local irreducible] AL AD AW OpOk Le AC thenQ blockQ EndQ

theorem l01Same_ac (xs : List Int) (hn : xs.length ≤ 100000000) : AC Try.prog 208 [IL xs, IL xs] H0 (Bo true) H0 := by
  refine AC.of_body 0 Try.func208 rfl (fun l h => absurd rfl h) (fun C hC => ?_)
  have hD : ∀ l, ¬ C.D0 l := fun l h => (hC l).1 h rfl
  simp only [startFr, Try.ntmps208, List.length_cons, List.length_nil, Nat.reduceAdd, Nat.reduceSub, List.replicate_succ, List.replicate_zero, List.cons_append, List.nil_append]
  repeat' (first | refine Qa ?_ | ((first | apply Ba | (apply Bb; (· rfl); (· rfl)) | (apply Bc; (· exact nxE)) | (apply Bd; (· rfl); (· rfl); (· exact nxE))); (· first | exact Ok.pe); (first | refine Na ?_ | refine Nb ?_)) | ((first | apply Ca | (apply Cb; (· exact nxE))); (· first | exact Ok.e0); (first | refine Nc ?_ | refine Nd ?_)) | refine Oa ?_ | refine Ob ?_ | ((first | refine Ga (fun h => ?_) (fun h => ?_) | refine AD.gsplit rfl rfl (fun h => ?_) (fun h => ?_)) <;> try (exfalso; omega; done)) | (first | refine AL.gsplitB rfl rfl (fun h => ?_) (fun h => ?_) | refine AD.gsplitB rfl rfl (fun h => ?_) (fun h => ?_)) | refine Fa ?_ | refine Qb ?_ | refine Qc ?_ | refine Qd ?_ | refine Fb ?_ | refine Qe ?_ | refine Wa ?_ | refine Wb ?_ | (refine AW.ite rfl (fun h => ?_) (fun h => ?_) <;> try (exfalso; omega; done)) | refine AW.cond _ rfl (fun h => ?_) (fun h => ?_) | refine Qf ?_ | refine Qg ?_ | refine Qh ?_ | refine Qi ?_ | refine Xa ?_ | refine Xb ?_ | refine Xc ?_ | refine Xd ?_ | refine Fc ?_)
  refine AW.loop (X := {k : Nat // k ≤ xs.length}) (fun k => ⟨[IL xs, IL xs, Oo, Oo, Oo, I (k.1 : Nat), Oo, Oo, Oo, Oo, Oo, Oo, Oo, Oo, Oo, Oo, Oo, Oo, Oo, Oo, Oo, Oo, Oo, Oo, Oo, Oo], heapL [], 900⟩) (fun k => xs.length - k.1) ⟨0, Nat.zero_le _⟩ ?_ (fun k => ?_)
  ·
    (apply Le.headZ [] rfl)
    all_goals (try dsimp only [srcs])
    (case' hfr | hob => (repeat' (first | refine La ?_ ?_ | exact Lc | refine Lo ?_ | refine ⟨⟨_, rfl, ?_⟩, ?_⟩ | refine ObA.box ?_ | refine ObA.frE ?_ | refine ObA.dataE ?_ | refine ARs.agg ?_ | refine ARs.tup ?_ | refine AR.b ?_ | refine AR.iE ?_ | refine AR.e ?_ | refine AR.clo' ARs.nil ?_)))
    all_goals (first | (rfl) | exact Ld)
  obtain ⟨k, hk⟩ := k
  simp only
  by_cases hlt : k < xs.length
  · obtain ⟨x, hx⟩ : ∃ x, xs[k]? = some x := ⟨xs[k], by simp⟩
    have hrow := IR_get hx
    repeat' (first | refine Qa ?_ | ((first | apply Ba | (apply Bb; (· rfl); (· rfl)) | (apply Bc; (· exact nxE)) | (apply Bd; (· rfl); (· rfl); (· exact nxE))); (· first | exact Ok.pe); (first | refine Na ?_ | refine Nb ?_)) | ((first | apply Ca | (apply Cb; (· exact nxE))); (· first | exact Ok.e0); (first | refine Nc ?_ | refine Nd ?_)) | refine Oa ?_ | refine Ob ?_ | ((first | refine Ga (fun h => ?_) (fun h => ?_) | refine AD.gsplit rfl rfl (fun h => ?_) (fun h => ?_)) <;> try (exfalso; omega; done)) | (first | refine AL.gsplitB rfl rfl (fun h => ?_) (fun h => ?_) | refine AD.gsplitB rfl rfl (fun h => ?_) (fun h => ?_)) | refine Fa ?_ | refine Qb ?_ | refine Qc ?_ | refine Qd ?_ | refine Fb ?_ | refine Qe ?_ | refine Wa ?_ | refine Wb ?_ | (refine AW.ite rfl (fun h => ?_) (fun h => ?_) <;> try (exfalso; omega; done)) | refine AW.cond _ rfl (fun h => ?_) (fun h => ?_) | refine Qf ?_ | refine Qg ?_ | refine Qh ?_ | refine Qi ?_ | refine Xa ?_ | refine Xb ?_ | refine Xc ?_ | refine Xd ?_ | refine Fc ?_)
    refine ⟨⟨k + 1, by omega⟩, ?_, by simp only; omega⟩
    (apply Le.headZ [] rfl)
    all_goals (try dsimp only [srcs])
    (case' hfr | hob => (repeat' (first | refine La ?_ ?_ | exact Lc | refine Lo ?_ | refine ⟨⟨_, rfl, ?_⟩, ?_⟩ | refine ObA.box ?_ | refine ObA.frE ?_ | refine ObA.dataE ?_ | refine ARs.agg ?_ | refine ARs.tup ?_ | refine AR.b ?_ | refine AR.iE ?_ | refine AR.e ?_ | refine AR.clo' ARs.nil ?_)))
    all_goals (first | (rfl) | exact Ld)
  ·
    repeat' (first | refine Qa ?_ | ((first | apply Ba | (apply Bb; (· rfl); (· rfl)) | (apply Bc; (· exact nxE)) | (apply Bd; (· rfl); (· rfl); (· exact nxE))); (· first | exact Ok.pe); (first | refine Na ?_ | refine Nb ?_)) | ((first | apply Ca | (apply Cb; (· exact nxE))); (· first | exact Ok.e0); (first | refine Nc ?_ | refine Nd ?_)) | refine Oa ?_ | refine Ob ?_ | ((first | refine Ga (fun h => ?_) (fun h => ?_) | refine AD.gsplit rfl rfl (fun h => ?_) (fun h => ?_)) <;> try (exfalso; omega; done)) | (first | refine AL.gsplitB rfl rfl (fun h => ?_) (fun h => ?_) | refine AD.gsplitB rfl rfl (fun h => ?_) (fun h => ?_)) | refine Fa ?_ | refine Qb ?_ | refine Qc ?_ | refine Qd ?_ | refine Fb ?_ | refine Qe ?_ | refine Wa ?_ | refine Wb ?_ | (refine AW.ite rfl (fun h => ?_) (fun h => ?_) <;> try (exfalso; omega; done)) | refine AW.cond _ rfl (fun h => ?_) (fun h => ?_) | refine Qf ?_ | refine Qg ?_ | refine Qh ?_ | refine Qi ?_ | refine Xa ?_ | refine Xb ?_ | refine Xc ?_ | refine Xd ?_ | refine Fc ?_)
    refine Ya ?_
    (apply Le.headZ (hs := []) [] rfl)
    all_goals (try dsimp only [srcs])
    (case' hfr => (repeat' (first | refine La ?_ ?_ | exact Lc | refine Lo ?_ | refine ⟨⟨_, rfl, ?_⟩, ?_⟩ | refine ObA.box ?_ | refine ObA.frE ?_ | refine ObA.dataE ?_ | refine ARs.agg ?_ | refine ARs.tup ?_ | refine AR.b ?_ | refine AR.iE ?_ | refine AR.e ?_ | refine AR.clo' ARs.nil ?_)))
    all_goals (first | exact Ld | exact trivial | (rfl))
theorem l02Same_ac (t : List (List Int)) (hn : t.length ≤ 100000000) (hr : ∀ r ∈ t, r.length ≤ 100000000) : AC Try.prog 168 [TL t, TL t] H0 (Bo true) H0 := by
  refine AC.of_body 0 Try.func168 rfl (fun l h => absurd rfl h) (fun C hC => ?_)
  have hD : ∀ l, ¬ C.D0 l := fun l h => (hC l).1 h rfl
  simp only [startFr, Try.ntmps168, List.length_cons, List.length_nil, Nat.reduceAdd, Nat.reduceSub, List.replicate_succ, List.replicate_zero, List.cons_append, List.nil_append]
  repeat' (first | refine Qa ?_ | ((first | apply Ba | (apply Bb; (· rfl); (· rfl)) | (apply Bc; (· exact nxE)) | (apply Bd; (· rfl); (· rfl); (· exact nxE))); (· first | exact Ok.pe); (first | refine Na ?_ | refine Nb ?_)) | ((first | apply Ca | (apply Cb; (· exact nxE))); (· first | exact Ok.e0); (first | refine Nc ?_ | refine Nd ?_)) | refine Oa ?_ | refine Ob ?_ | ((first | refine Ga (fun h => ?_) (fun h => ?_) | refine AD.gsplit rfl rfl (fun h => ?_) (fun h => ?_)) <;> try (exfalso; omega; done)) | (first | refine AL.gsplitB rfl rfl (fun h => ?_) (fun h => ?_) | refine AD.gsplitB rfl rfl (fun h => ?_) (fun h => ?_)) | refine Fa ?_ | refine Qb ?_ | refine Qc ?_ | refine Qd ?_ | refine Fb ?_ | refine Qe ?_ | refine Wa ?_ | refine Wb ?_ | (refine AW.ite rfl (fun h => ?_) (fun h => ?_) <;> try (exfalso; omega; done)) | refine AW.cond _ rfl (fun h => ?_) (fun h => ?_) | refine Qf ?_ | refine Qg ?_ | refine Qh ?_ | refine Qi ?_ | refine Xa ?_ | refine Xb ?_ | refine Xc ?_ | refine Xd ?_ | refine Fc ?_)
  refine AW.loop (X := {k : Nat // k ≤ t.length}) (fun k => ⟨[TL t, TL t, Oo, Oo, Oo, I (k.1 : Nat), Oo, Oo, Oo, Oo, Oo, Oo, Oo, Oo, Oo, Oo, Oo, Oo, Oo, Oo, Oo, Oo, Oo, Oo, Oo, Oo, Oo], heapL [], 900⟩) (fun k => t.length - k.1) ⟨0, Nat.zero_le _⟩ ?_ (fun k => ?_)
  ·
    (apply Le.headZ [] rfl)
    all_goals (try dsimp only [srcs])
    (case' hfr | hob => (repeat' (first | refine La ?_ ?_ | exact Lc | refine Lo ?_ | refine ⟨⟨_, rfl, ?_⟩, ?_⟩ | refine ObA.box ?_ | refine ObA.frE ?_ | refine ObA.dataE ?_ | refine ARs.agg ?_ | refine ARs.tup ?_ | refine AR.b ?_ | refine AR.iE ?_ | refine AR.e ?_ | refine AR.clo' ARs.nil ?_)))
    all_goals (first | (rfl) | exact Ld)
  obtain ⟨k, hk⟩ := k
  simp only
  by_cases hlt : k < t.length
  · obtain ⟨r, hr1⟩ : ∃ r, t[k]? = some r := ⟨t[k], by simp⟩
    have hrow := TR_get hr1
    repeat' (first | refine Qa ?_ | ((first | apply Ba | (apply Bb; (· rfl); (· rfl)) | (apply Bc; (· exact nxE)) | (apply Bd; (· rfl); (· rfl); (· exact nxE))); (· first | exact Kz rfl rfl (l01Same_ac r (hr r (List.mem_of_getElem? hr1))) (Ad (Ad An)) | exact Ok.pe); (first | refine Na ?_ | refine Nb ?_)) | ((first | apply Ca | (apply Cb; (· exact nxE))); (· first | exact Ok.e0); (first | refine Nc ?_ | refine Nd ?_)) | refine Oa ?_ | refine Ob ?_ | ((first | refine Ga (fun h => ?_) (fun h => ?_) | refine AD.gsplit rfl rfl (fun h => ?_) (fun h => ?_)) <;> try (exfalso; omega; done)) | (first | refine AL.gsplitB rfl rfl (fun h => ?_) (fun h => ?_) | refine AD.gsplitB rfl rfl (fun h => ?_) (fun h => ?_)) | refine Fa ?_ | refine Qb ?_ | refine Qc ?_ | refine Qd ?_ | refine Fb ?_ | refine Qe ?_ | refine Wa ?_ | refine Wb ?_ | (refine AW.ite rfl (fun h => ?_) (fun h => ?_) <;> try (exfalso; omega; done)) | refine AW.cond _ rfl (fun h => ?_) (fun h => ?_) | refine Qf ?_ | refine Qg ?_ | refine Qh ?_ | refine Qi ?_ | refine Xa ?_ | refine Xb ?_ | refine Xc ?_ | refine Xd ?_ | refine Fc ?_)
    refine ⟨⟨k + 1, by omega⟩, ?_, by simp only; omega⟩
    (apply Le.headZ [] rfl)
    all_goals (try dsimp only [srcs])
    (case' hfr | hob => (repeat' (first | refine La ?_ ?_ | exact Lc | refine Lo ?_ | refine ⟨⟨_, rfl, ?_⟩, ?_⟩ | refine ObA.box ?_ | refine ObA.frE ?_ | refine ObA.dataE ?_ | refine ARs.agg ?_ | refine ARs.tup ?_ | refine AR.b ?_ | refine AR.iE ?_ | refine AR.e ?_ | refine AR.clo' ARs.nil ?_)))
    all_goals (first | (rfl) | exact Ld)
  ·
    repeat' (first | refine Qa ?_ | ((first | apply Ba | (apply Bb; (· rfl); (· rfl)) | (apply Bc; (· exact nxE)) | (apply Bd; (· rfl); (· rfl); (· exact nxE))); (· first | exact Ok.pe); (first | refine Na ?_ | refine Nb ?_)) | ((first | apply Ca | (apply Cb; (· exact nxE))); (· first | exact Ok.e0); (first | refine Nc ?_ | refine Nd ?_)) | refine Oa ?_ | refine Ob ?_ | ((first | refine Ga (fun h => ?_) (fun h => ?_) | refine AD.gsplit rfl rfl (fun h => ?_) (fun h => ?_)) <;> try (exfalso; omega; done)) | (first | refine AL.gsplitB rfl rfl (fun h => ?_) (fun h => ?_) | refine AD.gsplitB rfl rfl (fun h => ?_) (fun h => ?_)) | refine Fa ?_ | refine Qb ?_ | refine Qc ?_ | refine Qd ?_ | refine Fb ?_ | refine Qe ?_ | refine Wa ?_ | refine Wb ?_ | (refine AW.ite rfl (fun h => ?_) (fun h => ?_) <;> try (exfalso; omega; done)) | refine AW.cond _ rfl (fun h => ?_) (fun h => ?_) | refine Qf ?_ | refine Qg ?_ | refine Qh ?_ | refine Qi ?_ | refine Xa ?_ | refine Xb ?_ | refine Xc ?_ | refine Xd ?_ | refine Fc ?_)
    refine Ya ?_
    (apply Le.headZ (hs := []) [] rfl)
    all_goals (try dsimp only [srcs])
    (case' hfr => (repeat' (first | refine La ?_ ?_ | exact Lc | refine Lo ?_ | refine ⟨⟨_, rfl, ?_⟩, ?_⟩ | refine ObA.box ?_ | refine ObA.frE ?_ | refine ObA.dataE ?_ | refine ARs.agg ?_ | refine ARs.tup ?_ | refine AR.b ?_ | refine AR.iE ?_ | refine AR.e ?_ | refine AR.clo' ARs.nil ?_)))
    all_goals (first | exact Ld | exact trivial | (rfl))
theorem maxN_congr {f g : Nat → Int} : ∀ {n : Nat}, (∀ k, k < n → f k = g k) → maxN f n = maxN g n
  | 0, _ => rfl
  | n + 1, h => by simp only [maxN]; rw [maxN_congr (fun k hk => h k (by omega)), h n (by omega)]
theorem StarM.px {t : List (List Int)} {n : Nat} (h : StarM t n) {m : Nat} (hm : m ≤ n + 1) : PX (entN t) n 100000000000 m (powN (entN t) n m) :=
  powN_px (by decide) h.bnd m (by have := h.nn; omega)
theorem StarM.pow {t : List (List Int)} {n : Nat} (h : StarM t n) {m : Nat} (hm : m ≤ n + 1) (hl : n ≤ m) : tabF n n (powN (entN t) n m) = tabF n n (starF (entN t) n) :=
  tabF_congr fun i j hi hj => (starF_eq ((h.px hm).star h.np hl) hj hi).symm
theorem StarM.mul {t : List (List Int)} {n : Nat} (h : StarM t n) {m : Nat} (hm : m ≤ n) : AC Try.prog 167 [TL t, TL (tabF n n (powN (entN t) n m))] H0 (own1 1 n) (hpM 1 (TR (tabF n n (mulF t (tabF n n (powN (entN t) n m)) n)))) := by
  have hn := h.nn
  refine l02Multiply_ac n t _ h.rc tabF_rc (by omega) h.n0 (fun i q j hi hq hj h1 h2 => ?_)
  rw [tabF_ent hq hj] at h2 ⊢
  have g1 := h.bnd q i h1
  have g2 := (h.px (show m ≤ n + 1 by omega)).bnd j q hj hq h2
  omega
theorem StarM.add {t : List (List Int)} {n : Nat} (h : StarM t n) {m : Nat} : AC Try.prog 166 [TL (tabF n n unitF), TL (tabF n n (mulF t (tabF n n (powN (entN t) n m)) n))] H0 (own1 1 n) (hpM 1 (TR (tabF n n (powN (entN t) n (m + 1))))) := by
  have hn := h.nn
  have hA := l02Add_ac n n (tabF n n unitF) (tabF n n (mulF t (tabF n n (powN (entN t) n m)) n)) tabF_rc tabF_rc (by omega) (by omega)
  have e : tabF n n (addF (tabF n n unitF) (tabF n n (mulF t (tabF n n (powN (entN t) n m)) n))) = tabF n n (powN (entN t) n (m + 1)) := tabF_congr fun i j hi hj => by
    unfold addF
    rw [tabF_ent hi hj, tabF_ent hi hj]
    show _ = powS (entN t) n (powN (entN t) n m) i j
    unfold powS mulF
    rw [maxN_congr (g := fun q => timesB (entN t i q) (powN (entN t) n m q j)) (fun q hq => by show timesB (entN t i q) (entN (tabF n n (powN (entN t) n m)) q j) = _; rw [tabF_ent hq hj])]
  rw [← e]
  exact hA
set_option maxHeartbeats 4000000 in
theorem l03Star_ac (t : List (List Int)) (n : Nat) (h : StarM t n) : AC Try.prog 98 [TL t] H0 (.tup [own1 1 n, Bo true]) (hpM 1 (TR (tabF n n (starF (entN t) n)))) := by
  have hn := h.nn
  have h0 := h.n0
  have htl := h.rc.l
  have hU := l02Unit_ac n (by omega)
  have hul : (tabF n n unitF).length = n := tabF_len
  have hL : (mRows 1 (TR t)).length = n := by rw [mTR_len, htl]
  refine AC.of_body 0 Try.func98 rfl (fun l h => absurd rfl h) (fun C hC => ?_)
  have hD : ∀ l, ¬ C.D0 l := fun l h => (hC l).1 h rfl
  simp only [startFr, Try.ntmps98, List.length_cons, List.length_nil, Nat.reduceAdd, Nat.reduceSub, List.replicate_succ, List.replicate_zero, List.cons_append, List.nil_append]
  repeat' (first | refine Qa ?_ | ((first | apply Ba | (apply Bb; (· rfl); (· rfl)) | (apply Bc; (· exact nxE)) | (apply Bd; (· rfl); (· rfl); (· exact nxE))); (· first | exact Ok.lenD rfl rfl hL | exact Tb rfl rfl (hU) (Sd Sn) | exact Ok.pe); (first | refine Na ?_ | refine Nb ?_)) | ((first | apply Ca | (apply Cb; (· exact nxE))); (· first | exact Tb rfl rfl (hU) (Sd Sn) | exact Ok.e0); (first | refine Nc ?_ | refine Nd ?_)) | refine Oa ?_ | refine Ob ?_ | ((first | refine Ga (fun h => ?_) (fun h => ?_) | refine AD.gsplit rfl rfl (fun h => ?_) (fun h => ?_)) <;> try (exfalso; omega; done)) | (first | refine AL.gsplitB rfl rfl (fun h => ?_) (fun h => ?_) | refine AD.gsplitB rfl rfl (fun h => ?_) (fun h => ?_)) | refine Fa ?_ | refine Qb ?_ | refine Qc ?_ | refine Qd ?_ | refine Fb ?_ | refine Qe ?_ | refine Wa ?_ | refine Wb ?_ | (refine AW.ite rfl (fun h => ?_) (fun h => ?_) <;> try (exfalso; omega; done)) | refine AW.cond _ rfl (fun h => ?_) (fun h => ?_) | refine Qf ?_ | refine Qg ?_ | refine Qh ?_ | refine Qi ?_ | refine Xa ?_ | refine Xb ?_ | refine Xc ?_ | refine Xd ?_ | refine Fc ?_)
  refine AW.loop (X := {k : Nat // k ≤ n}) (fun k => ⟨[TL t, Oo, Oo, Oo, I n, .own 1 ⟨1, []⟩ 0 n, I (k.1 : Nat), Oo, Oo, Oo, Oo, Oo, Oo, Oo, Oo, Oo, Oo, Oo, Oo, Oo, Oo, Oo, Oo, Oo, Oo, Oo, Oo, Oo, Oo, Oo, Oo, Oo, Oo], heapX [] [mi1 ⟨1, []⟩ (TR (tabF n n (powN (entN t) n k.1)))], 900⟩) (fun k => n - k.1) ⟨0, Nat.zero_le _⟩ ?_ (fun k => ?_)
  ·
    (apply Le.headG [] [{ l := ⟨1, []⟩, k := 1, R := TR (tabF n n (powN (entN t) n 0)), src := ⟨6, [0]⟩, base := ⟨6, [0]⟩ }] (fun _ => False))
    (case' hlen => rfl)
    (case' hms => rfl)
    all_goals (try dsimp only [srcs])
    (case' hfr | hob => (repeat' (first | refine La ?_ ?_ | exact Lc | refine Lo ?_ | refine ⟨⟨_, rfl, ?_⟩, ?_⟩ | refine ObA.box ?_ | refine ObA.frE ?_ | refine ObA.dataE ?_ | refine ARs.agg ?_ | refine ARs.tup ?_ | refine AR.b ?_ | refine AR.iE ?_ | refine AR.e ?_ | refine AR.clo' ARs.nil ?_)))
    (case' hok => first | exact ⟨MI.ok_same rfl (Cg), trivial⟩ | exact trivial)
    (case' hN => rfl)
    (case' hS => rfl)
    all_goals (first | exact Ld | (rfl))
  obtain ⟨m, hk⟩ := k
  simp only
  have hM := h.mul hk
  have hA := h.add (m := m)
  have hpl : (tabF n n (powN (entN t) n m)).length = n := tabF_len
  have hml : (tabF n n (mulF t (tabF n n (powN (entN t) n m)) n)).length = n := tabF_len
  by_cases hlt : m < n
  ·
    repeat' (first | refine Qa ?_ | ((first | apply Ba | (apply Bb; (· rfl); (· rfl)) | (apply Bc; (· exact nxE)) | (apply Bd; (· rfl); (· rfl); (· exact nxE))); (· first | exact Tb rfl rfl (hU) (Sd Sn) | exact Tb rfl rfl (hM) (Sd (Sm Sn)) | exact Tb rfl rfl (hA) (Sm (Sm Sn)) | exact Ok.pe); (first | refine Na ?_ | refine Nb ?_)) | ((first | apply Ca | (apply Cb; (· exact nxE))); (· first | exact Tb rfl rfl (hU) (Sd Sn) | exact Tb rfl rfl (hM) (Sd (Sm Sn)) | exact Tb rfl rfl (hA) (Sm (Sm Sn)) | exact Ok.e0); (first | refine Nc ?_ | refine Nd ?_)) | refine Oa ?_ | refine Ob ?_ | ((first | refine Ga (fun h => ?_) (fun h => ?_) | refine AD.gsplit rfl rfl (fun h => ?_) (fun h => ?_)) <;> try (exfalso; omega; done)) | (first | refine AL.gsplitB rfl rfl (fun h => ?_) (fun h => ?_) | refine AD.gsplitB rfl rfl (fun h => ?_) (fun h => ?_)) | refine Fa ?_ | refine Qb ?_ | refine Qc ?_ | refine Qd ?_ | refine Fb ?_ | refine Qe ?_ | refine Wa ?_ | refine Wb ?_ | (refine AW.ite rfl (fun h => ?_) (fun h => ?_) <;> try (exfalso; omega; done)) | refine AW.cond _ rfl (fun h => ?_) (fun h => ?_) | refine Qf ?_ | refine Qg ?_ | refine Qh ?_ | refine Qi ?_ | refine Xa ?_ | refine Xb ?_ | refine Xc ?_ | refine Xd ?_ | refine Fc ?_)
    refine ⟨⟨m + 1, by omega⟩, ?_, by simp only; omega⟩
    (apply Le.headG [] [{ l := ⟨1, []⟩, k := 1, R := TR (tabF n n (powN (entN t) n (m + 1))), src := ⟨908, [0]⟩, base := ⟨908, [0]⟩ }] (fun _ => False))
    (case' hlen => rfl)
    (case' hms => rfl)
    all_goals (try dsimp only [srcs])
    (case' hfr | hob => (repeat' (first | refine La ?_ ?_ | exact Lc | refine Lo ?_ | refine ⟨⟨_, rfl, ?_⟩, ?_⟩ | refine ObA.box ?_ | refine ObA.frE ?_ | refine ObA.dataE ?_ | refine ARs.agg ?_ | refine ARs.tup ?_ | refine AR.b ?_ | refine AR.iE ?_ | refine AR.e ?_ | refine AR.clo' ARs.nil ?_)))
    (case' hok => first | exact ⟨MI.ok_same rfl (Cg), trivial⟩ | exact trivial)
    (case' hN => rfl)
    (case' hS => rfl)
    all_goals (first | exact Ld | (rfl))
  ·
    obtain rfl : n = m := by omega
    have hS := l02Same_ac (tabF n n (starF (entN t) n)) (by rw [tabF_len]; omega) (fun r hr => by rw [tabF_rc.r r hr]; omega)
    rw [h.pow (Nat.le_refl _) (by omega)] at hA
    rw [h.pow (by omega) (Nat.le_refl _)] at hM hA hpl hml ⊢
    repeat' (first | refine Qa ?_ | ((first | apply Ba | (apply Bb; (· rfl); (· rfl)) | (apply Bc; (· exact nxE)) | (apply Bd; (· rfl); (· rfl); (· exact nxE))); (· first | exact Ez rfl rfl (hS) (Sm (Sm Sn)) | exact Tb rfl rfl (hU) (Sd Sn) | exact Tb rfl rfl (hM) (Sd (Sm Sn)) | exact Tb rfl rfl (hA) (Sm (Sm Sn)) | exact Ok.pe); (first | refine Na ?_ | refine Nb ?_)) | ((first | apply Ca | (apply Cb; (· exact nxE))); (· first | exact Tb rfl rfl (hU) (Sd Sn) | exact Tb rfl rfl (hM) (Sd (Sm Sn)) | exact Tb rfl rfl (hA) (Sm (Sm Sn)) | exact Ok.e0); (first | refine Nc ?_ | refine Nd ?_)) | refine Oa ?_ | refine Ob ?_ | ((first | refine Ga (fun h => ?_) (fun h => ?_) | refine AD.gsplit rfl rfl (fun h => ?_) (fun h => ?_)) <;> try (exfalso; omega; done)) | (first | refine AL.gsplitB rfl rfl (fun h => ?_) (fun h => ?_) | refine AD.gsplitB rfl rfl (fun h => ?_) (fun h => ?_)) | refine Fa ?_ | refine Qb ?_ | refine Qc ?_ | refine Qd ?_ | refine Fb ?_ | refine Qe ?_ | refine Wa ?_ | refine Wb ?_ | (refine AW.ite rfl (fun h => ?_) (fun h => ?_) <;> try (exfalso; omega; done)) | refine AW.cond _ rfl (fun h => ?_) (fun h => ?_) | refine Qf ?_ | refine Qg ?_ | refine Qh ?_ | refine Qi ?_ | refine Xa ?_ | refine Xb ?_ | refine Xc ?_ | refine Xd ?_ | refine Fc ?_)
    refine Yb ?_
    (apply Le.headG [] [{ l := ⟨0, []⟩, k := 1, R := TR (tabF n n (starF (entN t) n)), src := ⟨1, []⟩, base := ⟨1, []⟩ }] (fun _ => False))
    (case' hlen => rfl)
    (case' hms => rfl)
    all_goals (try dsimp only [srcs])
    (case' hfr | hob => (repeat' (first | refine La ?_ ?_ | exact Lc | refine Lo ?_ | refine ⟨⟨_, rfl, ?_⟩, ?_⟩ | refine ObA.box ?_ | refine ObA.frE ?_ | refine ObA.dataE ?_ | refine ARs.agg ?_ | refine ARs.tup ?_ | refine AR.b ?_ | refine AR.iE ?_ | refine AR.e ?_ | refine AR.clo' ARs.nil ?_)))
    (case' hok => first | exact ⟨MI.ok_same rfl (Cg), trivial⟩ | exact trivial)
    (case' hN => rfl)
    (case' hS => rfl)
    all_goals (first | exact Ld | (rfl))
end Go.Proofs.Ytcjidnpkeliieaa
end

section
namespace Go.Proofs.Ytcjidnpkeliieaa
set_option linter.unusedSimpArgs false
set_option linter.unusedVariables false
open Go Go.RowKit
attribute [local irreducible] AL AD AW OpOk Le AC thenQ blockQ EndQ

theorem entN_out {t : List (List Int)} {m n u v : Nat} (h : Rc t m n) (hv : v < m) (hu : ¬ u < n) : entN t v u = 0 := by
  have h1 : v < t.length := by rw [h.l]; exact hv
  have h2 : (t[v]).length = n := h.r t[v] (List.getElem_mem h1)
  have h3 : (t[v])[u]? = none := List.getElem?_eq_none (by omega)
  have h4 : (t[v]?).getD [] = t[v] := by rw [List.getElem?_eq_getElem h1]; rfl
  unfold entN
  rw [h4, h3]
  rfl
theorem entN_out2 {t : List (List Int)} {m n u v : Nat} (h : Rc t m n) (hv : ¬ v < m) : entN t v u = 0 := by
  have h3 : t[v]? = none := List.getElem?_eq_none (by have := h.l; omega)
  unfold entN
  rw [h3]
  rfl
theorem starM_wm {n : Nat} {xs : List Pl} {r : Int × Int} (hn : n ≤ 10) (h0 : 0 < n) (hv : ∀ p ∈ xs, okPl n p) (hr : MaxR xs r) (h1 : 0 ≤ r.1 ∧ r.1 ≤ 100000) (h2 : 0 ≤ r.2 ∧ r.2 ≤ 50) : StarM (wmT n xs r) n := by
  have hb := wm_bnd hv h1 h2
  have hw : WmOk n xs r (wmT n xs r) := wm_ok (M := 500000) (by decide) xs (fun p hp => ⟨hv p hp, (hb p hp).1⟩)
  have hrc : Rc (wmT n xs r) n n := ⟨hw.sq.l, hw.sq.r⟩
  refine ⟨hrc, h0, hn, fun u v hne => ?_, wm_noPos hw hr⟩
  by_cases hvn : v < n
  · by_cases hun : u < n
    · rcases hw.some u v hun hvn with e | ⟨p, hp, e1, e2, e3⟩
      · exact absurd e hne
      · have := hb p hp
        rw [← e3]; omega
    · rw [entN_out hrc hvn hun]; decide
  · rw [entN_out2 hrc hvn]; decide
end Go.Proofs.Ytcjidnpkeliieaa
end

section
namespace Go.Proofs.Ytcjidnpkeliieaa
set_option linter.unusedSimpArgs false
set_option linter.unusedVariables false
open Go Go.RowKit
attribute [local irreducible] AL AD AW OpOk Le AC thenQ blockQ EndQ

theorem rowF_succ {g : Nat → Int} {k : Nat} : rowF (k + 1) g = rowF k g ++ [g k] := by simp [rowF, List.range_succ]
theorem StarM.starB {t : List (List Int)} {n : Nat} (h : StarM t n) {i j : Nat} (hi : i < n) (hj : j < n) : starF (entN t) n i j = BOT ∨ (-102400000000000 ≤ starF (entN t) n i j ∧ starF (entN t) n i j ≤ 1000000000000) := by
  rw [h.star hi hj]; exact h.cells (Nat.le_refl n) hi hj
end Go.Proofs.Ytcjidnpkeliieaa
end

section
namespace Go.Proofs.Ytcjidnpkeliieaa
set_option linter.unusedSimpArgs false
set_option linter.unusedVariables false
open Go Go.RowKit
attribute [local irreducible] AL AD AW OpOk Le AC thenQ blockQ EndQ

end Go.Proofs.Ytcjidnpkeliieaa
end

section
namespace Go.Proofs.Ytcjidnpkeliieaa
set_option linter.unusedSimpArgs false
set_option linter.unusedVariables false
open Go Go.RowKit
attribute [local irreducible] AL AD AW OpOk Le AC thenQ blockQ EndQ

theorem bc_star {ev : Int} {xs : List Pl} (hC : bcC ev xs = 0) : ∃ n : Nat, ev = n ∧ 1 ≤ n ∧ n ≤ 10 ∧ xs.length ≤ 30 ∧ (∀ p ∈ xs, okPl n p) ∧ Live xs n ∧ hasC xs ∧ ctR ev xs = maxR xs ∧ (0 ≤ (maxR xs).1 ∧ (maxR xs).1 ≤ 100000) ∧ (0 < (maxR xs).2 ∧ (maxR xs).2 ≤ 50) ∧ StarM (wmT n xs (maxR xs)) n := by
  have h0 : liveI ev xs = 0 := by
    unfold bcC at hC
    by_cases h : liveI ev xs = 0
    · exact h
    · rw [if_neg h] at hC; exact hC
  have hc : hasC xs := by
    unfold bcC at hC
    rw [if_pos h0] at hC
    exact Classical.byContradiction fun h => by rw [if_neg h] at hC; exact absurd hC (by decide)
  obtain ⟨n, rfl, h1, h2, h3, h4, h5⟩ := live_ok h0
  obtain ⟨c, e1, e2, e3⟩ := h5.best h2 hc
  obtain ⟨g1, g2, g3⟩ := h5.circ e2
  obtain ⟨q1, q2, _⟩ := h5.red h2 g1 e2.wk.lt g3.1
  rw [e3] at q1 q2
  exact ⟨n, rfl, h1, h2, h3, h4, h5, hc, by unfold ctR; rw [if_pos hC], q1, q2, starM_wm h2 h1 h4 (h5.isMax h2 hc) q1 ⟨by omega, q2.2⟩⟩
end Go.Proofs.Ytcjidnpkeliieaa
end

section
namespace Go.Proofs.Ytcjidnpkeliieaa
set_option linter.unusedSimpArgs false
set_option linter.unusedVariables false
open Go Go.RowKit
attribute [local irreducible] AL AD AW OpOk Le AC thenQ blockQ EndQ

end Go.Proofs.Ytcjidnpkeliieaa
end

section
namespace Go.Proofs.Ytcjidnpkeliieaa
set_option linter.unusedSimpArgs false
set_option linter.unusedVariables false
open Go Go.RowKit
attribute [local irreducible] AL AD AW OpOk Le AC thenQ blockQ EndQ

theorem bc_no {ev : Int} {xs : List Pl} (h : isEG ev xs = false) : bcC ev xs = 1 ∧ ctR ev xs = (0, 0) := by
  have h1 : liveI ev xs = 1 := by unfold liveI; rw [h]; rfl
  have h2 : bcC ev xs = 1 := by unfold bcC; rw [h1]; rfl
  exact ⟨h2, by unfold ctR; rw [h2]; rfl⟩
end Go.Proofs.Ytcjidnpkeliieaa
end

section
namespace Go.Proofs.Ytcjidnpkeliieaa
set_option linter.unusedSimpArgs false
set_option linter.unusedVariables false
open Go Go.RowKit
attribute [local irreducible] AL AD AW OpOk Le AC thenQ blockQ EndQ

end Go.Proofs.Ytcjidnpkeliieaa
end

section
namespace Go.Proofs.Ytcjidnpkeliieaa
set_option linter.unusedSimpArgs false
set_option linter.unusedVariables false
open Go Go.RowKit

theorem gap_nn {n : Nat} {xs : List Pl} {r : Int × Int} {t : List (List Int)} (hw : WmOk n xs r t) (hnp : NoPos (entN t) n) {s : Nat → Nat → Int} (hs : StarOk (entN t) n s) {f u : Nat} (hf : f < n) (hu : u < n) {p : Pl} (hp : p ∈ xs) (h1 : p.f = f) (h2 : p.t = u) (hne : s f u ≠ BOT) : pw r.1 r.2 p + s f u ≤ 0 := by
  have ha := hw.all p hp
  rw [h1, h2, Int.toNat_natCast, Int.toNat_natCast] at ha
  have hwm : WM (entN t) f [] u := ha.1
  have hwv : wM (entN t) f [] u = entN t u f := rfl
  rcases hs.some u f hu hf with e | ⟨e1, e2⟩ | ⟨c, c1, c2, c3⟩
  · exact absurd e hne
  · subst e1
    have := hnp u [] hu (by simp) hwm
    omega
  · have h3 : WM (entN t) u (c ++ f :: []) u := WM.app.2 ⟨c1, hwm⟩
    have h4 := hnp u _ hu (fun x hx => by
      rcases List.mem_append.1 hx with h | h
      · exact c2 x h
      · simp at h; omega) h3
    rw [wM_app] at h4
    omega
end Go.Proofs.Ytcjidnpkeliieaa
end

section
namespace Go.Proofs.Ytcjidnpkeliieaa
set_option linter.unusedSimpArgs false
set_option linter.unusedVariables false
open Go Go.RowKit
attribute [local irreducible] AL AD AW OpOk Le AC thenQ blockQ EndQ

theorem eqInt64S_ac (xs : List Int) (hn : xs.length ≤ 100000000) : AC Try.prog 25 [IL xs, IL xs] H0 (Bo true) H0 := by
  refine AC.of_body 0 Try.func25 rfl (fun l h => absurd rfl h) (fun C hC => ?_)
  have hD : ∀ l, ¬ C.D0 l := fun l h => (hC l).1 h rfl
  simp only [startFr, Try.ntmps25, List.length_cons, List.length_nil, Nat.reduceAdd, Nat.reduceSub, List.replicate_succ, List.replicate_zero, List.cons_append, List.nil_append]
  repeat' (first | refine Qa ?_ | ((first | apply Ba | (apply Bb; (· rfl); (· rfl)) | (apply Bc; (· exact nxE)) | (apply Bd; (· rfl); (· rfl); (· exact nxE))); (· first | exact Ok.pe); (first | refine Na ?_ | refine Nb ?_)) | ((first | apply Ca | (apply Cb; (· exact nxE))); (· first | exact Ok.e0); (first | refine Nc ?_ | refine Nd ?_)) | refine Oa ?_ | refine Ob ?_ | ((first | refine Ga (fun h => ?_) (fun h => ?_) | refine AD.gsplit rfl rfl (fun h => ?_) (fun h => ?_)) <;> try (exfalso; omega; done)) | (first | refine AL.gsplitB rfl rfl (fun h => ?_) (fun h => ?_) | refine AD.gsplitB rfl rfl (fun h => ?_) (fun h => ?_)) | refine Fa ?_ | refine Qb ?_ | refine Qc ?_ | refine Qd ?_ | refine Fb ?_ | refine Qe ?_ | refine Wa ?_ | refine Wb ?_ | (refine AW.ite rfl (fun h => ?_) (fun h => ?_) <;> try (exfalso; omega; done)) | refine AW.cond _ rfl (fun h => ?_) (fun h => ?_) | refine Qf ?_ | refine Qg ?_ | refine Qh ?_ | refine Qi ?_ | refine Xa ?_ | refine Xb ?_ | refine Xc ?_ | refine Xd ?_ | refine Fc ?_)
  refine AW.loop (X := {k : Nat // k ≤ xs.length}) (fun k => ⟨[IL xs, IL xs, Oo, Oo, Oo, I (k.1 : Nat), Oo, Oo, Oo, Oo, Oo, Oo, Oo, Oo, Oo, Oo, Oo, Oo, Oo, Oo, Oo, Oo, Oo, Oo, Oo, Oo], heapL [], 900⟩) (fun k => xs.length - k.1) ⟨0, Nat.zero_le _⟩ ?_ (fun k => ?_)
  ·
    (apply Le.headZ [] rfl)
    all_goals (try dsimp only [srcs])
    (case' hfr | hob => (repeat' (first | refine La ?_ ?_ | exact Lc | refine Lo ?_ | refine ⟨⟨_, rfl, ?_⟩, ?_⟩ | refine ObA.box ?_ | refine ObA.frE ?_ | refine ObA.dataE ?_ | refine ARs.agg ?_ | refine ARs.tup ?_ | refine AR.b ?_ | refine AR.iE ?_ | refine AR.e ?_ | refine AR.clo' ARs.nil ?_)))
    all_goals (first | (rfl) | exact Ld)
  obtain ⟨k, hk⟩ := k
  simp only
  by_cases hlt : k < xs.length
  · obtain ⟨x, hx⟩ : ∃ x, xs[k]? = some x := ⟨xs[k], by simp⟩
    have hrow := IR_get hx
    repeat' (first | refine Qa ?_ | ((first | apply Ba | (apply Bb; (· rfl); (· rfl)) | (apply Bc; (· exact nxE)) | (apply Bd; (· rfl); (· rfl); (· exact nxE))); (· first | exact Ok.pe); (first | refine Na ?_ | refine Nb ?_)) | ((first | apply Ca | (apply Cb; (· exact nxE))); (· first | exact Ok.e0); (first | refine Nc ?_ | refine Nd ?_)) | refine Oa ?_ | refine Ob ?_ | ((first | refine Ga (fun h => ?_) (fun h => ?_) | refine AD.gsplit rfl rfl (fun h => ?_) (fun h => ?_)) <;> try (exfalso; omega; done)) | (first | refine AL.gsplitB rfl rfl (fun h => ?_) (fun h => ?_) | refine AD.gsplitB rfl rfl (fun h => ?_) (fun h => ?_)) | refine Fa ?_ | refine Qb ?_ | refine Qc ?_ | refine Qd ?_ | refine Fb ?_ | refine Qe ?_ | refine Wa ?_ | refine Wb ?_ | (refine AW.ite rfl (fun h => ?_) (fun h => ?_) <;> try (exfalso; omega; done)) | refine AW.cond _ rfl (fun h => ?_) (fun h => ?_) | refine Qf ?_ | refine Qg ?_ | refine Qh ?_ | refine Qi ?_ | refine Xa ?_ | refine Xb ?_ | refine Xc ?_ | refine Xd ?_ | refine Fc ?_)
    refine ⟨⟨k + 1, by omega⟩, ?_, by simp only; omega⟩
    (apply Le.headZ [] rfl)
    all_goals (try dsimp only [srcs])
    (case' hfr | hob => (repeat' (first | refine La ?_ ?_ | exact Lc | refine Lo ?_ | refine ⟨⟨_, rfl, ?_⟩, ?_⟩ | refine ObA.box ?_ | refine ObA.frE ?_ | refine ObA.dataE ?_ | refine ARs.agg ?_ | refine ARs.tup ?_ | refine AR.b ?_ | refine AR.iE ?_ | refine AR.e ?_ | refine AR.clo' ARs.nil ?_)))
    all_goals (first | (rfl) | exact Ld)
  ·
    repeat' (first | refine Qa ?_ | ((first | apply Ba | (apply Bb; (· rfl); (· rfl)) | (apply Bc; (· exact nxE)) | (apply Bd; (· rfl); (· rfl); (· exact nxE))); (· first | exact Ok.pe); (first | refine Na ?_ | refine Nb ?_)) | ((first | apply Ca | (apply Cb; (· exact nxE))); (· first | exact Ok.e0); (first | refine Nc ?_ | refine Nd ?_)) | refine Oa ?_ | refine Ob ?_ | ((first | refine Ga (fun h => ?_) (fun h => ?_) | refine AD.gsplit rfl rfl (fun h => ?_) (fun h => ?_)) <;> try (exfalso; omega; done)) | (first | refine AL.gsplitB rfl rfl (fun h => ?_) (fun h => ?_) | refine AD.gsplitB rfl rfl (fun h => ?_) (fun h => ?_)) | refine Fa ?_ | refine Qb ?_ | refine Qc ?_ | refine Qd ?_ | refine Fb ?_ | refine Qe ?_ | refine Wa ?_ | refine Wb ?_ | (refine AW.ite rfl (fun h => ?_) (fun h => ?_) <;> try (exfalso; omega; done)) | refine AW.cond _ rfl (fun h => ?_) (fun h => ?_) | refine Qf ?_ | refine Qg ?_ | refine Qh ?_ | refine Qi ?_ | refine Xa ?_ | refine Xb ?_ | refine Xc ?_ | refine Xd ?_ | refine Fc ?_)
    refine Ya ?_
    (apply Le.headZ (hs := []) [] rfl)
    all_goals (try dsimp only [srcs])
    (case' hfr => (repeat' (first | refine La ?_ ?_ | exact Lc | refine Lo ?_ | refine ⟨⟨_, rfl, ?_⟩, ?_⟩ | refine ObA.box ?_ | refine ObA.frE ?_ | refine ObA.dataE ?_ | refine ARs.agg ?_ | refine ARs.tup ?_ | refine AR.b ?_ | refine AR.iE ?_ | refine AR.e ?_ | refine AR.clo' ARs.nil ?_)))
    all_goals (first | exact Ld | exact trivial | (rfl))
end Go.Proofs.Ytcjidnpkeliieaa
end

section
namespace Go.Proofs.Ytcjidnpkeliieaa
set_option linter.unusedSimpArgs false
set_option linter.unusedVariables false
open Go Go.RowKit
attribute [local irreducible] AL AD AW OpOk Le AC thenQ blockQ EndQ

def mkF (k : Int) : Nat → Int := fun j => k + (j : Int)
def mixR (f g : Nat → Int) (K : Nat) : Nat → Int := fun j => if j < K then f j else g j
theorem mixR_0 {f g : Nat → Int} {n : Nat} : rowF n (mixR f g 0) = rowF n g := rowF_congr fun j _ => by simp [mixR]
theorem mixR_all {f g : Nat → Int} {n : Nat} : rowF n (mixR f g n) = rowF n f := rowF_congr fun j hj => by simp [mixR, hj]
theorem mixR_set {f g : Nat → Int} {n K : Nat} : (rowF n (mixR f g K)).set K (f K) = rowF n (mixR f g (K + 1)) := by
  rw [rowF_set]
  refine rowF_congr fun b _ => ?_
  unfold mixR
  by_cases e : b = K
  · subst e; simp
  · rw [if_neg e]
    by_cases h : b < K
    · rw [if_pos h, if_pos (by omega)]
    · rw [if_neg h, if_neg (by omega)]
theorem IR_setR {f g : Nat → Int} {n K : Nat} : (IR (rowF n (mixR f g K))).set K [DI (f K)] = IR (rowF n (mixR f g (K + 1))) := by rw [IR_set, mixR_set]
set_option maxHeartbeats 1000000 in
theorem markInt64S_ac (g : Nat → Int) (n : Nat) (k0 : Int) (hn : n ≤ 10000000) (hk : 0 ≤ k0 ∧ k0 ≤ 10000000000000000) : AC Try.prog 27 [own1 1 n, I k0] (hp1 (IO (rowF n g))) (I (k0 + n)) (hp1 (IO (rowF n (mkF k0)))) := by
  refine AC.of_body 1 Try.func27 rfl (fun l h => by simp [upd] at h; simp [h]) (fun C hC => ?_)
  simp only [startFr, Try.ntmps27, List.length_cons, List.length_nil, Nat.reduceAdd, Nat.reduceSub, List.replicate_succ, List.replicate_zero, List.cons_append, List.nil_append]
  have hD : ∀ l, C.D0 l → l = ⟨0, []⟩ := fun l h => by have := (hC l).1 h; simp [upd] at this; exact this
  repeat' (first | refine Qa ?_ | ((first | apply Ba | (apply Bb; (· rfl); (· rfl)) | (apply Bc; (· exact nxE)) | (apply Bd; (· rfl); (· rfl); (· exact nxE))); (· first | exact Ok.pe); (first | refine Na ?_ | refine Nb ?_)) | ((first | apply Ca | (apply Cb; (· exact nxE))); (· first | exact Ok.e0); (first | refine Nc ?_ | refine Nd ?_)) | refine Oa ?_ | refine Ob ?_ | ((first | refine Ga (fun h => ?_) (fun h => ?_) | refine AD.gsplit rfl rfl (fun h => ?_) (fun h => ?_)) <;> try (exfalso; omega; done)) | (first | refine AL.gsplitB rfl rfl (fun h => ?_) (fun h => ?_) | refine AD.gsplitB rfl rfl (fun h => ?_) (fun h => ?_)) | refine Fa ?_ | refine Qb ?_ | refine Qc ?_ | refine Qd ?_ | refine Fb ?_ | refine Qe ?_ | refine Wa ?_ | refine Wb ?_ | (refine AW.ite rfl (fun h => ?_) (fun h => ?_) <;> try (exfalso; omega; done)) | refine AW.cond _ rfl (fun h => ?_) (fun h => ?_) | refine Qf ?_ | refine Qg ?_ | refine Qh ?_ | refine Qi ?_ | refine Xa ?_ | refine Xb ?_ | refine Xc ?_ | refine Xd ?_ | refine Fc ?_)
  refine AW.loop (X := {k : Nat // k ≤ n}) (fun k => ⟨[own1 1 n, I (k0 + (k.1 : Nat)), Oo, Oo, Oo, I (k.1 : Nat), Oo, Oo, Oo, Oo, Oo, Oo, Oo, Oo, Oo, Oo, Oo, Oo, Oo], heapL [(⟨0, []⟩, ⟨0, []⟩, IO (rowF n (mixR (mkF k0) g k.1)))], 900⟩) (fun k => n - k.1) ⟨0, Nat.zero_le _⟩ ?_ (fun k => ?_)
  ·
    (apply Le.headZ [_] rfl)
    all_goals (try dsimp only [srcs])
    (case' hfr | hob => (repeat' (first | refine La ?_ ?_ | exact Lc | refine Lo ?_ | refine ⟨⟨_, rfl, ?_⟩, ?_⟩ | refine ObA.box ?_ | refine ObA.frE ?_ | refine ObA.dataE ?_ | refine ARs.agg ?_ | refine ARs.tup ?_ | refine AR.b ?_ | refine AR.iE ?_ | refine AR.e ?_ | refine AR.clo' ARs.nil ?_)))
    all_goals (first | (first | (rw [mixR_0]; done) | (simp; done)) | exact Ld)
  obtain ⟨k, hkk⟩ := k
  simp only
  by_cases hlt : k < n
  ·
    repeat' (first | refine Qa ?_ | ((first | apply Ba | (apply Bb; (· rfl); (· rfl)) | (apply Bc; (· exact nxE)) | (apply Bd; (· rfl); (· rfl); (· exact nxE))); (· first | exact Ok.st1 (c := DI (mkF k0 k)) rfl rfl rfl (by simp [rowF_len]; omega) (by rw [IRF_get hlt]; rfl) rfl rfl IR_setR | exact Ok.pe); (first | refine Na ?_ | refine Nb ?_)) | ((first | apply Ca | (apply Cb; (· exact nxE))); (· first | exact Ok.st1 (c := DI (mkF k0 k)) rfl rfl rfl (by simp [rowF_len]; omega) (by rw [IRF_get hlt]; rfl) rfl rfl IR_setR | exact Ok.e0); (first | refine Nc ?_ | refine Nd ?_)) | refine Oa ?_ | refine Ob ?_ | ((first | refine Ga (fun h => ?_) (fun h => ?_) | refine AD.gsplit rfl rfl (fun h => ?_) (fun h => ?_)) <;> try (exfalso; omega; done)) | (first | refine AL.gsplitB rfl rfl (fun h => ?_) (fun h => ?_) | refine AD.gsplitB rfl rfl (fun h => ?_) (fun h => ?_)) | refine Fa ?_ | refine Qb ?_ | refine Qc ?_ | refine Qd ?_ | refine Fb ?_ | refine Qe ?_ | refine Wa ?_ | refine Wb ?_ | (refine AW.ite rfl (fun h => ?_) (fun h => ?_) <;> try (exfalso; omega; done)) | refine AW.cond _ rfl (fun h => ?_) (fun h => ?_) | refine Qf ?_ | refine Qg ?_ | refine Qh ?_ | refine Qi ?_ | refine Xa ?_ | refine Xb ?_ | refine Xc ?_ | refine Xd ?_ | refine Fc ?_)
    refine ⟨⟨k + 1, by omega⟩, ?_, by simp only; omega⟩
    (apply Le.headZ [_] rfl)
    all_goals (try dsimp only [srcs])
    (case' hfr | hob => (repeat' (first | refine La ?_ ?_ | exact Lc | refine Lo ?_ | refine ⟨⟨_, rfl, ?_⟩, ?_⟩ | refine ObA.box ?_ | refine ObA.frE ?_ | refine ObA.dataE ?_ | refine ARs.agg ?_ | refine ARs.tup ?_ | refine AR.b ?_ | refine AR.iE ?_ | refine AR.e ?_ | refine AR.clo' ARs.nil ?_)))
    all_goals (first | (rfl) | exact Ld)
  ·
    have hkn : k = n := by omega
    subst hkn
    rw [mixR_all]
    repeat' (first | refine Qa ?_ | ((first | apply Ba | (apply Bb; (· rfl); (· rfl)) | (apply Bc; (· exact nxE)) | (apply Bd; (· rfl); (· rfl); (· exact nxE))); (· first | exact Ok.pe); (first | refine Na ?_ | refine Nb ?_)) | ((first | apply Ca | (apply Cb; (· exact nxE))); (· first | exact Ok.e0); (first | refine Nc ?_ | refine Nd ?_)) | refine Oa ?_ | refine Ob ?_ | ((first | refine Ga (fun h => ?_) (fun h => ?_) | refine AD.gsplit rfl rfl (fun h => ?_) (fun h => ?_)) <;> try (exfalso; omega; done)) | (first | refine AL.gsplitB rfl rfl (fun h => ?_) (fun h => ?_) | refine AD.gsplitB rfl rfl (fun h => ?_) (fun h => ?_)) | refine Fa ?_ | refine Qb ?_ | refine Qc ?_ | refine Qd ?_ | refine Fb ?_ | refine Qe ?_ | refine Wa ?_ | refine Wb ?_ | (refine AW.ite rfl (fun h => ?_) (fun h => ?_) <;> try (exfalso; omega; done)) | refine AW.cond _ rfl (fun h => ?_) (fun h => ?_) | refine Qf ?_ | refine Qg ?_ | refine Qh ?_ | refine Qi ?_ | refine Xa ?_ | refine Xb ?_ | refine Xc ?_ | refine Xd ?_ | refine Fc ?_)
    (refine end1p (by first | exact .inl rfl | exact .inr rfl) rfl (by first | exact rT rfl | exact rCA rfl rfl rfl rfl (by simp) | exact rCC rfl rfl rfl rfl rfl) ?_ (Le.head ([(⟨0, []⟩, ⟨0, []⟩, IO (rowF k (mkF k0)))]) (by first | exact fun l h => absurd h (hD l) | (intro l h; rcases hD l h with rfl; simp [tauL]) | (intro l h; rcases hD l h with rfl | rfl <;> simp [tauL]; done) | (intro l h; rcases hD l h with rfl | rfl | rfl <;> simp [tauL])) ?_ ?_ (by simp) (by simp) (by simp [AllP]) (n' := 1000)); (· rfl)) <;> (repeat' (first | exact trivial | exact ARs.nil | refine ARs.cons ?_ ?_ | exact AR.dead _ | exact AR.dd _ | exact AR.i (by (try dsimp only); omega) | exact AR.ptr _ _ _ _ (by simp [heapL, upd]) | exact AR.own _ _ _ _ (by simp [heapL, upd]) | refine AR.ownE _ _ _ ?_ (by simp [heapL, upd]) | refine ⟨⟨_, rfl, ?_⟩, ?_⟩ | exact ObA.data | refine ObA.box ?_ | refine ObA.frE ?_ | refine ObA.dataE ?_ | refine ARs.agg ?_ | refine ARs.tup ?_ | exact AR.clo' ARs.nil ARs.nil | exact AR.clo' ARs.nil (hca _ _)))
theorem mkRow_get {n j : Nat} {k0 : Int} (h : j < n) : (IR (rowF n (mkF k0)))[((j : Nat) : Int).toNat]? = some [DI (k0 + j)] := IRF_get h
theorem heldInt64S_ac (n : Nat) (k0 : Int) (hn : n ≤ 10000000) (hk : 0 ≤ k0 ∧ k0 ≤ 10000000000000000) : AC Try.prog 28 [IL (rowF n (mkF k0)), I k0] H0 (I (k0 + n)) H0 := by
  have hl : (IR (rowF n (mkF k0))).length = n := by rw [IR_len, rowF_len]
  have hl2 : (rowF n (mkF k0)).length = n := rowF_len
  refine AC.of_body 0 Try.func28 rfl (fun l h => absurd rfl h) (fun C hC => ?_)
  have hD : ∀ l, ¬ C.D0 l := fun l h => (hC l).1 h rfl
  simp only [startFr, Try.ntmps28, List.length_cons, List.length_nil, Nat.reduceAdd, Nat.reduceSub, List.replicate_succ, List.replicate_zero, List.cons_append, List.nil_append]
  repeat' (first | refine Qa ?_ | ((first | apply Ba | (apply Bb; (· rfl); (· rfl)) | (apply Bc; (· exact nxE)) | (apply Bd; (· rfl); (· rfl); (· exact nxE))); (· first | exact Ok.pe); (first | refine Na ?_ | refine Nb ?_)) | ((first | apply Ca | (apply Cb; (· exact nxE))); (· first | exact Ok.e0); (first | refine Nc ?_ | refine Nd ?_)) | refine Oa ?_ | refine Ob ?_ | ((first | refine Ga (fun h => ?_) (fun h => ?_) | refine AD.gsplit rfl rfl (fun h => ?_) (fun h => ?_)) <;> try (exfalso; omega; done)) | (first | refine AL.gsplitB rfl rfl (fun h => ?_) (fun h => ?_) | refine AD.gsplitB rfl rfl (fun h => ?_) (fun h => ?_)) | refine Fa ?_ | refine Qb ?_ | refine Qc ?_ | refine Qd ?_ | refine Fb ?_ | refine Qe ?_ | refine Wa ?_ | refine Wb ?_ | (refine AW.ite rfl (fun h => ?_) (fun h => ?_) <;> try (exfalso; omega; done)) | refine AW.cond _ rfl (fun h => ?_) (fun h => ?_) | refine Qf ?_ | refine Qg ?_ | refine Qh ?_ | refine Qi ?_ | refine Xa ?_ | refine Xb ?_ | refine Xc ?_ | refine Xd ?_ | refine Fc ?_)
  refine AW.loop (X := {k : Nat // k ≤ n}) (fun k => ⟨[IL (rowF n (mkF k0)), I (k0 + (k.1 : Nat)), Oo, Oo, Oo, I (k.1 : Nat), Oo, Oo, Oo, Oo, Oo, Oo, Oo, Oo, Oo, Oo, Oo, Oo, Oo, Oo, Oo], heapL [], 900⟩) (fun k => n - k.1) ⟨0, Nat.zero_le _⟩ ?_ (fun k => ?_)
  ·
    (apply Le.headZ [] rfl)
    all_goals (try dsimp only [srcs])
    (case' hfr | hob => (repeat' (first | refine La ?_ ?_ | exact Lc | refine Lo ?_ | refine ⟨⟨_, rfl, ?_⟩, ?_⟩ | refine ObA.box ?_ | refine ObA.frE ?_ | refine ObA.dataE ?_ | refine ARs.agg ?_ | refine ARs.tup ?_ | refine AR.b ?_ | refine AR.iE ?_ | refine AR.e ?_ | refine AR.clo' ARs.nil ?_)))
    all_goals (first | ((simp; done)) | exact Ld)
  obtain ⟨k, hkk⟩ := k
  simp only
  by_cases hlt : k < n
  ·
    have hrow := mkRow_get (k0 := k0) hlt
    repeat' (first | refine Qa ?_ | ((first | apply Ba | (apply Bb; (· rfl); (· rfl)) | (apply Bc; (· exact nxE)) | (apply Bd; (· rfl); (· rfl); (· exact nxE))); (· first | exact Ok.pe); (first | refine Na ?_ | refine Nb ?_)) | ((first | apply Ca | (apply Cb; (· exact nxE))); (· first | exact Ok.e0); (first | refine Nc ?_ | refine Nd ?_)) | refine Oa ?_ | refine Ob ?_ | ((first | refine Ga (fun h => ?_) (fun h => ?_) | refine AD.gsplit rfl rfl (fun h => ?_) (fun h => ?_)) <;> try (exfalso; omega; done)) | (first | refine AL.gsplitB rfl rfl (fun h => ?_) (fun h => ?_) | refine AD.gsplitB rfl rfl (fun h => ?_) (fun h => ?_)) | refine Fa ?_ | refine Qb ?_ | refine Qc ?_ | refine Qd ?_ | refine Fb ?_ | refine Qe ?_ | refine Wa ?_ | refine Wb ?_ | (refine AW.ite rfl (fun h => ?_) (fun h => ?_) <;> try (exfalso; omega; done)) | refine AW.cond _ rfl (fun h => ?_) (fun h => ?_) | refine Qf ?_ | refine Qg ?_ | refine Qh ?_ | refine Qi ?_ | refine Xa ?_ | refine Xb ?_ | refine Xc ?_ | refine Xd ?_ | refine Fc ?_)
    refine ⟨⟨k + 1, by omega⟩, ?_, by simp only; omega⟩
    (apply Le.headZ [] rfl)
    all_goals (try dsimp only [srcs])
    (case' hfr | hob => (repeat' (first | refine La ?_ ?_ | exact Lc | refine Lo ?_ | refine ⟨⟨_, rfl, ?_⟩, ?_⟩ | refine ObA.box ?_ | refine ObA.frE ?_ | refine ObA.dataE ?_ | refine ARs.agg ?_ | refine ARs.tup ?_ | refine AR.b ?_ | refine AR.iE ?_ | refine AR.e ?_ | refine AR.clo' ARs.nil ?_)))
    all_goals (first | (rfl) | exact Ld)
  ·
    have hkn : k = n := by omega
    subst hkn
    repeat' (first | refine Qa ?_ | ((first | apply Ba | (apply Bb; (· rfl); (· rfl)) | (apply Bc; (· exact nxE)) | (apply Bd; (· rfl); (· rfl); (· exact nxE))); (· first | exact Ok.pe); (first | refine Na ?_ | refine Nb ?_)) | ((first | apply Ca | (apply Cb; (· exact nxE))); (· first | exact Ok.e0); (first | refine Nc ?_ | refine Nd ?_)) | refine Oa ?_ | refine Ob ?_ | ((first | refine Ga (fun h => ?_) (fun h => ?_) | refine AD.gsplit rfl rfl (fun h => ?_) (fun h => ?_)) <;> try (exfalso; omega; done)) | (first | refine AL.gsplitB rfl rfl (fun h => ?_) (fun h => ?_) | refine AD.gsplitB rfl rfl (fun h => ?_) (fun h => ?_)) | refine Fa ?_ | refine Qb ?_ | refine Qc ?_ | refine Qd ?_ | refine Fb ?_ | refine Qe ?_ | refine Wa ?_ | refine Wb ?_ | (refine AW.ite rfl (fun h => ?_) (fun h => ?_) <;> try (exfalso; omega; done)) | refine AW.cond _ rfl (fun h => ?_) (fun h => ?_) | refine Qf ?_ | refine Qg ?_ | refine Qh ?_ | refine Qi ?_ | refine Xa ?_ | refine Xb ?_ | refine Xc ?_ | refine Xd ?_ | refine Fc ?_)
    refine Ya ?_
    (apply Le.headZ (hs := []) [] rfl)
    all_goals (try dsimp only [srcs])
    (case' hfr => (repeat' (first | refine La ?_ ?_ | exact Lc | refine Lo ?_ | refine ⟨⟨_, rfl, ?_⟩, ?_⟩ | refine ObA.box ?_ | refine ObA.frE ?_ | refine ObA.dataE ?_ | refine ARs.agg ?_ | refine ARs.tup ?_ | refine AR.b ?_ | refine AR.iE ?_ | refine AR.e ?_ | refine AR.clo' ARs.nil ?_)))
    all_goals (first | exact Ld | exact trivial | (rfl))
/-! ### Tables marked -/
def offT (t : List (List Int)) (i : Nat) : Nat := ((t.take i).map List.length).sum
def mkRow (k : Int) (r : List Int) : List Int := rowF r.length (mkF k)
def mkAt (t : List (List Int)) (k : Int) (i : Nat) : List (List Int) := t.mapIdx fun j r => if j < i then mkRow (k + offT t j) r else r
theorem mkAt_len {t : List (List Int)} {k : Int} {i : Nat} : (mkAt t k i).length = t.length := by simp [mkAt]
end Go.Proofs.Ytcjidnpkeliieaa
end

section
namespace Go.Proofs.Ytcjidnpkeliieaa
set_option linter.unusedSimpArgs false
set_option linter.unusedVariables false
open Go Go.RowKit
attribute [local irreducible] AL AD AW OpOk Le AC thenQ blockQ EndQ

theorem mgF_0 {n : Nat} {f : Nat → Int} : dobj 1 (List.replicate n [DI 0]) = IO (rowF n (mixR f (fun _ => 0) 0)) := by
  rw [mixR_0]
  unfold IO dobj
  simp [rowF, List.map_const']
end Go.Proofs.Ytcjidnpkeliieaa
end

section
namespace Go.Proofs.Ytcjidnpkeliieaa
set_option linter.unusedSimpArgs false
set_option linter.unusedVariables false
open Go Go.RowKit
attribute [local irreducible] AL AD AW OpOk Le AC thenQ blockQ EndQ

def isCr (s : Nat → Nat → Int) (u1 u2 : Int) (p : Pl) : Bool := !decide (s p.f.toNat p.t.toNat = BOT) && decide (pw u1 u2 p + s p.f.toNat p.t.toNat = 0)
end Go.Proofs.Ytcjidnpkeliieaa
end

section
namespace Go.Proofs.Ytcjidnpkeliieaa
set_option linter.unusedSimpArgs false
set_option linter.unusedVariables false
open Go Go.RowKit

theorem growC_pre {xs : List Pl} {rn rd over : Int} : ∀ {k : Nat} {l : List Nat}, growC xs rn rd over k l ≠ [] → ∃ e, growC xs rn rd over k l = l ++ e
  | 0, _, h => by simp [growC] at h
  | k + 1, l, h => by
    unfold growC at h ⊢
    split
    · rename_i h1
      rw [if_pos h1] at h
      split
      · exact ⟨[], by simp⟩
      · rename_i h2; rw [if_neg h2] at h; exact absurd rfl h
    · rename_i h1
      rw [if_neg h1] at h
      obtain ⟨i, hi, h2, h3⟩ := tryAll_mem h
      rw [h3]
      split at h2
      · exact absurd rfl h2
      · rename_i hs
        rw [if_neg hs]
        obtain ⟨e, he⟩ := growC_pre h2
        exact ⟨i :: e, by rw [he]; simp⟩
theorem tryAll_congr {α : Type} {f g : Nat → List α} : ∀ {l : List Nat}, (∀ v ∈ l, f v = g v) → tryAll f l = tryAll g l
  | [], _ => rfl
  | v :: r, h => by
    unfold tryAll
    rw [h v (by simp), tryAll_congr fun x hx => h x (by simp [hx])]
theorem star_super {W : Nat → Nat → Int} {n : Nat} {s : Nat → Nat → Int} (hs : StarOk W n s) {u m v : Nat} (hu : u < n) (hm : m < n) (hv : v < n) (h1 : s m u ≠ BOT) (h2 : s v m ≠ BOT) : s v u ≠ BOT ∧ s m u + s v m ≤ s v u := by
  rcases hs.some u m hu hm with e | ⟨e, e2⟩ | ⟨c, c1, c2, c3⟩
  · exact absurd e h1
  · subst e; exact ⟨h2, by omega⟩
  · rcases hs.some m v hm hv with e | ⟨e, e2⟩ | ⟨c', d1, d2, d3⟩
    · exact absurd e h2
    · subst e; exact ⟨h1, by omega⟩
    · have := hs.all u v (c ++ m :: c') hu hv (fun x hx => by
        rcases List.mem_append.1 hx with h | h
        · exact c2 x h
        · rcases List.mem_cons.1 h with rfl | h
          · exact hm
          · exact d2 x h) (WM.app.2 ⟨c1, d1⟩)
      rw [wM_app] at this
      exact ⟨this.1, by omega⟩
theorem wk_wm {n : Nat} {xs : List Pl} {r : Int × Int} {t : List (List Int)} (hw : WmOk n xs r t) (hv : ∀ p ∈ xs, okPl n p) : ∀ {c : List Nat} {u v : Int}, Wk xs u c v → c ≠ [] → ∃ c', WM (entN t) u.toNat c' v.toNat ∧ (∀ x ∈ c', x < n) ∧ wgt xs r.1 r.2 c ≤ wM (entN t) u.toNat c' v.toNat
  | [], _, _, _, h => absurd rfl h
  | [i], u, v, ⟨h1, h2, h3⟩, _ => by
    have hp : plA xs i ∈ xs := by
      have e : plA xs i = xs[i] := by simp [plA, h1]
      rw [e]; exact List.getElem_mem h1
    have ha := hw.all _ hp
    have h3' : (plA xs i).t = v := h3
    subst h2 h3'
    exact ⟨[], ha.1, by simp, by simp only [wgt, wM]; omega⟩
  | i :: j :: c, u, v, ⟨h1, h2, h3⟩, _ => by
    have hp : plA xs i ∈ xs := by
      have e : plA xs i = xs[i] := by simp [plA, h1]
      rw [e]; exact List.getElem_mem h1
    have ha := hw.all _ hp
    obtain ⟨c', g1, g2, g3⟩ := wk_wm hw hv h3 (by simp)
    obtain ⟨_, ⟨k1, k2⟩, _⟩ := hv _ hp
    subst h2
    refine ⟨(plA xs i).t.toNat :: c', ⟨ha.1, g1⟩, fun x hx => ?_, ?_⟩
    · rcases List.mem_cons.1 hx with rfl | h
      · omega
      · exact g2 x h
    · have e : wgt xs r.1 r.2 (i :: j :: c) = pw r.1 r.2 (plA xs i) + wgt xs r.1 r.2 (j :: c) := rfl
      rw [e]
      simp only [wM]
      omega
/-- What is held of the weights, their star and the greatest ratio. -/
structure CrOk (xs : List Pl) (n : Nat) (r : Int × Int) (s : Nat → Nat → Int) : Prop where
  v : ∀ p ∈ xs, okPl n p
  mx : MaxR xs r
  w : WmOk n xs r (wmT n xs r)
  np : NoPos (entN (wmT n xs r)) n
  st : StarOk (entN (wmT n xs r)) n s
abbrev crB (xs : List Pl) (r : Int × Int) (s : Nat → Nat → Int) (i : Nat) : Bool := isCr s r.1 r.2 (plA xs i)
theorem crB_iff {xs : List Pl} {r : Int × Int} {s : Nat → Nat → Int} {i : Nat} : crB xs r s i = true ↔ s (plA xs i).f.toNat (plA xs i).t.toNat ≠ BOT ∧ pw r.1 r.2 (plA xs i) + s (plA xs i).f.toNat (plA xs i).t.toNat = 0 := by
  unfold crB isCr
  simp
theorem CrOk.at {xs : List Pl} {n : Nat} {r : Int × Int} {s : Nat → Nat → Int} (h : CrOk xs n r s) {i : Nat} (hi : i < xs.length) : (0 ≤ (plA xs i).f ∧ (plA xs i).f.toNat < n) ∧ (0 ≤ (plA xs i).t ∧ (plA xs i).t.toNat < n) ∧ plA xs i ∈ xs := by
  have hp : plA xs i ∈ xs := by
    have e : plA xs i = xs[i] := by simp [plA, hi]
    rw [e]; exact List.getElem_mem hi
  obtain ⟨⟨k1, k2⟩, ⟨k3, k4⟩, _⟩ := h.v _ hp
  exact ⟨⟨k1, by omega⟩, ⟨k3, by omega⟩, hp⟩
theorem CrOk.crit {xs : List Pl} {n : Nat} {r : Int × Int} {s : Nat → Nat → Int} (h : CrOk xs n r s) {c : List Nat} (hc : Circ xs c) (hz : wgt xs r.1 r.2 c = 0) {i : Nat} (hi : i ∈ c) : crB xs r s i = true := by
  have hil := hc.wk.lt i hi
  obtain ⟨⟨k1, k2⟩, ⟨k3, k4⟩, hp⟩ := h.at hil
  obtain ⟨a, b, rfl⟩ := List.append_of_mem hi
  obtain ⟨m, w1, w2, w3, w4⟩ := Wk.app.1 hc.wk
  have hwk : Wk xs (plA xs i).t (b ++ a) (plA xs i).f := Wk.app.2 ⟨_, w4, w3 ▸ w1⟩
  have hwt : wgt xs r.1 r.2 (b ++ a) = - pw r.1 r.2 (plA xs i) := by
    rw [wgt_app] at hz ⊢
    have e : wgt xs r.1 r.2 (i :: b) = pw r.1 r.2 (plA xs i) + wgt xs r.1 r.2 b := rfl
    omega
  rw [crB_iff]
  by_cases hne : b ++ a = []
  · rw [hne] at hwk hwt
    have e : (plA xs i).t = (plA xs i).f := hwk
    have hd := star_dia0 h.np h.st.some h.st.dia k2
    have hd2 := (h.st.dia _ k2).1
    rw [e, hd]
    have e0 : wgt xs r.1 r.2 ([] : List Nat) = 0 := rfl
    exact ⟨by decide, by omega⟩
  · obtain ⟨c', g1, g2, g3⟩ := wk_wm h.w h.v hwk hne
    have ha := h.st.all _ _ c' k4 k2 g2 g1
    have hg := gap_nn h.w h.np h.st (f := (plA xs i).f.toNat) (u := (plA xs i).t.toNat) k2 k4 hp (by omega) (by omega) ha.1
    exact ⟨ha.1, by omega⟩
theorem CrOk.back {xs : List Pl} {n : Nat} {r : Int × Int} {s : Nat → Nat → Int} (h : CrOk xs n r s) : ∀ {c : List Nat} {u v : Int}, Wk xs u c v → c ≠ [] → (∀ i ∈ c, crB xs r s i = true) → (v.toNat < n) ∧ s u.toNat v.toNat ≠ BOT ∧ - wgt xs r.1 r.2 c ≤ s u.toNat v.toNat
  | [], _, _, _, hn, _ => absurd rfl hn
  | [i], u, v, ⟨h1, h2, h3⟩, _, ha => by
    have h3' : (plA xs i).t = v := h3
    subst h2 h3'
    have hcr := crB_iff.1 (ha i (by simp))
    refine ⟨(h.at h1).2.1.2, hcr.1, ?_⟩
    have e : wgt xs r.1 r.2 [i] = pw r.1 r.2 (plA xs i) + 0 := rfl
    omega
  | i :: j :: c, u, v, ⟨h1, h2, h3⟩, _, ha => by
    obtain ⟨g0, g1, g2⟩ := h.back h3 (by simp) (fun x hx => ha x (by simp [hx]))
    obtain ⟨⟨k1, k2⟩, ⟨k3, k4⟩, hp⟩ := h.at h1
    have hcr := crB_iff.1 (ha i (by simp))
    subst h2
    have := star_super h.st (u := v.toNat) (m := (plA xs i).t.toNat) (v := (plA xs i).f.toNat) g0 k4 k2 g1 hcr.1
    have e : wgt xs r.1 r.2 (i :: j :: c) = pw r.1 r.2 (plA xs i) + wgt xs r.1 r.2 (j :: c) := rfl
    exact ⟨g0, this.1, by omega⟩
theorem CrOk.zero {xs : List Pl} {n : Nat} {r : Int × Int} {s : Nat → Nat → Int} (h : CrOk xs n r s) {c : List Nat} (hc : Circ xs c) (ha : ∀ i ∈ c, crB xs r s i = true) : wgt xs r.1 r.2 c = 0 := by
  obtain ⟨g0, g1, g2⟩ := h.back hc.wk hc.ne ha
  have hd := star_dia0 h.np h.st.some h.st.dia g0
  have := h.mx.le c hc
  omega
def goC (xs : List Pl) (cr : Nat → Bool) : Nat → List Nat → List Nat
  | 0, _ => []
  | k + 1, l => tryAll (fun i => if cr i = false ∨ skipC xs l i then [] else if (plA xs i).t = firstF xs l then l ++ [i] else goC xs cr k (l ++ [i])) (List.range' 0 xs.length)
def bestC (xs : List Pl) (cr : Nat → Bool) (n : Nat) : List Nat :=
  tryAll (fun i => if cr i = false then [] else if (plA xs i).t = (plA xs i).f then [i] else if (plA xs i).t < (plA xs i).f then [] else goC xs cr n [i]) (List.range' 0 xs.length)
theorem lastT_snoc {xs : List Pl} {l : List Nat} {i : Nat} : lastT xs (l ++ [i]) = (plA xs i).t := by unfold lastT; rw [lsN_snoc]
theorem firstF_snoc {xs : List Pl} {l : List Nat} {i : Nat} (h : l ≠ []) : firstF xs (l ++ [i]) = firstF xs l := by
  cases l with
  | nil => exact absurd rfl h
  | cons a l => rfl
theorem CrOk.none {xs : List Pl} {n : Nat} {r : Int × Int} {s : Nat → Nat → Int} (h : CrOk xs n r s) {k : Nat} {l : List Nat} (hp : PathC xs l) {i : Nat} (hi : i ∈ l) (hcr : crB xs r s i = false) : growC xs r.1 r.2 (-1) k l = [] := by
  refine Classical.byContradiction fun hne => ?_
  obtain ⟨g1, g2⟩ := growC_sound hp hne
  obtain ⟨e, he⟩ := growC_pre hne
  have hz : wgt xs r.1 r.2 (growC xs r.1 r.2 (-1) k l) = 0 := by
    have := h.mx.le _ g1; omega
  have := h.crit g1 hz (i := i) (by rw [he]; simp [hi])
  rw [hcr] at this; cases this
theorem PathC.circ {xs : List Pl} {l : List Nat} (hp : PathC xs l) (h : lastT xs l = firstF xs l) : Circ xs l := ⟨hp.ne, by have := hp.wk; rwa [h] at this, hp.nd, hp.mn⟩
theorem CrOk.grow {xs : List Pl} {n : Nat} {r : Int × Int} {s : Nat → Nat → Int} (h : CrOk xs n r s) : ∀ (k : Nat) (l : List Nat), PathC xs l → lastT xs l ≠ firstF xs l → (∀ j ∈ l, crB xs r s j = true) → k + l.length = n + 1 → growC xs r.1 r.2 (-1) k l = goC xs (crB xs r s) k l
  | 0, _, _, _, _, _ => rfl
  | k + 1, l, hp, hne, ha, hk => by
    unfold growC goC
    rw [if_neg hne]
    refine tryAll_congr fun i hi => ?_
    simp only [List.mem_range'_1] at hi
    by_cases hs : skipC xs l i
    · rw [if_pos hs, if_pos (.inr hs)]
    · have hp2 := hp.snoc (by omega) hne hs
      rw [if_neg hs]
      cases hcr : crB xs r s i with
      | false =>
        rw [if_pos (.inl rfl)]
        exact h.none hp2 (by simp) hcr
      | true =>
        rw [if_neg (by rintro (h | h); cases h; exact hs h)]
        have ha2 : ∀ j ∈ l ++ [i], crB xs r s j = true := fun j hj => by
          rcases List.mem_append.1 hj with hj | hj
          · exact ha j hj
          · simp at hj; subst hj; exact hcr
        by_cases hcl : (plA xs i).t = firstF xs l
        · rw [if_pos hcl]
          have hcl2 : lastT xs (l ++ [i]) = firstF xs (l ++ [i]) := by rw [lastT_snoc, firstF_snoc hp.ne, hcl]
          have hci := hp2.circ hcl2
          have hln := hci.len (n := n) (fun j hj => by have := h.at hj; omega)
          simp at hln
          obtain ⟨k', rfl⟩ : ∃ k', k = k' + 1 := ⟨k - 1, by omega⟩
          unfold growC
          rw [if_pos hcl2, if_pos (by rw [h.zero hci ha2]; decide)]
        · rw [if_neg hcl]
          exact h.grow k (l ++ [i]) hp2 (by rw [lastT_snoc, firstF_snoc hp.ne]; exact hcl) ha2 (by simp; omega)
theorem CrOk.best {xs : List Pl} {n : Nat} {r : Int × Int} {s : Nat → Nat → Int} (h : CrOk xs n r s) (h0 : 0 < n) : overC xs r.1 r.2 (-1) n = bestC xs (crB xs r s) n := by
  unfold overC bestC
  refine tryAll_congr fun i hi => ?_
  simp only [List.mem_range'_1] at hi
  by_cases hlt : (plA xs i).t < (plA xs i).f
  · rw [if_pos hlt]
    by_cases hc0 : crB xs r s i = false
    · rw [if_pos hc0]
    · rw [if_neg hc0, if_neg (by omega), if_pos hlt]
  · rw [if_neg hlt]
    have hp : PathC xs [i] := PathC.one (by omega) hlt
    cases hcr : crB xs r s i with
    | false =>
      rw [if_pos rfl]
      exact h.none hp (by simp) hcr
    | true =>
      rw [if_neg (by decide)]
      have ha : ∀ j ∈ [i], crB xs r s j = true := fun j hj => by simp at hj; subst hj; exact hcr
      by_cases heq : (plA xs i).t = (plA xs i).f
      · rw [if_pos heq]
        obtain ⟨k, rfl⟩ : ∃ k, n = k + 1 := ⟨n - 1, by omega⟩
        have hcl : lastT xs [i] = firstF xs [i] := heq
        unfold growC
        rw [if_pos hcl, if_pos (by rw [h.zero (hp.circ hcl) ha]; decide)]
      · rw [if_neg heq, if_neg hlt]
        exact h.grow n [i] hp heq ha (by simp)
end Go.Proofs.Ytcjidnpkeliieaa
end
