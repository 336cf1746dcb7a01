/-
  Walks in the abstract reading, part 9.
-/
import Derived.Test.YtegfjedklebbfaaKU7
import Derived.Test.YtegfjedklebbfaaKU8
import Derived.Test.YtegfjedklebbfaaKA3
import Derived.Test.YtegfjedklebbfaaKU4
section
namespace Go.Proofs.Ytegfjedklebbfaa
set_option linter.unusedSimpArgs false
set_option linter.unusedVariables false
open Go Go.RowKit
attribute [local irreducible] AL AD AW OpOk Le AC thenQ blockQ EndQ

section
variable {P : Program} {o : Oper} {A : Operand → AV} {H : Heap} {new : Nat}
theorem Ok.ldTj {t : TypeId} {a : Operand} {k nils i j n : Nat} {l : Loc} {f : Nat → Loc} {R : List (List (List D))} {r : List (List D)} (ho : o.op = .load t a) (ha : A a = .ptr 1 l j 0) [TyCell P t] (hl : H l = some (outer f k R nils)) (hr : R[i]? = some r) (hn : r.length = n) (hj : j = i) : OpOk P o A [l] H new (.own k (f i) 0 n) [] := by
  subst hj
  exact Ok.ldTn ho (by rw [ha]; simp) hl hr hn
end
theorem freeE {n : Nat} {xs : List Pl} (hv : ∀ p ∈ xs, okPl n p) {u v : Nat} (hu : u < n) (hv' : v < n) : entN (freeT n xs) u v = if wPl xs u v = true then 0 else BOT := by
  unfold freeT
  rw [free_entN (Sq.bot n) hv hu hv', entN_bot hu hv']
abbrev rdyB (w : Nat → Nat → Bool) (ord : List Nat) (e k : Nat) : Bool := !ord.contains e && (List.range k).all fun u => !w e u || ord.contains u
theorem rdyB_succ {w : Nat → Nat → Bool} {ord : List Nat} {e k : Nat} : rdyB w ord e (k + 1) = (rdyB w ord e k && (!w e k || ord.contains k)) := by
  simp [rdyB, List.range_succ, Bool.and_assoc]
theorem rdyB_0 {w : Nat → Nat → Bool} {ord : List Nat} {e : Nat} : rdyB w ord e 0 = !ord.contains e := by simp [rdyB]
theorem nextE_spec {w : Nat → Nat → Bool} {n : Nat} {ord : List Nat} {e : Nat} (h : nextE w n ord = some e) : e < n ∧ rdyB w ord e n = true ∧ ∀ j, j < e → rdyB w ord j n = false := by
  unfold nextE at h
  rw [List.find?_range_eq_some] at h
  obtain ⟨h1, h2, h3⟩ := h
  refine ⟨List.mem_range.1 h2, h1, fun j hj => ?_⟩
  simpa only [Bool.not_eq_true'] using h3 j hj
set_option maxHeartbeats 2000000 in
theorem l12Order_ac (n : Nat) (xs : List Pl) (ord : List Nat) (hn : n ≤ 10) (hx : xs.length ≤ 100000000) (hv : ∀ p ∈ xs, okPl n p) (hord : ordR n xs = some ord) : AC Try.prog 155 [grD n xs] H0 (IL (cN ord)) H0 := by
  have hF := (l12Free_ac n xs hn hx hv).frzT (by rw [TR_len]; exact (free_sq (Sq.bot n)).l)
  have hsq : Sq (freeT n xs) n := free_sq (Sq.bot n)
  have hfl : (mRows 1 (TR (freeT n xs))).length = n := by rw [mTR_len]; exact hsq.l
  refine AC.of_body 0 Try.func155 rfl (fun l h => absurd rfl h) (fun C hC => ?_)
  have hD : ∀ l, ¬ C.D0 l := fun l h => (hC l).1 h rfl
  simp only [startFr, Try.ntmps155, List.length_cons, List.length_nil, Nat.reduceAdd, Nat.reduceSub, List.replicate_succ, List.replicate_zero, List.cons_append, List.nil_append]
  repeat' (first | refine Qa ?_ | ((first | apply Ba | (apply Bb; (· rfl); (· rfl)) | (apply Bc; (· exact nxE)) | (apply Bd; (· rfl); (· rfl); (· exact nxE))); (· first | exact Kz rfl rfl (hF) (Aa (Ad (Ad An)) An) | exact Ok.pe); (first | refine Na ?_ | refine Nb ?_)) | ((first | apply Ca | (apply Cb; (· exact nxE))); (· first | exact Ok.e0); (first | refine Nc ?_ | refine Nd ?_)) | refine Oa ?_ | refine Ob ?_ | ((first | refine Ga (fun h => ?_) (fun h => ?_) | refine AD.gsplit rfl rfl (fun h => ?_) (fun h => ?_)) <;> try (exfalso; omega; done)) | (first | refine AL.gsplitB rfl rfl (fun h => ?_) (fun h => ?_) | refine AD.gsplitB rfl rfl (fun h => ?_) (fun h => ?_)) | refine Fa ?_ | refine Qb ?_ | refine Qc ?_ | refine Qd ?_ | refine Fb ?_ | refine Qe ?_ | refine Wa ?_ | refine Wb ?_ | (refine AW.ite rfl (fun h => ?_) (fun h => ?_) <;> try (exfalso; omega; done)) | refine AW.cond _ rfl (fun h => ?_) (fun h => ?_) | refine Qf ?_ | refine Qg ?_ | refine Qh ?_ | refine Qi ?_ | refine Xa ?_ | refine Xb ?_ | refine Xc ?_ | refine Xd ?_ | refine Fc ?_)
  refine AW.loop (X := {o : List Nat // o.length ≤ n ∧ ordF (wPl xs) n (n - o.length) o = some ord}) (fun o => ⟨[Oo, Bx 2 0, Oo, TL (freeT n xs), .own 1 ⟨1, []⟩ 0 o.1.length, Oo, Oo, Oo, Oo, Oo, Oo, Oo, Oo, Oo, Oo, Oo, Oo, Oo, Oo, Oo, Oo, Oo, Oo, Oo, Oo, Oo, Oo, Oo, Oo, Oo, Oo, Oo, Oo, Oo, Oo, Oo, Oo, Oo, Oo, Oo, Oo, Oo, Oo, Oo, Oo, Oo, Oo, Oo, Oo, Oo, Oo, Oo, Oo, Oo], heapL [(⟨0, []⟩, ⟨0, []⟩, ⟨2, [[I n, PL xs]]⟩), (⟨1, []⟩, ⟨1, []⟩, IO (cN o.1))], 900⟩) (fun o => n - o.1.length) ⟨[], by simp, hord⟩ ?_ (fun o => ?_)
  ·
    (apply Le.headZ [_, _] rfl)
    all_goals (try dsimp only [srcs])
    (case' hfr | hob => (repeat' (first | refine La ?_ ?_ | exact Lc | refine Lo ?_ | refine ⟨⟨_, rfl, ?_⟩, ?_⟩ | refine ObA.box ?_ | refine ObA.frE ?_ | refine ObA.dataE ?_ | refine ARs.agg ?_ | refine ARs.tup ?_ | refine AR.b ?_ | refine AR.iE ?_ | refine AR.e ?_ | refine AR.clo' ARs.nil ?_)))
    all_goals (first | (rfl) | exact Ld)
  obtain ⟨o, ho1, ho2⟩ := o
  simp only
  have hol : (IR (cN o)).length = o.length := by simp
  by_cases hlt : o.length < n
  · rw [show n - o.length = (n - (o.length + 1)) + 1 by omega, ordF] at ho2
    cases hnx : nextE (wPl xs) n o with
    | none => rw [hnx] at ho2; cases ho2
    | some e0 =>
    rw [hnx] at ho2
    simp only at ho2
    obtain ⟨he1, he2, he3⟩ := nextE_spec hnx
    repeat' (first | refine Qa ?_ | ((first | apply Ba | (apply Bb; (· rfl); (· rfl)) | (apply Bc; (· exact nxE)) | (apply Bd; (· rfl); (· rfl); (· exact nxE))); (· first | exact Ok.pe); (first | refine Na ?_ | refine Nb ?_)) | ((first | apply Ca | (apply Cb; (· exact nxE))); (· first | exact Ok.e0); (first | refine Nc ?_ | refine Nd ?_)) | refine Oa ?_ | refine Ob ?_ | ((first | refine Ga (fun h => ?_) (fun h => ?_) | refine AD.gsplit rfl rfl (fun h => ?_) (fun h => ?_)) <;> try (exfalso; omega; done)) | (first | refine AL.gsplitB rfl rfl (fun h => ?_) (fun h => ?_) | refine AD.gsplitB rfl rfl (fun h => ?_) (fun h => ?_)) | refine Fa ?_ | refine Qb ?_ | refine Qc ?_ | refine Qd ?_ | refine Fb ?_ | refine Qe ?_ | refine Wa ?_ | refine Wb ?_ | (refine AW.ite rfl (fun h => ?_) (fun h => ?_) <;> try (exfalso; omega; done)) | refine AW.cond _ rfl (fun h => ?_) (fun h => ?_) | refine Qf ?_ | refine Qg ?_ | refine Qh ?_ | refine Qi ?_ | refine Xa ?_ | refine Xb ?_ | refine Xc ?_ | refine Xd ?_ | refine Fc ?_)
    refine AW.loop (X := {k : Nat // k ≤ e0}) (fun k => ⟨[Oo, Bx 2 0, Oo, TL (freeT n xs), .own 1 ⟨1, []⟩ 0 o.length, I (k.1 : Nat), Oo, Oo, Oo, Oo, Oo, Oo, Oo, Oo, Oo, Oo, Oo, Oo, Oo, Oo, Oo, Oo, Oo, Oo, Oo, Oo, Oo, Oo, Oo, Oo, Oo, Oo, Oo, Oo, Oo, Oo, Oo, Oo, Oo, Oo, Oo, Oo, Oo, Oo, Oo, Oo, Oo, Oo, Oo, Oo, Oo, Oo, Oo, Oo], heapL [(⟨0, []⟩, ⟨0, []⟩, ⟨2, [[I n, PL xs]]⟩), (⟨1, []⟩, ⟨1, []⟩, IO (cN o))], 900⟩) (fun k => e0 - k.1) ⟨0, Nat.zero_le _⟩ ?_ (fun k => ?_)
    ·
      (apply Le.headZ [_, _] rfl)
      all_goals (try dsimp only [srcs])
      (case' hfr | hob => (repeat' (first | refine La ?_ ?_ | exact Lc | refine Lo ?_ | refine ⟨⟨_, rfl, ?_⟩, ?_⟩ | refine ObA.box ?_ | refine ObA.frE ?_ | refine ObA.dataE ?_ | refine ARs.agg ?_ | refine ARs.tup ?_ | refine AR.b ?_ | refine AR.iE ?_ | refine AR.e ?_ | refine AR.clo' ARs.nil ?_)))
      all_goals (first | (rfl) | exact Ld)
    obtain ⟨e, he⟩ := k
    simp only
    have hC1 := l01Has_ac (cN o) e (by simp; omega)
    rw [cN_any] at hC1
    repeat' (first | refine Qa ?_ | ((first | apply Ba | (apply Bb; (· rfl); (· rfl)) | (apply Bc; (· exact nxE)) | (apply Bd; (· rfl); (· rfl); (· exact nxE))); (· first | exact Ez rfl rfl (hC1) (Sw (Sd Sn)) | exact Ok.pe); (first | refine Na ?_ | refine Nb ?_)) | ((first | apply Ca | (apply Cb; (· exact nxE))); (· first | exact Ok.e0); (first | refine Nc ?_ | refine Nd ?_)) | refine Oa ?_ | refine Ob ?_ | ((first | refine Ga (fun h => ?_) (fun h => ?_) | refine AD.gsplit rfl rfl (fun h => ?_) (fun h => ?_)) <;> try (exfalso; omega; done)) | (first | refine AL.gsplitB rfl rfl (fun h => ?_) (fun h => ?_) | refine AD.gsplitB rfl rfl (fun h => ?_) (fun h => ?_)) | refine Fa ?_ | refine Qb ?_ | refine Qc ?_ | refine Qd ?_ | refine Fb ?_ | refine Qe ?_ | refine Wa ?_ | refine Wb ?_ | (refine AW.ite rfl (fun h => ?_) (fun h => ?_) <;> try (exfalso; omega; done)) | refine AW.cond _ rfl (fun h => ?_) (fun h => ?_) | refine Qf ?_ | refine Qg ?_ | refine Qh ?_ | refine Qi ?_ | refine Xa ?_ | refine Xb ?_ | refine Xc ?_ | refine Xd ?_ | refine Fc ?_)
    refine AW.loop (X := {k : Nat // k ≤ n}) (fun k => ⟨[Oo, Bx 2 0, Oo, TL (freeT n xs), .own 1 ⟨1, []⟩ 0 o.length, I e, Bo (rdyB (wPl xs) o e (k.1 : Nat)), I (k.1 : Nat), Oo, Oo, Oo, Oo, Oo, Oo, Oo, Oo, Oo, Oo, Oo, Oo, Oo, Oo, Oo, Oo, Oo, Oo, Oo, Oo, Oo, Oo, Oo, Oo, Oo, Oo, Oo, Oo, Oo, Oo, Oo, Oo, Oo, Oo, Oo, Oo, Oo, Oo, Oo, Oo, Oo, Oo, Oo, Oo, Oo, Oo], heapL [(⟨0, []⟩, ⟨0, []⟩, ⟨2, [[I n, PL xs]]⟩), (⟨1, []⟩, ⟨1, []⟩, IO (cN o))], 900⟩) (fun k => n - k.1) ⟨0, Nat.zero_le _⟩ ?_ (fun k => ?_)
    ·
      (apply Le.headZ [_, _] rfl)
      all_goals (try dsimp only [srcs])
      (case' hfr | hob => (repeat' (first | refine La ?_ ?_ | exact Lc | refine Lo ?_ | refine ⟨⟨_, rfl, ?_⟩, ?_⟩ | refine ObA.box ?_ | refine ObA.frE ?_ | refine ObA.dataE ?_ | refine ARs.agg ?_ | refine ARs.tup ?_ | refine AR.b ?_ | refine AR.iE ?_ | refine AR.e ?_ | refine AR.clo' ARs.nil ?_)))
      all_goals (first | ((first | exact rdyB_0 | (rw [rdyB_0]; done) | (simp [rdyB_0]; done))) | exact Ld)
    obtain ⟨k, hk⟩ := k
    simp only
    by_cases hlt2 : k < n
    ·
      have hC2 := l01Has_ac (cN o) k (by simp; omega)
      rw [cN_any] at hC2
      obtain ⟨R, hR1, hR2, hR3⟩ := hsq.get (show e < n by omega) hlt2
      rw [freeE hv (by omega) hlt2] at hR2
      have hRr := TR_get hR1
      have hRl : (IR R).length = n := by rw [IR_len, hR3]
      have hst := rdyB_succ (w := wPl xs) (ord := o) (e := e) (k := k)
      generalize hb2 : rdyB (wPl xs) o e k = b2 at hst
      cases b2
      ·
        repeat' (first | refine Qa ?_ | ((first | apply Ba | (apply Bb; (· rfl); (· rfl)) | (apply Bc; (· exact nxE)) | (apply Bd; (· rfl); (· rfl); (· exact nxE))); (· first | exact Ok.pe); (first | refine Na ?_ | refine Nb ?_)) | ((first | apply Ca | (apply Cb; (· exact nxE))); (· first | exact Ok.e0); (first | refine Nc ?_ | refine Nd ?_)) | refine Oa ?_ | refine Ob ?_ | ((first | refine Ga (fun h => ?_) (fun h => ?_) | refine AD.gsplit rfl rfl (fun h => ?_) (fun h => ?_)) <;> try (exfalso; omega; done)) | (first | refine AL.gsplitB rfl rfl (fun h => ?_) (fun h => ?_) | refine AD.gsplitB rfl rfl (fun h => ?_) (fun h => ?_)) | refine Fa ?_ | refine Qb ?_ | refine Qc ?_ | refine Qd ?_ | refine Fb ?_ | refine Qe ?_ | refine Wa ?_ | refine Wb ?_ | (refine AW.ite rfl (fun h => ?_) (fun h => ?_) <;> try (exfalso; omega; done)) | refine AW.cond _ rfl (fun h => ?_) (fun h => ?_) | refine Qf ?_ | refine Qg ?_ | refine Qh ?_ | refine Qi ?_ | refine Xa ?_ | refine Xb ?_ | refine Xc ?_ | refine Xd ?_ | refine Fc ?_)
        refine ⟨⟨k + 1, by omega⟩, ?_, by simp only; omega⟩
        (apply Le.headZ [_, _] rfl)
        all_goals (try dsimp only [srcs])
        (case' hfr | hob => (repeat' (first | refine La ?_ ?_ | exact Lc | refine Lo ?_ | refine ⟨⟨_, rfl, ?_⟩, ?_⟩ | refine ObA.box ?_ | refine ObA.frE ?_ | refine ObA.dataE ?_ | refine ARs.agg ?_ | refine ARs.tup ?_ | refine AR.b ?_ | refine AR.iE ?_ | refine AR.e ?_ | refine AR.clo' ARs.nil ?_)))
        all_goals (first | (((try dsimp only); rw [hst]; rfl)) | exact Ld)
      · cases hw : wPl xs e k
        ·
          rw [hw, if_neg (by simp)] at hR2
          have hRf := IR_get hR2
          rw [hw] at hst
          repeat' (first | refine Qa ?_ | ((first | apply Ba | (apply Bb; (· rfl); (· rfl)) | (apply Bc; (· exact nxE)) | (apply Bd; (· rfl); (· rfl); (· exact nxE))); (· first | exact Ok.pe); (first | refine Na ?_ | refine Nb ?_)) | ((first | apply Ca | (apply Cb; (· exact nxE))); (· first | exact Ok.e0); (first | refine Nc ?_ | refine Nd ?_)) | refine Oa ?_ | refine Ob ?_ | ((first | refine Ga (fun h => ?_) (fun h => ?_) | refine AD.gsplit rfl rfl (fun h => ?_) (fun h => ?_)) <;> try (exfalso; omega; done)) | (first | refine AL.gsplitB rfl rfl (fun h => ?_) (fun h => ?_) | refine AD.gsplitB rfl rfl (fun h => ?_) (fun h => ?_)) | refine Fa ?_ | refine Qb ?_ | refine Qc ?_ | refine Qd ?_ | refine Fb ?_ | refine Qe ?_ | refine Wa ?_ | refine Wb ?_ | (refine AW.ite rfl (fun h => ?_) (fun h => ?_) <;> try (exfalso; omega; done)) | refine AW.cond _ rfl (fun h => ?_) (fun h => ?_) | refine Qf ?_ | refine Qg ?_ | refine Qh ?_ | refine Qi ?_ | refine Xa ?_ | refine Xb ?_ | refine Xc ?_ | refine Xd ?_ | refine Fc ?_)
          refine ⟨⟨k + 1, by omega⟩, ?_, by simp only; omega⟩
          (apply Le.headZ [_, _] rfl)
          all_goals (try dsimp only [srcs])
          (case' hfr | hob => (repeat' (first | refine La ?_ ?_ | exact Lc | refine Lo ?_ | refine ⟨⟨_, rfl, ?_⟩, ?_⟩ | refine ObA.box ?_ | refine ObA.frE ?_ | refine ObA.dataE ?_ | refine ARs.agg ?_ | refine ARs.tup ?_ | refine AR.b ?_ | refine AR.iE ?_ | refine AR.e ?_ | refine AR.clo' ARs.nil ?_)))
          all_goals (first | (((try dsimp only); rw [hst]; rfl)) | exact Ld)
        ·
          rw [hw, if_pos rfl] at hR2
          have hRf := IR_get hR2
          rw [hw] at hst
          repeat' (first | refine Qa ?_ | ((first | apply Ba | (apply Bb; (· rfl); (· rfl)) | (apply Bc; (· exact nxE)) | (apply Bd; (· rfl); (· rfl); (· exact nxE))); (· first | exact Ez rfl rfl (hC2) (Sw (Sd Sn)) | exact Ok.pe); (first | refine Na ?_ | refine Nb ?_)) | ((first | apply Ca | (apply Cb; (· exact nxE))); (· first | exact Ok.e0); (first | refine Nc ?_ | refine Nd ?_)) | refine Oa ?_ | refine Ob ?_ | ((first | refine Ga (fun h => ?_) (fun h => ?_) | refine AD.gsplit rfl rfl (fun h => ?_) (fun h => ?_)) <;> try (exfalso; omega; done)) | (first | refine AL.gsplitB rfl rfl (fun h => ?_) (fun h => ?_) | refine AD.gsplitB rfl rfl (fun h => ?_) (fun h => ?_)) | refine Fa ?_ | refine Qb ?_ | refine Qc ?_ | refine Qd ?_ | refine Fb ?_ | refine Qe ?_ | refine Wa ?_ | refine Wb ?_ | (refine AW.ite rfl (fun h => ?_) (fun h => ?_) <;> try (exfalso; omega; done)) | refine AW.cond _ rfl (fun h => ?_) (fun h => ?_) | refine Qf ?_ | refine Qg ?_ | refine Qh ?_ | refine Qi ?_ | refine Xa ?_ | refine Xb ?_ | refine Xc ?_ | refine Xd ?_ | refine Fc ?_)
          refine ⟨⟨k + 1, by omega⟩, ?_, by simp only; omega⟩
          (apply Le.headZ [_, _] rfl)
          all_goals (try dsimp only [srcs])
          (case' hfr | hob => (repeat' (first | refine La ?_ ?_ | exact Lc | refine Lo ?_ | refine ⟨⟨_, rfl, ?_⟩, ?_⟩ | refine ObA.box ?_ | refine ObA.frE ?_ | refine ObA.dataE ?_ | refine ARs.agg ?_ | refine ARs.tup ?_ | refine AR.b ?_ | refine AR.iE ?_ | refine AR.e ?_ | refine AR.clo' ARs.nil ?_)))
          all_goals (first | (((try dsimp only); rw [hst]; simp; done)) | exact Ld)
    ·
      have hkn : k = n := by omega
      subst hkn
      by_cases hee : e = e0
      ·
        subst hee
        rw [he2]
        repeat' (first | refine Qa ?_ | ((first | apply Ba | (apply Bb; (· rfl); (· rfl)) | (apply Bc; (· exact nxE)) | (apply Bd; (· rfl); (· rfl); (· exact nxE))); (· first | exact Ok.append1 (row := [DI e]) rfl rfl (by decide) rfl rfl hol rfl rfl rfl (by rfl) (by omega) (by omega) | exact Ok.pe); (first | refine Na ?_ | refine Nb ?_)) | ((first | apply Ca | (apply Cb; (· exact nxE))); (· first | exact Ok.append1 (row := [DI e]) rfl rfl (by decide) rfl rfl hol rfl rfl rfl (by rfl) (by omega) (by omega) | exact Ok.e0); (first | refine Nc ?_ | refine Nd ?_)) | refine Oa ?_ | refine Ob ?_ | ((first | refine Ga (fun h => ?_) (fun h => ?_) | refine AD.gsplit rfl rfl (fun h => ?_) (fun h => ?_)) <;> try (exfalso; omega; done)) | (first | refine AL.gsplitB rfl rfl (fun h => ?_) (fun h => ?_) | refine AD.gsplitB rfl rfl (fun h => ?_) (fun h => ?_)) | refine Fa ?_ | refine Qb ?_ | refine Qc ?_ | refine Qd ?_ | refine Fb ?_ | refine Qe ?_ | refine Wa ?_ | refine Wb ?_ | (refine AW.ite rfl (fun h => ?_) (fun h => ?_) <;> try (exfalso; omega; done)) | refine AW.cond _ rfl (fun h => ?_) (fun h => ?_) | refine Qf ?_ | refine Qg ?_ | refine Qh ?_ | refine Qi ?_ | refine Xa ?_ | refine Xb ?_ | refine Xc ?_ | refine Xd ?_ | refine Fc ?_)
        refine ⟨⟨o ++ [e], by simp; omega, by simpa using ho2⟩, ?_, by simp; omega⟩
        (apply Le.headZ [_, _] rfl)
        all_goals (try dsimp only [srcs])
        (case' hfr | hob => (repeat' (first | refine La ?_ ?_ | exact Lc | refine Lo ?_ | refine ⟨⟨_, rfl, ?_⟩, ?_⟩ | refine ObA.box ?_ | refine ObA.frE ?_ | refine ObA.dataE ?_ | refine ARs.agg ?_ | refine ARs.tup ?_ | refine AR.b ?_ | refine AR.iE ?_ | refine AR.e ?_ | refine AR.clo' ARs.nil ?_)))
        all_goals (first | ((first | (rw [cN_snoc]; done) | (simp; done))) | exact Ld)
      ·
        rw [he3 e (by omega)]
        repeat' (first | refine Qa ?_ | ((first | apply Ba | (apply Bb; (· rfl); (· rfl)) | (apply Bc; (· exact nxE)) | (apply Bd; (· rfl); (· rfl); (· exact nxE))); (· first | exact Ok.pe); (first | refine Na ?_ | refine Nb ?_)) | ((first | apply Ca | (apply Cb; (· exact nxE))); (· first | exact Ok.e0); (first | refine Nc ?_ | refine Nd ?_)) | refine Oa ?_ | refine Ob ?_ | ((first | refine Ga (fun h => ?_) (fun h => ?_) | refine AD.gsplit rfl rfl (fun h => ?_) (fun h => ?_)) <;> try (exfalso; omega; done)) | (first | refine AL.gsplitB rfl rfl (fun h => ?_) (fun h => ?_) | refine AD.gsplitB rfl rfl (fun h => ?_) (fun h => ?_)) | refine Fa ?_ | refine Qb ?_ | refine Qc ?_ | refine Qd ?_ | refine Fb ?_ | refine Qe ?_ | refine Wa ?_ | refine Wb ?_ | (refine AW.ite rfl (fun h => ?_) (fun h => ?_) <;> try (exfalso; omega; done)) | refine AW.cond _ rfl (fun h => ?_) (fun h => ?_) | refine Qf ?_ | refine Qg ?_ | refine Qh ?_ | refine Qi ?_ | refine Xa ?_ | refine Xb ?_ | refine Xc ?_ | refine Xd ?_ | refine Fc ?_)
        refine ⟨⟨e + 1, by omega⟩, ?_, by simp only; omega⟩
        (apply Le.headZ [_, _] rfl)
        all_goals (try dsimp only [srcs])
        (case' hfr | hob => (repeat' (first | refine La ?_ ?_ | exact Lc | refine Lo ?_ | refine ⟨⟨_, rfl, ?_⟩, ?_⟩ | refine ObA.box ?_ | refine ObA.frE ?_ | refine ObA.dataE ?_ | refine ARs.agg ?_ | refine ARs.tup ?_ | refine AR.b ?_ | refine AR.iE ?_ | refine AR.e ?_ | refine AR.clo' ARs.nil ?_)))
        all_goals (first | (rfl) | exact Ld)
  ·
    have hoo : o = ord := by
      rw [show n - o.length = 0 by omega, ordF] at ho2
      exact Option.some.inj ho2
    subst hoo
    repeat' (first | refine Qa ?_ | ((first | apply Ba | (apply Bb; (· rfl); (· rfl)) | (apply Bc; (· exact nxE)) | (apply Bd; (· rfl); (· rfl); (· exact nxE))); (· first | exact Ok.pe); (first | refine Na ?_ | refine Nb ?_)) | ((first | apply Ca | (apply Cb; (· exact nxE))); (· first | exact Ok.e0); (first | refine Nc ?_ | refine Nd ?_)) | refine Oa ?_ | refine Ob ?_ | ((first | refine Ga (fun h => ?_) (fun h => ?_) | refine AD.gsplit rfl rfl (fun h => ?_) (fun h => ?_)) <;> try (exfalso; omega; done)) | (first | refine AL.gsplitB rfl rfl (fun h => ?_) (fun h => ?_) | refine AD.gsplitB rfl rfl (fun h => ?_) (fun h => ?_)) | refine Fa ?_ | refine Qb ?_ | refine Qc ?_ | refine Qd ?_ | refine Fb ?_ | refine Qe ?_ | refine Wa ?_ | refine Wb ?_ | (refine AW.ite rfl (fun h => ?_) (fun h => ?_) <;> try (exfalso; omega; done)) | refine AW.cond _ rfl (fun h => ?_) (fun h => ?_) | refine Qf ?_ | refine Qg ?_ | refine Qh ?_ | refine Qi ?_ | refine Xa ?_ | refine Xb ?_ | refine Xc ?_ | refine Xd ?_ | refine Fc ?_)
    refine Ya ?_
    (apply Le.headZ (hs := []) [] rfl)
    all_goals (try dsimp only [srcs])
    (case' hfr => (repeat' (first | refine La ?_ ?_ | exact Lc | refine Lo ?_ | refine ⟨⟨_, rfl, ?_⟩, ?_⟩ | refine ObA.box ?_ | refine ObA.frE ?_ | refine ObA.dataE ?_ | refine ARs.agg ?_ | refine ARs.tup ?_ | refine AR.b ?_ | refine AR.iE ?_ | refine AR.e ?_ | refine AR.clo' ARs.nil ?_)))
    all_goals (first | exact Ld | exact trivial | (rfl))
/-! ### Repairs -/
def repS (m n : Nat) (xs : List Pl) (k : Nat) (f : Nat → Nat → Int) (e : Nat) : Nat → Nat → Int := fun a b => if a = k ∧ b = e then max (f k e) (alT (tabF m n f) (k + 1) e xs) else f a b
def repRow (m n : Nat) (xs : List Pl) (k : Nat) (f : Nat → Nat → Int) (l : List Nat) : Nat → Nat → Int := l.foldl (repS m n xs k) f
def repAll (m n : Nat) (xs : List Pl) (ord : List Nat) (f : Nat → Nat → Int) : Nat → Nat → Nat → Int
  | 0 => f
  | K + 1 => repRow m n xs K (repAll m n xs ord f K) ord
def bndF (f : Nat → Nat → Int) (B : Int) : Prop := ∀ a b, 0 ≤ f a b ∧ f a b ≤ B
theorem tabF_bnd {m n : Nat} {f : Nat → Nat → Int} {B : Int} (hB : 0 ≤ B) (h : bndF f B) (i j : Nat) : 0 ≤ entN (tabF m n f) i j ∧ entN (tabF m n f) i j ≤ B := by
  by_cases hi : i < m
  · by_cases hj : j < n
    · rw [tabF_ent hi hj]; exact h i j
    · unfold entN
      rw [tabF_get hi, Option.getD_some, List.getElem?_eq_none (by rw [rowF_len]; omega)]; exact ⟨Int.le_refl _, hB⟩
  · unfold entN
    rw [show (tabF m n f)[i]? = none from List.getElem?_eq_none (by rw [tabF_len]; omega)]; exact ⟨Int.le_refl _, by simpa using hB⟩
theorem repS_le {m n k e : Nat} {xs : List Pl} {f : Nat → Nat → Int} {B : Int} (hB : 0 ≤ B) (hv : ∀ p ∈ xs, okPl n p) (h : bndF f B) : bndF (repS m n xs k f e) (B + 10000) := fun a b => by
  unfold repS
  have h1 := h a b
  have h2 := h k e
  have h3 := alT_le (n := n) (t := tabF m n f) (r := k + 1) (e := e) (xs := xs) hB (fun i j => (tabF_bnd hB h i j).2) hv
  split <;> omega
theorem repRow_le {m n k : Nat} {xs : List Pl} (hv : ∀ p ∈ xs, okPl n p) : ∀ {l : List Nat} {f : Nat → Nat → Int} {B : Int}, 0 ≤ B → bndF f B → bndF (repRow m n xs k f l) (B + 10000 * (l.length : Int))
  | [], f, B, _, h => by simpa [repRow] using h
  | e :: l, f, B, hB, h => by
    have h1 := repS_le (m := m) (k := k) (e := e) hB hv h
    have h2 := repRow_le (k := k) (m := m) hv (l := l) (B := B + 10000) (by omega) h1
    have h3 : repRow m n xs k f (e :: l) = repRow m n xs k (repS m n xs k f e) l := rfl
    rw [h3]
    intro a b
    have := h2 a b
    simp only [List.length_cons]
    omega
theorem repAll_le {m n : Nat} {xs : List Pl} {ord : List Nat} {f : Nat → Nat → Int} (hv : ∀ p ∈ xs, okPl n p) (ho : ord.length ≤ 10) (h : bndF f 1000000) : ∀ K, bndF (repAll m n xs ord f K) (1000000 + 100000 * (K : Int))
  | 0 => by simpa [repAll] using h
  | K + 1 => by
    have h1 := repAll_le (m := m) hv ho h K
    have h2 := repRow_le (m := m) (k := K) hv (l := ord) (by omega) h1
    intro a b
    have := h2 a b
    simp only [repAll]
    omega
theorem repRow_step {m n k J e : Nat} {xs : List Pl} {f : Nat → Nat → Int} {ord : List Nat} (h : ord[J]? = some e) : repRow m n xs k f (ord.take (J + 1)) = repS m n xs k (repRow m n xs k f (ord.take J)) e := take_fold h
theorem repRow_bnd {m n k J : Nat} {xs : List Pl} {ord : List Nat} {f : Nat → Nat → Int} (hv : ∀ p ∈ xs, okPl n p) (ho : ord.length ≤ 10) (h : bndF f 1000000) (hk : k ≤ 50) : bndF (repRow m n xs k (repAll m n xs ord f k) (ord.take J)) 10000000 := fun a b => by
  have h1 := repAll_le (m := m) hv ho h k
  have h2 := repRow_le (m := m) (k := k) hv (l := ord.take J) (by omega) h1 a b
  have h3 : (ord.take J).length ≤ 10 := by rw [List.length_take]; omega
  omega
theorem bnd_T {m n : Nat} {f : Nat → Nat → Int} (h : bndF f 10000000) : bndT (tabF m n f) := fun i j => by have := tabF_bnd (m := m) (n := n) (by omega) h i j; omega
theorem tabF_row2 {m n : Nat} {f : Nat → Nat → Int} : ∀ r ∈ tabF m n f, r.length = n := tabF_rc.r
/-- The table that RepairTable makes. -/
def rpTab (ev : Int) (xs : List Pl) (t : List (List Int)) : List (List Int) := tabF t.length ev.toNat (repAll t.length ev.toNat xs ((ordR ev.toNat xs).getD []) (entN t) t.length)
def rpC (ev : Int) (xs : List Pl) (t : List (List Int)) : Int := if goodI ev xs t = 0 then (if dueB ev (rpTab ev xs t) = true then 0 else 3) else goodI ev xs t
def rpOut (ev : Int) (xs : List Pl) (t : List (List Int)) : List (List Int) := if rpC ev xs t = 0 then rpTab ev xs t else []
theorem cN_get {ord : List Nat} {J e : Nat} (h : ord[J]? = some e) : (IR (cN ord))[((J : Nat) : Int).toNat]? = some [DI (e : Int)] := IR_get (by simp [h])
set_option maxHeartbeats 2000000 in
theorem sRepairTableO_ac (ev : Int) (xs : List Pl) (t : List (List Int)) (hx : xs.length ≤ 100000000) (ht : t.length ≤ 100000000) (hr : ∀ r ∈ t, r.length ≤ 100000000) : AC Try.prog 58 [grD ev xs, TL t] H0 (.tup [own1 1 (rpOut ev xs t).length, I (rpC ev xs t)]) (hpM 1 (TR (rpOut ev xs t))) := by
  have hc := l26Code_ac ev xs t true hx ht hr
  rw [Bool.true_and] at hc
  by_cases h0 : goodI ev xs t = 0
  · obtain ⟨n, rfl, h1, h2, h3, h4, h5, h6⟩ := code_ok h0
    have hmm : t.length ≤ 50 := (dueB_ok h5).2.1
    have hrc := (dueB_ok h5).1
    rw [liveB_ord h4] at h6
    obtain ⟨ord, hord⟩ := Option.isSome_iff_exists.1 h6
    obtain ⟨hol, _, _⟩ := ord_idx hord
    have holt : ∀ e ∈ ord, e < n := (ordF_some OrdOk.nil hord).1.lt
    have hbf : bndF (entN t) 1000000 := (dueB_ok h5).2.2
    have hO := l12Order_ac n xs ord h2 hx h4 hord
    have hW := l02Own_ac t (by omega) hr
    have hrp : rpTab n xs t = tabF t.length n (repAll t.length n xs ord (entN t) t.length) := by unfold rpTab; rw [Int.toNat_natCast, hord]; rfl
    unfold rpOut rpC
    rw [if_pos h0, hrp]
    rw [show codeI n xs (dueB n t) = 0 from h0] at hc
    have hD1 := l22Due_ac n xs (tabF t.length n (repAll t.length n xs ord (entN t) t.length)) (by rw [tabF_len]; omega) (fun r hr => by rw [tabF_row2 r hr]; omega)
    rw [show (List.all (tabF t.length n (repAll t.length n xs ord (entN t) t.length)) (fun r => decide ((r.length : Int) = (n : Int)) && wiB r 10 0 1000000) && decide (((tabF t.length n (repAll t.length n xs ord (entN t) t.length)).length : Int) ≤ 50)) = dueB n (tabF t.length n (repAll t.length n xs ord (entN t) t.length)) from rfl] at hD1
    generalize hm : t.length = m at hmm hrc hW hD1
    have hcl : (IR (cN ord)).length = n := by simp [hol]
    have hal : (TR (tabF m n (repAll m n xs ord (entN t) m))).length = m := by rw [TR_len, tabF_len]
    refine AC.of_body 0 Try.func58 rfl (fun l h => absurd rfl h) (fun C hC => ?_)
    have hD : ∀ l, ¬ C.D0 l := fun l h => (hC l).1 h rfl
    simp only [startFr, Try.ntmps58, List.length_cons, List.length_nil, Nat.reduceAdd, Nat.reduceSub, List.replicate_succ, List.replicate_zero, List.cons_append, List.nil_append]
    repeat' (first | refine Qa ?_ | ((first | apply Ba | (apply Bb; (· rfl); (· rfl)) | (apply Bc; (· exact nxE)) | (apply Bd; (· rfl); (· rfl); (· exact nxE))); (· first | exact Kz rfl rfl (hc) (Aa (Ad (Ad An)) (Ad (Ad An))) | exact Kz rfl rfl (hO) (Aa (Ad (Ad An)) An) | exact Tb rfl rfl (hW) (Sd Sn) | exact Ok.pe); (first | refine Na ?_ | refine Nb ?_)) | ((first | apply Ca | (apply Cb; (· exact nxE))); (· first | exact Tb rfl rfl (hW) (Sd Sn) | exact Ok.e0); (first | refine Nc ?_ | refine Nd ?_)) | refine Oa ?_ | refine Ob ?_ | ((first | refine Ga (fun h => ?_) (fun h => ?_) | refine AD.gsplit rfl rfl (fun h => ?_) (fun h => ?_)) <;> try (exfalso; omega; done)) | (first | refine AL.gsplitB rfl rfl (fun h => ?_) (fun h => ?_) | refine AD.gsplitB rfl rfl (fun h => ?_) (fun h => ?_)) | refine Fa ?_ | refine Qb ?_ | refine Qc ?_ | refine Qd ?_ | refine Fb ?_ | refine Qe ?_ | refine Wa ?_ | refine Wb ?_ | (refine AW.ite rfl (fun h => ?_) (fun h => ?_) <;> try (exfalso; omega; done)) | refine AW.cond _ rfl (fun h => ?_) (fun h => ?_) | refine Qf ?_ | refine Qg ?_ | refine Qh ?_ | refine Qi ?_ | refine Xa ?_ | refine Xb ?_ | refine Xc ?_ | refine Xd ?_ | refine Fc ?_)
    refine AW.loop (X := {k : Nat // k ≤ m}) (fun k => ⟨[Oo, Oo, Bx 2 0, Oo, Oo, Oo, Oo, IL (cN ord), .own 1 ⟨1, []⟩ 0 m, I (((k.1 : Nat) : Nat) + 1), Oo, Oo, Oo, Oo, Oo, Oo, Oo, Oo, Oo, Oo, Oo, Oo, Oo, Oo, Oo, Oo, Oo, Oo, Oo, Oo, Oo, Oo, Oo, Oo, Oo, Oo, Oo, Oo, Oo, Oo, Oo, Oo, Oo, Oo, Oo, Oo, Oo, Oo, Oo, Oo, Oo, Oo, Oo, Oo, Oo, Oo, Oo, Oo, Oo, Oo, Oo, Oo, Oo, Oo, Oo, Oo, Oo, Oo, Oo, Oo, Oo, Oo, Oo, Oo], heapX [(⟨0, []⟩, ⟨0, []⟩, ⟨2, [[I n, PL xs]]⟩)] [mi1 ⟨1, []⟩ (TR (tabF m n (repAll m n xs ord (entN t) k.1)))], 900⟩) (fun k => m - k.1) ⟨0, Nat.zero_le _⟩ ?_ (fun k => ?_)
    ·
      (apply Le.headG [_] [{ l := ⟨1, []⟩, k := 1, R := TR (tabF m n (repAll m n xs ord (entN t) 0)), src := ⟨13, [0]⟩, base := ⟨13, [0]⟩ }] (fun _ => False))
      (case' hlen => rfl)
      (case' hms => rfl)
      all_goals (try dsimp only [srcs])
      (case' hfr | hob => (repeat' (first | refine La ?_ ?_ | exact Lc | refine Lo ?_ | refine ⟨⟨_, rfl, ?_⟩, ?_⟩ | refine ObA.box ?_ | refine ObA.frE ?_ | refine ObA.dataE ?_ | refine ARs.agg ?_ | refine ARs.tup ?_ | refine AR.b ?_ | refine AR.iE ?_ | refine AR.e ?_ | refine AR.clo' ARs.nil ?_)))
      (case' hok => first | exact ⟨by rw [show repAll m n xs ord (entN t) 0 = entN t from rfl, tabF_self hrc]; exact MI.ok_same rfl (Cg), trivial⟩ | exact trivial)
      (case' hN => rfl)
      (case' hS => rfl)
      all_goals (first | exact Ld | (rfl))
    obtain ⟨i, hi⟩ := k
    simp only
    by_cases hlt : i < m
    ·
      repeat' (first | refine Qa ?_ | ((first | apply Ba | (apply Bb; (· rfl); (· rfl)) | (apply Bc; (· exact nxE)) | (apply Bd; (· rfl); (· rfl); (· exact nxE))); (· first | exact Ok.pe); (first | refine Na ?_ | refine Nb ?_)) | ((first | apply Ca | (apply Cb; (· exact nxE))); (· first | exact Ok.e0); (first | refine Nc ?_ | refine Nd ?_)) | refine Oa ?_ | refine Ob ?_ | ((first | refine Ga (fun h => ?_) (fun h => ?_) | refine AD.gsplit rfl rfl (fun h => ?_) (fun h => ?_)) <;> try (exfalso; omega; done)) | (first | refine AL.gsplitB rfl rfl (fun h => ?_) (fun h => ?_) | refine AD.gsplitB rfl rfl (fun h => ?_) (fun h => ?_)) | refine Fa ?_ | refine Qb ?_ | refine Qc ?_ | refine Qd ?_ | refine Fb ?_ | refine Qe ?_ | refine Wa ?_ | refine Wb ?_ | (refine AW.ite rfl (fun h => ?_) (fun h => ?_) <;> try (exfalso; omega; done)) | refine AW.cond _ rfl (fun h => ?_) (fun h => ?_) | refine Qf ?_ | refine Qg ?_ | refine Qh ?_ | refine Qi ?_ | refine Xa ?_ | refine Xb ?_ | refine Xc ?_ | refine Xd ?_ | refine Fc ?_)
      refine AW.loop (X := {k : Nat // k ≤ n}) (fun k => ⟨[Oo, Oo, Bx 2 0, Oo, Oo, Oo, Oo, IL (cN ord), .own 1 ⟨1, []⟩ 0 m, I (i + 1), I (k.1 : Nat), Oo, Oo, Oo, Oo, Oo, Oo, Oo, Oo, Oo, Oo, Oo, Oo, Oo, Oo, Oo, Oo, Oo, Oo, Oo, Oo, Oo, Oo, Oo, Oo, Oo, Oo, Oo, Oo, Oo, Oo, Oo, Oo, Oo, Oo, Oo, Oo, Oo, Oo, Oo, Oo, Oo, Oo, Oo, Oo, Oo, Oo, Oo, Oo, Oo, Oo, Oo, Oo, Oo, Oo, Oo, Oo, Oo, Oo, Oo, Oo, Oo, Oo, Oo], heapX [(⟨0, []⟩, ⟨0, []⟩, ⟨2, [[I n, PL xs]]⟩)] [mi1 ⟨1, []⟩ (TR (tabF m n (repRow m n xs i (repAll m n xs ord (entN t) i) (ord.take k.1))))], 900⟩) (fun k => n - k.1) ⟨0, Nat.zero_le _⟩ ?_ (fun k => ?_)
      ·
        (apply Le.headG [_] [mi1 ⟨1, []⟩ (TR (tabF m n (repRow m n xs i (repAll m n xs ord (entN t) i) (ord.take 0))))] (fun _ => False))
        (case' hlen => rfl)
        (case' hms => rfl)
        all_goals (try dsimp only [srcs])
        (case' hfr | hob => (repeat' (first | refine La ?_ ?_ | exact Lc | refine Lo ?_ | refine ⟨⟨_, rfl, ?_⟩, ?_⟩ | refine ObA.box ?_ | refine ObA.frE ?_ | refine ObA.dataE ?_ | refine ARs.agg ?_ | refine ARs.tup ?_ | refine AR.b ?_ | refine AR.iE ?_ | refine AR.e ?_ | refine AR.clo' ARs.nil ?_)))
        (case' hok => first | exact ⟨MI.ok_same rfl (Cg), trivial⟩ | exact trivial)
        (case' hN => rfl)
        (case' hS => rfl)
        all_goals (first | exact Ld | (rfl))
      obtain ⟨j, hj⟩ := k
      simp only
      by_cases hlt2 : j < n
      ·
        obtain ⟨e, he⟩ : ∃ e, ord[j]? = some e := ⟨ord[j], by simp⟩
        have hen := holt e (List.mem_of_getElem? he)
        have hbd := repRow_bnd (m := m) (J := j) h4 (by omega : ord.length ≤ 10) hbf (show i ≤ 50 by omega)
        have hstep := repRow_step (m := m) (n := n) (k := i) (xs := xs) (f := repAll m n xs ord (entN t) i) he
        generalize hF : repRow m n xs i (repAll m n xs ord (entN t) i) (ord.take j) = F at hbd hstep ⊢
        have htF : (TR (tabF m n F)).length = m := by rw [TR_len, tabF_len]
        have hA := l26Allowed_ac n m xs (tabF m n F) (i + 1) e hx h4 tabF_rc (bnd_T hbd) (by omega) (by omega)
        rw [show (((i + 1 : Nat) : Int)) = (i : Int) + 1 by omega] at hA
        have hrw := TRF_get (n := n) (f := F) hlt
        have hrl : (IR (rowF n (F i))).length = n := by rw [IR_len, rowF_len]
        have hcell : (IR (rowF n (F i)))[e]? = some [DI (F i e)] := IRF_get hen
        have hce := cN_get he
        repeat' (first | refine Qa ?_ | ((first | apply Ba | (apply Bb; (· rfl); (· rfl)) | (apply Bc; (· exact nxE)) | (apply Bd; (· rfl); (· rfl); (· exact nxE))); (· first | exact Ez rfl rfl (hA) (Sa (Sd (Sd Sn)) (Sm (Sd (Sd Sn)))) | exact Ok.ldTj rfl rfl rfl hrw hrl (by omega) | exact Ok.ld1 rfl rfl (congrArg (Option.map (dobj 1)) hrw) hcell | exact Ok.st1 rfl rfl (congrArg (Option.map (dobj 1)) hrw) (by rw [hrl]; exact hen) (by rw [hcell]; rfl) rfl rfl IR_set | exact Ok.pe); (first | refine Na ?_ | refine Nb ?_)) | ((first | apply Ca | (apply Cb; (· exact nxE))); (· first | exact Ok.st1 rfl rfl (congrArg (Option.map (dobj 1)) hrw) (by rw [hrl]; exact hen) (by rw [hcell]; rfl) rfl rfl IR_set | exact Ok.e0); (first | refine Nc ?_ | refine Nd ?_)) | refine Oa ?_ | refine Ob ?_ | ((first | refine Ga (fun h => ?_) (fun h => ?_) | refine AD.gsplit rfl rfl (fun h => ?_) (fun h => ?_)) <;> try (exfalso; omega; done)) | (first | refine AL.gsplitB rfl rfl (fun h => ?_) (fun h => ?_) | refine AD.gsplitB rfl rfl (fun h => ?_) (fun h => ?_)) | refine Fa ?_ | refine Qb ?_ | refine Qc ?_ | refine Qd ?_ | refine Fb ?_ | refine Qe ?_ | refine Wa ?_ | refine Wb ?_ | (refine AW.ite rfl (fun h => ?_) (fun h => ?_) <;> try (exfalso; omega; done)) | refine AW.cond _ rfl (fun h => ?_) (fun h => ?_) | refine Qf ?_ | refine Qg ?_ | refine Qh ?_ | refine Qi ?_ | refine Xa ?_ | refine Xb ?_ | refine Xc ?_ | refine Xd ?_ | refine Fc ?_)
        refine ⟨⟨j + 1, by omega⟩, ?_, by simp only; omega⟩
        (apply Le.headG [_] [mi1 ⟨1, []⟩ (TR (tabF m n (repRow m n xs i (repAll m n xs ord (entN t) i) (ord.take (j + 1)))))] (fun _ => False))
        (case' hlen => rfl)
        (case' hms => rfl)
        all_goals (try dsimp only [srcs])
        (case' hfr | hob => (repeat' (first | refine La ?_ ?_ | exact Lc | refine Lo ?_ | refine ⟨⟨_, rfl, ?_⟩, ?_⟩ | refine ObA.box ?_ | refine ObA.frE ?_ | refine ObA.dataE ?_ | refine ARs.agg ?_ | refine ARs.tup ?_ | refine AR.b ?_ | refine AR.iE ?_ | refine AR.e ?_ | refine AR.clo' ARs.nil ?_)))
        (case' hok => first | exact ⟨by rw [hstep]; exact MI.ok_row (tabF_set (fun a b _ _ => rfl)) hrw (by simp) rfl (Cg), trivial⟩ | exact trivial)
        (case' hN => rfl)
        (case' hS => rfl)
        all_goals (first | exact Ld | (rfl))
      ·
        have hjn : j = n := by omega
        subst hjn
        repeat' (first | refine Qa ?_ | ((first | apply Ba | (apply Bb; (· rfl); (· rfl)) | (apply Bc; (· exact nxE)) | (apply Bd; (· rfl); (· rfl); (· exact nxE))); (· first | exact Ok.pe); (first | refine Na ?_ | refine Nb ?_)) | ((first | apply Ca | (apply Cb; (· exact nxE))); (· first | exact Ok.e0); (first | refine Nc ?_ | refine Nd ?_)) | refine Oa ?_ | refine Ob ?_ | ((first | refine Ga (fun h => ?_) (fun h => ?_) | refine AD.gsplit rfl rfl (fun h => ?_) (fun h => ?_)) <;> try (exfalso; omega; done)) | (first | refine AL.gsplitB rfl rfl (fun h => ?_) (fun h => ?_) | refine AD.gsplitB rfl rfl (fun h => ?_) (fun h => ?_)) | refine Fa ?_ | refine Qb ?_ | refine Qc ?_ | refine Qd ?_ | refine Fb ?_ | refine Qe ?_ | refine Wa ?_ | refine Wb ?_ | (refine AW.ite rfl (fun h => ?_) (fun h => ?_) <;> try (exfalso; omega; done)) | refine AW.cond _ rfl (fun h => ?_) (fun h => ?_) | refine Qf ?_ | refine Qg ?_ | refine Qh ?_ | refine Qi ?_ | refine Xa ?_ | refine Xb ?_ | refine Xc ?_ | refine Xd ?_ | refine Fc ?_)
        refine ⟨⟨i + 1, by omega⟩, ?_, by simp only; omega⟩
        (apply Le.headG [_] [mi1 ⟨1, []⟩ (TR (tabF m j (repAll m j xs ord (entN t) (i + 1))))] (fun _ => False))
        (case' hlen => rfl)
        (case' hms => rfl)
        all_goals (try dsimp only [srcs])
        (case' hfr | hob => (repeat' (first | refine La ?_ ?_ | exact Lc | refine Lo ?_ | refine ⟨⟨_, rfl, ?_⟩, ?_⟩ | refine ObA.box ?_ | refine ObA.frE ?_ | refine ObA.dataE ?_ | refine ARs.agg ?_ | refine ARs.tup ?_ | refine AR.b ?_ | refine AR.iE ?_ | refine AR.e ?_ | refine AR.clo' ARs.nil ?_)))
        (case' hok => first | exact ⟨by rw [show repAll m j xs ord (entN t) (i + 1) = repRow m j xs i (repAll m j xs ord (entN t) i) (ord.take j) by rw [List.take_of_length_le (by omega)]; rfl]; exact MI.ok_same rfl (Cg), trivial⟩ | exact trivial)
        (case' hN => rfl)
        (case' hS => rfl)
        all_goals (first | exact Ld | (rfl))
    ·
      have him : i = m := by omega
      subst him
      cases hdu : dueB n (tabF i n (repAll i n xs ord (entN t) i))
      ·
        rw [hdu] at hD1
        repeat' (first | refine Qa ?_ | ((first | apply Ba | (apply Bb; (· rfl); (· rfl)) | (apply Bc; (· exact nxE)) | (apply Bd; (· rfl); (· rfl); (· exact nxE))); (· first | exact Ez rfl rfl (hD1) (Sa (Sd (Sd Sn)) (Sm Sn)) | exact Ok.pe); (first | refine Na ?_ | refine Nb ?_)) | ((first | apply Ca | (apply Cb; (· exact nxE))); (· first | exact Ok.e0); (first | refine Nc ?_ | refine Nd ?_)) | refine Oa ?_ | refine Ob ?_ | ((first | refine Ga (fun h => ?_) (fun h => ?_) | refine AD.gsplit rfl rfl (fun h => ?_) (fun h => ?_)) <;> try (exfalso; omega; done)) | (first | refine AL.gsplitB rfl rfl (fun h => ?_) (fun h => ?_) | refine AD.gsplitB rfl rfl (fun h => ?_) (fun h => ?_)) | refine Fa ?_ | refine Qb ?_ | refine Qc ?_ | refine Qd ?_ | refine Fb ?_ | refine Qe ?_ | refine Wa ?_ | refine Wb ?_ | (refine AW.ite rfl (fun h => ?_) (fun h => ?_) <;> try (exfalso; omega; done)) | refine AW.cond _ rfl (fun h => ?_) (fun h => ?_) | refine Qf ?_ | refine Qg ?_ | refine Qh ?_ | refine Qi ?_ | refine Xa ?_ | refine Xb ?_ | refine Xc ?_ | refine Xd ?_ | refine Fc ?_)
        rw [if_neg (by simp), if_neg (by decide), show TR ([] : List (List Int)) = [] from rfl, hpM_nil]
        exact end2nil (.inl rfl) rfl (rT rfl) (rT rfl) hD
      ·
        rw [hdu] at hD1
        rw [if_pos rfl, if_pos rfl]
        repeat' (first | refine Qa ?_ | ((first | apply Ba | (apply Bb; (· rfl); (· rfl)) | (apply Bc; (· exact nxE)) | (apply Bd; (· rfl); (· rfl); (· exact nxE))); (· first | exact Ez rfl rfl (hD1) (Sa (Sd (Sd Sn)) (Sm Sn)) | exact Ok.pe); (first | refine Na ?_ | refine Nb ?_)) | ((first | apply Ca | (apply Cb; (· exact nxE))); (· first | exact Ok.e0); (first | refine Nc ?_ | refine Nd ?_)) | refine Oa ?_ | refine Ob ?_ | ((first | refine Ga (fun h => ?_) (fun h => ?_) | refine AD.gsplit rfl rfl (fun h => ?_) (fun h => ?_)) <;> try (exfalso; omega; done)) | (first | refine AL.gsplitB rfl rfl (fun h => ?_) (fun h => ?_) | refine AD.gsplitB rfl rfl (fun h => ?_) (fun h => ?_)) | refine Fa ?_ | refine Qb ?_ | refine Qc ?_ | refine Qd ?_ | refine Fb ?_ | refine Qe ?_ | refine Wa ?_ | refine Wb ?_ | (refine AW.ite rfl (fun h => ?_) (fun h => ?_) <;> try (exfalso; omega; done)) | refine AW.cond _ rfl (fun h => ?_) (fun h => ?_) | refine Qf ?_ | refine Qg ?_ | refine Qh ?_ | refine Qi ?_ | refine Xa ?_ | refine Xb ?_ | refine Xc ?_ | refine Xd ?_ | refine Fc ?_)
        refine Yb ?_
        (apply Le.headG [] [{ l := ⟨0, []⟩, k := 1, R := TR (tabF i n (repAll i n xs ord (entN t) i)), src := ⟨1, []⟩, base := ⟨1, []⟩ }] (fun _ => False))
        (case' hlen => rfl)
        (case' hms => rfl)
        all_goals (try dsimp only [srcs])
        (case' hfr | hob => (repeat' (first | refine La ?_ ?_ | exact Lc | refine Lo ?_ | refine ⟨⟨_, rfl, ?_⟩, ?_⟩ | refine ObA.box ?_ | refine ObA.frE ?_ | refine ObA.dataE ?_ | refine ARs.agg ?_ | refine ARs.tup ?_ | refine AR.b ?_ | refine AR.iE ?_ | refine AR.e ?_ | refine AR.clo' ARs.nil ?_)))
        (case' hok => first | exact ⟨MI.ok_same rfl (Cg), trivial⟩ | exact trivial)
        (case' hN => rfl)
        (case' hS => rfl)
        all_goals (first | exact Ld | ((simp [tabF_len]; done)))
  · have hC : rpC ev xs t = goodI ev xs t := by unfold rpC; rw [if_neg h0]
    unfold rpOut
    rw [hC, if_neg h0]
    rw [show codeI ev xs (dueB ev t) = goodI ev xs t from rfl] at hc
    rw [show TR ([] : List (List Int)) = [] from rfl, hpM_nil]
    refine AC.of_body 0 Try.func58 rfl (fun l h => absurd rfl h) (fun C hC => ?_)
    have hD : ∀ l, ¬ C.D0 l := fun l h => (hC l).1 h rfl
    simp only [startFr, Try.ntmps58, List.length_cons, List.length_nil, Nat.reduceAdd, Nat.reduceSub, List.replicate_succ, List.replicate_zero, List.cons_append, List.nil_append]
    repeat' (first | refine Qa ?_ | ((first | apply Ba | (apply Bb; (· rfl); (· rfl)) | (apply Bc; (· exact nxE)) | (apply Bd; (· rfl); (· rfl); (· exact nxE))); (· first | exact Kz rfl rfl (hc) (Aa (Ad (Ad An)) (Ad (Ad An))) | exact Ok.pe); (first | refine Na ?_ | refine Nb ?_)) | ((first | apply Ca | (apply Cb; (· exact nxE))); (· first | exact Ok.e0); (first | refine Nc ?_ | refine Nd ?_)) | refine Oa ?_ | refine Ob ?_ | ((first | refine Ga (fun h => ?_) (fun h => ?_) | refine AD.gsplit rfl rfl (fun h => ?_) (fun h => ?_)) <;> try (exfalso; omega; done)) | (first | refine AL.gsplitB rfl rfl (fun h => ?_) (fun h => ?_) | refine AD.gsplitB rfl rfl (fun h => ?_) (fun h => ?_)) | refine Fa ?_ | refine Qb ?_ | refine Qc ?_ | refine Qd ?_ | refine Fb ?_ | refine Qe ?_ | refine Wa ?_ | refine Wb ?_ | (refine AW.ite rfl (fun h => ?_) (fun h => ?_) <;> try (exfalso; omega; done)) | refine AW.cond _ rfl (fun h => ?_) (fun h => ?_) | refine Qf ?_ | refine Qg ?_ | refine Qh ?_ | refine Qi ?_ | refine Xa ?_ | refine Xb ?_ | refine Xc ?_ | refine Xd ?_ | refine Fc ?_)
    exact end2nil (.inl rfl) rfl (rT rfl) (rT rfl) hD
end Go.Proofs.Ytegfjedklebbfaa
end

section
namespace Go.Proofs.Ytegfjedklebbfaa
set_option linter.unusedSimpArgs false
set_option linter.unusedVariables false
open Go Go.RowKit
attribute [local irreducible] AL AD AW OpOk Le AC thenQ blockQ EndQ

end Go.Proofs.Ytegfjedklebbfaa
end

section
namespace Go.Proofs.Ytegfjedklebbfaa
set_option linter.unusedSimpArgs false
set_option linter.unusedVariables false
open Go Go.RowKit
attribute [local irreducible] AL AD AW OpOk Le AC thenQ blockQ EndQ

end Go.Proofs.Ytegfjedklebbfaa
end

section
namespace Go.Proofs.Ytegfjedklebbfaa
set_option linter.unusedSimpArgs false
set_option linter.unusedVariables false
open Go Go.RowKit
attribute [local irreducible] AL AD AW OpOk Le AC thenQ blockQ EndQ

noncomputable def perL (f : Nat → Nat) (z : Nat) : Nat := open Classical in if h : ∃ L, Per f z L then Classical.choose h else 0
theorem perL_eq {f : Nat → Nat} {z L : Nat} (h : Per f z L) : perL f z = L := by
  have he : ∃ L, Per f z L := ⟨L, h⟩
  unfold perL
  rw [dif_pos he]
  exact Per.uniq (Classical.choose_spec he) h
abbrev predF (xs : List Pl) (y : Nat → Nat) : Nat → Nat := fun v => plF xs (y v)
noncomputable def btL (xs : List Pl) (n : Nat) (s : BF) : List Nat := (backC s.y (predF xs s.y) (iter (predF xs s.y) n s.last.toNat) (perL (predF xs s.y) (iter (predF xs s.y) n s.last.toNat))).reverse
theorem btL_eq {xs : List Pl} {n : Nat} {r : Int × Int} {s : BF} {v z L : Nat} (h : Found xs n r s v z L) : btL xs n s = (backC s.y (predF xs s.y) z L).reverse := by
  unfold btL
  rw [h.last, Int.toNat_natCast]
  have e : iter (predF xs s.y) n v = z := h.zv
  rw [e, perL_eq h.per]
/-- Before round q + 1. -/
structure BtSt (xs : List Pl) (n : Nat) (r : Int × Int) (q : Nat) (s : BF) : Prop where
  le : q ≤ n + 1
  run : bfRun xs r (n + 1) bf0 = bfRun xs r (n + 1 - q) s
  bnd : ∀ v, 0 ≤ s.b v ∧ s.b v ≤ 30000000 * (q : Int)
end Go.Proofs.Ytegfjedklebbfaa
end

section
namespace Go.Proofs.Ytegfjedklebbfaa
set_option linter.unusedSimpArgs false
set_option linter.unusedVariables false
open Go Go.RowKit
attribute [local irreducible] AL AD AW OpOk Le AC thenQ blockQ EndQ

structure CtSt (xs : List Pl) (r : Int × Int) : Prop where
  n1 : 0 ≤ r.1 ∧ r.1 ≤ 100000
  n2 : 0 < r.2 ∧ r.2 ≤ 50
  red : Int.gcd r.1 r.2 = 1
  walk : ∃ c u, c ≠ [] ∧ Wk xs u c u ∧ 0 ≤ wgt xs r.1 r.2 c
theorem CtSt.fin {n : Nat} {xs : List Pl} (hl : Live xs n) {r : Int × Int} (h : CtSt xs r) (hb : bfRun xs r (n + 1) bf0 = none) : Go.Proofs.Ytegfjedklebbfaa.maxR xs = r := by
  obtain ⟨c, u, h1, h2, h3⟩ := h.walk
  have hs := (bf_spec (n := n) (r := r) (fun i hi => by have := (hl.pl i hi).2.1; simp only [plT]; omega)).1 hb
  exact maxR_eq hl (MaxR.of_walk h.n2.1 h.red (fun c hc => hs c _ hc.wk) h1 h2 h3)
/-- A better circuit: the next fraction. -/
theorem CtSt.next {n : Nat} {xs : List Pl} (hl : Live xs n) (hn : n ≤ 10) {r : Int × Int} (h : CtSt xs r) {s : BF} (hb : bfRun xs r (n + 1) bf0 = some s) : ∃ c, btL xs n s = c ∧ 0 < c.length ∧ c.length ≤ n ∧ (∀ i ∈ c, i < xs.length) ∧ (0 ≤ sumD xs c ∧ sumD xs c ≤ 100000) ∧ (0 < sumT xs c ∧ sumT xs c ≤ 50) ∧ CtSt xs (redR (sumD xs c) (sumT xs c)) ∧ rank 1000 r < rank 1000 (redR (sumD xs c) (sumT xs c)) := by
  obtain ⟨v, z, L, hF⟩ := bf_found (n := n) (fun i hi => by have := (hl.pl i hi).2.1; simp only [plT]; omega) hb
  have hw : Wk xs (z : Nat) (backC s.y (predF xs s.y) z L).reverse (z : Nat) := by
    have := back_walk (xs := xs) (y := s.y) (z := z) (fun p hp => by
      obtain ⟨i, hi, rfl⟩ := List.getElem_of_mem hp
      have := hl.pl i hi
      simp only [plA, List.getElem?_eq_getElem hi, Option.getD_some] at this
      exact ⟨this.1.1, this.2.1.1⟩) hF.ok L
    have e : iter (predF xs s.y) L z = z := hF.per.back
    rw [show iter (fun v => plF xs (s.y v)) L z = z from e] at this
    exact this
  have hlen : (backC s.y (predF xs s.y) z L).reverse.length = L := by simp [backC]
  have hpos := hF.pos
  rw [← wgt_rev] at hpos
  have hpL := hF.per.pos
  have hLn := hF.Ln
  refine ⟨_, rfl, ?_⟩
  rw [btL_eq hF]
  have hpos2 : 0 < wgt xs r.1 r.2 (backC s.y (predF xs s.y) z L).reverse := hpos
  generalize (backC s.y (predF xs s.y) z L).reverse = c at *
  have hne : c ≠ [] := by intro e; rw [e] at hlen; simp at hlen; omega
  have hk := hl.tok c _ hne hw
  have hsb := sum_bnd (fun i hi => (hl.pl i hi).2.2) hw.lt
  have hrd := hl.red hn (c := c) (by omega) hw.lt hk
  have h1 := h.n1
  have h2 := h.n2
  exact ⟨by omega, by omega, hw.lt, by omega, by omega, ⟨hrd.1, hrd.2.1, hrd.2.2, c, _, hne, hw, by rw [wgt_redR hk]; exact Int.le_refl _⟩, rank_redR (M := 1000) h2.1 (by omega) hk (by omega) hpos2⟩
noncomputable def btV (xs : List Pl) (n new : Nat) : Option BF → AV
  | none => nilS
  | some s => .own 1 ⟨new, [0]⟩ 0 (btL xs n s).length
noncomputable def btW (xs : List Pl) (n new : Nat) : Option BF → List W
  | none => []
  | some s => [.one ⟨new, [0]⟩ (some (IO (cN (btL xs n s))))]
attribute [local irreducible] btV btW
end Go.Proofs.Ytegfjedklebbfaa
end

section
namespace Go.Proofs.Ytegfjedklebbfaa
set_option linter.unusedSimpArgs false
set_option linter.unusedVariables false
open Go Go.RowKit
attribute [local irreducible] AL AD AW OpOk Le AC thenQ blockQ EndQ

theorem Wk.same {xs ys : List Pl} (hl : ys.length = xs.length) (h : ∀ i, (plA ys i).f = (plA xs i).f ∧ (plA ys i).t = (plA xs i).t) : ∀ {c : List Nat} {u v : Int}, Wk xs u c v → Wk ys u c v
  | [], _, _, hw => hw
  | i :: c, u, v, ⟨h1, h2, h3⟩ => ⟨by omega, by rw [(h i).1]; exact h2, by rw [(h i).2]; exact Wk.same hl h h3⟩
theorem Circ.same {xs ys : List Pl} (hl : ys.length = xs.length) (h : ∀ i, (plA ys i).f = (plA xs i).f ∧ (plA ys i).t = (plA xs i).t) {c : List Nat} (hc : Circ xs c) : Circ ys c := by
  have e : (c.map fun i => (plA ys i).f) = c.map fun i => (plA xs i).f := List.map_congr_left fun i _ => (h i).1
  refine ⟨hc.ne, ?_, by rw [e]; exact hc.nd, fun i hi => ?_⟩
  · have := hc.wk.same hl h
    simp only [firstF] at this ⊢
    rw [(h (hdN c)).1]
    exact this
  · have := hc.mn i hi
    simp only [firstF] at this ⊢
    rw [(h (hdN c)).1, (h i).1]
    exact this
end Go.Proofs.Ytegfjedklebbfaa
end
