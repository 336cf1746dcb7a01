/-
  Walks in the abstract reading, part 12.
-/
import Derived.Test.YtegfjedklebbfaaKR7
import Derived.Test.YtegfjedklebbfaaKU8
section
namespace Go.Proofs.Ytegfjedklebbfaa
set_option linter.unusedSimpArgs false
set_option linter.unusedVariables false
open Go Go.RowKit
attribute [local irreducible] AL AD AW OpOk Le AC thenQ blockQ EndQ

theorem big_ac (code : List Int) (hl : code.length ≤ 9223372036854775807) : AC Try.prog 13 [.d (BD code)] H0 (Bo (decide (4096 < (code.length : Int)))) H0 := by
  refine AC.of_body 0 Try.func13 rfl (fun l h => absurd rfl h) (fun C hC => ?_)
  have hD : ∀ l, ¬ C.D0 l := fun l h => (hC l).1 h rfl
  simp only [startFr, Try.ntmps13, List.length_cons, List.length_nil, Nat.reduceAdd, Nat.reduceSub, List.replicate_succ, List.replicate_zero, List.cons_append, List.nil_append]
  repeat' (first | refine Qa ?_ | ((first | apply Ba | (apply Bb; (· rfl); (· rfl)) | (apply Bc; (· exact nxE)) | (apply Bd; (· rfl); (· rfl); (· exact nxE))); (· first | exact Ok.pe); (first | refine Na ?_ | refine Nb ?_)) | ((first | apply Ca | (apply Cb; (· exact nxE))); (· first | exact Ok.e0); (first | refine Nc ?_ | refine Nd ?_)) | refine Oa ?_ | refine Ob ?_ | ((first | refine Ga (fun h => ?_) (fun h => ?_) | refine AD.gsplit rfl rfl (fun h => ?_) (fun h => ?_)) <;> try (exfalso; omega; done)) | (first | refine AL.gsplitB rfl rfl (fun h => ?_) (fun h => ?_) | refine AD.gsplitB rfl rfl (fun h => ?_) (fun h => ?_)) | refine Fa ?_ | refine Qb ?_ | refine Qc ?_ | refine Qd ?_ | refine Fb ?_ | refine Qe ?_ | refine Wa ?_ | refine Wb ?_ | (refine AW.ite rfl (fun h => ?_) (fun h => ?_) <;> try (exfalso; omega; done)) | refine AW.cond _ rfl (fun h => ?_) (fun h => ?_) | refine Qf ?_ | refine Qg ?_ | refine Qh ?_ | refine Qi ?_ | refine Xa ?_ | refine Xb ?_ | refine Xc ?_ | refine Xd ?_ | refine Fc ?_)
  refine Ya ?_
  (apply Le.headZ (hs := []) [] rfl)
  all_goals (try dsimp only [srcs])
  (case' hfr => (repeat' (first | refine La ?_ ?_ | exact Lc | refine Lo ?_ | refine ⟨⟨_, rfl, ?_⟩, ?_⟩ | refine ObA.box ?_ | refine ObA.frE ?_ | refine ObA.dataE ?_ | refine ARs.agg ?_ | refine ARs.tup ?_ | refine AR.b ?_ | refine AR.iE ?_ | refine AR.e ?_ | refine AR.clo' ARs.nil ?_)))
  all_goals (first | exact Ld | exact trivial | (rfl))
set_option maxHeartbeats 1000000 in
theorem likeInts_refl (xs : List Int) (hn : xs.length ≤ 100000000) : AC Try.prog 36 [IL xs, IL xs] H0 (Bo true) H0 := by
  refine AC.of_body 0 Try.func36 rfl (fun l h => absurd rfl h) (fun C hC => ?_)
  have hD : ∀ l, ¬ C.D0 l := fun l h => (hC l).1 h rfl
  simp only [startFr, Try.ntmps36, List.length_cons, List.length_nil, Nat.reduceAdd, Nat.reduceSub, List.replicate_succ, List.replicate_zero, List.cons_append, List.nil_append]
  repeat' (first | refine Qa ?_ | ((first | apply Ba | (apply Bb; (· rfl); (· rfl)) | (apply Bc; (· exact nxE)) | (apply Bd; (· rfl); (· rfl); (· exact nxE))); (· first | exact Ok.pe); (first | refine Na ?_ | refine Nb ?_)) | ((first | apply Ca | (apply Cb; (· exact nxE))); (· first | exact Ok.e0); (first | refine Nc ?_ | refine Nd ?_)) | refine Oa ?_ | refine Ob ?_ | ((first | refine Ga (fun h => ?_) (fun h => ?_) | refine AD.gsplit rfl rfl (fun h => ?_) (fun h => ?_)) <;> try (exfalso; omega; done)) | (first | refine AL.gsplitB rfl rfl (fun h => ?_) (fun h => ?_) | refine AD.gsplitB rfl rfl (fun h => ?_) (fun h => ?_)) | refine Fa ?_ | refine Qb ?_ | refine Qc ?_ | refine Qd ?_ | refine Fb ?_ | refine Qe ?_ | refine Wa ?_ | refine Wb ?_ | (refine AW.ite rfl (fun h => ?_) (fun h => ?_) <;> try (exfalso; omega; done)) | refine AW.cond _ rfl (fun h => ?_) (fun h => ?_) | refine Qf ?_ | refine Qg ?_ | refine Qh ?_ | refine Qi ?_ | refine Xa ?_ | refine Xb ?_ | refine Xc ?_ | refine Xd ?_ | refine Fc ?_)
  refine AW.loop (X := {k : Nat // k ≤ xs.length}) (fun k => ⟨[IL xs, IL xs, Oo, Oo, Oo, I (k.1 : Nat), Oo, Oo, Oo, Oo, Oo, Oo, Oo, Oo, Oo, Oo, Oo, Oo, Oo, Oo, Oo, Oo, Oo, Oo, Oo, Oo], heapL [], 900⟩) (fun k => xs.length - k.1) ⟨0, Nat.zero_le _⟩ ?_ (fun k => ?_)
  ·
    (apply Le.headZ [] rfl)
    all_goals (try dsimp only [srcs])
    (case' hfr | hob => (repeat' (first | refine La ?_ ?_ | exact Lc | refine Lo ?_ | refine ⟨⟨_, rfl, ?_⟩, ?_⟩ | refine ObA.box ?_ | refine ObA.frE ?_ | refine ObA.dataE ?_ | refine ARs.agg ?_ | refine ARs.tup ?_ | refine AR.b ?_ | refine AR.iE ?_ | refine AR.e ?_ | refine AR.clo' ARs.nil ?_)))
    all_goals (first | (rfl) | exact Ld)
  obtain ⟨k, hk⟩ := k
  simp only
  by_cases hlt : k < xs.length
  · obtain ⟨x, hx⟩ : ∃ x, xs[k]? = some x := ⟨xs[k], by simp⟩
    have hrow := IR_get hx
    repeat' (first | refine Qa ?_ | ((first | apply Ba | (apply Bb; (· rfl); (· rfl)) | (apply Bc; (· exact nxE)) | (apply Bd; (· rfl); (· rfl); (· exact nxE))); (· first | exact Ok.pe); (first | refine Na ?_ | refine Nb ?_)) | ((first | apply Ca | (apply Cb; (· exact nxE))); (· first | exact Ok.e0); (first | refine Nc ?_ | refine Nd ?_)) | refine Oa ?_ | refine Ob ?_ | ((first | refine Ga (fun h => ?_) (fun h => ?_) | refine AD.gsplit rfl rfl (fun h => ?_) (fun h => ?_)) <;> try (exfalso; omega; done)) | (first | refine AL.gsplitB rfl rfl (fun h => ?_) (fun h => ?_) | refine AD.gsplitB rfl rfl (fun h => ?_) (fun h => ?_)) | refine Fa ?_ | refine Qb ?_ | refine Qc ?_ | refine Qd ?_ | refine Fb ?_ | refine Qe ?_ | refine Wa ?_ | refine Wb ?_ | (refine AW.ite rfl (fun h => ?_) (fun h => ?_) <;> try (exfalso; omega; done)) | refine AW.cond _ rfl (fun h => ?_) (fun h => ?_) | refine Qf ?_ | refine Qg ?_ | refine Qh ?_ | refine Qi ?_ | refine Xa ?_ | refine Xb ?_ | refine Xc ?_ | refine Xd ?_ | refine Fc ?_)
    refine ⟨⟨k + 1, by omega⟩, ?_, by simp only; omega⟩
    (apply Le.headZ [] rfl)
    all_goals (try dsimp only [srcs])
    (case' hfr | hob => (repeat' (first | refine La ?_ ?_ | exact Lc | refine Lo ?_ | refine ⟨⟨_, rfl, ?_⟩, ?_⟩ | refine ObA.box ?_ | refine ObA.frE ?_ | refine ObA.dataE ?_ | refine ARs.agg ?_ | refine ARs.tup ?_ | refine AR.b ?_ | refine AR.iE ?_ | refine AR.e ?_ | refine AR.clo' ARs.nil ?_)))
    all_goals (first | (rfl) | exact Ld)
  · obtain rfl : k = xs.length := by omega
    repeat' (first | refine Qa ?_ | ((first | apply Ba | (apply Bb; (· rfl); (· rfl)) | (apply Bc; (· exact nxE)) | (apply Bd; (· rfl); (· rfl); (· exact nxE))); (· first | exact Ok.pe); (first | refine Na ?_ | refine Nb ?_)) | ((first | apply Ca | (apply Cb; (· exact nxE))); (· first | exact Ok.e0); (first | refine Nc ?_ | refine Nd ?_)) | refine Oa ?_ | refine Ob ?_ | ((first | refine Ga (fun h => ?_) (fun h => ?_) | refine AD.gsplit rfl rfl (fun h => ?_) (fun h => ?_)) <;> try (exfalso; omega; done)) | (first | refine AL.gsplitB rfl rfl (fun h => ?_) (fun h => ?_) | refine AD.gsplitB rfl rfl (fun h => ?_) (fun h => ?_)) | refine Fa ?_ | refine Qb ?_ | refine Qc ?_ | refine Qd ?_ | refine Fb ?_ | refine Qe ?_ | refine Wa ?_ | refine Wb ?_ | (refine AW.ite rfl (fun h => ?_) (fun h => ?_) <;> try (exfalso; omega; done)) | refine AW.cond _ rfl (fun h => ?_) (fun h => ?_) | refine Qf ?_ | refine Qg ?_ | refine Qh ?_ | refine Qi ?_ | refine Xa ?_ | refine Xb ?_ | refine Xc ?_ | refine Xd ?_ | refine Fc ?_)
    refine Ya ?_
    (apply Le.headZ (hs := []) [] rfl)
    all_goals (try dsimp only [srcs])
    (case' hfr => (repeat' (first | refine La ?_ ?_ | exact Lc | refine Lo ?_ | refine ⟨⟨_, rfl, ?_⟩, ?_⟩ | refine ObA.box ?_ | refine ObA.frE ?_ | refine ObA.dataE ?_ | refine ARs.agg ?_ | refine ARs.tup ?_ | refine AR.b ?_ | refine AR.iE ?_ | refine AR.e ?_ | refine AR.clo' ARs.nil ?_)))
    all_goals (first | exact Ld | exact trivial | (rfl))
set_option maxHeartbeats 1000000 in
theorem likeTables9_refl (t : List (List Int)) (hn : t.length ≤ 100000000) (hr : ∀ r ∈ t, r.length ≤ 100000000) : AC Try.prog 43 [TL t, TL t] H0 (Bo true) H0 := by
  have htl : (mRows 1 (TR t)).length = t.length := by simp
  refine AC.of_body 0 Try.func43 rfl (fun l h => absurd rfl h) (fun C hC => ?_)
  have hD : ∀ l, ¬ C.D0 l := fun l h => (hC l).1 h rfl
  simp only [startFr, Try.ntmps43, List.length_cons, List.length_nil, Nat.reduceAdd, Nat.reduceSub, List.replicate_succ, List.replicate_zero, List.cons_append, List.nil_append]
  repeat' (first | refine Qa ?_ | ((first | apply Ba | (apply Bb; (· rfl); (· rfl)) | (apply Bc; (· exact nxE)) | (apply Bd; (· rfl); (· rfl); (· exact nxE))); (· first | exact Ok.pe); (first | refine Na ?_ | refine Nb ?_)) | ((first | apply Ca | (apply Cb; (· exact nxE))); (· first | exact Ok.e0); (first | refine Nc ?_ | refine Nd ?_)) | refine Oa ?_ | refine Ob ?_ | ((first | refine Ga (fun h => ?_) (fun h => ?_) | refine AD.gsplit rfl rfl (fun h => ?_) (fun h => ?_)) <;> try (exfalso; omega; done)) | (first | refine AL.gsplitB rfl rfl (fun h => ?_) (fun h => ?_) | refine AD.gsplitB rfl rfl (fun h => ?_) (fun h => ?_)) | refine Fa ?_ | refine Qb ?_ | refine Qc ?_ | refine Qd ?_ | refine Fb ?_ | refine Qe ?_ | refine Wa ?_ | refine Wb ?_ | (refine AW.ite rfl (fun h => ?_) (fun h => ?_) <;> try (exfalso; omega; done)) | refine AW.cond _ rfl (fun h => ?_) (fun h => ?_) | refine Qf ?_ | refine Qg ?_ | refine Qh ?_ | refine Qi ?_ | refine Xa ?_ | refine Xb ?_ | refine Xc ?_ | refine Xd ?_ | refine Fc ?_)
  refine AW.loop (X := {k : Nat // k ≤ t.length}) (fun k => ⟨[TL t, TL t, Oo, Oo, Oo, I (k.1 : Nat), Oo, Oo, Oo, Oo, Oo, Oo, Oo, Oo, Oo, Oo, Oo, Oo, Oo, Oo, Oo, Oo, Oo, Oo, Oo, Oo, Oo], heapL [], 900⟩) (fun k => t.length - k.1) ⟨0, Nat.zero_le _⟩ ?_ (fun k => ?_)
  ·
    (apply Le.headZ [] rfl)
    all_goals (try dsimp only [srcs])
    (case' hfr | hob => (repeat' (first | refine La ?_ ?_ | exact Lc | refine Lo ?_ | refine ⟨⟨_, rfl, ?_⟩, ?_⟩ | refine ObA.box ?_ | refine ObA.frE ?_ | refine ObA.dataE ?_ | refine ARs.agg ?_ | refine ARs.tup ?_ | refine AR.b ?_ | refine AR.iE ?_ | refine AR.e ?_ | refine AR.clo' ARs.nil ?_)))
    all_goals (first | (rfl) | exact Ld)
  obtain ⟨k, hk⟩ := k
  simp only
  by_cases hlt : k < t.length
  · obtain ⟨x, hx⟩ : ∃ x, t[k]? = some x := ⟨t[k], by simp⟩
    have hrow := TR_get hx
    repeat' (first | refine Qa ?_ | ((first | apply Ba | (apply Bb; (· rfl); (· rfl)) | (apply Bc; (· exact nxE)) | (apply Bd; (· rfl); (· rfl); (· exact nxE))); (· first | exact Kz rfl rfl (likeInts_refl x (hr x (List.mem_of_getElem? hx))) (Ad (Ad An)) | exact Ok.pe); (first | refine Na ?_ | refine Nb ?_)) | ((first | apply Ca | (apply Cb; (· exact nxE))); (· first | exact Ok.e0); (first | refine Nc ?_ | refine Nd ?_)) | refine Oa ?_ | refine Ob ?_ | ((first | refine Ga (fun h => ?_) (fun h => ?_) | refine AD.gsplit rfl rfl (fun h => ?_) (fun h => ?_)) <;> try (exfalso; omega; done)) | (first | refine AL.gsplitB rfl rfl (fun h => ?_) (fun h => ?_) | refine AD.gsplitB rfl rfl (fun h => ?_) (fun h => ?_)) | refine Fa ?_ | refine Qb ?_ | refine Qc ?_ | refine Qd ?_ | refine Fb ?_ | refine Qe ?_ | refine Wa ?_ | refine Wb ?_ | (refine AW.ite rfl (fun h => ?_) (fun h => ?_) <;> try (exfalso; omega; done)) | refine AW.cond _ rfl (fun h => ?_) (fun h => ?_) | refine Qf ?_ | refine Qg ?_ | refine Qh ?_ | refine Qi ?_ | refine Xa ?_ | refine Xb ?_ | refine Xc ?_ | refine Xd ?_ | refine Fc ?_)
    refine ⟨⟨k + 1, by omega⟩, ?_, by simp only; omega⟩
    (apply Le.headZ [] rfl)
    all_goals (try dsimp only [srcs])
    (case' hfr | hob => (repeat' (first | refine La ?_ ?_ | exact Lc | refine Lo ?_ | refine ⟨⟨_, rfl, ?_⟩, ?_⟩ | refine ObA.box ?_ | refine ObA.frE ?_ | refine ObA.dataE ?_ | refine ARs.agg ?_ | refine ARs.tup ?_ | refine AR.b ?_ | refine AR.iE ?_ | refine AR.e ?_ | refine AR.clo' ARs.nil ?_)))
    all_goals (first | (rfl) | exact Ld)
  · obtain rfl : k = t.length := by omega
    repeat' (first | refine Qa ?_ | ((first | apply Ba | (apply Bb; (· rfl); (· rfl)) | (apply Bc; (· exact nxE)) | (apply Bd; (· rfl); (· rfl); (· exact nxE))); (· first | exact Ok.pe); (first | refine Na ?_ | refine Nb ?_)) | ((first | apply Ca | (apply Cb; (· exact nxE))); (· first | exact Ok.e0); (first | refine Nc ?_ | refine Nd ?_)) | refine Oa ?_ | refine Ob ?_ | ((first | refine Ga (fun h => ?_) (fun h => ?_) | refine AD.gsplit rfl rfl (fun h => ?_) (fun h => ?_)) <;> try (exfalso; omega; done)) | (first | refine AL.gsplitB rfl rfl (fun h => ?_) (fun h => ?_) | refine AD.gsplitB rfl rfl (fun h => ?_) (fun h => ?_)) | refine Fa ?_ | refine Qb ?_ | refine Qc ?_ | refine Qd ?_ | refine Fb ?_ | refine Qe ?_ | refine Wa ?_ | refine Wb ?_ | (refine AW.ite rfl (fun h => ?_) (fun h => ?_) <;> try (exfalso; omega; done)) | refine AW.cond _ rfl (fun h => ?_) (fun h => ?_) | refine Qf ?_ | refine Qg ?_ | refine Qh ?_ | refine Qi ?_ | refine Xa ?_ | refine Xb ?_ | refine Xc ?_ | refine Xd ?_ | refine Fc ?_)
    refine Ya ?_
    (apply Le.headZ (hs := []) [] rfl)
    all_goals (try dsimp only [srcs])
    (case' hfr => (repeat' (first | refine La ?_ ?_ | exact Lc | refine Lo ?_ | refine ⟨⟨_, rfl, ?_⟩, ?_⟩ | refine ObA.box ?_ | refine ObA.frE ?_ | refine ObA.dataE ?_ | refine ARs.agg ?_ | refine ARs.tup ?_ | refine AR.b ?_ | refine AR.iE ?_ | refine AR.e ?_ | refine AR.clo' ARs.nil ?_)))
    all_goals (first | exact Ld | exact trivial | (rfl))
section
variable {P : Program} {o : Oper} {A : Operand → AV} {H : Heap} {new : Nat}
/-- The source of the draws is made. -/
theorem Fx {fo x : Operand} {ts : Array TypeId} {f : FuncId} {code : List Int} {s : Src} (hc : AC P f [.d (BD code)] H0 (Bx 3 0) (srcH code s)) (ho : o.op = .call { callee := .value fo, args := #[x], argTypes := ts }) [FnBody P f] (hfo : A fo = .clo (.func f) [] [])
    (hx : A x = .d (BD code)) : OpOk P o A [] H new (.ptr 3 ⟨new, [0]⟩ 0 0) [.one ⟨new, [0]⟩ (some (srcO code s))] :=
  OpOk.call1n (xs := [x]) [] ho hfo hc (.inl rfl) (fun g => rnO_dobj _ _ _) (by
    show ARs _ _ _ _ _ [A x]
    rw [hx]; exact .cons (AR.dd _) .nil) (by rw [rn])
theorem Nl {fo x y : Operand} {ts : Array TypeId} {f : FuncId} {l : Loc} {code : List Int} {s s' : Src} {n a : Int} (hc : AC P f [Bx 3 0, I n] (srcH code s) (I a) (srcH code s')) (ho : o.op = .call { callee := .value fo, args := #[x, y], argTypes := ts }) [FnBody P f] (hfo : A fo = .clo (.func f) [] [])
    (hx : A x = .ptr 3 l 0 0) (hy : A y = I n) (hl : H l = some (srcO code s)) : OpOk P o A [l] H new (I a) [.one l (some (srcO code s'))] :=
  OpOk.callM (xs := [x, y]) ho hfo hc hl rfl (by
    show ARs _ _ _ _ _ [A x, A y]
    rw [hx, hy]; exact .cons (AR.ptr 3 ⟨0, []⟩ 0 0 rfl) (.cons (.dd _) .nil))
theorem Kl {fo x y : Operand} {ts : Array TypeId} {f : FuncId} {l0 : Loc} {code : List Int} {s s' : Src} {m : Nat} {xs : List Int} {a : Int} {l : Loc} (hc : AC P f [Bx 3 0, .own 1 ⟨1, []⟩ 0 m] (upd (upd H0 ⟨1, []⟩ (some (IO xs))) ⟨0, []⟩ (some (srcO code s))) (I a) (srcH code s')) (ho : o.op = .call { callee := .value fo, args := #[x, y], argTypes := ts }) [FnBody P f] (hfo : A fo = .clo (.func f) [] [])
    (hx : A x = .ptr 3 l0 0 0) (hy : A y = .own 1 l 0 m) (hl : H l0 = some (srcO code s)) (hl2 : H l = some (IO xs)) (hne : l0 ≠ l) : OpOk P o A [l0, l] H new (I a) [.one l none, .one l0 (some (srcO code s'))] :=
  OpOk.callM2 (xs := [x, y]) ho hfo hc hl hl2 hne rfl (by
    show ARs _ _ _ _ _ [A x, A y]
    rw [hx, hy]
    refine .cons ?_ (.cons ?_ .nil)
    · have := AR.ptr (H := H) (lent := fun _ => False) (τ := two l0 l) (L := (· ∈ [(⟨0, []⟩ : Loc), ⟨1, []⟩])) 3 ⟨0, []⟩ 0 0 (by simp)
      rwa [show two l0 l ⟨0, []⟩ = l0 from if_pos rfl] at this
    · have := AR.own (H := H) (lent := fun _ => False) (τ := two l0 l) (L := (· ∈ [(⟨0, []⟩ : Loc), ⟨1, []⟩])) 1 ⟨1, []⟩ 0 m (by simp)
      rwa [show two l0 l ⟨1, []⟩ = l from if_neg (by decide)] at this)
theorem Zl {fo x : Operand} {xs : List Operand} {ts : Array TypeId} {f : FuncId} {l : Loc} {code : List Int} {s s' : Src} {args : List AV} {res : AV} (hc : AC P f (Bx 3 0 :: args) (srcH code s) res (srcH code s')) (ho : o.op = .call { callee := .value fo, args := (x :: xs).toArray, argTypes := ts }) [FnBody P f] (hfo : A fo = .clo (.func f) [] [])
    (hx : A x = .ptr 3 l 0 0) (hl : H l = some (srcO code s)) (hy : ARs H (fun _ => False) (fun _ => l) (· = ⟨0, []⟩) args (xs.map A)) (hres : ∀ g, rn g res = res) : OpOk P o A [l] H new res [.one l (some (srcO code s'))] :=
  OpOk.callMg ho hfo hc hl hres (by
    rw [List.append_nil]
    show ARs _ _ _ _ _ (A x :: xs.map A)
    rw [hx]; exact .cons (AR.ptr 3 ⟨0, []⟩ 0 0 rfl) hy)
end
set_option maxHeartbeats 1000000 in
theorem drawCauseOf_ex (code : List Int) (hc : CodeOk code) : ∃ (g : DrG) (T : List (List Int)) (r e : Int), DrOk code g ∧ TabOk T ∧ AC Try.prog 40 [.d (BD code)] H0 (.tup [grD g.ev g.xs, TL T, I r, I e]) H0 := by
  have hF := l01From_ac code hc
  obtain ⟨⟨ev, xs, s1⟩, T, h1, h2, hG⟩ := l26Draw_ex code hc _ (src0_ok hc)
  have hTl := h2.l
  have hs1 := h1.s
  simp only at hs1 hG
  obtain ⟨a, s2, a1, a2, h3, q3, N3⟩ := next_ex hc hs1 20
  by_cases ha : a = 0
  · obtain ⟨b, s4, _, h4, p4, q4, K4⟩ := pick_ex hc h3 [0, 1, (T.length : Int), (T.length : Int) + 1] 4 rfl
    obtain ⟨d, s5, _, h5, p5, q5, K5⟩ := pick_ex hc h4 [-1, 0, ev] 3 rfl
    refine ⟨⟨ev, xs, s1⟩, T, b, d, h1, h2, ?_⟩
    refine AC.of_body 0 Try.func40 rfl (fun l h => absurd rfl h) (fun C hC => ?_)
    have hD : ∀ l, ¬ C.D0 l := fun l h => (hC l).1 h rfl
    simp only [startFr, Try.ntmps40, List.length_cons, List.length_nil, Nat.reduceAdd, Nat.reduceSub, List.replicate_succ, List.replicate_zero, List.cons_append, List.nil_append]
    repeat' (first | refine Qa ?_ | ((first | apply Ba | (apply Bb; (· rfl); (· rfl)) | (apply Bc; (· exact nxE)) | (apply Bd; (· rfl); (· rfl); (· exact nxE))); (· first | exact Fx hF rfl rfl rfl | exact Zl (args := []) hG rfl rfl rfl rfl .nil (fun _ => by simp [rn]) | exact Nl N3 rfl rfl rfl rfl rfl | exact Kl K4 rfl rfl rfl rfl rfl rfl (by decide) | exact Kl K5 rfl rfl rfl rfl rfl rfl (by decide) | exact Ok.bs4 rfl rfl rfl rfl rfl rfl | exact Ok.bs3 rfl rfl rfl rfl rfl | exact Ok.pe); (first | refine Na ?_ | refine Nb ?_)) | ((first | apply Ca | (apply Cb; (· exact nxE))); (· first | exact Fx hF rfl rfl rfl | exact Zl (args := []) hG rfl rfl rfl rfl .nil (fun _ => by simp [rn]) | exact Nl N3 rfl rfl rfl rfl rfl | exact Kl K4 rfl rfl rfl rfl rfl rfl (by decide) | exact Kl K5 rfl rfl rfl rfl rfl rfl (by decide) | exact Ok.bs4 rfl rfl rfl rfl rfl rfl | exact Ok.bs3 rfl rfl rfl rfl rfl | exact Ok.e0); (first | refine Nc ?_ | refine Nd ?_)) | refine Oa ?_ | refine Ob ?_ | ((first | refine Ga (fun h => ?_) (fun h => ?_) | refine AD.gsplit rfl rfl (fun h => ?_) (fun h => ?_)) <;> try (exfalso; omega; done)) | (first | refine AL.gsplitB rfl rfl (fun h => ?_) (fun h => ?_) | refine AD.gsplitB rfl rfl (fun h => ?_) (fun h => ?_)) | refine Fa ?_ | refine Qb ?_ | refine Qc ?_ | refine Qd ?_ | refine Fb ?_ | refine Qe ?_ | refine Wa ?_ | refine Wb ?_ | (refine AW.ite rfl (fun h => ?_) (fun h => ?_) <;> try (exfalso; omega; done)) | refine AW.cond _ rfl (fun h => ?_) (fun h => ?_) | refine Qf ?_ | refine Qg ?_ | refine Qh ?_ | refine Qi ?_ | refine Xa ?_ | refine Xb ?_ | refine Xc ?_ | refine Xd ?_ | refine Fc ?_)
    refine Yd ?_
    (apply Le.headZ (hs := []) [] rfl)
    all_goals (try dsimp only [srcs])
    (case' hfr => (repeat' (first | refine La ?_ ?_ | exact Lc | refine Lo ?_ | refine ⟨⟨_, rfl, ?_⟩, ?_⟩ | refine ObA.box ?_ | refine ObA.frE ?_ | refine ObA.dataE ?_ | refine ARs.agg ?_ | refine ARs.tup ?_ | refine AR.b ?_ | refine AR.iE ?_ | refine AR.e ?_ | refine AR.clo' ARs.nil ?_)))
    all_goals (first | exact Ld | exact trivial | (rfl))
  · obtain ⟨b, s4, b1, b2, h4, q4, N4⟩ := next_ex hc h3 (T.length : Int)
    obtain ⟨d, s5, d1, d2, h5, q5, N5⟩ := next_ex hc h4 ev
    refine ⟨⟨ev, xs, s1⟩, T, 1 + b, d, h1, h2, ?_⟩
    refine AC.of_body 0 Try.func40 rfl (fun l h => absurd rfl h) (fun C hC => ?_)
    have hD : ∀ l, ¬ C.D0 l := fun l h => (hC l).1 h rfl
    simp only [startFr, Try.ntmps40, List.length_cons, List.length_nil, Nat.reduceAdd, Nat.reduceSub, List.replicate_succ, List.replicate_zero, List.cons_append, List.nil_append]
    repeat' (first | refine Qa ?_ | ((first | apply Ba | (apply Bb; (· rfl); (· rfl)) | (apply Bc; (· exact nxE)) | (apply Bd; (· rfl); (· rfl); (· exact nxE))); (· first | exact Fx hF rfl rfl rfl | exact Zl (args := []) hG rfl rfl rfl rfl .nil (fun _ => by simp [rn]) | exact Nl N3 rfl rfl rfl rfl rfl | exact Nl N4 rfl rfl rfl rfl rfl | exact Nl N5 rfl rfl rfl rfl rfl | exact Ok.pe); (first | refine Na ?_ | refine Nb ?_)) | ((first | apply Ca | (apply Cb; (· exact nxE))); (· first | exact Fx hF rfl rfl rfl | exact Zl (args := []) hG rfl rfl rfl rfl .nil (fun _ => by simp [rn]) | exact Nl N3 rfl rfl rfl rfl rfl | exact Nl N4 rfl rfl rfl rfl rfl | exact Nl N5 rfl rfl rfl rfl rfl | exact Ok.e0); (first | refine Nc ?_ | refine Nd ?_)) | refine Oa ?_ | refine Ob ?_ | ((first | refine Ga (fun h => ?_) (fun h => ?_) | refine AD.gsplit rfl rfl (fun h => ?_) (fun h => ?_)) <;> try (exfalso; omega; done)) | (first | refine AL.gsplitB rfl rfl (fun h => ?_) (fun h => ?_) | refine AD.gsplitB rfl rfl (fun h => ?_) (fun h => ?_)) | refine Fa ?_ | refine Qb ?_ | refine Qc ?_ | refine Qd ?_ | refine Fb ?_ | refine Qe ?_ | refine Wa ?_ | refine Wb ?_ | (refine AW.ite rfl (fun h => ?_) (fun h => ?_) <;> try (exfalso; omega; done)) | refine AW.cond _ rfl (fun h => ?_) (fun h => ?_) | refine Qf ?_ | refine Qg ?_ | refine Qh ?_ | refine Qi ?_ | refine Xa ?_ | refine Xb ?_ | refine Xc ?_ | refine Xd ?_ | refine Fc ?_)
    refine Yd ?_
    (apply Le.headZ (hs := []) [] rfl)
    all_goals (try dsimp only [srcs])
    (case' hfr => (repeat' (first | refine La ?_ ?_ | exact Lc | refine Lo ?_ | refine ⟨⟨_, rfl, ?_⟩, ?_⟩ | refine ObA.box ?_ | refine ObA.frE ?_ | refine ObA.dataE ?_ | refine ARs.agg ?_ | refine ARs.tup ?_ | refine AR.b ?_ | refine AR.iE ?_ | refine AR.e ?_ | refine AR.clo' ARs.nil ?_)))
    all_goals (first | exact Ld | exact trivial | (rfl))
end Go.Proofs.Ytegfjedklebbfaa
end

section
namespace Go.Proofs.Ytegfjedklebbfaa
set_option linter.unusedSimpArgs false
set_option linter.unusedVariables false
open Go Go.RowKit
attribute [local irreducible] AL AD AW OpOk Le AC thenQ blockQ EndQ

/-! ### The firings with a property, in order -/
def earR (c : Nat → Nat → Bool) (k J : Nat) : List (List Int) := ((List.range J).filter (c k)).map fun e : Nat => [(k : Int) + 1, (e : Int)]
def earT (c : Nat → Nat → Bool) (n K : Nat) : List (List Int) := (List.range K).flatMap fun k => earR c k n
def earP (c : Nat → Nat → Bool) (n K J : Nat) : List (List Int) := earT c n K ++ earR c K J
theorem earP_0 {c : Nat → Nat → Bool} {n : Nat} : earP c n 0 0 = [] := rfl
theorem earP_00 {c : Nat → Nat → Bool} {n K : Nat} : earP c n K 0 = earT c n K := by simp [earP, earR]
theorem earP_row {c : Nat → Nat → Bool} {n K : Nat} : earP c n K n = earP c n (K + 1) 0 := by simp [earP, earT, earR, List.range_succ]
theorem earP_yes {c : Nat → Nat → Bool} {n K J : Nat} (h : c K J = true) : earP c n K (J + 1) = earP c n K J ++ [[(K : Int) + 1, (J : Int)]] := by
  simp [earP, earR, List.range_succ, List.filter_append, h]
theorem earP_no {c : Nat → Nat → Bool} {n K J : Nat} (h : c K J = false) : earP c n K (J + 1) = earP c n K J := by
  simp [earP, earR, List.range_succ, List.filter_append, h]
theorem earR_le {c : Nat → Nat → Bool} {k J : Nat} : (earR c k J).length ≤ J := by
  unfold earR
  rw [List.length_map]
  exact Nat.le_trans (List.length_filter_le _ _) (by simp)
theorem earT_le {c : Nat → Nat → Bool} {n : Nat} (hn : n ≤ 10) : ∀ K, (earT c n K).length ≤ 10 * K
  | 0 => by simp [earT]
  | K + 1 => by
    have h1 := earT_le (c := c) hn K
    have h2 : (earR c K n).length ≤ n := earR_le
    have h3 : earT c n (K + 1) = earT c n K ++ earR c K n := by simp [earT, List.range_succ]
    rw [h3, List.length_append]; omega
theorem earP_le {c : Nat → Nat → Bool} {n : Nat} (hn : n ≤ 10) (K J : Nat) : (earP c n K J).length ≤ 10 * K + J := by
  have h1 := earT_le (c := c) hn K
  have h2 : (earR c K J).length ≤ J := earR_le
  unfold earP
  rw [List.length_append]; omega
theorem TR_snoc {t t' : List (List Int)} {r : List Int} (h : t' = t ++ [r]) : TR t' = TR t ++ [IR r] := by subst h; simp
abbrev eaC (t : List (List Int)) (f : Nat → Nat → Int) : Nat → Nat → Bool := fun k e => decide (entN t k e < f k e)
/-- What EarlyFirings answers. -/
def eaOut (ev : Int) (xs : List Pl) (t : List (List Int)) : List (List Int) := if goodI ev xs t = 0 then earT (eaC t (alFn t xs)) ev.toNat t.length else []
abbrev hsE (t al : List (List Int)) : HL := [(⟨1, []⟩, ⟨1, []⟩, ⟨1, [[TL t]]⟩), (⟨6, []⟩, ⟨6, []⟩, ⟨1, [[TL al]]⟩)]
theorem hsE_ok {t al : List (List Int)} : HOk (hsE t al) := by
  intro p hp r hr c hc
  simp only [List.mem_cons, List.not_mem_nil, or_false] at hp
  rcases hp with rfl | rfl
  · simp at hr; subst hr; simp at hc; subst hc; exact .d _
  · simp at hr; subst hr; simp at hc; subst hc; exact .d _
theorem tabF_get2 {m n i : Nat} {f : Nat → Nat → Int} (h : i < m) : (mRows 1 (TR (tabF m n f)))[((i : Nat) : Int).toNat]? = some [.sl 1 (IR (rowF n (f i)))] := TR_get (tabF_get h)
theorem rowI_get2 {n j : Nat} {g : Nat → Int} (h : j < n) : (IR (rowF n g))[((j : Nat) : Int).toNat]? = some [DI (g j)] := IRF_get h
theorem earlyFn_ac (n m i j : Nat) (t : List (List Int)) (f : Nat → Nat → Int) (ht : Rc t m n) (hi : i < m) (hj : j < n) : AC Try.prog 228 [I i, I j, Bx 1 1, Bx 1 6] (heapL (hsE t (tabF m n f))) (Bo (eaC t f i j)) (heapL (hsE t (tabF m n f))) := by
  have htl := ht.l
  have hal : (TR (tabF m n f)).length = m := by rw [TR_len, tabF_len]
  obtain ⟨R, hR1, hR2, hR3⟩ := ht.get hi hj
  have hRr := TR_get hR1
  have hRf := IR_get hR2
  have hRl : (IR R).length = n := by rw [IR_len, hR3]
  have hFr := tabF_get2 (n := n) (f := f) hi
  have hFf := rowI_get2 (g := f i) hj
  have hFl : (IR (rowF n (f i))).length = n := by rw [IR_len, rowF_len]
  refine AC.of_body 7 Try.func228 rfl (fun l h => by simp [heapL, upd] at h; (repeat' split at h) <;> simp_all) (fun C hC => ?_)
  simp only [startFr, Try.ntmps228, List.length_cons, List.length_nil, Nat.reduceAdd, Nat.reduceSub, List.replicate_succ, List.replicate_zero, List.cons_append, List.nil_append]
  have hD : ∀ l, C.D0 l → l = ⟨1, []⟩ ∨ l = ⟨6, []⟩ := fun l h => by have := (hC l).1 h; simp [heapL, upd] at this; (repeat' split at this) <;> simp_all
  repeat' (first | refine Qa ?_ | ((first | apply Ba | (apply Bb; (· rfl); (· rfl)) | (apply Bc; (· exact nxE)) | (apply Bd; (· rfl); (· rfl); (· exact nxE))); (· first | exact Ok.pe); (first | refine Na ?_ | refine Nb ?_)) | ((first | apply Ca | (apply Cb; (· exact nxE))); (· first | exact Ok.e0); (first | refine Nc ?_ | refine Nd ?_)) | refine Oa ?_ | refine Ob ?_ | ((first | refine Ga (fun h => ?_) (fun h => ?_) | refine AD.gsplit rfl rfl (fun h => ?_) (fun h => ?_)) <;> try (exfalso; omega; done)) | (first | refine AL.gsplitB rfl rfl (fun h => ?_) (fun h => ?_) | refine AD.gsplitB rfl rfl (fun h => ?_) (fun h => ?_)) | refine Fa ?_ | refine Qb ?_ | refine Qc ?_ | refine Qd ?_ | refine Fb ?_ | refine Qe ?_ | refine Wa ?_ | refine Wb ?_ | (refine AW.ite rfl (fun h => ?_) (fun h => ?_) <;> try (exfalso; omega; done)) | refine AW.cond _ rfl (fun h => ?_) (fun h => ?_) | refine Qf ?_ | refine Qg ?_ | refine Qh ?_ | refine Qi ?_ | refine Xa ?_ | refine Xb ?_ | refine Xc ?_ | refine Xd ?_ | refine Fc ?_)
  (refine end1p (by first | exact .inl rfl | exact .inr rfl) rfl (by first | exact rT rfl | exact rCA rfl rfl rfl rfl (by simp) | exact rCC rfl rfl rfl rfl rfl) ?_ (Le.head ([(⟨1, []⟩, ⟨1, []⟩, ⟨1, [[TL t]]⟩), (⟨6, []⟩, ⟨6, []⟩, ⟨1, [[TL (tabF m n f)]]⟩)]) (by first | exact fun l h => absurd h (hD l) | (intro l h; rcases hD l h with rfl; simp [tauL]) | (intro l h; rcases hD l h with rfl | rfl <;> simp [tauL]; done) | (intro l h; rcases hD l h with rfl | rfl | rfl <;> simp [tauL])) ?_ ?_ (by simp) (by simp) (by simp [AllP]) (n' := 1000)); (· rfl)) <;> (repeat' (first | exact trivial | exact ARs.nil | refine ARs.cons ?_ ?_ | exact AR.dead _ | exact AR.dd _ | exact AR.i (by (try dsimp only); omega) | exact AR.ptr _ _ _ _ (by simp [heapL, upd]) | exact AR.own _ _ _ _ (by simp [heapL, upd]) | refine AR.ownE _ _ _ ?_ (by simp [heapL, upd]) | refine ⟨⟨_, rfl, ?_⟩, ?_⟩ | exact ObA.data | refine ObA.box ?_ | refine ObA.frE ?_ | refine ObA.dataE ?_ | refine ARs.agg ?_ | refine ARs.tup ?_ | exact AR.clo' ARs.nil ARs.nil | exact AR.clo' ARs.nil (hca _ _)))
set_option maxHeartbeats 1000000 in
theorem firingsE_ac (n m : Nat) (t : List (List Int)) (f : Nat → Nat → Int) (ht : Rc t m n) (hn : n ≤ 10) (hm : m ≤ 1000) : AC Try.prog 227 [TL t, .clo (.func 228) [] [Bx 1 1, Bx 1 6]] (heapL (hsE t (tabF m n f))) (.own 1 ⟨2, []⟩ 0 (earT (eaC t f) n m).length) (heapX (hsE t (tabF m n f)) [mi1 ⟨2, []⟩ (TR (earT (eaC t f) n m))]) := by
  have htl := ht.l
  refine AC.of_body 7 Try.func227 rfl (fun l h => by simp [heapL, upd] at h; (repeat' split at h) <;> simp_all) (fun C hC => ?_)
  simp only [startFr, Try.ntmps227, List.length_cons, List.length_nil, Nat.reduceAdd, Nat.reduceSub, List.replicate_succ, List.replicate_zero, List.cons_append, List.nil_append]
  have hD : ∀ l, C.D0 l → l = ⟨1, []⟩ ∨ l = ⟨6, []⟩ := fun l h => by have := (hC l).1 h; simp [heapL, upd] at this; (repeat' split at this) <;> simp_all
  repeat' (first | refine Qa ?_ | ((first | apply Ba | (apply Bb; (· rfl); (· rfl)) | (apply Bc; (· exact nxE)) | (apply Bd; (· rfl); (· rfl); (· exact nxE))); (· first | exact Ok.pe); (first | refine Na ?_ | refine Nb ?_)) | ((first | apply Ca | (apply Cb; (· exact nxE))); (· first | exact Ok.e0); (first | refine Nc ?_ | refine Nd ?_)) | refine Oa ?_ | refine Ob ?_ | ((first | refine Ga (fun h => ?_) (fun h => ?_) | refine AD.gsplit rfl rfl (fun h => ?_) (fun h => ?_)) <;> try (exfalso; omega; done)) | (first | refine AL.gsplitB rfl rfl (fun h => ?_) (fun h => ?_) | refine AD.gsplitB rfl rfl (fun h => ?_) (fun h => ?_)) | refine Fa ?_ | refine Qb ?_ | refine Qc ?_ | refine Qd ?_ | refine Fb ?_ | refine Qe ?_ | refine Wa ?_ | refine Wb ?_ | (refine AW.ite rfl (fun h => ?_) (fun h => ?_) <;> try (exfalso; omega; done)) | refine AW.cond _ rfl (fun h => ?_) (fun h => ?_) | refine Qf ?_ | refine Qg ?_ | refine Qh ?_ | refine Qi ?_ | refine Xa ?_ | refine Xb ?_ | refine Xc ?_ | refine Xd ?_ | refine Fc ?_)
  refine AW.loop (X := {k : Nat // k ≤ m}) (fun k => ⟨[Oo, .clo (.func 228) [] [Bx 1 1, Bx 1 6], Oo, Oo, Oo, .own 1 ⟨2, []⟩ 0 (earP (eaC t f) n (k.1 : Nat) 0).length, Oo, Oo, Oo, TL t, I m, I (k.1 : Nat), Oo, Oo, Oo, Oo, Oo, Oo, Oo, Oo, Oo, Oo, Oo, Oo, Oo, Oo, Oo, Oo, Oo, Oo, Oo, Oo, Oo, Oo, Oo], heapX (hsE t (tabF m n f)) [mi1 ⟨2, []⟩ (TR (earP (eaC t f) n k.1 0))], 900⟩) (fun k => m - k.1) ⟨0, Nat.zero_le _⟩ ?_ (fun k => ?_)
  ·
    refine (Le.nil 5 1 rfl).trans ?_
    (apply Le.headG [_, _] [{ l := ⟨2, []⟩, k := 1, R := TR (earP (eaC t f) n 0 0), src := ⟨12, []⟩, base := ⟨12, []⟩ }] (fun _ => False))
    (case' hlen => rfl)
    (case' hms => rfl)
    all_goals (try dsimp only [srcs])
    (case' hfr | hob => (repeat' (first | refine La ?_ ?_ | exact Lc | refine Lo ?_ | refine ⟨⟨_, rfl, ?_⟩, ?_⟩ | refine ObA.box ?_ | refine ObA.frE ?_ | refine ObA.dataE ?_ | refine ARs.agg ?_ | refine ARs.tup ?_ | refine AR.b ?_ | refine AR.iE ?_ | refine AR.e ?_ | refine AR.clo' ARs.nil ?_)))
    (case' hok => first | exact ⟨MI.ok_same rfl (fun i x hx => by simp [earP_0] at hx), trivial⟩ | exact trivial)
    (case' hN => rfl)
    (case' hS => rfl)
    all_goals (first | exact Ld | (rfl))
  obtain ⟨i, hi⟩ := k
  simp only
  by_cases hlt : i < m
  ·
    obtain ⟨R, hR1⟩ : ∃ R, t[i]? = some R := ⟨t[i], by simp⟩
    have hR3 := ht.r R (List.mem_of_getElem? hR1)
    have hRr := TR_get hR1
    have hRl : (IR R).length = n := by rw [IR_len, hR3]
    repeat' (first | refine Qa ?_ | ((first | apply Ba | (apply Bb; (· rfl); (· rfl)) | (apply Bc; (· exact nxE)) | (apply Bd; (· rfl); (· rfl); (· exact nxE))); (· first | exact Ok.pe); (first | refine Na ?_ | refine Nb ?_)) | ((first | apply Ca | (apply Cb; (· exact nxE))); (· first | exact Ok.e0); (first | refine Nc ?_ | refine Nd ?_)) | refine Oa ?_ | refine Ob ?_ | ((first | refine Ga (fun h => ?_) (fun h => ?_) | refine AD.gsplit rfl rfl (fun h => ?_) (fun h => ?_)) <;> try (exfalso; omega; done)) | (first | refine AL.gsplitB rfl rfl (fun h => ?_) (fun h => ?_) | refine AD.gsplitB rfl rfl (fun h => ?_) (fun h => ?_)) | refine Fa ?_ | refine Qb ?_ | refine Qc ?_ | refine Qd ?_ | refine Fb ?_ | refine Qe ?_ | refine Wa ?_ | refine Wb ?_ | (refine AW.ite rfl (fun h => ?_) (fun h => ?_) <;> try (exfalso; omega; done)) | refine AW.cond _ rfl (fun h => ?_) (fun h => ?_) | refine Qf ?_ | refine Qg ?_ | refine Qh ?_ | refine Qi ?_ | refine Xa ?_ | refine Xb ?_ | refine Xc ?_ | refine Xd ?_ | refine Fc ?_)
    refine AW.loop (X := {k : Nat // k ≤ n}) (fun k => ⟨[Oo, .clo (.func 228) [] [Bx 1 1, Bx 1 6], Oo, Oo, Oo, .own 1 ⟨2, []⟩ 0 (earP (eaC t f) n i (k.1 : Nat)).length, I i, Oo, Oo, TL t, I m, I i, Oo, Oo, Oo, Oo, Oo, I n, I (k.1 : Nat), Oo, Oo, Oo, Oo, Oo, Oo, Oo, Oo, Oo, Oo, Oo, Oo, Oo, Oo, Oo, Oo], heapX (hsE t (tabF m n f)) [mi1 ⟨2, []⟩ (TR (earP (eaC t f) n i k.1))], 900⟩) (fun k => n - k.1) ⟨0, Nat.zero_le _⟩ ?_ (fun k => ?_)
    ·
      (apply Le.headG [_, _] [mi1 ⟨2, []⟩ (TR (earP (eaC t f) n i 0))] (fun _ => False))
      (case' hlen => rfl)
      (case' hms => rfl)
      all_goals (try dsimp only [srcs])
      (case' hfr | hob => (repeat' (first | refine La ?_ ?_ | exact Lc | refine Lo ?_ | refine ⟨⟨_, rfl, ?_⟩, ?_⟩ | refine ObA.box ?_ | refine ObA.frE ?_ | refine ObA.dataE ?_ | refine ARs.agg ?_ | refine ARs.tup ?_ | refine AR.b ?_ | refine AR.iE ?_ | refine AR.e ?_ | refine AR.clo' ARs.nil ?_)))
      (case' hok => first | exact ⟨MI.ok_same rfl (Cg), trivial⟩ | exact trivial)
      (case' hN => rfl)
      (case' hS => rfl)
      all_goals (first | exact Ld | (rfl))
    obtain ⟨j, hj⟩ := k
    simp only
    by_cases hlt2 : j < n
    ·
      have hE := earlyFn_ac n m i j t f ht hlt hlt2
      have hle := earP_le (c := eaC t f) hn i j
      cases hb : eaC t f i j
      ·
        rw [hb] at hE
        repeat' (first | refine Qa ?_ | ((first | apply Ba | (apply Bb; (· rfl); (· rfl)) | (apply Bc; (· exact nxE)) | (apply Bd; (· rfl); (· rfl); (· exact nxE))); (· first | exact OpOk.callS (hsE t (tabF m n f)) rfl rfl hE (by intro p hp; simp only [List.mem_cons, List.not_mem_nil, or_false] at hp; rcases hp with rfl | rfl <;> rfl) hsE_ok (.d _) (.cons (.dd _) (.cons (.dd _) (.cons (AR.ptr _ _ _ _ (by simp)) (.cons (AR.ptr _ _ _ _ (by simp)) .nil)))) | exact Ok.pe); (first | refine Na ?_ | refine Nb ?_)) | ((first | apply Ca | (apply Cb; (· exact nxE))); (· first | exact Ok.e0); (first | refine Nc ?_ | refine Nd ?_)) | refine Oa ?_ | refine Ob ?_ | ((first | refine Ga (fun h => ?_) (fun h => ?_) | refine AD.gsplit rfl rfl (fun h => ?_) (fun h => ?_)) <;> try (exfalso; omega; done)) | (first | refine AL.gsplitB rfl rfl (fun h => ?_) (fun h => ?_) | refine AD.gsplitB rfl rfl (fun h => ?_) (fun h => ?_)) | refine Fa ?_ | refine Qb ?_ | refine Qc ?_ | refine Qd ?_ | refine Fb ?_ | refine Qe ?_ | refine Wa ?_ | refine Wb ?_ | (refine AW.ite rfl (fun h => ?_) (fun h => ?_) <;> try (exfalso; omega; done)) | refine AW.cond _ rfl (fun h => ?_) (fun h => ?_) | refine Qf ?_ | refine Qg ?_ | refine Qh ?_ | refine Qi ?_ | refine Xa ?_ | refine Xb ?_ | refine Xc ?_ | refine Xd ?_ | refine Fc ?_)
        have e := earP_no (n := n) hb
        refine ⟨⟨j + 1, by omega⟩, ?_, by simp only; omega⟩
        (apply Le.headG [_, _] [mi1 ⟨2, []⟩ (TR (earP (eaC t f) n i (j + 1)))] (fun _ => False))
        (case' hlen => rfl)
        (case' hms => rfl)
        all_goals (try dsimp only [srcs])
        (case' hfr | hob => (repeat' (first | refine La ?_ ?_ | exact Lc | refine Lo ?_ | refine ⟨⟨_, rfl, ?_⟩, ?_⟩ | refine ObA.box ?_ | refine ObA.frE ?_ | refine ObA.dataE ?_ | refine ARs.agg ?_ | refine ARs.tup ?_ | refine AR.b ?_ | refine AR.iE ?_ | refine AR.e ?_ | refine AR.clo' ARs.nil ?_)))
        (case' hok => first | exact ⟨by rw [e]; exact MI.ok_same rfl (Cg), trivial⟩ | exact trivial)
        (case' hN => rfl)
        (case' hS => rfl)
        all_goals (first | exact Ld | ((rw [e]; done)))
      ·
        rw [hb] at hE
        have e := earP_yes (n := n) hb
        repeat' (first | refine Qa ?_ | ((first | apply Ba | (apply Bb; (· rfl); (· rfl)) | (apply Bc; (· exact nxE)) | (apply Bd; (· rfl); (· rfl); (· exact nxE))); (· first | exact OpOk.callS (hsE t (tabF m n f)) rfl rfl hE (by intro p hp; simp only [List.mem_cons, List.not_mem_nil, or_false] at hp; rcases hp with rfl | rfl <;> rfl) hsE_ok (.d _) (.cons (.dd _) (.cons (.dd _) (.cons (AR.ptr _ _ _ _ (by simp)) (.cons (AR.ptr _ _ _ _ (by simp)) .nil)))) | exact Ok.bs2 rfl (by conv => lhs; whnf) (by conv => lhs; whnf) (by rfl) (by rfl) (by rfl) (by rfl) (by rfl) (by rfl) (by decide) | exact Ok.appendT rfl rfl (by decide) rfl rfl rfl (by simp [outer_len]; done) rfl rfl (by rfl) (by omega) (by omega) rfl | exact Ok.pe); (first | refine Na ?_ | refine Nb ?_)) | ((first | apply Ca | (apply Cb; (· exact nxE))); (· first | exact Ok.bs2 rfl (by conv => lhs; whnf) (by conv => lhs; whnf) (by rfl) (by rfl) (by rfl) (by rfl) (by rfl) (by rfl) (by decide) | exact Ok.appendT rfl rfl (by decide) rfl rfl rfl (by simp [outer_len]; done) rfl rfl (by rfl) (by omega) (by omega) rfl | exact Ok.e0); (first | refine Nc ?_ | refine Nd ?_)) | refine Oa ?_ | refine Ob ?_ | ((first | refine Ga (fun h => ?_) (fun h => ?_) | refine AD.gsplit rfl rfl (fun h => ?_) (fun h => ?_)) <;> try (exfalso; omega; done)) | (first | refine AL.gsplitB rfl rfl (fun h => ?_) (fun h => ?_) | refine AD.gsplitB rfl rfl (fun h => ?_) (fun h => ?_)) | refine Fa ?_ | refine Qb ?_ | refine Qc ?_ | refine Qd ?_ | refine Fb ?_ | refine Qe ?_ | refine Wa ?_ | refine Wb ?_ | (refine AW.ite rfl (fun h => ?_) (fun h => ?_) <;> try (exfalso; omega; done)) | refine AW.cond _ rfl (fun h => ?_) (fun h => ?_) | refine Qf ?_ | refine Qg ?_ | refine Qh ?_ | refine Qi ?_ | refine Xa ?_ | refine Xb ?_ | refine Xc ?_ | refine Xd ?_ | refine Fc ?_)
        refine ⟨⟨j + 1, by omega⟩, ?_, by simp only; omega⟩
        (apply Le.headG [_, _] [{ l := ⟨2, []⟩, k := 1, R := TR (earP (eaC t f) n i (j + 1)), src := ⟨913, []⟩, base := ⟨2, []⟩, cut := (earP (eaC t f) n i j).length, ext := some ⟨911, []⟩ }] (fun _ => False))
        (case' hlen => rfl)
        (case' hms => rfl)
        all_goals (try dsimp only [srcs])
        (case' hfr | hob => (repeat' (first | refine La ?_ ?_ | exact Lc | refine Lo ?_ | refine ⟨⟨_, rfl, ?_⟩, ?_⟩ | refine ObA.box ?_ | refine ObA.frE ?_ | refine ObA.dataE ?_ | refine ARs.agg ?_ | refine ARs.tup ?_ | refine AR.b ?_ | refine AR.iE ?_ | refine AR.e ?_ | refine AR.clo' ARs.nil ?_)))
        (case' hok => first | exact ⟨MI.ok_app (TR_snoc e) (by simp) rfl rfl (Cg) rfl, trivial⟩ | exact trivial)
        (case' hN => rfl)
        (case' hS => rfl)
        all_goals (first | exact Ld | ((first | (simp [AllP, e]; done) | (rw [e]; simp; done))))
    ·
      have hjn : j = n := by omega
      subst hjn
      repeat' (first | refine Qa ?_ | ((first | apply Ba | (apply Bb; (· rfl); (· rfl)) | (apply Bc; (· exact nxE)) | (apply Bd; (· rfl); (· rfl); (· exact nxE))); (· first | exact Ok.pe); (first | refine Na ?_ | refine Nb ?_)) | ((first | apply Ca | (apply Cb; (· exact nxE))); (· first | exact Ok.e0); (first | refine Nc ?_ | refine Nd ?_)) | refine Oa ?_ | refine Ob ?_ | ((first | refine Ga (fun h => ?_) (fun h => ?_) | refine AD.gsplit rfl rfl (fun h => ?_) (fun h => ?_)) <;> try (exfalso; omega; done)) | (first | refine AL.gsplitB rfl rfl (fun h => ?_) (fun h => ?_) | refine AD.gsplitB rfl rfl (fun h => ?_) (fun h => ?_)) | refine Fa ?_ | refine Qb ?_ | refine Qc ?_ | refine Qd ?_ | refine Fb ?_ | refine Qe ?_ | refine Wa ?_ | refine Wb ?_ | (refine AW.ite rfl (fun h => ?_) (fun h => ?_) <;> try (exfalso; omega; done)) | refine AW.cond _ rfl (fun h => ?_) (fun h => ?_) | refine Qf ?_ | refine Qg ?_ | refine Qh ?_ | refine Qi ?_ | refine Xa ?_ | refine Xb ?_ | refine Xc ?_ | refine Xd ?_ | refine Fc ?_)
      refine ⟨⟨i + 1, by omega⟩, ?_, by simp only; omega⟩
      rw [earP_row]
      (apply Le.headG [_, _] [mi1 ⟨2, []⟩ (TR (earP (eaC t f) j (i + 1) 0))] (fun _ => False))
      (case' hlen => rfl)
      (case' hms => rfl)
      all_goals (try dsimp only [srcs])
      (case' hfr | hob => (repeat' (first | refine La ?_ ?_ | exact Lc | refine Lo ?_ | refine ⟨⟨_, rfl, ?_⟩, ?_⟩ | refine ObA.box ?_ | refine ObA.frE ?_ | refine ObA.dataE ?_ | refine ARs.agg ?_ | refine ARs.tup ?_ | refine AR.b ?_ | refine AR.iE ?_ | refine AR.e ?_ | refine AR.clo' ARs.nil ?_)))
      (case' hok => first | exact ⟨MI.ok_same rfl (Cg), trivial⟩ | exact trivial)
      (case' hN => rfl)
      (case' hS => rfl)
      all_goals (first | exact Ld | (rfl))
  ·
    have him : i = m := by omega
    subst him
    rw [earP_00]
    repeat' (first | refine Qa ?_ | ((first | apply Ba | (apply Bb; (· rfl); (· rfl)) | (apply Bc; (· exact nxE)) | (apply Bd; (· rfl); (· rfl); (· exact nxE))); (· first | exact Ok.pe); (first | refine Na ?_ | refine Nb ?_)) | ((first | apply Ca | (apply Cb; (· exact nxE))); (· first | exact Ok.e0); (first | refine Nc ?_ | refine Nd ?_)) | refine Oa ?_ | refine Ob ?_ | ((first | refine Ga (fun h => ?_) (fun h => ?_) | refine AD.gsplit rfl rfl (fun h => ?_) (fun h => ?_)) <;> try (exfalso; omega; done)) | (first | refine AL.gsplitB rfl rfl (fun h => ?_) (fun h => ?_) | refine AD.gsplitB rfl rfl (fun h => ?_) (fun h => ?_)) | refine Fa ?_ | refine Qb ?_ | refine Qc ?_ | refine Qd ?_ | refine Fb ?_ | refine Qe ?_ | refine Wa ?_ | refine Wb ?_ | (refine AW.ite rfl (fun h => ?_) (fun h => ?_) <;> try (exfalso; omega; done)) | refine AW.cond _ rfl (fun h => ?_) (fun h => ?_) | refine Qf ?_ | refine Qg ?_ | refine Qh ?_ | refine Qi ?_ | refine Xa ?_ | refine Xb ?_ | refine Xc ?_ | refine Xd ?_ | refine Fc ?_)
    refine Ya ?_
    (apply Le.headG [⟨1, []⟩, ⟨6, []⟩] [mi1 ⟨2, []⟩ (TR (earT (eaC t f) n i))] (fun _ => False))
    (case' hlen => rfl)
    (case' hms => rfl)
    all_goals (try dsimp only [srcs])
    (case' hfr | hob => (repeat' (first | refine La ?_ ?_ | exact Lc | refine Lo ?_ | refine ⟨⟨_, rfl, ?_⟩, ?_⟩ | refine ObA.box ?_ | refine ObA.frE ?_ | refine ObA.dataE ?_ | refine ARs.agg ?_ | refine ARs.tup ?_ | refine AR.b ?_ | refine AR.iE ?_ | refine AR.e ?_ | refine AR.clo' ARs.nil ?_)))
    (case' hok => first | exact ⟨MI.ok_same rfl (Cg), trivial⟩ | exact trivial)
    (case' hN => rfl)
    (case' hS => rfl)
    all_goals (first | exact Ld | (rfl))
set_option maxHeartbeats 1000000 in
theorem earlyFirings_ac (n m : Nat) (xs : List Pl) (t : List (List Int)) (hx : xs.length ≤ 100000000) (hv : ∀ p ∈ xs, okPl n p) (ht : Rc t m n) (hb : bndT t) (hn : n ≤ 10) (hm : m ≤ 1000) : AC Try.prog 144 [grD n xs, TL t] H0 (own1 1 (earT (eaC t (alFn t xs)) n m).length) (hpM 1 (TR (earT (eaC t (alFn t xs)) n m))) := by
  have htl := ht.l
  have hAL := (allowedTimes_ac n m xs t hx hv ht hb hn (by omega)).frzT (by rw [TR_len, alTab_len])
  rw [alTab_tabF] at hAL
  have hF := firingsE_ac n m t (alFn t xs) ht hn hm
  refine AC.of_body 0 Try.func144 rfl (fun l h => absurd rfl h) (fun C hC => ?_)
  have hD : ∀ l, ¬ C.D0 l := fun l h => (hC l).1 h rfl
  simp only [startFr, Try.ntmps144, List.length_cons, List.length_nil, Nat.reduceAdd, Nat.reduceSub, List.replicate_succ, List.replicate_zero, List.cons_append, List.nil_append]
  repeat' (first | refine Qa ?_ | ((first | apply Ba | (apply Bb; (· rfl); (· rfl)) | (apply Bc; (· exact nxE)) | (apply Bd; (· rfl); (· rfl); (· exact nxE))); (· first | exact Kz rfl rfl (hAL) (Aa (Ad (Ad An)) (Ad An)) | exact OpOk.callSX (hsE t (tabF m n (alFn t xs))) [mi1 ⟨2, []⟩ (TR (earT (eaC t (alFn t xs)) n m))] rfl rfl hF (by intro p hp; simp only [List.mem_cons, List.not_mem_nil, or_false] at hp; rcases hp with rfl | rfl <;> rfl) hsE_ok (by simp [Loc.cov]) (.cons (.dd _) (.cons (AR.clo' .nil (.cons (AR.ptr _ _ _ _ (by simp)) (.cons (AR.ptr _ _ _ _ (by simp)) .nil))) .nil)) (by simp [rn, emb]; rfl) | exact Ok.pe); (first | refine Na ?_ | refine Nb ?_)) | ((first | apply Ca | (apply Cb; (· exact nxE))); (· first | exact OpOk.callSX (hsE t (tabF m n (alFn t xs))) [mi1 ⟨2, []⟩ (TR (earT (eaC t (alFn t xs)) n m))] rfl rfl hF (by intro p hp; simp only [List.mem_cons, List.not_mem_nil, or_false] at hp; rcases hp with rfl | rfl <;> rfl) hsE_ok (by simp [Loc.cov]) (.cons (.dd _) (.cons (AR.clo' .nil (.cons (AR.ptr _ _ _ _ (by simp)) (.cons (AR.ptr _ _ _ _ (by simp)) .nil))) .nil)) (by simp [rn, emb]; rfl) | exact Ok.e0); (first | refine Nc ?_ | refine Nd ?_)) | refine Oa ?_ | refine Ob ?_ | ((first | refine Ga (fun h => ?_) (fun h => ?_) | refine AD.gsplit rfl rfl (fun h => ?_) (fun h => ?_)) <;> try (exfalso; omega; done)) | (first | refine AL.gsplitB rfl rfl (fun h => ?_) (fun h => ?_) | refine AD.gsplitB rfl rfl (fun h => ?_) (fun h => ?_)) | refine Fa ?_ | refine Qb ?_ | refine Qc ?_ | refine Qd ?_ | refine Fb ?_ | refine Qe ?_ | refine Wa ?_ | refine Wb ?_ | (refine AW.ite rfl (fun h => ?_) (fun h => ?_) <;> try (exfalso; omega; done)) | refine AW.cond _ rfl (fun h => ?_) (fun h => ?_) | refine Qf ?_ | refine Qg ?_ | refine Qh ?_ | refine Qi ?_ | refine Xa ?_ | refine Xb ?_ | refine Xc ?_ | refine Xd ?_ | refine Fc ?_)
  refine Ya ?_
  (apply Le.headG [] [{ l := ⟨0, []⟩, k := 1, R := TR (earT (eaC t (alFn t xs)) n m), src := ⟨10, [2]⟩, base := ⟨10, [2]⟩ }] (fun _ => False))
  (case' hlen => rfl)
  (case' hms => rfl)
  all_goals (try dsimp only [srcs])
  (case' hfr | hob => (repeat' (first | refine La ?_ ?_ | exact Lc | refine Lo ?_ | refine ⟨⟨_, rfl, ?_⟩, ?_⟩ | refine ObA.box ?_ | refine ObA.frE ?_ | refine ObA.dataE ?_ | refine ARs.agg ?_ | refine ARs.tup ?_ | refine AR.b ?_ | refine AR.iE ?_ | refine AR.e ?_ | refine AR.clo' ARs.nil ?_)))
  (case' hok => first | exact ⟨MI.ok_same rfl (Cg), trivial⟩ | exact trivial)
  (case' hN => rfl)
  (case' hS => rfl)
  all_goals (first | exact Ld | (rfl))
set_option maxHeartbeats 1000000 in
theorem sEarlyFirings_ac (ev : Int) (xs : List Pl) (t : List (List Int)) (hx : xs.length ≤ 100000000) (ht : t.length ≤ 100000000) (hr : ∀ r ∈ t, r.length ≤ 100000000) : AC Try.prog 50 [grD ev xs, TL t] H0 (.tup [TL (eaOut ev xs t), I (goodI ev xs t)]) H0 := by
  have hc := l26Code_ac ev xs t true hx ht hr
  rw [Bool.true_and] at hc
  by_cases h0 : goodI ev xs t = 0
  · obtain ⟨n, rfl, h1, h2, h3, h4, h5, h6⟩ := code_ok h0
    have hmm : t.length ≤ 1000 := by have := (dueB_ok h5).2.1; omega
    have hrc := (dueB_ok h5).1
    have hT := (l26Table_ac n t.length xs t hx h4 hrc (dueB_bnd h5) h2 (by omega)).frzT (by rw [TR_len, alTab_len])
    rw [alTab_tabF] at hT
    generalize hm : t.length = m at hmm hrc hT
    unfold eaOut
    rw [if_pos h0, h0, Int.toNat_natCast, hm]
    rw [show codeI n xs (dueB n t) = 0 from h0] at hc
    have hal : (TR (tabF m n (alFn t xs))).length = m := by rw [TR_len, tabF_len]
    generalize hf : alFn t xs = f at hT hal
    refine AC.of_body 0 Try.func50 rfl (fun l h => absurd rfl h) (fun C hC => ?_)
    have hD : ∀ l, ¬ C.D0 l := fun l h => (hC l).1 h rfl
    simp only [startFr, Try.ntmps50, List.length_cons, List.length_nil, Nat.reduceAdd, Nat.reduceSub, List.replicate_succ, List.replicate_zero, List.cons_append, List.nil_append]
    repeat' (first | refine Qa ?_ | ((first | apply Ba | (apply Bb; (· rfl); (· rfl)) | (apply Bc; (· exact nxE)) | (apply Bd; (· rfl); (· rfl); (· exact nxE))); (· first | exact Kz rfl rfl (hc) (Aa (Ad (Ad An)) (Ad (Ad An))) | exact Kz rfl rfl (hT) (Aa (Ad (Ad An)) (Ad An)) | exact Ok.pe); (first | refine Na ?_ | refine Nb ?_)) | ((first | apply Ca | (apply Cb; (· exact nxE))); (· first | exact Ok.e0); (first | refine Nc ?_ | refine Nd ?_)) | refine Oa ?_ | refine Ob ?_ | ((first | refine Ga (fun h => ?_) (fun h => ?_) | refine AD.gsplit rfl rfl (fun h => ?_) (fun h => ?_)) <;> try (exfalso; omega; done)) | (first | refine AL.gsplitB rfl rfl (fun h => ?_) (fun h => ?_) | refine AD.gsplitB rfl rfl (fun h => ?_) (fun h => ?_)) | refine Fa ?_ | refine Qb ?_ | refine Qc ?_ | refine Qd ?_ | refine Fb ?_ | refine Qe ?_ | refine Wa ?_ | refine Wb ?_ | (refine AW.ite rfl (fun h => ?_) (fun h => ?_) <;> try (exfalso; omega; done)) | refine AW.cond _ rfl (fun h => ?_) (fun h => ?_) | refine Qf ?_ | refine Qg ?_ | refine Qh ?_ | refine Qi ?_ | refine Xa ?_ | refine Xb ?_ | refine Xc ?_ | refine Xd ?_ | refine Fc ?_)
    refine AW.loop (X := {k : Nat // k ≤ m}) (fun k => ⟨[Oo, TL t, Oo, Oo, Oo, Oo, Oo, TL (tabF m n f), .own 1 ⟨1, []⟩ 0 (earP (eaC t f) n (k.1 : Nat) 0).length, I (k.1 : Nat), Oo, Oo, Oo, Oo, Oo, Oo, Oo, Oo, Oo, Oo, Oo, Oo, Oo, Oo, Oo, Oo, Oo, Oo, Oo, Oo, Oo, Oo, Oo, Oo, Oo, Oo, Oo, Oo, Oo, Oo, Oo, Oo, Oo, Oo, Oo, Oo, Oo, Oo, Oo, Oo, Oo, Oo, Oo, Oo, Oo, Oo, Oo, Oo, Oo], heapX [] [mi1 ⟨1, []⟩ (TR (earP (eaC t f) n k.1 0))], 900⟩) (fun k => m - k.1) ⟨0, Nat.zero_le _⟩ ?_ (fun k => ?_)
    ·
      (apply Le.headG [] [{ l := ⟨1, []⟩, k := 1, R := TR (earP (eaC t f) n 0 0), src := ⟨13, []⟩, base := ⟨13, []⟩ }] (fun _ => False))
      (case' hlen => rfl)
      (case' hms => rfl)
      all_goals (try dsimp only [srcs])
      (case' hfr | hob => (repeat' (first | refine La ?_ ?_ | exact Lc | refine Lo ?_ | refine ⟨⟨_, rfl, ?_⟩, ?_⟩ | refine ObA.box ?_ | refine ObA.frE ?_ | refine ObA.dataE ?_ | refine ARs.agg ?_ | refine ARs.tup ?_ | refine AR.b ?_ | refine AR.iE ?_ | refine AR.e ?_ | refine AR.clo' ARs.nil ?_)))
      (case' hok => first | exact ⟨MI.ok_same rfl (fun i x hx => by simp [earP_0] at hx), trivial⟩ | exact trivial)
      (case' hN => rfl)
      (case' hS => rfl)
      all_goals (first | exact Ld | (rfl))
    obtain ⟨i, hi⟩ := k
    simp only
    by_cases hlt : i < m
    ·
      obtain ⟨R0, hR1⟩ : ∃ R, t[i]? = some R := ⟨t[i], by simp⟩
      have hR3 := hrc.r R0 (List.mem_of_getElem? hR1)
      have hRr := TR_get hR1
      have hRl : (IR R0).length = n := by rw [IR_len, hR3]
      have hFr := tabF_get2 (n := n) (f := f) hlt
      have hFl : (IR (rowF n (f i))).length = n := by rw [IR_len, rowF_len]
      repeat' (first | refine Qa ?_ | ((first | apply Ba | (apply Bb; (· rfl); (· rfl)) | (apply Bc; (· exact nxE)) | (apply Bd; (· rfl); (· rfl); (· exact nxE))); (· first | exact Ok.pe); (first | refine Na ?_ | refine Nb ?_)) | ((first | apply Ca | (apply Cb; (· exact nxE))); (· first | exact Ok.e0); (first | refine Nc ?_ | refine Nd ?_)) | refine Oa ?_ | refine Ob ?_ | ((first | refine Ga (fun h => ?_) (fun h => ?_) | refine AD.gsplit rfl rfl (fun h => ?_) (fun h => ?_)) <;> try (exfalso; omega; done)) | (first | refine AL.gsplitB rfl rfl (fun h => ?_) (fun h => ?_) | refine AD.gsplitB rfl rfl (fun h => ?_) (fun h => ?_)) | refine Fa ?_ | refine Qb ?_ | refine Qc ?_ | refine Qd ?_ | refine Fb ?_ | refine Qe ?_ | refine Wa ?_ | refine Wb ?_ | (refine AW.ite rfl (fun h => ?_) (fun h => ?_) <;> try (exfalso; omega; done)) | refine AW.cond _ rfl (fun h => ?_) (fun h => ?_) | refine Qf ?_ | refine Qg ?_ | refine Qh ?_ | refine Qi ?_ | refine Xa ?_ | refine Xb ?_ | refine Xc ?_ | refine Xd ?_ | refine Fc ?_)
      refine AW.loop (X := {k : Nat // k ≤ n}) (fun k => ⟨[Oo, TL t, Oo, Oo, Oo, Oo, Oo, TL (tabF m n f), .own 1 ⟨1, []⟩ 0 (earP (eaC t f) n i (k.1 : Nat)).length, I i, I (k.1 : Nat), Oo, Oo, Oo, Oo, Oo, Oo, Oo, Oo, Oo, Oo, Oo, Oo, Oo, Oo, Oo, Oo, Oo, Oo, Oo, Oo, Oo, Oo, Oo, Oo, Oo, Oo, Oo, Oo, Oo, Oo, Oo, Oo, Oo, Oo, Oo, Oo, Oo, Oo, Oo, Oo, Oo, Oo, Oo, Oo, Oo, Oo, Oo, Oo], heapX [] [mi1 ⟨1, []⟩ (TR (earP (eaC t f) n i k.1))], 900⟩) (fun k => n - k.1) ⟨0, Nat.zero_le _⟩ ?_ (fun k => ?_)
      ·
        (apply Le.headG [] [mi1 ⟨1, []⟩ (TR (earP (eaC t f) n i 0))] (fun _ => False))
        (case' hlen => rfl)
        (case' hms => rfl)
        all_goals (try dsimp only [srcs])
        (case' hfr | hob => (repeat' (first | refine La ?_ ?_ | exact Lc | refine Lo ?_ | refine ⟨⟨_, rfl, ?_⟩, ?_⟩ | refine ObA.box ?_ | refine ObA.frE ?_ | refine ObA.dataE ?_ | refine ARs.agg ?_ | refine ARs.tup ?_ | refine AR.b ?_ | refine AR.iE ?_ | refine AR.e ?_ | refine AR.clo' ARs.nil ?_)))
        (case' hok => first | exact ⟨MI.ok_same rfl (Cg), trivial⟩ | exact trivial)
        (case' hN => rfl)
        (case' hS => rfl)
        all_goals (first | exact Ld | (rfl))
      obtain ⟨j, hj⟩ := k
      simp only
      by_cases hlt2 : j < n
      ·
        obtain ⟨R, hR1', hR2, _⟩ := hrc.get hlt hlt2
        have : R = R0 := by rw [hR1] at hR1'; cases hR1'; rfl
        subst this
        have hRf := IR_get hR2
        have hFf := rowI_get2 (g := f i) hlt2
        have hle := earP_le (c := eaC t f) h2 i j
        cases hb : eaC t f i j
        ·
          have hb' := of_decide_eq_false hb
          repeat' (first | refine Qa ?_ | ((first | apply Ba | (apply Bb; (· rfl); (· rfl)) | (apply Bc; (· exact nxE)) | (apply Bd; (· rfl); (· rfl); (· exact nxE))); (· first | exact Ok.pe); (first | refine Na ?_ | refine Nb ?_)) | ((first | apply Ca | (apply Cb; (· exact nxE))); (· first | exact Ok.e0); (first | refine Nc ?_ | refine Nd ?_)) | refine Oa ?_ | refine Ob ?_ | ((first | refine Ga (fun h => ?_) (fun h => ?_) | refine AD.gsplit rfl rfl (fun h => ?_) (fun h => ?_)) <;> try (exfalso; omega; done)) | (first | refine AL.gsplitB rfl rfl (fun h => ?_) (fun h => ?_) | refine AD.gsplitB rfl rfl (fun h => ?_) (fun h => ?_)) | refine Fa ?_ | refine Qb ?_ | refine Qc ?_ | refine Qd ?_ | refine Fb ?_ | refine Qe ?_ | refine Wa ?_ | refine Wb ?_ | (refine AW.ite rfl (fun h => ?_) (fun h => ?_) <;> try (exfalso; omega; done)) | refine AW.cond _ rfl (fun h => ?_) (fun h => ?_) | refine Qf ?_ | refine Qg ?_ | refine Qh ?_ | refine Qi ?_ | refine Xa ?_ | refine Xb ?_ | refine Xc ?_ | refine Xd ?_ | refine Fc ?_)
          have e := earP_no (n := n) hb
          refine ⟨⟨j + 1, by omega⟩, ?_, by simp only; omega⟩
          (apply Le.headG [] [mi1 ⟨1, []⟩ (TR (earP (eaC t f) n i (j + 1)))] (fun _ => False))
          (case' hlen => rfl)
          (case' hms => rfl)
          all_goals (try dsimp only [srcs])
          (case' hfr | hob => (repeat' (first | refine La ?_ ?_ | exact Lc | refine Lo ?_ | refine ⟨⟨_, rfl, ?_⟩, ?_⟩ | refine ObA.box ?_ | refine ObA.frE ?_ | refine ObA.dataE ?_ | refine ARs.agg ?_ | refine ARs.tup ?_ | refine AR.b ?_ | refine AR.iE ?_ | refine AR.e ?_ | refine AR.clo' ARs.nil ?_)))
          (case' hok => first | exact ⟨by rw [e]; exact MI.ok_same rfl (Cg), trivial⟩ | exact trivial)
          (case' hN => rfl)
          (case' hS => rfl)
          all_goals (first | exact Ld | ((rw [e]; done)))
        ·
          have hb' := of_decide_eq_true hb
          have e := earP_yes (n := n) hb
          repeat' (first | refine Qa ?_ | ((first | apply Ba | (apply Bb; (· rfl); (· rfl)) | (apply Bc; (· exact nxE)) | (apply Bd; (· rfl); (· rfl); (· exact nxE))); (· first | exact Ok.bs2 rfl (by conv => lhs; whnf) (by conv => lhs; whnf) (by rfl) (by rfl) (by rfl) (by rfl) (by rfl) (by rfl) (by decide) | exact Ok.appendT rfl rfl (by decide) rfl rfl rfl (by simp [outer_len]; done) rfl rfl (by rfl) (by omega) (by omega) rfl | exact Ok.pe); (first | refine Na ?_ | refine Nb ?_)) | ((first | apply Ca | (apply Cb; (· exact nxE))); (· first | exact Ok.bs2 rfl (by conv => lhs; whnf) (by conv => lhs; whnf) (by rfl) (by rfl) (by rfl) (by rfl) (by rfl) (by rfl) (by decide) | exact Ok.appendT rfl rfl (by decide) rfl rfl rfl (by simp [outer_len]; done) rfl rfl (by rfl) (by omega) (by omega) rfl | exact Ok.e0); (first | refine Nc ?_ | refine Nd ?_)) | refine Oa ?_ | refine Ob ?_ | ((first | refine Ga (fun h => ?_) (fun h => ?_) | refine AD.gsplit rfl rfl (fun h => ?_) (fun h => ?_)) <;> try (exfalso; omega; done)) | (first | refine AL.gsplitB rfl rfl (fun h => ?_) (fun h => ?_) | refine AD.gsplitB rfl rfl (fun h => ?_) (fun h => ?_)) | refine Fa ?_ | refine Qb ?_ | refine Qc ?_ | refine Qd ?_ | refine Fb ?_ | refine Qe ?_ | refine Wa ?_ | refine Wb ?_ | (refine AW.ite rfl (fun h => ?_) (fun h => ?_) <;> try (exfalso; omega; done)) | refine AW.cond _ rfl (fun h => ?_) (fun h => ?_) | refine Qf ?_ | refine Qg ?_ | refine Qh ?_ | refine Qi ?_ | refine Xa ?_ | refine Xb ?_ | refine Xc ?_ | refine Xd ?_ | refine Fc ?_)
          refine ⟨⟨j + 1, by omega⟩, ?_, by simp only; omega⟩
          (apply Le.headG [] [{ l := ⟨1, []⟩, k := 1, R := TR (earP (eaC t f) n i (j + 1)), src := ⟨928, []⟩, base := ⟨1, []⟩, cut := (earP (eaC t f) n i j).length, ext := some ⟨926, []⟩ }] (fun _ => False))
          (case' hlen => rfl)
          (case' hms => rfl)
          all_goals (try dsimp only [srcs])
          (case' hfr | hob => (repeat' (first | refine La ?_ ?_ | exact Lc | refine Lo ?_ | refine ⟨⟨_, rfl, ?_⟩, ?_⟩ | refine ObA.box ?_ | refine ObA.frE ?_ | refine ObA.dataE ?_ | refine ARs.agg ?_ | refine ARs.tup ?_ | refine AR.b ?_ | refine AR.iE ?_ | refine AR.e ?_ | refine AR.clo' ARs.nil ?_)))
          (case' hok => first | exact ⟨MI.ok_app (TR_snoc e) (by simp) rfl rfl (Cg) rfl, trivial⟩ | exact trivial)
          (case' hN => rfl)
          (case' hS => rfl)
          all_goals (first | exact Ld | ((first | (simp [AllP, e]; done) | (rw [e]; simp; done))))
      ·
        have hjn : j = n := by omega
        subst hjn
        repeat' (first | refine Qa ?_ | ((first | apply Ba | (apply Bb; (· rfl); (· rfl)) | (apply Bc; (· exact nxE)) | (apply Bd; (· rfl); (· rfl); (· exact nxE))); (· first | exact Ok.pe); (first | refine Na ?_ | refine Nb ?_)) | ((first | apply Ca | (apply Cb; (· exact nxE))); (· first | exact Ok.e0); (first | refine Nc ?_ | refine Nd ?_)) | refine Oa ?_ | refine Ob ?_ | ((first | refine Ga (fun h => ?_) (fun h => ?_) | refine AD.gsplit rfl rfl (fun h => ?_) (fun h => ?_)) <;> try (exfalso; omega; done)) | (first | refine AL.gsplitB rfl rfl (fun h => ?_) (fun h => ?_) | refine AD.gsplitB rfl rfl (fun h => ?_) (fun h => ?_)) | refine Fa ?_ | refine Qb ?_ | refine Qc ?_ | refine Qd ?_ | refine Fb ?_ | refine Qe ?_ | refine Wa ?_ | refine Wb ?_ | (refine AW.ite rfl (fun h => ?_) (fun h => ?_) <;> try (exfalso; omega; done)) | refine AW.cond _ rfl (fun h => ?_) (fun h => ?_) | refine Qf ?_ | refine Qg ?_ | refine Qh ?_ | refine Qi ?_ | refine Xa ?_ | refine Xb ?_ | refine Xc ?_ | refine Xd ?_ | refine Fc ?_)
        refine ⟨⟨i + 1, by omega⟩, ?_, by simp only; omega⟩
        rw [earP_row]
        (apply Le.headG [] [mi1 ⟨1, []⟩ (TR (earP (eaC t f) j (i + 1) 0))] (fun _ => False))
        (case' hlen => rfl)
        (case' hms => rfl)
        all_goals (try dsimp only [srcs])
        (case' hfr | hob => (repeat' (first | refine La ?_ ?_ | exact Lc | refine Lo ?_ | refine ⟨⟨_, rfl, ?_⟩, ?_⟩ | refine ObA.box ?_ | refine ObA.frE ?_ | refine ObA.dataE ?_ | refine ARs.agg ?_ | refine ARs.tup ?_ | refine AR.b ?_ | refine AR.iE ?_ | refine AR.e ?_ | refine AR.clo' ARs.nil ?_)))
        (case' hok => first | exact ⟨MI.ok_same rfl (Cg), trivial⟩ | exact trivial)
        (case' hN => rfl)
        (case' hS => rfl)
        all_goals (first | exact Ld | (rfl))
    ·
      have him : i = m := by omega
      subst him
      rw [earP_00]
      repeat' (first | refine Qa ?_ | ((first | apply Ba | (apply Bb; (· rfl); (· rfl)) | (apply Bc; (· exact nxE)) | (apply Bd; (· rfl); (· rfl); (· exact nxE))); (· first | exact Ok.pe); (first | refine Na ?_ | refine Nb ?_)) | ((first | apply Ca | (apply Cb; (· exact nxE))); (· first | exact Ok.e0); (first | refine Nc ?_ | refine Nd ?_)) | refine Oa ?_ | refine Ob ?_ | ((first | refine Ga (fun h => ?_) (fun h => ?_) | refine AD.gsplit rfl rfl (fun h => ?_) (fun h => ?_)) <;> try (exfalso; omega; done)) | (first | refine AL.gsplitB rfl rfl (fun h => ?_) (fun h => ?_) | refine AD.gsplitB rfl rfl (fun h => ?_) (fun h => ?_)) | refine Fa ?_ | refine Qb ?_ | refine Qc ?_ | refine Qd ?_ | refine Fb ?_ | refine Qe ?_ | refine Wa ?_ | refine Wb ?_ | (refine AW.ite rfl (fun h => ?_) (fun h => ?_) <;> try (exfalso; omega; done)) | refine AW.cond _ rfl (fun h => ?_) (fun h => ?_) | refine Qf ?_ | refine Qg ?_ | refine Qh ?_ | refine Qi ?_ | refine Xa ?_ | refine Xb ?_ | refine Xc ?_ | refine Xd ?_ | refine Fc ?_)
      refine Yb ?_
      (apply Le.headZ (hs := []) [] rfl)
      all_goals (try dsimp only [srcs])
      (case' hfr => (repeat' (first | refine La ?_ ?_ | exact Lc | refine Lo ?_ | refine ⟨⟨_, rfl, ?_⟩, ?_⟩ | refine ObA.box ?_ | refine ObA.frE ?_ | refine ObA.dataE ?_ | refine ARs.agg ?_ | refine ARs.tup ?_ | refine AR.b ?_ | refine AR.iE ?_ | refine AR.e ?_ | refine AR.clo' ARs.nil ?_)))
      all_goals (first | exact Ld | exact trivial | (rfl))
  · unfold eaOut
    rw [if_neg h0]
    refine AC.of_body 0 Try.func50 rfl (fun l h => absurd rfl h) (fun C hC => ?_)
    have hD : ∀ l, ¬ C.D0 l := fun l h => (hC l).1 h rfl
    simp only [startFr, Try.ntmps50, List.length_cons, List.length_nil, Nat.reduceAdd, Nat.reduceSub, List.replicate_succ, List.replicate_zero, List.cons_append, List.nil_append]
    rw [show codeI ev xs (dueB ev t) = goodI ev xs t from rfl] at hc
    repeat' (first | refine Qa ?_ | ((first | apply Ba | (apply Bb; (· rfl); (· rfl)) | (apply Bc; (· exact nxE)) | (apply Bd; (· rfl); (· rfl); (· exact nxE))); (· first | exact Kz rfl rfl (hc) (Aa (Ad (Ad An)) (Ad (Ad An))) | exact Ok.pe); (first | refine Na ?_ | refine Nb ?_)) | ((first | apply Ca | (apply Cb; (· exact nxE))); (· first | exact Ok.e0); (first | refine Nc ?_ | refine Nd ?_)) | refine Oa ?_ | refine Ob ?_ | ((first | refine Ga (fun h => ?_) (fun h => ?_) | refine AD.gsplit rfl rfl (fun h => ?_) (fun h => ?_)) <;> try (exfalso; omega; done)) | (first | refine AL.gsplitB rfl rfl (fun h => ?_) (fun h => ?_) | refine AD.gsplitB rfl rfl (fun h => ?_) (fun h => ?_)) | refine Fa ?_ | refine Qb ?_ | refine Qc ?_ | refine Qd ?_ | refine Fb ?_ | refine Qe ?_ | refine Wa ?_ | refine Wb ?_ | (refine AW.ite rfl (fun h => ?_) (fun h => ?_) <;> try (exfalso; omega; done)) | refine AW.cond _ rfl (fun h => ?_) (fun h => ?_) | refine Qf ?_ | refine Qg ?_ | refine Qh ?_ | refine Qi ?_ | refine Xa ?_ | refine Xb ?_ | refine Xc ?_ | refine Xd ?_ | refine Fc ?_)
    refine Yb ?_
    (apply Le.headZ (hs := []) [] rfl)
    all_goals (try dsimp only [srcs])
    (case' hfr => (repeat' (first | refine La ?_ ?_ | exact Lc | refine Lo ?_ | refine ⟨⟨_, rfl, ?_⟩, ?_⟩ | refine ObA.box ?_ | refine ObA.frE ?_ | refine ObA.dataE ?_ | refine ARs.agg ?_ | refine ARs.tup ?_ | refine AR.b ?_ | refine AR.iE ?_ | refine AR.e ?_ | refine AR.clo' ARs.nil ?_)))
    all_goals (first | exact Ld | exact trivial | (rfl))
end Go.Proofs.Ytegfjedklebbfaa
end
