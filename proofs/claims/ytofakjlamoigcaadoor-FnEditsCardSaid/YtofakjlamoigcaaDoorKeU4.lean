/-
  Walks in the abstract reading, part 4.
-/
import Derived.Test.YtofakjlamoigcaaDoorKeU3
import Derived.Test.YtofakjlamoigcaaDoorKeU2
import Derived.Test.YtofakjlamoigcaaDoorKeA3
import Derived.Test.YtofakjlamoigcaaDoorKeU1
import Derived.Lib.ParseIntBTie
import Derived.Lib.SplitLaws
section
namespace Go.Proofs.YtofakjlamoigcaaDoor
open Go Go.RowKit
set_option linter.unusedSimpArgs false
set_option linter.unusedVariables false
attribute [local irreducible] AL AD AW OpOk Le AC thenQ blockQ EndQ

theorem dobj_get [Mode] {α : Type} {k : Nat} {row : α → List D} {xs : List α} {i : Nat} {p : α} (h : xs[i]? = some p) : (dobj k (xs.map row)).rows[0 + ((i : Nat) : Int).toNat]? = some ((row p).map .d) := by
  simp only [dobj, Int.toNat_natCast, Nat.zero_add, List.getElem?_map, h, Option.map_some]
theorem dobj_set [Mode] {α : Type} {k : Nat} {row : α → List D} {xs : List α} {i : Nat} {p : α} {cs : List AV} (hc : cs = (row p).map .d) : (dobj k (xs.map row)).rows.set (0 + ((i : Nat) : Int).toNat) cs = (dobj k ((xs.set i p).map row)).rows := by
  subst hc
  simp only [dobj, Int.toNat_natCast, Nat.zero_add, ← List.map_set]
set_option maxHeartbeats 2000000 in
theorem iEdited_ac [Mode] (ev : Int) (xs : List Pl) (e : Ed) (hn : xs.length ≤ 1048576) (hc : canEd ev xs e = true) : AC Tryd.prog 26 [grD ev xs, e.av] H0 (.agg [I ev, own1 4 (edL xs e).length]) (hp1 (dobj 4 ((edL xs e).map Pl.row))) := by
  obtain ⟨hk, h0, h1, h2⟩ := canEd_facts hc
  obtain ⟨kd, ix, a, b, c, d⟩ := e
  simp only at hk h0 h1 h2
  obtain ⟨i, rfl⟩ : ∃ i : Nat, ix = i := ⟨ix.toNat, by omega⟩
  rcases hk with rfl | rfl | rfl
  · have hi : i ≤ xs.length := by omega
    refine AC.of_body 0 Tryd.func26 rfl (fun l h => absurd rfl h) (fun C hC => ?_)
    have hD : ∀ l, ¬ C.D0 l := fun l h => (hC l).1 h rfl
    simp only [startFr, Tryd.ntmps26, List.length_cons, List.length_nil, Nat.reduceAdd, Nat.reduceSub, List.replicate_succ, List.replicate_zero, List.cons_append, List.nil_append]
    repeat' (first | refine AL.nil ?_ | ((first | apply AL.st | (apply AL.on; (· rfl); (· rfl)) | (apply AD.st; (· exact nxE)) | (apply AD.on; (· rfl); (· rfl); (· exact nxE))); (· first | exact OpOk.call1n [] rfl rfl (cloneGraph_ac ev xs hn) (.inl rfl) (fun _ => by simp [rnO_dobj]) (ARs.cons (ARs.agg (ARs.cons (AR.dd _) (ARs.cons (AR.dd _) ARs.nil))) ARs.nil) (by simp only [rn, List.map_cons, List.map_nil]; exact rfl) | exact Ok.callV (res' := .own 4 ⟨18, [2]⟩ 0 (xs.length + 1)) [(⟨0, []⟩, ⟨4, [0]⟩, dobj 4 (xs.map Pl.row)), (⟨1, []⟩, ⟨17, []⟩, dobj 4 [Pl.row ⟨a, b, c, d⟩])] 2 rfl rfl (insPl_ac xs i ⟨a, b, c, d⟩ hi hn) (by simp) (by simp) (by simp) ⟨⟨⟨_, _, rfl⟩, rfl⟩, ⟨⟨_, _, rfl⟩, rfl⟩, trivial⟩ (fun _ => by simp [rnO_dobj]) (ARs.cons (AR.own 4 ⟨0, []⟩ 0 xs.length (by simp)) (ARs.cons (AR.dd _) (ARs.cons (AR.own 4 ⟨1, []⟩ 0 1 (by simp)) ARs.nil))) (by first | (rw [rn]; done) | (rw [rn]; rfl)) | exact Ok.pe); (· exact setE); (· first | exact updsE | exact rfl); (· exact nxE)) | ((first | apply AL.st0 | (apply AD.st0; (· exact nxE))); (· first | exact OpOk.call1n [] rfl rfl (cloneGraph_ac ev xs hn) (.inl rfl) (fun _ => by simp [rnO_dobj]) (ARs.cons (ARs.agg (ARs.cons (AR.dd _) (ARs.cons (AR.dd _) ARs.nil))) ARs.nil) (by simp only [rn, List.map_cons, List.map_nil]; exact rfl) | exact Ok.callV (res' := .own 4 ⟨18, [2]⟩ 0 (xs.length + 1)) [(⟨0, []⟩, ⟨4, [0]⟩, dobj 4 (xs.map Pl.row)), (⟨1, []⟩, ⟨17, []⟩, dobj 4 [Pl.row ⟨a, b, c, d⟩])] 2 rfl rfl (insPl_ac xs i ⟨a, b, c, d⟩ hi hn) (by simp) (by simp) (by simp) ⟨⟨⟨_, _, rfl⟩, rfl⟩, ⟨⟨_, _, rfl⟩, rfl⟩, trivial⟩ (fun _ => by simp [rnO_dobj]) (ARs.cons (AR.own 4 ⟨0, []⟩ 0 xs.length (by simp)) (ARs.cons (AR.dd _) (ARs.cons (AR.own 4 ⟨1, []⟩ 0 1 (by simp)) ARs.nil))) (by first | (rw [rn]; done) | (rw [rn]; rfl)) | exact Ok.e0); (· exact rfl); (· exact nxE)) | ((first | apply AL.off | apply AD.off); (· rfl); (· rfl); (· rfl); (· exact setE); (· exact nxE)) | ((first | refine AL.gsplit rfl rfl (fun h => ?_) (fun h => ?_) | refine AD.gsplit rfl rfl (fun h => ?_) (fun h => ?_)) <;> try (exfalso; omega; done)) | (first | refine AL.gsplitB rfl rfl (fun h => ?_) (fun h => ?_) | refine AD.gsplitB rfl rfl (fun h => ?_) (fun h => ?_)) | refine AD.fin (by simp only [List.length_cons, List.length_nil, Nat.reduceAdd]; rfl) rfl (by kernel_rfl) ?_ | refine thenN ?_ | refine AW.seq ?_ | refine AW.reg ?_ | refine AW.dr mixedA (by kernel_rfl) ?_ | refine AW.block ?_ | refine AW.condT rfl ?_ | refine AW.condF rfl ?_ | (refine AW.ite rfl (fun h => ?_) (fun h => ?_) <;> try (exfalso; omega; done)) | refine AW.cond _ rfl (fun h => ?_) (fun h => ?_) | refine AW.ret ?_ | refine AW.exit ?_ | refine AW.skip ?_ | refine thenR ?_ | refine thenX ?_ | refine blockN ?_ | refine blockR ?_ | refine blockX ?_ | refine blockY (by decide) ?_)
    (refine end1 (res' := .agg [I ev, .own 4 ⟨18, [2]⟩ 0 (xs.length + 1)]) (by first | exact .inl rfl | exact .inr rfl) rfl (by first | exact rT rfl | exact rCA rfl rfl rfl rfl (by simp) | exact rCC rfl rfl rfl rfl rfl) ?_ (Le.head ([(⟨0, []⟩, ⟨18, [2]⟩, dobj 4 ((edL xs ⟨1, i, ⟨a, b, c, d⟩⟩).map Pl.row))]) (by first | exact fun l h => absurd h (hD l) | (intro l h; rcases hD l h with rfl; simp [tauL]) | (intro l h; rcases hD l h with rfl | rfl <;> simp [tauL]; done) | (intro l h; rcases hD l h with rfl | rfl | rfl <;> simp [tauL])) ?_ ?_ (by simp) (by simp) (by simp [AllP]) (n' := 1000)); (· rfl)) <;> (repeat' (first | exact trivial | exact ARs.nil | refine ARs.cons ?_ ?_ | exact AR.dead _ | exact AR.dd _ | exact AR.i (by (try dsimp only); omega) | exact AR.ptr _ _ _ _ (by simp [heapL, upd]) | exact AR.own _ _ _ _ (by simp [heapL, upd]) | refine AR.ownE _ _ _ ?_ (by simp [heapL, upd]) | refine ⟨⟨_, rfl, ?_⟩, ?_⟩ | exact ObA.data | refine ObA.box ?_ | refine ObA.frE ?_ | refine ObA.dataE ?_ | refine ARs.agg ?_ | refine ARs.tup ?_ | exact AR.clo' ARs.nil ARs.nil | exact AR.clo' ARs.nil (hca _ _)))
    all_goals (first | (simp [edL, insAt]; done) | (simp [edL]; omega))
  · have hi : i < xs.length := by omega
    refine AC.of_body 0 Tryd.func26 rfl (fun l h => absurd rfl h) (fun C hC => ?_)
    have hD : ∀ l, ¬ C.D0 l := fun l h => (hC l).1 h rfl
    simp only [startFr, Tryd.ntmps26, List.length_cons, List.length_nil, Nat.reduceAdd, Nat.reduceSub, List.replicate_succ, List.replicate_zero, List.cons_append, List.nil_append]
    repeat' (first | refine AL.nil ?_ | ((first | apply AL.st | (apply AL.on; (· rfl); (· rfl)) | (apply AD.st; (· exact nxE)) | (apply AD.on; (· rfl); (· rfl); (· exact nxE))); (· first | exact OpOk.call1n [] rfl rfl (cloneGraph_ac ev xs hn) (.inl rfl) (fun _ => by simp [rnO_dobj]) (ARs.cons (ARs.agg (ARs.cons (AR.dd _) (ARs.cons (AR.dd _) ARs.nil))) ARs.nil) (by simp only [rn, List.map_cons, List.map_nil]; exact rfl) | exact Ok.callV (res' := .own 4 ⟨20, [1]⟩ 0 (xs.length - 1)) [(⟨0, []⟩, ⟨4, [0]⟩, dobj 4 (xs.map Pl.row))] 1 rfl rfl (delPl_ac xs i hi hn) (by simp) (by simp) (by simp) ⟨⟨⟨_, _, rfl⟩, rfl⟩, trivial⟩ (fun _ => by simp [rnO_dobj]) (ARs.cons (AR.own 4 ⟨0, []⟩ 0 xs.length (by simp)) (ARs.cons (AR.dd _) (ARs.cons (AR.dd _) ARs.nil))) (by first | (rw [rn]; done) | (rw [rn]; rfl)) | exact Ok.pe); (· exact setE); (· first | exact updsE | exact rfl); (· exact nxE)) | ((first | apply AL.st0 | (apply AD.st0; (· exact nxE))); (· first | exact OpOk.call1n [] rfl rfl (cloneGraph_ac ev xs hn) (.inl rfl) (fun _ => by simp [rnO_dobj]) (ARs.cons (ARs.agg (ARs.cons (AR.dd _) (ARs.cons (AR.dd _) ARs.nil))) ARs.nil) (by simp only [rn, List.map_cons, List.map_nil]; exact rfl) | exact Ok.callV (res' := .own 4 ⟨20, [1]⟩ 0 (xs.length - 1)) [(⟨0, []⟩, ⟨4, [0]⟩, dobj 4 (xs.map Pl.row))] 1 rfl rfl (delPl_ac xs i hi hn) (by simp) (by simp) (by simp) ⟨⟨⟨_, _, rfl⟩, rfl⟩, trivial⟩ (fun _ => by simp [rnO_dobj]) (ARs.cons (AR.own 4 ⟨0, []⟩ 0 xs.length (by simp)) (ARs.cons (AR.dd _) (ARs.cons (AR.dd _) ARs.nil))) (by first | (rw [rn]; done) | (rw [rn]; rfl)) | exact Ok.e0); (· exact rfl); (· exact nxE)) | ((first | apply AL.off | apply AD.off); (· rfl); (· rfl); (· rfl); (· exact setE); (· exact nxE)) | ((first | refine AL.gsplit rfl rfl (fun h => ?_) (fun h => ?_) | refine AD.gsplit rfl rfl (fun h => ?_) (fun h => ?_)) <;> try (exfalso; omega; done)) | (first | refine AL.gsplitB rfl rfl (fun h => ?_) (fun h => ?_) | refine AD.gsplitB rfl rfl (fun h => ?_) (fun h => ?_)) | refine AD.fin (by simp only [List.length_cons, List.length_nil, Nat.reduceAdd]; rfl) rfl (by kernel_rfl) ?_ | refine thenN ?_ | refine AW.seq ?_ | refine AW.reg ?_ | refine AW.dr mixedA (by kernel_rfl) ?_ | refine AW.block ?_ | refine AW.condT rfl ?_ | refine AW.condF rfl ?_ | (refine AW.ite rfl (fun h => ?_) (fun h => ?_) <;> try (exfalso; omega; done)) | refine AW.cond _ rfl (fun h => ?_) (fun h => ?_) | refine AW.ret ?_ | refine AW.exit ?_ | refine AW.skip ?_ | refine thenR ?_ | refine thenX ?_ | refine blockN ?_ | refine blockR ?_ | refine blockX ?_ | refine blockY (by decide) ?_)
    (refine end1 (res' := .agg [I ev, .own 4 ⟨20, [1]⟩ 0 (xs.length - 1)]) (by first | exact .inl rfl | exact .inr rfl) rfl (by first | exact rT rfl | exact rCA rfl rfl rfl rfl (by simp) | exact rCC rfl rfl rfl rfl rfl) ?_ (Le.head ([(⟨0, []⟩, ⟨20, [1]⟩, dobj 4 ((edL xs ⟨2, i, ⟨a, b, c, d⟩⟩).map Pl.row))]) (by first | exact fun l h => absurd h (hD l) | (intro l h; rcases hD l h with rfl; simp [tauL]) | (intro l h; rcases hD l h with rfl | rfl <;> simp [tauL]; done) | (intro l h; rcases hD l h with rfl | rfl | rfl <;> simp [tauL])) ?_ ?_ (by simp) (by simp) (by simp [AllP]) (n' := 1000)); (· rfl)) <;> (repeat' (first | exact trivial | exact ARs.nil | refine ARs.cons ?_ ?_ | exact AR.dead _ | exact AR.dd _ | exact AR.i (by (try dsimp only); omega) | exact AR.ptr _ _ _ _ (by simp [heapL, upd]) | exact AR.own _ _ _ _ (by simp [heapL, upd]) | refine AR.ownE _ _ _ ?_ (by simp [heapL, upd]) | refine ⟨⟨_, rfl, ?_⟩, ?_⟩ | exact ObA.data | refine ObA.box ?_ | refine ObA.frE ?_ | refine ObA.dataE ?_ | refine ARs.agg ?_ | refine ARs.tup ?_ | exact AR.clo' ARs.nil ARs.nil | exact AR.clo' ARs.nil (hca _ _)))
    all_goals (first | (simp [edL, List.eraseIdx_eq_take_drop_succ]; done) | (simp [edL]; omega))
  · have hi : i < xs.length := by omega
    refine AC.of_body 0 Tryd.func26 rfl (fun l h => absurd rfl h) (fun C hC => ?_)
    have hD : ∀ l, ¬ C.D0 l := fun l h => (hC l).1 h rfl
    simp only [startFr, Tryd.ntmps26, List.length_cons, List.length_nil, Nat.reduceAdd, Nat.reduceSub, List.replicate_succ, List.replicate_zero, List.cons_append, List.nil_append]
    repeat' (first | refine AL.nil ?_ | ((first | apply AL.st | (apply AL.on; (· rfl); (· rfl)) | (apply AD.st; (· exact nxE)) | (apply AD.on; (· rfl); (· rfl); (· exact nxE))); (· first | exact OpOk.call1n [] rfl rfl (cloneGraph_ac ev xs hn) (.inl rfl) (fun _ => by simp [rnO_dobj]) (ARs.cons (ARs.agg (ARs.cons (AR.dd _) (ARs.cons (AR.dd _) ARs.nil))) ARs.nil) (by simp only [rn, List.map_cons, List.map_nil]; exact rfl) | exact Ok.storeA rfl rfl rfl rfl (dobj_get (List.getElem?_eq_getElem hi)) (by simp [Pl.row]; done) (by conv => lhs; whnf) (by rfl) (by rfl) (dobj_set (p := ⟨a, b, c, d⟩) rfl) | exact Ok.pe); (· exact setE); (· first | exact updsE | exact rfl); (· exact nxE)) | ((first | apply AL.st0 | (apply AD.st0; (· exact nxE))); (· first | exact OpOk.call1n [] rfl rfl (cloneGraph_ac ev xs hn) (.inl rfl) (fun _ => by simp [rnO_dobj]) (ARs.cons (ARs.agg (ARs.cons (AR.dd _) (ARs.cons (AR.dd _) ARs.nil))) ARs.nil) (by simp only [rn, List.map_cons, List.map_nil]; exact rfl) | exact Ok.storeA rfl rfl rfl rfl (dobj_get (List.getElem?_eq_getElem hi)) (by simp [Pl.row]; done) (by conv => lhs; whnf) (by rfl) (by rfl) (dobj_set (p := ⟨a, b, c, d⟩) rfl) | exact Ok.e0); (· exact rfl); (· exact nxE)) | ((first | apply AL.off | apply AD.off); (· rfl); (· rfl); (· rfl); (· exact setE); (· exact nxE)) | ((first | refine AL.gsplit rfl rfl (fun h => ?_) (fun h => ?_) | refine AD.gsplit rfl rfl (fun h => ?_) (fun h => ?_)) <;> try (exfalso; omega; done)) | (first | refine AL.gsplitB rfl rfl (fun h => ?_) (fun h => ?_) | refine AD.gsplitB rfl rfl (fun h => ?_) (fun h => ?_)) | refine AD.fin (by simp only [List.length_cons, List.length_nil, Nat.reduceAdd]; rfl) rfl (by kernel_rfl) ?_ | refine thenN ?_ | refine AW.seq ?_ | refine AW.reg ?_ | refine AW.dr mixedA (by kernel_rfl) ?_ | refine AW.block ?_ | refine AW.condT rfl ?_ | refine AW.condF rfl ?_ | (refine AW.ite rfl (fun h => ?_) (fun h => ?_) <;> try (exfalso; omega; done)) | refine AW.cond _ rfl (fun h => ?_) (fun h => ?_) | refine AW.ret ?_ | refine AW.exit ?_ | refine AW.skip ?_ | refine thenR ?_ | refine thenX ?_ | refine blockN ?_ | refine blockR ?_ | refine blockX ?_ | refine blockY (by decide) ?_)
    (refine end1 (res' := .agg [I ev, .own 4 ⟨4, [0]⟩ 0 xs.length]) (by first | exact .inl rfl | exact .inr rfl) rfl (by first | exact rT rfl | exact rCA rfl rfl rfl rfl (by simp) | exact rCC rfl rfl rfl rfl rfl) ?_ (Le.head ([(⟨0, []⟩, ⟨4, [0]⟩, dobj 4 ((edL xs ⟨3, i, ⟨a, b, c, d⟩⟩).map Pl.row))]) (by first | exact fun l h => absurd h (hD l) | (intro l h; rcases hD l h with rfl; simp [tauL]) | (intro l h; rcases hD l h with rfl | rfl <;> simp [tauL]; done) | (intro l h; rcases hD l h with rfl | rfl | rfl <;> simp [tauL])) ?_ ?_ (by simp) (by simp) (by simp [AllP]) (n' := 1000)); (· rfl)) <;> (repeat' (first | exact trivial | exact ARs.nil | refine ARs.cons ?_ ?_ | exact AR.dead _ | exact AR.dd _ | exact AR.i (by (try dsimp only); omega) | exact AR.ptr _ _ _ _ (by simp [heapL, upd]) | exact AR.own _ _ _ _ (by simp [heapL, upd]) | refine AR.ownE _ _ _ ?_ (by simp [heapL, upd]) | refine ⟨⟨_, rfl, ?_⟩, ?_⟩ | exact ObA.data | refine ObA.box ?_ | refine ObA.frE ?_ | refine ObA.dataE ?_ | refine ARs.agg ?_ | refine ARs.tup ?_ | exact AR.clo' ARs.nil ARs.nil | exact AR.clo' ARs.nil (hca _ _)))
    all_goals (first | (show dobj 4 _ = dobj 4 _; simp [edL, List.set_eq_take_append_cons_drop, hi]; done) | (simp [edL]; omega))
theorem isEG_wr1 [Mode] {ev : Int} {xs : List Pl} (h : isEG ev xs = true) : IntKind.i64.wrap (ev - 1) = ev - 1 := by
  have h1 : wi ev 1 10 = true := by unfold isEG at h; simp only [Bool.and_eq_true] at h; exact h.1.1
  have h' := wi_iff.1 h1
  exact wrap_in (by omega) (by omega)
theorem cdA_parts [Mode] {ev : Int} {xs : List Pl} {e : Ed} : (cdA ev xs e = 0 ∧ isEG ev xs = true ∧ canEd ev xs e = true) ∨ (cdA ev xs e = 1 ∧ isEG ev xs = false) ∨ (cdA ev xs e = 5 ∧ isEG ev xs = true ∧ canEd ev xs e = false) := by
  unfold cdA
  cases isEG ev xs <;> cases canEd ev xs e <;> simp
set_option maxHeartbeats 1000000 in
theorem iApplyEdit_ac [Mode] (ev : Int) (xs : List Pl) (e : Ed) (hn : xs.length ≤ 1048576) : AC Tryd.prog 9 [grD ev xs, e.av] H0 (.tup [.agg [I (aeEv ev xs e), own1 4 (aeL ev xs e).length], I (cdA ev xs e)]) (hp1 (dobj 4 ((aeL ev xs e).map Pl.row))) := by
  have hg := iIsEventGraph_ac ev xs (by omega)
  rcases cdA_parts (ev := ev) (xs := xs) (e := e) with ⟨hz, h1, h2⟩ | ⟨hz, h1⟩ | ⟨hz, h1, h2⟩
  · have hc := iCanEdit_ac ev xs e hn (isEG_wr1 h1)
    have ha := iEdited_ac ev xs e hn h2
    rw [h1] at hg
    rw [h2] at hc
    rw [aeEv, aeL, if_pos hz, if_pos hz]
    refine AC.of_body 0 Tryd.func9 rfl (fun l h => absurd rfl h) (fun C hC => ?_)
    have hD : ∀ l, ¬ C.D0 l := fun l h => (hC l).1 h rfl
    simp only [startFr, Tryd.ntmps9, List.length_cons, List.length_nil, Nat.reduceAdd, Nat.reduceSub, List.replicate_succ, List.replicate_zero, List.cons_append, List.nil_append]
    repeat' (first | refine AL.nil ?_ | ((first | apply AL.st | (apply AL.on; (· rfl); (· rfl)) | (apply AD.st; (· exact nxE)) | (apply AD.on; (· rfl); (· rfl); (· exact nxE))); (· first | exact OpOk.call0 [] rfl rfl (hg) (.inl rfl) (fun _ => by simp [rn]) (ARs.cons (ARs.agg (ARs.cons (AR.dd _) (ARs.cons (AR.dd _) ARs.nil))) ARs.nil) | exact OpOk.call0 [] rfl rfl (hc) (.inl rfl) (fun _ => by simp [rn]) (ARs.cons (ARs.agg (ARs.cons (AR.dd _) (ARs.cons (AR.dd _) ARs.nil))) (ARs.cons (ARs.agg (ARs.cons (AR.dd _) (ARs.cons (AR.dd _) (ARs.cons (AR.dd _) (ARs.cons (AR.dd _) (ARs.cons (AR.dd _) (ARs.cons (AR.dd _) ARs.nil))))))) ARs.nil)) | exact OpOk.call1n [] rfl rfl (ha) (.inl rfl) (fun _ => by simp [rnO_dobj]) (ARs.cons (ARs.agg (ARs.cons (AR.dd _) (ARs.cons (AR.dd _) ARs.nil))) (ARs.cons (ARs.agg (ARs.cons (AR.dd _) (ARs.cons (AR.dd _) (ARs.cons (AR.dd _) (ARs.cons (AR.dd _) (ARs.cons (AR.dd _) (ARs.cons (AR.dd _) ARs.nil))))))) ARs.nil)) (by simp only [rn, List.map_cons, List.map_nil]; exact rfl) | exact Ok.pe); (· exact setE); (· first | exact updsE | exact rfl); (· exact nxE)) | ((first | apply AL.st0 | (apply AD.st0; (· exact nxE))); (· first | exact OpOk.call1n [] rfl rfl (ha) (.inl rfl) (fun _ => by simp [rnO_dobj]) (ARs.cons (ARs.agg (ARs.cons (AR.dd _) (ARs.cons (AR.dd _) ARs.nil))) (ARs.cons (ARs.agg (ARs.cons (AR.dd _) (ARs.cons (AR.dd _) (ARs.cons (AR.dd _) (ARs.cons (AR.dd _) (ARs.cons (AR.dd _) (ARs.cons (AR.dd _) ARs.nil))))))) ARs.nil)) (by simp only [rn, List.map_cons, List.map_nil]; exact rfl) | exact Ok.e0); (· exact rfl); (· exact nxE)) | ((first | apply AL.off | apply AD.off); (· rfl); (· rfl); (· rfl); (· exact setE); (· exact nxE)) | ((first | refine AL.gsplit rfl rfl (fun h => ?_) (fun h => ?_) | refine AD.gsplit rfl rfl (fun h => ?_) (fun h => ?_)) <;> try (exfalso; omega; done)) | (first | refine AL.gsplitB rfl rfl (fun h => ?_) (fun h => ?_) | refine AD.gsplitB rfl rfl (fun h => ?_) (fun h => ?_)) | refine AD.fin (by simp only [List.length_cons, List.length_nil, Nat.reduceAdd]; rfl) rfl (by kernel_rfl) ?_ | refine thenN ?_ | refine AW.seq ?_ | refine AW.reg ?_ | refine AW.dr mixedA (by kernel_rfl) ?_ | refine AW.block ?_ | refine AW.condT rfl ?_ | refine AW.condF rfl ?_ | (refine AW.ite rfl (fun h => ?_) (fun h => ?_) <;> try (exfalso; omega; done)) | refine AW.cond _ rfl (fun h => ?_) (fun h => ?_) | refine AW.ret ?_ | refine AW.exit ?_ | refine AW.skip ?_ | refine thenR ?_ | refine thenX ?_ | refine blockN ?_ | refine blockR ?_ | refine blockX ?_ | refine blockY (by decide) ?_)
    (refine end2 (res' := .tup [.agg [I ev, .own 4 ⟨13, [0]⟩ 0 (edL xs e).length], I (cdA ev xs e)]) (by first | exact .inl rfl | exact .inr rfl) rfl (by first | exact rT rfl | exact rCA rfl rfl rfl rfl (by simp) | exact rCC rfl rfl rfl rfl rfl) (by first | exact rT rfl | exact rCA rfl rfl rfl rfl (by simp) | exact rCC rfl rfl rfl rfl rfl) ?_ (Le.head ([(⟨0, []⟩, ⟨13, [0]⟩, dobj 4 ((edL xs e).map Pl.row))]) (by first | exact fun l h => absurd h (hD l) | (intro l h; rcases hD l h with rfl; simp [tauL]) | (intro l h; rcases hD l h with rfl | rfl <;> simp [tauL]; done) | (intro l h; rcases hD l h with rfl | rfl | rfl <;> simp [tauL])) ?_ ?_ (by simp) (by simp) (by simp [AllP]) (n' := 1000)); (· rw [hz]; rfl)) <;> (repeat' (first | exact trivial | exact ARs.nil | refine ARs.cons ?_ ?_ | exact AR.dead _ | exact AR.dd _ | exact AR.i (by (try dsimp only); omega) | exact AR.ptr _ _ _ _ (by simp [heapL, upd]) | exact AR.own _ _ _ _ (by simp [heapL, upd]) | refine AR.ownE _ _ _ ?_ (by simp [heapL, upd]) | refine ⟨⟨_, rfl, ?_⟩, ?_⟩ | exact ObA.data | refine ObA.box ?_ | refine ObA.frE ?_ | refine ObA.dataE ?_ | refine ARs.agg ?_ | refine ARs.tup ?_ | exact AR.clo' ARs.nil ARs.nil | exact AR.clo' ARs.nil (hca _ _)))
  · rw [h1] at hg
    have hne : ¬ cdA ev xs e = 0 := by omega
    rw [aeEv, aeL, if_neg hne, if_neg hne, hz]
    refine AC.of_body 0 Tryd.func9 rfl (fun l h => absurd rfl h) (fun C hC => ?_)
    have hD : ∀ l, ¬ C.D0 l := fun l h => (hC l).1 h rfl
    simp only [startFr, Tryd.ntmps9, List.length_cons, List.length_nil, Nat.reduceAdd, Nat.reduceSub, List.replicate_succ, List.replicate_zero, List.cons_append, List.nil_append]
    repeat' (first | refine AL.nil ?_ | ((first | apply AL.st | (apply AL.on; (· rfl); (· rfl)) | (apply AD.st; (· exact nxE)) | (apply AD.on; (· rfl); (· rfl); (· exact nxE))); (· first | exact OpOk.call0 [] rfl rfl (hg) (.inl rfl) (fun _ => by simp [rn]) (ARs.cons (ARs.agg (ARs.cons (AR.dd _) (ARs.cons (AR.dd _) ARs.nil))) ARs.nil) | exact Ok.build0 rfl (by rfl) | exact Ok.pe); (· exact setE); (· first | exact updsE | exact rfl); (· exact nxE)) | ((first | apply AL.st0 | (apply AD.st0; (· exact nxE))); (· first | exact Ok.e0); (· exact rfl); (· exact nxE)) | ((first | apply AL.off | apply AD.off); (· rfl); (· rfl); (· rfl); (· exact setE); (· exact nxE)) | ((first | refine AL.gsplit rfl rfl (fun h => ?_) (fun h => ?_) | refine AD.gsplit rfl rfl (fun h => ?_) (fun h => ?_)) <;> try (exfalso; omega; done)) | (first | refine AL.gsplitB rfl rfl (fun h => ?_) (fun h => ?_) | refine AD.gsplitB rfl rfl (fun h => ?_) (fun h => ?_)) | refine AD.fin (by simp only [List.length_cons, List.length_nil, Nat.reduceAdd]; rfl) rfl (by kernel_rfl) ?_ | refine thenN ?_ | refine AW.seq ?_ | refine AW.reg ?_ | refine AW.dr mixedA (by kernel_rfl) ?_ | refine AW.block ?_ | refine AW.condT rfl ?_ | refine AW.condF rfl ?_ | (refine AW.ite rfl (fun h => ?_) (fun h => ?_) <;> try (exfalso; omega; done)) | refine AW.cond _ rfl (fun h => ?_) (fun h => ?_) | refine AW.ret ?_ | refine AW.exit ?_ | refine AW.skip ?_ | refine thenR ?_ | refine thenX ?_ | refine blockN ?_ | refine blockR ?_ | refine blockX ?_ | refine blockY (by decide) ?_)
    exact end2nilG (.inl rfl) rfl (by first | exact rT rfl | exact rCA rfl rfl rfl rfl (by simp) | exact rCC rfl rfl rfl rfl rfl) (by rfl) (rT rfl) hD
  · have hc := iCanEdit_ac ev xs e hn (isEG_wr1 h1)
    rw [h1] at hg
    rw [h2] at hc
    have hne : ¬ cdA ev xs e = 0 := by omega
    rw [aeEv, aeL, if_neg hne, if_neg hne, hz]
    refine AC.of_body 0 Tryd.func9 rfl (fun l h => absurd rfl h) (fun C hC => ?_)
    have hD : ∀ l, ¬ C.D0 l := fun l h => (hC l).1 h rfl
    simp only [startFr, Tryd.ntmps9, List.length_cons, List.length_nil, Nat.reduceAdd, Nat.reduceSub, List.replicate_succ, List.replicate_zero, List.cons_append, List.nil_append]
    repeat' (first | refine AL.nil ?_ | ((first | apply AL.st | (apply AL.on; (· rfl); (· rfl)) | (apply AD.st; (· exact nxE)) | (apply AD.on; (· rfl); (· rfl); (· exact nxE))); (· first | exact OpOk.call0 [] rfl rfl (hg) (.inl rfl) (fun _ => by simp [rn]) (ARs.cons (ARs.agg (ARs.cons (AR.dd _) (ARs.cons (AR.dd _) ARs.nil))) ARs.nil) | exact OpOk.call0 [] rfl rfl (hc) (.inl rfl) (fun _ => by simp [rn]) (ARs.cons (ARs.agg (ARs.cons (AR.dd _) (ARs.cons (AR.dd _) ARs.nil))) (ARs.cons (ARs.agg (ARs.cons (AR.dd _) (ARs.cons (AR.dd _) (ARs.cons (AR.dd _) (ARs.cons (AR.dd _) (ARs.cons (AR.dd _) (ARs.cons (AR.dd _) ARs.nil))))))) ARs.nil)) | exact Ok.build0 rfl (by rfl) | exact Ok.pe); (· exact setE); (· first | exact updsE | exact rfl); (· exact nxE)) | ((first | apply AL.st0 | (apply AD.st0; (· exact nxE))); (· first | exact Ok.e0); (· exact rfl); (· exact nxE)) | ((first | apply AL.off | apply AD.off); (· rfl); (· rfl); (· rfl); (· exact setE); (· exact nxE)) | ((first | refine AL.gsplit rfl rfl (fun h => ?_) (fun h => ?_) | refine AD.gsplit rfl rfl (fun h => ?_) (fun h => ?_)) <;> try (exfalso; omega; done)) | (first | refine AL.gsplitB rfl rfl (fun h => ?_) (fun h => ?_) | refine AD.gsplitB rfl rfl (fun h => ?_) (fun h => ?_)) | refine AD.fin (by simp only [List.length_cons, List.length_nil, Nat.reduceAdd]; rfl) rfl (by kernel_rfl) ?_ | refine thenN ?_ | refine AW.seq ?_ | refine AW.reg ?_ | refine AW.dr mixedA (by kernel_rfl) ?_ | refine AW.block ?_ | refine AW.condT rfl ?_ | refine AW.condF rfl ?_ | (refine AW.ite rfl (fun h => ?_) (fun h => ?_) <;> try (exfalso; omega; done)) | refine AW.cond _ rfl (fun h => ?_) (fun h => ?_) | refine AW.ret ?_ | refine AW.exit ?_ | refine AW.skip ?_ | refine thenR ?_ | refine thenX ?_ | refine blockN ?_ | refine blockR ?_ | refine blockX ?_ | refine blockY (by decide) ?_)
    exact end2nilG (.inl rfl) rfl (by first | exact rT rfl | exact rCA rfl rfl rfl rfl (by simp) | exact rCC rfl rfl rfl rfl rfl) (by rfl) (rT rfl) hD
end Go.Proofs.YtofakjlamoigcaaDoor
end

section
namespace Go.Proofs.YtofakjlamoigcaaDoor
open Go Go.RowKit
set_option linter.unusedSimpArgs false
set_option linter.unusedVariables false
attribute [local irreducible] AL AD AW OpOk Le AC thenQ blockQ EndQ

end Go.Proofs.YtofakjlamoigcaaDoor
end

section
namespace Go.Proofs.YtofakjlamoigcaaDoor
open Go Go.RowKit
set_option linter.unusedSimpArgs false
set_option linter.unusedVariables false
attribute [local irreducible] AL AD AW OpOk Le AC thenQ blockQ EndQ

end Go.Proofs.YtofakjlamoigcaaDoor
end

section
namespace Go.Proofs.YtofakjlamoigcaaDoor
open Go Go.RowKit
set_option linter.unusedSimpArgs false
set_option linter.unusedVariables false
attribute [local irreducible] AL AD AW OpOk Le AC thenQ blockQ EndQ

end Go.Proofs.YtofakjlamoigcaaDoor
end

section
namespace Go.Proofs.YtofakjlamoigcaaDoor
set_option linter.unusedSimpArgs false
set_option linter.unusedVariables false
open Go Go.RowKit
attribute [local irreducible] AL AD AW OpOk Le AC thenQ blockQ EndQ

end Go.Proofs.YtofakjlamoigcaaDoor
end

section
namespace Go.Proofs.YtofakjlamoigcaaDoor
open Go Go.RowKit
set_option linter.unusedSimpArgs false
set_option linter.unusedVariables false
attribute [local irreducible] AL AD AW OpOk Le AC thenQ blockQ EndQ

end Go.Proofs.YtofakjlamoigcaaDoor
end

section
namespace Go.Proofs.YtofakjlamoigcaaDoor
open Go Go.RowKit
set_option linter.unusedSimpArgs false
set_option linter.unusedVariables false
attribute [local irreducible] AL AD AW OpOk Le AC thenQ blockQ EndQ

end Go.Proofs.YtofakjlamoigcaaDoor
end

section
namespace Go.Proofs.YtofakjlamoigcaaDoor
open Go Go.RowKit
set_option linter.unusedSimpArgs false
set_option linter.unusedVariables false
attribute [local irreducible] AL AD AW OpOk Le AC thenQ blockQ EndQ

theorem edL_len [Mode] {xs : List Pl} {e : Ed} : (edL xs e).length ≤ xs.length + 1 := by
  unfold edL
  simp only
  split
  · simp; omega
  · split
    · simp; omega
    · simp; omega
end Go.Proofs.YtofakjlamoigcaaDoor
end

section
namespace Go.Proofs.YtofakjlamoigcaaDoor
open Go Go.RowKit
set_option linter.unusedSimpArgs false
set_option linter.unusedVariables false
attribute [local irreducible] AL AD AW OpOk Le AC thenQ blockQ EndQ

/-- The inverse of an edit that is possible. -/
def invE (xs : List Pl) (e : Ed) : Ed := if e.kind = 1 then ⟨2, e.idx, plZ⟩ else ⟨if e.kind = 2 then 1 else 3, e.idx, (xs[e.idx.toNat]?).getD plZ⟩
def edNil : Ed := ⟨0, 0, plZ⟩
/-- The places behind the first k edits; the inverses of the first k edits, in order; are the first k possible? -/
def edsAt (xs : List Pl) (es : List Ed) (k : Nat) : List Pl := (es.take k).foldl edL xs
def bksAt (xs : List Pl) (es : List Ed) (k : Nat) : List Ed := (List.range k).map fun j => invE (edsAt xs es j) ((es[j]?).getD edNil)
theorem isEG_edL [Mode] {ev : Int} {xs : List Pl} {e : Ed} (h : isEG ev xs = true) (hc : canEd ev xs e = true) : isEG ev (edL xs e) = true := by
  obtain ⟨hk, h0, h1, h2⟩ := canEd_facts hc
  unfold isEG at h ⊢
  simp only [Bool.and_eq_true, decide_eq_true_eq, List.all_eq_true] at h ⊢
  obtain ⟨⟨g1, g2⟩, g3⟩ := h
  rw [canEd_k] at hc
  have g3' : ∀ p, p ∈ xs → plB (ev - 1) p = true := g3
  rcases hk with hk | hk | hk
  · rw [if_pos hk] at hc
    simp only [Bool.and_eq_true, decide_eq_true_eq] at hc
    refine ⟨⟨g1, ?_⟩, fun p hp => ?_⟩
    · simp [edL, hk]; omega
    · simp only [edL, hk, if_true, List.mem_append, List.mem_singleton] at hp
      rcases hp with (hp | rfl) | hp
      · exact g3' p (List.mem_of_mem_take hp)
      · exact hc.1.2
      · exact g3' p (List.mem_of_mem_drop hp)
  · refine ⟨⟨g1, ?_⟩, fun p hp => ?_⟩
    · simp [edL, hk]; omega
    · simp only [edL, hk, List.mem_append] at hp
      simp at hp
      rcases hp with hp | hp
      · exact g3' p (List.mem_of_mem_take hp)
      · exact g3' p (List.mem_of_mem_drop hp)
  · rw [if_neg (by omega), if_neg (by omega), if_pos hk] at hc
    simp only [Bool.and_eq_true, decide_eq_true_eq] at hc
    have h2' := h2 (by omega)
    refine ⟨⟨g1, ?_⟩, fun p hp => ?_⟩
    · simp [edL, hk]; omega
    · simp only [edL, hk, List.mem_append, List.mem_singleton] at hp
      simp at hp
      rcases hp with hp | rfl | hp
      · exact g3' p (List.mem_of_mem_take hp)
      · exact hc.2
      · exact g3' p (List.mem_of_mem_drop hp)
theorem sInverse_ac [Mode] (ev : Int) (xs : List Pl) (e : Ed) (hn : xs.length ≤ 1048576) (hc : canEd ev xs e = true) : AC Tryd.prog 30 [grD ev xs, e.av] H0 (invE xs e).av H0 := by
  obtain ⟨hk, h0, h1, h2⟩ := canEd_facts hc
  obtain ⟨kd, ix, a, b, c, d⟩ := e
  simp only at hk h0 h1 h2
  obtain ⟨i, rfl⟩ : ∃ i : Nat, ix = i := ⟨ix.toNat, by omega⟩
  rcases hk with rfl | rfl | rfl
  ·
    refine AC.of_body 0 Tryd.func30 rfl (fun l h => absurd rfl h) (fun C hC => ?_)
    have hD : ∀ l, ¬ C.D0 l := fun l h => (hC l).1 h rfl
    simp only [startFr, Tryd.ntmps30, List.length_cons, List.length_nil, Nat.reduceAdd, Nat.reduceSub, List.replicate_succ, List.replicate_zero, List.cons_append, List.nil_append]
    repeat' (first | refine AL.nil ?_ | ((first | apply AL.st | (apply AL.on; (· rfl); (· rfl)) | (apply AD.st; (· exact nxE)) | (apply AD.on; (· rfl); (· rfl); (· exact nxE))); (· first | exact Ok.pe); (· exact setE); (· first | exact updsE | exact rfl); (· exact nxE)) | ((first | apply AL.st0 | (apply AD.st0; (· exact nxE))); (· first | exact Ok.e0); (· exact rfl); (· exact nxE)) | ((first | apply AL.off | apply AD.off); (· rfl); (· rfl); (· rfl); (· exact setE); (· exact nxE)) | ((first | refine AL.gsplit rfl rfl (fun h => ?_) (fun h => ?_) | refine AD.gsplit rfl rfl (fun h => ?_) (fun h => ?_)) <;> try (exfalso; omega; done)) | (first | refine AL.gsplitB rfl rfl (fun h => ?_) (fun h => ?_) | refine AD.gsplitB rfl rfl (fun h => ?_) (fun h => ?_)) | refine AD.fin (by simp only [List.length_cons, List.length_nil, Nat.reduceAdd]; rfl) rfl (by kernel_rfl) ?_ | refine thenN ?_ | refine AW.seq ?_ | refine AW.reg ?_ | refine AW.dr mixedA (by kernel_rfl) ?_ | refine AW.block ?_ | refine AW.condT rfl ?_ | refine AW.condF rfl ?_ | (refine AW.ite rfl (fun h => ?_) (fun h => ?_) <;> try (exfalso; omega; done)) | refine AW.cond _ rfl (fun h => ?_) (fun h => ?_) | refine AW.ret ?_ | refine AW.exit ?_ | refine AW.skip ?_ | refine thenR ?_ | refine thenX ?_ | refine blockN ?_ | refine blockR ?_ | refine blockX ?_ | refine blockY (by decide) ?_)
    (refine end1p (by first | exact .inl rfl | exact .inr rfl) rfl (by first | exact rT rfl | exact rCA rfl rfl rfl rfl (by simp) | exact rCC rfl rfl rfl rfl rfl) ?_ (Le.head ([]) (by first | exact fun l h => absurd h (hD l) | (intro l h; rcases hD l h with rfl; simp [tauL]) | (intro l h; rcases hD l h with rfl | rfl <;> simp [tauL]; done) | (intro l h; rcases hD l h with rfl | rfl | rfl <;> simp [tauL])) ?_ ?_ (by simp) (by simp) (by simp [AllP]) (n' := 1000)); (· rfl)) <;> (repeat' (first | exact trivial | exact ARs.nil | refine ARs.cons ?_ ?_ | exact AR.dead _ | exact AR.dd _ | exact AR.i (by (try dsimp only); omega) | exact AR.ptr _ _ _ _ (by simp [heapL, upd]) | exact AR.own _ _ _ _ (by simp [heapL, upd]) | refine AR.ownE _ _ _ ?_ (by simp [heapL, upd]) | refine ⟨⟨_, rfl, ?_⟩, ?_⟩ | exact ObA.data | refine ObA.box ?_ | refine ObA.frE ?_ | refine ObA.dataE ?_ | refine ARs.agg ?_ | refine ARs.tup ?_ | exact AR.clo' ARs.nil ARs.nil | exact AR.clo' ARs.nil (hca _ _)))
  all_goals
    have hi : i < xs.length := by omega
    obtain ⟨p, hp⟩ : ∃ p, xs[i]? = some p := ⟨xs[i], by simp⟩
    have hrow : (xs.map Pl.row)[((i : Nat) : Int).toNat]? = some [DI p.f, DI p.t, DI p.d, DI p.k] := row_get hp
    refine AC.of_body 0 Tryd.func30 rfl (fun l h => absurd rfl h) (fun C hC => ?_)
    have hD : ∀ l, ¬ C.D0 l := fun l h => (hC l).1 h rfl
    simp only [startFr, Tryd.ntmps30, List.length_cons, List.length_nil, Nat.reduceAdd, Nat.reduceSub, List.replicate_succ, List.replicate_zero, List.cons_append, List.nil_append]
    repeat' (first | refine AL.nil ?_ | ((first | apply AL.st | (apply AL.on; (· rfl); (· rfl)) | (apply AD.st; (· exact nxE)) | (apply AD.on; (· rfl); (· rfl); (· exact nxE))); (· first | exact Ok.pe); (· exact setE); (· first | exact updsE | exact rfl); (· exact nxE)) | ((first | apply AL.st0 | (apply AD.st0; (· exact nxE))); (· first | exact Ok.e0); (· exact rfl); (· exact nxE)) | ((first | apply AL.off | apply AD.off); (· rfl); (· rfl); (· rfl); (· exact setE); (· exact nxE)) | ((first | refine AL.gsplit rfl rfl (fun h => ?_) (fun h => ?_) | refine AD.gsplit rfl rfl (fun h => ?_) (fun h => ?_)) <;> try (exfalso; omega; done)) | (first | refine AL.gsplitB rfl rfl (fun h => ?_) (fun h => ?_) | refine AD.gsplitB rfl rfl (fun h => ?_) (fun h => ?_)) | refine AD.fin (by simp only [List.length_cons, List.length_nil, Nat.reduceAdd]; rfl) rfl (by kernel_rfl) ?_ | refine thenN ?_ | refine AW.seq ?_ | refine AW.reg ?_ | refine AW.dr mixedA (by kernel_rfl) ?_ | refine AW.block ?_ | refine AW.condT rfl ?_ | refine AW.condF rfl ?_ | (refine AW.ite rfl (fun h => ?_) (fun h => ?_) <;> try (exfalso; omega; done)) | refine AW.cond _ rfl (fun h => ?_) (fun h => ?_) | refine AW.ret ?_ | refine AW.exit ?_ | refine AW.skip ?_ | refine thenR ?_ | refine thenX ?_ | refine blockN ?_ | refine blockR ?_ | refine blockX ?_ | refine blockY (by decide) ?_)
    (refine end1p (by first | exact .inl rfl | exact .inr rfl) rfl (by first | exact rT rfl | exact rCA rfl rfl rfl rfl (by simp) | exact rCC rfl rfl rfl rfl rfl) ?_ (Le.head ([]) (by first | exact fun l h => absurd h (hD l) | (intro l h; rcases hD l h with rfl; simp [tauL]) | (intro l h; rcases hD l h with rfl | rfl <;> simp [tauL]; done) | (intro l h; rcases hD l h with rfl | rfl | rfl <;> simp [tauL])) ?_ ?_ (by simp) (by simp) (by simp [AllP]) (n' := 1000)); (· simp [invE, hp])) <;> (repeat' (first | exact trivial | exact ARs.nil | refine ARs.cons ?_ ?_ | exact AR.dead _ | exact AR.dd _ | exact AR.i (by (try dsimp only); omega) | exact AR.ptr _ _ _ _ (by simp [heapL, upd]) | exact AR.own _ _ _ _ (by simp [heapL, upd]) | refine AR.ownE _ _ _ ?_ (by simp [heapL, upd]) | refine ⟨⟨_, rfl, ?_⟩, ?_⟩ | exact ObA.data | refine ObA.box ?_ | refine ObA.frE ?_ | refine ObA.dataE ?_ | refine ARs.agg ?_ | refine ARs.tup ?_ | exact AR.clo' ARs.nil ARs.nil | exact AR.clo' ARs.nil (hca _ _)))
theorem iInverse_ac [Mode] (ev : Int) (xs : List Pl) (e : Ed) (hn : xs.length ≤ 1048576) (hc : canEd ev xs e = true) : AC Tryd.prog 29 [grD ev xs, e.av] H0 (invE xs e).av H0 := by
  obtain ⟨hk, h0, h1, h2⟩ := canEd_facts hc
  obtain ⟨kd, ix, a, b, c, d⟩ := e
  simp only at hk h0 h1 h2
  obtain ⟨i, rfl⟩ : ∃ i : Nat, ix = i := ⟨ix.toNat, by omega⟩
  rcases hk with rfl | rfl | rfl
  ·
    refine AC.of_body 0 Tryd.func29 rfl (fun l h => absurd rfl h) (fun C hC => ?_)
    have hD : ∀ l, ¬ C.D0 l := fun l h => (hC l).1 h rfl
    simp only [startFr, Tryd.ntmps29, List.length_cons, List.length_nil, Nat.reduceAdd, Nat.reduceSub, List.replicate_succ, List.replicate_zero, List.cons_append, List.nil_append]
    repeat' (first | refine AL.nil ?_ | ((first | apply AL.st | (apply AL.on; (· rfl); (· rfl)) | (apply AD.st; (· exact nxE)) | (apply AD.on; (· rfl); (· rfl); (· exact nxE))); (· first | exact Ok.pe); (· exact setE); (· first | exact updsE | exact rfl); (· exact nxE)) | ((first | apply AL.st0 | (apply AD.st0; (· exact nxE))); (· first | exact Ok.e0); (· exact rfl); (· exact nxE)) | ((first | apply AL.off | apply AD.off); (· rfl); (· rfl); (· rfl); (· exact setE); (· exact nxE)) | ((first | refine AL.gsplit rfl rfl (fun h => ?_) (fun h => ?_) | refine AD.gsplit rfl rfl (fun h => ?_) (fun h => ?_)) <;> try (exfalso; omega; done)) | (first | refine AL.gsplitB rfl rfl (fun h => ?_) (fun h => ?_) | refine AD.gsplitB rfl rfl (fun h => ?_) (fun h => ?_)) | refine AD.fin (by simp only [List.length_cons, List.length_nil, Nat.reduceAdd]; rfl) rfl (by kernel_rfl) ?_ | refine thenN ?_ | refine AW.seq ?_ | refine AW.reg ?_ | refine AW.dr mixedA (by kernel_rfl) ?_ | refine AW.block ?_ | refine AW.condT rfl ?_ | refine AW.condF rfl ?_ | (refine AW.ite rfl (fun h => ?_) (fun h => ?_) <;> try (exfalso; omega; done)) | refine AW.cond _ rfl (fun h => ?_) (fun h => ?_) | refine AW.ret ?_ | refine AW.exit ?_ | refine AW.skip ?_ | refine thenR ?_ | refine thenX ?_ | refine blockN ?_ | refine blockR ?_ | refine blockX ?_ | refine blockY (by decide) ?_)
    (refine end1p (by first | exact .inl rfl | exact .inr rfl) rfl (by first | exact rT rfl | exact rCA rfl rfl rfl rfl (by simp) | exact rCC rfl rfl rfl rfl rfl) ?_ (Le.head ([]) (by first | exact fun l h => absurd h (hD l) | (intro l h; rcases hD l h with rfl; simp [tauL]) | (intro l h; rcases hD l h with rfl | rfl <;> simp [tauL]; done) | (intro l h; rcases hD l h with rfl | rfl | rfl <;> simp [tauL])) ?_ ?_ (by simp) (by simp) (by simp [AllP]) (n' := 1000)); (· rfl)) <;> (repeat' (first | exact trivial | exact ARs.nil | refine ARs.cons ?_ ?_ | exact AR.dead _ | exact AR.dd _ | exact AR.i (by (try dsimp only); omega) | exact AR.ptr _ _ _ _ (by simp [heapL, upd]) | exact AR.own _ _ _ _ (by simp [heapL, upd]) | refine AR.ownE _ _ _ ?_ (by simp [heapL, upd]) | refine ⟨⟨_, rfl, ?_⟩, ?_⟩ | exact ObA.data | refine ObA.box ?_ | refine ObA.frE ?_ | refine ObA.dataE ?_ | refine ARs.agg ?_ | refine ARs.tup ?_ | exact AR.clo' ARs.nil ARs.nil | exact AR.clo' ARs.nil (hca _ _)))
  all_goals
    have hi : i < xs.length := by omega
    obtain ⟨p, hp⟩ : ∃ p, xs[i]? = some p := ⟨xs[i], by simp⟩
    have hrow : (xs.map Pl.row)[((i : Nat) : Int).toNat]? = some [DI p.f, DI p.t, DI p.d, DI p.k] := row_get hp
    refine AC.of_body 0 Tryd.func29 rfl (fun l h => absurd rfl h) (fun C hC => ?_)
    have hD : ∀ l, ¬ C.D0 l := fun l h => (hC l).1 h rfl
    simp only [startFr, Tryd.ntmps29, List.length_cons, List.length_nil, Nat.reduceAdd, Nat.reduceSub, List.replicate_succ, List.replicate_zero, List.cons_append, List.nil_append]
    repeat' (first | refine AL.nil ?_ | ((first | apply AL.st | (apply AL.on; (· rfl); (· rfl)) | (apply AD.st; (· exact nxE)) | (apply AD.on; (· rfl); (· rfl); (· exact nxE))); (· first | exact Ok.pe); (· exact setE); (· first | exact updsE | exact rfl); (· exact nxE)) | ((first | apply AL.st0 | (apply AD.st0; (· exact nxE))); (· first | exact Ok.e0); (· exact rfl); (· exact nxE)) | ((first | apply AL.off | apply AD.off); (· rfl); (· rfl); (· rfl); (· exact setE); (· exact nxE)) | ((first | refine AL.gsplit rfl rfl (fun h => ?_) (fun h => ?_) | refine AD.gsplit rfl rfl (fun h => ?_) (fun h => ?_)) <;> try (exfalso; omega; done)) | (first | refine AL.gsplitB rfl rfl (fun h => ?_) (fun h => ?_) | refine AD.gsplitB rfl rfl (fun h => ?_) (fun h => ?_)) | refine AD.fin (by simp only [List.length_cons, List.length_nil, Nat.reduceAdd]; rfl) rfl (by kernel_rfl) ?_ | refine thenN ?_ | refine AW.seq ?_ | refine AW.reg ?_ | refine AW.dr mixedA (by kernel_rfl) ?_ | refine AW.block ?_ | refine AW.condT rfl ?_ | refine AW.condF rfl ?_ | (refine AW.ite rfl (fun h => ?_) (fun h => ?_) <;> try (exfalso; omega; done)) | refine AW.cond _ rfl (fun h => ?_) (fun h => ?_) | refine AW.ret ?_ | refine AW.exit ?_ | refine AW.skip ?_ | refine thenR ?_ | refine thenX ?_ | refine blockN ?_ | refine blockR ?_ | refine blockX ?_ | refine blockY (by decide) ?_)
    (refine end1p (by first | exact .inl rfl | exact .inr rfl) rfl (by first | exact rT rfl | exact rCA rfl rfl rfl rfl (by simp) | exact rCC rfl rfl rfl rfl rfl) ?_ (Le.head ([]) (by first | exact fun l h => absurd h (hD l) | (intro l h; rcases hD l h with rfl; simp [tauL]) | (intro l h; rcases hD l h with rfl | rfl <;> simp [tauL]; done) | (intro l h; rcases hD l h with rfl | rfl | rfl <;> simp [tauL])) ?_ ?_ (by simp) (by simp) (by simp [AllP]) (n' := 1000)); (· simp [invE, hp])) <;> (repeat' (first | exact trivial | exact ARs.nil | refine ARs.cons ?_ ?_ | exact AR.dead _ | exact AR.dd _ | exact AR.i (by (try dsimp only); omega) | exact AR.ptr _ _ _ _ (by simp [heapL, upd]) | exact AR.own _ _ _ _ (by simp [heapL, upd]) | refine AR.ownE _ _ _ ?_ (by simp [heapL, upd]) | refine ⟨⟨_, rfl, ?_⟩, ?_⟩ | exact ObA.data | refine ObA.box ?_ | refine ObA.frE ?_ | refine ObA.dataE ?_ | refine ARs.agg ?_ | refine ARs.tup ?_ | exact AR.clo' ARs.nil ARs.nil | exact AR.clo' ARs.nil (hca _ _)))
end Go.Proofs.YtofakjlamoigcaaDoor
end

section
namespace Go.Proofs.YtofakjlamoigcaaDoor
open Go Go.RowKit
set_option linter.unusedSimpArgs false
set_option linter.unusedVariables false

end Go.Proofs.YtofakjlamoigcaaDoor
end

section
namespace Go.Proofs.YtofakjlamoigcaaDoor
set_option linter.unusedSimpArgs false
set_option linter.unusedVariables false
open Go Go.RowKit

theorem edL1 {xs : List Pl} {i : Nat} {p : Pl} : edL xs ⟨1, i, p⟩ = xs.take i ++ p :: xs.drop i := by simp [edL]
theorem edL2 {xs : List Pl} {i : Nat} {p : Pl} : edL xs ⟨2, i, p⟩ = xs.take i ++ xs.drop (i + 1) := by simp [edL]
theorem edL3 {xs : List Pl} {i : Nat} {p : Pl} : edL xs ⟨3, i, p⟩ = xs.take i ++ p :: xs.drop (i + 1) := by simp [edL]
/-- The edits are possible one behind the other, and lead from xs to ys. -/
def Run (ev : Int) : List Pl → List Ed → List Pl → Prop
  | xs, [], ys => ys = xs
  | xs, e :: es, ys => canEd ev xs e = true ∧ Run ev (edL xs e) es ys
theorem Run.app {ev : Int} : ∀ {a b : List Ed} {xs ys zs : List Pl}, Run ev xs a ys → Run ev ys b zs → Run ev xs (a ++ b) zs
  | [], b, xs, ys, zs, h, h' => by cases h; exact h'
  | e :: a, b, xs, ys, zs, h, h' => ⟨h.1, h.2.app h'⟩
theorem Run.snoc {ev : Int} {a : List Ed} {e : Ed} {xs ys : List Pl} (h : Run ev xs a ys) (hc : canEd ev ys e = true) : Run ev xs (a ++ [e]) (edL ys e) := h.app ⟨hc, rfl⟩
theorem bks_cons {xs : List Pl} {e : Ed} {es : List Ed} : bksAt xs (e :: es) (e :: es).length = invE xs e :: bksAt (edL xs e) es es.length := by
  unfold bksAt
  rw [List.length_cons, List.range_succ_eq_map, List.map_cons, List.map_map]
  rw [show edsAt xs (e :: es) 0 = xs by simp [edsAt]]
  congr 1
/-- An edit and its inverse. -/
theorem inv_ed {ev : Int} {xs : List Pl} {e : Ed} (hg : isEG ev xs = true) (hc : canEd ev xs e = true) : canEd ev (edL xs e) (invE xs e) = true ∧ edL (edL xs e) (invE xs e) = xs := by
  obtain ⟨hk, h0, h1, h2⟩ := canEd_facts hc
  have hpl : ∀ p, p ∈ xs → plB (ev - 1) p = true := by
    unfold isEG at hg
    simp only [Bool.and_eq_true, List.all_eq_true] at hg
    exact fun p hp => hg.2 p hp
  have h30 : xs.length ≤ 30 := by
    unfold isEG at hg
    simp only [Bool.and_eq_true, decide_eq_true_eq] at hg
    exact hg.1.2
  obtain ⟨kind, idx, pl⟩ := e
  simp only at hk h0 h1 h2
  obtain ⟨i, rfl⟩ : ∃ i : Nat, idx = i := ⟨idx.toNat, by omega⟩
  rw [canEd_k] at hc ⊢
  have hti : (xs.take i).length = min i xs.length := List.length_take
  rcases hk with rfl | rfl | rfl
  · have hi : i ≤ xs.length := by omega
    have e1 : edL xs ⟨1, i, pl⟩ = xs.take i ++ pl :: xs.drop i := by simp [edL]
    have e2 : invE xs ⟨1, i, pl⟩ = ⟨2, i, plZ⟩ := by simp [invE]
    rw [e1, e2]
    refine ⟨by simp [wi]; omega, ?_⟩
    rw [edL2]
    rw [List.take_append_of_le_length (by omega), List.take_of_length_le (by omega)]
    rw [List.drop_append, List.drop_of_length_le (by omega), hti, show i + 1 - min i xs.length = 1 by omega]
    simp
  · have hi : i < xs.length := by have := h2 (by decide); omega
    have e1 : edL xs ⟨2, i, pl⟩ = xs.take i ++ xs.drop (i + 1) := by simp [edL]
    have e2 : invE xs ⟨2, i, pl⟩ = ⟨1, i, xs[i]⟩ := by simp [invE, hi]
    rw [e1, e2]
    refine ⟨?_, ?_⟩
    · have := hpl xs[i] (List.getElem_mem hi)
      simp [wi, this]; omega
    · rw [edL1, List.take_append_of_le_length (by omega), List.take_of_length_le (by omega), List.drop_append, List.drop_of_length_le (by omega), hti, show i - min i xs.length = 0 by omega]
      simp
  · have hi : i < xs.length := by have := h2 (by decide); omega
    have e1 : edL xs ⟨3, i, pl⟩ = xs.take i ++ pl :: xs.drop (i + 1) := by simp [edL]
    have e2 : invE xs ⟨3, i, pl⟩ = ⟨3, i, xs[i]⟩ := by simp [invE, hi]
    rw [e1, e2]
    refine ⟨?_, ?_⟩
    · have := hpl xs[i] (List.getElem_mem hi)
      simp [wi, this]; omega
    · rw [edL3, List.take_append_of_le_length (by omega), List.take_of_length_le (by omega), List.drop_append, List.drop_of_length_le (by omega), hti, show i + 1 - min i xs.length = 1 by omega]
      simp
theorem Run.back {ev : Int} : ∀ {es : List Ed} {xs ys : List Pl}, isEG ev xs = true → Run ev xs es ys → Run ev ys (bksAt xs es es.length).reverse xs
  | [], xs, ys, _, h => by cases h; simp [bksAt, Run]
  | e :: es, xs, ys, hg, h => by
    obtain ⟨h1, h2⟩ := inv_ed hg h.1
    have ih := Run.back (isEG_edL hg h.1) h.2
    rw [bks_cons, List.reverse_cons]
    have := ih.snoc h1
    rwa [h2] at this
/-! ### The edits between two graphs -/
end Go.Proofs.YtofakjlamoigcaaDoor
end

section
namespace Go.Proofs.YtofakjlamoigcaaDoor
set_option linter.unusedSimpArgs false
set_option linter.unusedVariables false
open Go

/-- The pieces of a place's text, as the program cuts it. -/
def rpA (l : List UInt8) : List UInt8 := (Lib.cut l [62]).1
def rpR (l : List UInt8) : List UInt8 := (Lib.cut l [62]).2.1
def rpB (l : List UInt8) : List UInt8 := (Lib.cut (rpR l) [58]).1
def rpS (l : List UInt8) : List UInt8 := (Lib.cut (rpR l) [58]).2.1
def rpC (l : List UInt8) : List UInt8 := (Lib.cut (rpS l) [42]).1
def rpD (l : List UInt8) : List UInt8 := (Lib.cut (rpS l) [42]).2.1
/-- A place as the program reads it. -/
def rpN (l : List UInt8) : Pl × Bool :=
  if (rdN (rpA l)).2 = true ∧ (rdN (rpB l)).2 = true ∧ (rdN (rpC l)).2 = true ∧ (rdN (rpD l)).2 = true then
    (⟨(rdN (rpA l)).1, (rdN (rpB l)).1, (rdN (rpC l)).1, (rdN (rpD l)).1⟩, true) else (⟨0, 0, 0, 0⟩, false)
theorem plB_nat {p : Pl} (h : plB 9 p = true) : ∃ a b c d : Nat, p = ⟨a, b, c, d⟩ ∧ a ≤ 9 ∧ b ≤ 9 ∧ c ≤ 1000 ∧ d ≤ 5 := by
  obtain ⟨⟨h1, h2⟩, h3, h4⟩ := plB_iff.1 h
  obtain ⟨f, t, d, k⟩ := p
  simp only at h1 h2 h3 h4
  exact ⟨f.toNat, t.toNat, d.toNat, k.toNat, by simp only [Pl.mk.injEq]; omega, by omega, by omega, by omega, by omega⟩
theorem plT_nat (a b c d : Nat) : plT ⟨a, b, c, d⟩ = dec a ++ 62 :: (dec b ++ 58 :: (dec c ++ 42 :: dec d)) := by simp [plT]
theorem rp_cut (a b c d : Nat) : let l := dec a ++ 62 :: (dec b ++ 58 :: (dec c ++ 42 :: dec d)); rpA l = dec a ∧ rpB l = dec b ∧ rpC l = dec c ∧ rpD l = dec d := by
  intro l
  have e1 : Lib.cut l [62] = (dec a, dec b ++ 58 :: (dec c ++ 42 :: dec d), true) := cut_at (dec_no (by decide))
  have e2 : Lib.cut (dec b ++ 58 :: (dec c ++ 42 :: dec d)) [58] = (dec b, dec c ++ 42 :: dec d, true) := cut_at (dec_no (by decide))
  have e3 : Lib.cut (dec c ++ 42 :: dec d) [42] = (dec c, dec d, true) := cut_at (dec_no (by decide))
  simp [rpA, rpB, rpC, rpD, rpR, rpS, e1, e2, e3]
theorem rp_plT {p : Pl} (h : plB 9 p = true) : rpN (plT p) = (p, true) := by
  obtain ⟨a, b, c, d, rfl, h1, h2, h3, h4⟩ := plB_nat h
  rw [plT_nat]
  obtain ⟨e1, e2, e3, e4⟩ := rp_cut a b c d
  unfold rpN
  rw [e1, e2, e3, e4, rdN_dec (by omega), rdN_dec (by omega), rdN_dec (by omega), rdN_dec (by omega)]
  simp
theorem rdN_nil : (rdN []).2 = false := by
  cases h : (rdN []).2 with
  | false => rfl
  | true =>
    have := rdN_some h
    generalize (rdN []).1 = v at this
    by_cases h0 : v < 0
    · rw [Lib.itoa, if_pos h0] at this; simp at this
    · rw [itoa_pos (by omega)] at this; exact absurd this.symm (dec_ne _)
/-- Whatever is cut with something behind is put together again. -/
theorem cut_join {c : UInt8} {l : List UInt8} (h : (Lib.cut l [c]).2.1 ≠ []) : l = (Lib.cut l [c]).1 ++ c :: (Lib.cut l [c]).2.1 := by
  rcases first_byte c l with h1 | ⟨a, b, rfl, h1⟩
  · rw [cut_no h1] at h; exact absurd rfl h
  · rw [cut_at h1]
theorem rp_some {l : List UInt8} (h : (rpN l).2 = true) (hb : plB 9 (rpN l).1 = true) : plT (rpN l).1 = l := by
  unfold rpN at h hb ⊢
  split at h
  case isFalse => cases h
  rename_i hall
  rw [if_pos hall] at hb ⊢
  obtain ⟨h1, h2, h3, h4⟩ := hall
  obtain ⟨⟨g1, g2⟩, g3, g4⟩ := plB_iff.1 hb
  simp only at g1 g2 g3 g4 ⊢
  have nd : rpD l ≠ [] := fun e => by rw [e, rdN_nil] at h4; cases h4
  have nc : rpC l ≠ [] := fun e => by rw [e, rdN_nil] at h3; cases h3
  have nb : rpB l ≠ [] := fun e => by rw [e, rdN_nil] at h2; cases h2
  have j3 : rpS l = rpC l ++ 42 :: rpD l := cut_join (l := rpS l) nd
  have ns : rpS l ≠ [] := by rw [j3]; simp
  have j2 : rpR l = rpB l ++ 58 :: rpS l := cut_join (l := rpR l) ns
  have nr : rpR l ≠ [] := by rw [j2]; simp
  have j1 : l = rpA l ++ 62 :: rpR l := cut_join (l := l) nr
  have i1 := rdN_some h1
  have i2 := rdN_some h2
  have i3 := rdN_some h3
  have i4 := rdN_some h4
  rw [itoa_pos g1.1] at i1
  rw [itoa_pos g2.1] at i2
  rw [itoa_pos g3.1] at i3
  rw [itoa_pos g4.1] at i4
  conv => rhs; rw [j1, j2, j3, i1, i2, i3, i4]
  simp [plT]
def reN (c : UInt8) (l : List UInt8) : Ed × Bool :=
  if c = 45 then (⟨2, (rdN (Lib.cut l [32]).1).1, ⟨0, 0, 0, 0⟩⟩, (rdN (Lib.cut l [32]).1).2 && !(Lib.cut l [32]).2.2)
  else if c = 43 ∨ c = 61 then (⟨if c = 61 then 3 else 1, (rdN (Lib.cut l [32]).1).1, (rpN (Lib.cut l [32]).2.1).1⟩, (rdN (Lib.cut l [32]).1).2 && (Lib.cut l [32]).2.2 && (rpN (Lib.cut l [32]).2.1).2)
  else (⟨0, (rdN (Lib.cut l [32]).1).1, ⟨0, 0, 0, 0⟩⟩, (rdN (Lib.cut l [32]).1).2)
theorem edB_iff {e : Ed} : edB e = true ↔ (1 ≤ e.kind ∧ e.kind ≤ 3) ∧ (0 ≤ e.idx ∧ e.idx ≤ 30) ∧ (if e.kind = 2 then e.pl = ⟨0, 0, 0, 0⟩ else plB 9 e.pl = true) := by
  unfold edB
  constructor
  · intro h
    split at h
    · split at h
      · rename_i h1 h2
        refine ⟨wi_iff'.1 h1, wi_iff'.1 h2, ?_⟩
        split at h
        · rename_i h3; rw [if_pos h3]; simpa using h
        · rename_i h3; rw [if_neg h3]; exact h
      · cases h
    · cases h
  · rintro ⟨h1, h2, h3⟩
    rw [if_pos (wi_iff'.2 h1), if_pos (wi_iff'.2 h2)]
    split
    · rename_i h4; rw [if_pos h4] at h3; simpa using h3
    · rename_i h4; rw [if_neg h4] at h3; exact h3
theorem re_ok {e : Ed} (h : edB e = true) : ∃ c l, edT e = c :: l ∧ reN c l = (e, true) := by
  obtain ⟨⟨k1, k2⟩, ⟨x1, x2⟩, hp⟩ := edB_iff.1 h
  rw [edT_yes h]
  obtain ⟨kd, ix, pl⟩ := e
  simp only at k1 k2 x1 x2 hp ⊢
  obtain ⟨n, rfl⟩ : ∃ n : Nat, ix = n := ⟨ix.toNat, by omega⟩
  rw [Int.toNat_natCast]
  by_cases h2 : kd = 2
  · subst h2
    simp only [if_true] at hp
    subst hp
    refine ⟨45, dec n, by rw [if_pos rfl], ?_⟩
    unfold reN
    rw [if_pos rfl, cut_no (dec_no (by decide)), rdN_dec (by omega)]
    rfl
  · simp only [if_neg h2] at hp ⊢
    have hc : Lib.cut (dec n ++ [32] ++ plT pl) [32] = (dec n, plT pl, true) := by
      rw [List.append_assoc]
      exact cut_at (a := dec n) (b := plT pl) (dec_no (by decide))
    by_cases h1 : kd = 1
    · subst h1
      refine ⟨43, _, by rw [if_pos rfl], ?_⟩
      unfold reN
      rw [if_neg (by decide), if_pos (by decide), hc, rdN_dec (by omega), rp_plT hp]
      rfl
    · obtain rfl : kd = 3 := by omega
      refine ⟨61, _, by rw [if_neg (by decide)], ?_⟩
      unfold reN
      rw [if_neg (by decide), if_pos (by decide), hc, rdN_dec (by omega), rp_plT hp]
      rfl
theorem re_some {c : UInt8} {l : List UInt8} (h : (reN c l).2 = true) (hb : edB (reN c l).1 = true) : edT (reN c l).1 = c :: l := by
  obtain ⟨⟨k1, k2⟩, ⟨x1, x2⟩, hp⟩ := edB_iff.1 hb
  rw [edT_yes hb]
  unfold reN at h hb k1 k2 x1 x2 hp ⊢
  by_cases c1 : c = 45
  · subst c1
    simp only [if_true] at h hb x1 x2 ⊢
    simp only [Bool.and_eq_true, Bool.not_eq_true'] at h
    obtain ⟨h1, h2⟩ := h
    have i1 := rdN_some h1
    rw [itoa_pos x1] at i1
    have hl : (Lib.cut l [32]).1 = l := by
      rcases first_byte 32 l with h3 | ⟨a, b, rfl, h3⟩
      · rw [cut_no h3]
      · rw [cut_at h3] at h2; cases h2
    rw [← i1, hl]
  · rw [if_neg c1] at h hb k1 k2 x1 x2 hp ⊢
    by_cases c2 : c = 43 ∨ c = 61
    · rw [if_pos c2] at h hb k1 k2 x1 x2 hp ⊢
      simp only [Bool.and_eq_true] at h
      obtain ⟨⟨h1, h2⟩, h3⟩ := h
      have i1 := rdN_some h1
      simp only at x1 x2 hp ⊢
      rw [itoa_pos x1] at i1
      have hk : ¬ (if c = 61 then (3 : Int) else 1) = 2 := by split <;> decide
      rw [if_neg hk] at hp ⊢
      have i2 := rp_some h3 hp
      rw [← i1, i2]
      have hl : l = (Lib.cut l [32]).1 ++ 32 :: (Lib.cut l [32]).2.1 := by
        rcases first_byte 32 l with h4 | ⟨a, b, rfl, h4⟩
        · rw [cut_no h4] at h2; cases h2
        · rw [cut_at h4]
      have hc : (if (if c = 61 then (3 : Int) else 1) = 1 then (43 : UInt8) else 61) = c := by
        rcases c2 with rfl | rfl <;> rfl
      rw [hc]
      conv => rhs; rw [hl]
      simp
    · rw [if_neg c2] at k1
      simp at k1
end Go.Proofs.YtofakjlamoigcaaDoor
end

section
namespace Go.Proofs.YtofakjlamoigcaaDoor
set_option linter.unusedSimpArgs false
set_option linter.unusedVariables false
open Go Go.RowKit
attribute [local irreducible] AL AD AW OpOk Le AC thenQ blockQ EndQ

section
variable {P : Program} {o : Oper} {A : Operand → AV} {H : Heap} {new : Nat} {t t' : TypeId} {x y : Operand} {a : List UInt8}
theorem Ok.sneSame [Mode] (ho : o.op = .binOp .neq t x y t') (hx : A x = Str a) (hy : A y = Str a) : OpOk P o A [] H new (Bo false) [] := by
  have := Ok.sneS (P := P) (H := H) (new := new) ho hx hy
  rwa [decide_eq_false (by simp)] at this
end
end Go.Proofs.YtofakjlamoigcaaDoor
end

section
namespace Go.Proofs.YtofakjlamoigcaaDoor
set_option linter.unusedSimpArgs false
set_option linter.unusedVariables false
open Go Go.RowKit
attribute [local irreducible] AL AD AW OpOk Le AC thenQ blockQ EndQ

abbrev SL (ss : List (List UInt8)) : AV := .d (.sl 1 (stR ss))
abbrev SO (ss : List (List UInt8)) : AObj := dobj 1 (stR ss)
theorem stR_app [Mode] (a b : List (List UInt8)) : stR (a ++ b) = stR a ++ stR b := by simp [stR]
theorem stR_get [Mode] {ss : List (List UInt8)} {i : Nat} {s : List UInt8} (h : ss[i]? = some s) : (stR ss)[i]? = some [StrD s] := by simp [stR, h]
theorem stR_getI [Mode] {ss : List (List UInt8)} {i : Nat} {s : List UInt8} (h : ss[i]? = some s) : (stR ss)[((i : Nat) : Int).toNat]? = some [StrD s] := by rw [Int.toNat_natCast]; exact stR_get h
set_option maxHeartbeats 2000000 in
theorem l01Split_ac [Mode] (l : List UInt8) (c : UInt8) (hl : l.length ≤ 100000000) : AC Tryd.prog 42 [Str l, Byt c] H0 (own1 1 (spl c l).length) (hp1 (SO (spl c l))) := by
  rw [← stS_end]
  refine AC.of_body 0 Tryd.func42 rfl (fun l h => absurd rfl h) (fun C hC => ?_)
  have hD : ∀ l, ¬ C.D0 l := fun l h => (hC l).1 h rfl
  simp only [startFr, Tryd.ntmps42, List.length_cons, List.length_nil, Nat.reduceAdd, Nat.reduceSub, List.replicate_succ, List.replicate_zero, List.cons_append, List.nil_append]
  repeat' (first | ((first | apply Ba | (apply Bb; (· rfl); (· rfl)) | (apply Bc; (· exact nxE)) | (apply Bd; (· rfl); (· rfl); (· exact nxE))); (· first | exact Ok.seqS rfl rfl rfl | exact Ok.sneS rfl rfl rfl | exact Ok.slen rfl rfl | exact Ok.pe)) | ((first | apply Ca | (apply Cb; (· exact nxE))); (· first | exact Ok.e0)) | refine Sx ?_ | (refine Sy (fun h => ?_) (fun h => ?_) <;> try (exfalso; omega; done)) | refine Sz (fun h => ?_) (fun h => ?_))
  refine AW.loop (X := {k : Nat // k ≤ l.length + 1}) (fun k => ⟨[Str l, Byt c, Oo, Oo, Oo, .own 1 ⟨0, []⟩ 0 (stS c l (k.1 : Nat)).2.length, I ((stS c l (k.1 : Nat)).1 : Nat), I (k.1 : Nat), Oo, Oo, Oo, Oo, Oo, Oo, Oo, Oo, Oo, Oo, Oo, Oo, Oo, Oo, Oo, Oo, Oo, Oo, Oo, Oo, Oo, Oo, Oo, Oo, Oo, Oo, Oo, Oo], heapL [(⟨0, []⟩, ⟨0, []⟩, SO (stS c l k.1).2)], 900⟩) (fun k => l.length + 1 - k.1) ⟨0, Nat.zero_le _⟩ ?_ (fun k => ?_)
  ·
    (apply Le.headZ [_] rfl)
    all_goals (try dsimp only [srcs])
    (case' hfr | hob => (repeat' (first | refine La ?_ ?_ | exact Lc | refine Lo ?_ | refine ⟨⟨_, rfl, ?_⟩, ?_⟩ | refine Lx ?_)))
    all_goals (first | (rfl) | exact Ld)
  obtain ⟨k, hk⟩ := k
  simp only
  have hle := stS_le c l k
  have hsl := stS_len c l k
  have hol : (stR (stS c l k).2).length = (stS c l k).2.length := stR_len _
  by_cases hlt : k < l.length + 1
  · by_cases hkl : k = l.length
    · have hs : stS c l (k + 1) = (k + 1, (stS c l k).2 ++ [(l.drop (stS c l k).1).take (k - (stS c l k).1)]) := by rw [stS, if_pos (.inl hkl)]
      repeat' (first | ((first | apply Ba | (apply Bb; (· rfl); (· rfl)) | (apply Bc; (· exact nxE)) | (apply Bd; (· rfl); (· rfl); (· exact nxE))); (· first | exact Ok.sBoth rfl rfl rfl rfl rfl rfl (by omega) (by omega) | exact Ok.seqS rfl rfl rfl | exact Ok.sneS rfl rfl rfl | exact Ok.slen rfl rfl | exact Ok.append1 (row := [StrD ((l.drop (stS c l k).1).take (k - (stS c l k).1))]) rfl rfl (by decide) rfl rfl hol rfl rfl rfl (by rfl) (by omega) (by omega) | exact Ok.pe)) | ((first | apply Ca | (apply Cb; (· exact nxE))); (· first | exact Ok.append1 (row := [StrD ((l.drop (stS c l k).1).take (k - (stS c l k).1))]) rfl rfl (by decide) rfl rfl hol rfl rfl rfl (by rfl) (by omega) (by omega) | exact Ok.e0)) | refine Sx ?_ | (refine Sy (fun h => ?_) (fun h => ?_) <;> try (exfalso; omega; done)) | refine Sz (fun h => ?_) (fun h => ?_))
      refine ⟨⟨k + 1, by omega⟩, ?_, by simp only; omega⟩
      (apply Le.headZ [_] rfl)
      all_goals (try dsimp only [srcs])
      (case' hfr | hob => (repeat' (first | refine La ?_ ?_ | exact Lc | refine Lo ?_ | refine ⟨⟨_, rfl, ?_⟩, ?_⟩ | refine Lx ?_)))
      all_goals (first | ((first | (rw [hs, List.length_append, List.length_singleton]; done) | (rw [hs]; rfl) | (rw [hs, stR_app]; rfl))) | exact Ld)
    · obtain ⟨x, hx⟩ : ∃ x, l[k]? = some x := ⟨l[k], List.getElem?_eq_getElem (by omega)⟩
      have hx' : l[((k : Nat) : Int).toNat]? = some x := by rw [Int.toNat_natCast]; exact hx
      by_cases hc : x = c
      · have hs : stS c l (k + 1) = (k + 1, (stS c l k).2 ++ [(l.drop (stS c l k).1).take (k - (stS c l k).1)]) := by rw [stS, if_pos (.inr (by rw [hx, hc]))]
        subst hc
        repeat' (first | ((first | apply Ba | (apply Bb; (· rfl); (· rfl)) | (apply Bc; (· exact nxE)) | (apply Bd; (· rfl); (· rfl); (· exact nxE))); (· first | exact Ok.sidx rfl rfl rfl (by omega) hx' | exact Ok.sBoth rfl rfl rfl rfl rfl rfl (by omega) (by omega) | exact Ok.seqS rfl rfl rfl | exact Ok.sneS rfl rfl rfl | exact Ok.slen rfl rfl | exact Ok.append1 (row := [StrD ((l.drop (stS x l k).1).take (k - (stS x l k).1))]) rfl rfl (by decide) rfl rfl hol rfl rfl rfl (by rfl) (by omega) (by omega) | exact Ok.pe)) | ((first | apply Ca | (apply Cb; (· exact nxE))); (· first | exact Ok.append1 (row := [StrD ((l.drop (stS x l k).1).take (k - (stS x l k).1))]) rfl rfl (by decide) rfl rfl hol rfl rfl rfl (by rfl) (by omega) (by omega) | exact Ok.e0)) | refine Sx ?_ | (refine Sy (fun h => ?_) (fun h => ?_) <;> try (exfalso; omega; done)) | refine Sz (fun h => ?_) (fun h => ?_))
        refine ⟨⟨k + 1, by omega⟩, ?_, by simp only; omega⟩
        (apply Le.headZ [_] rfl)
        all_goals (try dsimp only [srcs])
        (case' hfr | hob => (repeat' (first | refine La ?_ ?_ | exact Lc | refine Lo ?_ | refine ⟨⟨_, rfl, ?_⟩, ?_⟩ | refine Lx ?_)))
        all_goals (first | ((first | (rw [hs, List.length_append, List.length_singleton]; done) | (rw [hs]; rfl) | (rw [hs, stR_app]; rfl))) | exact Ld)
      · have hs : stS c l (k + 1) = stS c l k := by rw [stS, if_neg (by rw [hx]; simp [hc]; exact hkl)]
        have hne : ¬ ((x.toNat : Int) = c.toNat) := fun e => hc (UInt8.toNat_inj.1 (by omega))
        repeat' (first | ((first | apply Ba | (apply Bb; (· rfl); (· rfl)) | (apply Bc; (· exact nxE)) | (apply Bd; (· rfl); (· rfl); (· exact nxE))); (· first | exact Ok.sidx rfl rfl rfl (by omega) hx' | exact Ok.seqS rfl rfl rfl | exact Ok.sneS rfl rfl rfl | exact Ok.slen rfl rfl | exact Ok.pe)) | ((first | apply Ca | (apply Cb; (· exact nxE))); (· first | exact Ok.e0)) | refine Sx ?_ | (refine Sy (fun h => ?_) (fun h => ?_) <;> try (exfalso; omega; done)) | refine Sz (fun h => ?_) (fun h => ?_))
        refine ⟨⟨k + 1, by omega⟩, ?_, by simp only; omega⟩
        (apply Le.headZ [_] rfl)
        all_goals (try dsimp only [srcs])
        (case' hfr | hob => (repeat' (first | refine La ?_ ?_ | exact Lc | refine Lo ?_ | refine ⟨⟨_, rfl, ?_⟩, ?_⟩ | refine Lx ?_)))
        all_goals (first | ((rw [hs]; done)) | exact Ld)
  ·
    obtain rfl : k = l.length + 1 := by omega
    repeat' (first | ((first | apply Ba | (apply Bb; (· rfl); (· rfl)) | (apply Bc; (· exact nxE)) | (apply Bd; (· rfl); (· rfl); (· exact nxE))); (· first | exact Ok.seqS rfl rfl rfl | exact Ok.sneS rfl rfl rfl | exact Ok.slen rfl rfl | exact Ok.pe)) | ((first | apply Ca | (apply Cb; (· exact nxE))); (· first | exact Ok.e0)) | refine Sx ?_ | (refine Sy (fun h => ?_) (fun h => ?_) <;> try (exfalso; omega; done)) | refine Sz (fun h => ?_) (fun h => ?_))
    refine Ya ?_
    (apply Le.head [(⟨0, []⟩, _, _)])
    (case' hfr | hob => (repeat' (first | refine La ?_ ?_ | exact Lc | refine Lo ?_ | refine ⟨⟨_, rfl, ?_⟩, ?_⟩ | refine Lx ?_)))
    all_goals (first | exact Ld | (rfl))
end Go.Proofs.YtofakjlamoigcaaDoor
end

section
namespace Go.Proofs.YtofakjlamoigcaaDoor
set_option linter.unusedSimpArgs false
set_option linter.unusedVariables false
open Go Go.RowKit

theorem var_below [Mode] {w w' : World} {P : Program} {name : String} {cs : Array Value} (h : w.var? P name = some cs) (hb : Below w.heap.size w w') : w'.var? P name = some cs := by
  unfold World.var? at h ⊢
  rw [Option.bind_eq_some_iff] at h ⊢
  obtain ⟨g, h1, h2⟩ := h
  refine ⟨g, h1, ?_⟩
  have hlt : g < w.heap.size := by
    refine Nat.lt_of_not_le fun hn => ?_
    have hb : w.heap[g]? = none := by simp [hn]
    simp [hb] at h2
  rw [hb.block _ hlt]; exact h2
theorem decimal_calls [Mode] (n : Int) (h0 : -9223372036854775808 ≤ n) (h1 : n ≤ 9223372036854775807) (w : World) (ht : Lib.TabIs Tryd.prog w "internal/strconv.uint64pow10" .u64 Lib.pow10Tab) :
    Calls Tryd.prog 35 #[.int .i64 n] w fun e w' => e = .returned (.string ⟨(Lib.itoa n).toArray⟩) ∧ Below w.heap.size w w' := by
  go_enter Tryd.func35, Tryd.ntmps35
  go_wp2_with (go_at_call 63; refine (Tryd.strconv_FormatInt_10 n h0 h1 w ht).mono ?_; rintro e w' ⟨rfl, k, os, rfl⟩)
  go_ret
  exact ⟨rfl, Lib.below_grow _ _ (Nat.le_refl _) _ _⟩
set_option maxRecDepth 8000 in
set_option maxHeartbeats 1600000 in
theorem readNumber_calls [Mode] (l : List UInt8) (hl : l.length ≤ 100000000) (w : World) (ht : Lib.TabIs Tryd.prog w "internal/strconv.uint64pow10" .u64 Lib.pow10Tab)
    (e1 : ∃ t p, w.var? Tryd.prog "strconv.ErrSyntax" = some #[.iface t p]) (e2 : ∃ t p, w.var? Tryd.prog "strconv.ErrRange" = some #[.iface t p]) :
    Calls Tryd.prog 38 #[.string ⟨l.toArray⟩] w fun e w' => e = .returned (.tuple #[.int .i64 (rdN l).1, .bool (rdN l).2]) ∧ Below w.heap.size w w' := by
  have hsz := size_mk l
  cases h : Lib.parseIntB 64 l with
  | ok v =>
    have hbd := Lib.parseIntB_bounds (B := 64) (l := l) (v := v) h
    have h' : Lib.parseIntB 64 (ByteArray.mk l.toArray).data.toList = .ok v := by simpa using h
    by_cases hq : Lib.itoa v = l
    · have hr : rdN l = (v, true) := by unfold rdN; rw [h]; simp [hq]
      rw [hr]
      go_enter Tryd.func38, Tryd.ntmps38
      go_wp2_with (first
        | (go_at_call 65; refine (Tryd.strconv_ParseInt_10_at64_ok ⟨l.toArray⟩ (by rw [hsz]; omega) v h' w).mono ?_; rintro e w1 ⟨rfl, hw1⟩; have hb1 : Below w.heap.size w w1 := (by rcases hw1 with rfl | ⟨t, rfl⟩; (· exact Below.refl _ _); (· exact Lib.bytesWorld_below _ _ _)); clear hw1)
        | (go_at_call 35; refine (decimal_calls v (by omega) (by omega) _ (var_below ht hb1)).mono ?_; rintro e w2 ⟨rfl, hb2⟩))
      go_ret2
      exact ⟨rfl, hb1.trans (hb2.mono hb1.size)⟩
    · have hr : rdN l = (0, false) := by unfold rdN; rw [h]; simp [hq]
      rw [hr]
      have hq2 : (Lib.itoa v == l) = false := by simp [hq]
      go_enter Tryd.func38, Tryd.ntmps38
      go_wp2_with (first
        | (go_at_call 65; refine (Tryd.strconv_ParseInt_10_at64_ok ⟨l.toArray⟩ (by rw [hsz]; omega) v h' w).mono ?_; rintro e w1 ⟨rfl, hw1⟩; have hb1 : Below w.heap.size w w1 := (by rcases hw1 with rfl | ⟨t, rfl⟩; (· exact Below.refl _ _); (· exact Lib.bytesWorld_below _ _ _)); clear hw1)
        | (go_at_call 35; refine (decimal_calls v (by omega) (by omega) _ (var_below ht hb1)).mono ?_; rintro e w2 ⟨rfl, hb2⟩))
      go_ret2
      exact ⟨rfl, hb1.trans (hb2.mono hb1.size)⟩
  | «syntax» =>
    obtain ⟨tp, p, hv⟩ := e1
    have hr : rdN l = (0, false) := by unfold rdN; rw [h]
    rw [hr]
    have h' : Lib.parseIntB 64 (ByteArray.mk l.toArray).data.toList = .«syntax» := by simpa using h
    have hcell : w.cell? ⟨2, 0, none⟩ = some (.iface tp p) := by
      refine (World.var?_cell ?h hv 0).trans ?t
      case h => kernel_rfl
      case t => simp
    go_enter Tryd.func38, Tryd.ntmps38
    go_wp2_with (go_at_call 65; refine (Tryd.strconv_ParseInt_10_at64_syntax ⟨l.toArray⟩ (by rw [hsz]; omega) h' _ w hcell (.inr ⟨_, _, rfl⟩)).mono ?_; rintro e w1 ⟨N, rfl, _, _, hb1⟩)
    go_ret2
    exact ⟨rfl, hb1⟩
  | range =>
    obtain ⟨tp, p, hv⟩ := e2
    have hr : rdN l = (0, false) := by unfold rdN; rw [h]
    rw [hr]
    have h' : Lib.parseIntB 64 (ByteArray.mk l.toArray).data.toList = .range := by simpa using h
    have hcell : w.cell? ⟨3, 0, none⟩ = some (.iface tp p) := by
      refine (World.var?_cell ?h hv 0).trans ?t
      case h => kernel_rfl
      case t => simp
    go_enter Tryd.func38, Tryd.ntmps38
    go_wp2_with (go_at_call 65; refine (Tryd.strconv_ParseInt_10_at64_range ⟨l.toArray⟩ (by rw [hsz]; omega) h' _ w hcell (.inr ⟨_, _, rfl⟩)).mono ?_; rintro e w1 ⟨N, rfl, _, _, hb1⟩)
    go_ret2
    exact ⟨rfl, hb1⟩
theorem readNumber_ac [Mode] [HasTab] [HasErr] (l : List UInt8) (hl : l.length ≤ 100000000) : AC Tryd.prog 38 [Str l] H0 (.tup [I (rdN l).1, Bo (rdN l).2]) H0 := AC.ofCalls fun ι F w vs hs hv => by
  obtain ⟨hvl, hvv⟩ := hv
  match vs, hvl with
  | [v], _ =>
    have := (hvv 0 _ v rfl rfl).v_inv
    subst this
    obtain ⟨w0, hg, _, hvar⟩ := hs.gl.held
    obtain ⟨⟨t1, p1, k1⟩, t2, p2, k2⟩ := HasErr.err w0 hg
    refine (readNumber_calls l hl w (hvar _ _ _ (HasTab.tab w0 hg)) ⟨t1, p1, hvar _ _ _ k1⟩ ⟨t2, p2, hvar _ _ _ k2⟩).mono ?_
    rintro e w' ⟨rfl, hb⟩
    exact ⟨_, rfl, fun _ _ => VRs.tup (.cons (.d (.v _)) (.cons (.d (.v _)) .nil)), hb⟩
end Go.Proofs.YtofakjlamoigcaaDoor
end
