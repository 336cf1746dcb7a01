/-
  Walks in the abstract reading, part 6.
-/
import Derived.Test.YtofakjlamoigcaaGreatDoorKsU1
import Derived.Test.YtofakjlamoigcaaGreatDoorKsU5
import Derived.Test.YtofakjlamoigcaaGreatDoorKsA3
import Derived.Test.YtofakjlamoigcaaGreatDoorKsA2
import Derived.Test.YtofakjlamoigcaaGreatDoorKsU2
section
namespace Go.Proofs.YtofakjlamoigcaaGreatDoor
open Go Go.RowKit
set_option linter.unusedSimpArgs false
set_option linter.unusedVariables false
attribute [local irreducible] AL AD AW OpOk Le AC thenQ blockQ EndQ

set_option maxHeartbeats 1000000 in
theorem indexFuncPl_ac [Mode] (xs : List Pl) (hn : xs.length ≤ 100000000) (g : FuncId) [FnBody Tryz.prog g] (caps : List AV) (hs : HL) (hself : ∀ p ∈ hs, p.2.1 = p.1) (hnd : (hs.map (·.1)).Nodup) (hok : HOk hs) (hcaps : ∀ c ∈ caps, Locs (· ∈ hs.map (·.1)) c) (M : Nat) (hM : ∀ p ∈ hs, p.1.id < M) (pred : Pl → Bool)
    (hg : ∀ p ∈ xs, AC Tryz.prog g (p.av :: caps) (heapL hs) (Bo (pred p)) (heapL hs)) : AC Tryz.prog 92 [.d (.sl 4 (xs.map Pl.row)), .clo (.func g) [] caps] (heapL hs) (I (idxOf pred xs 0)) (heapL hs) := by
  refine AC.of_body M Tryz.func92 rfl (fun l h => by obtain ⟨p, hp, e⟩ := List.mem_map.1 (heapL_iff.1 h); rw [← e]; exact hM p hp) (fun C hC => ?_)
  simp only [startFr, Tryz.ntmps92, List.length_cons, List.length_nil, Nat.reduceAdd, Nat.reduceSub, List.replicate_succ, List.replicate_zero, List.cons_append, List.nil_append]
  repeat' (first | refine AL.nil ?_ | ((first | apply AL.st | (apply AL.on; (· rfl); (· rfl)) | (apply AD.st; (· exact nxE)) | (apply AD.on; (· rfl); (· rfl); (· exact nxE))); (· first | exact Ok.pe); (· exact setE); (· first | exact updsE | exact rfl); (· exact nxE)) | ((first | apply AL.st0 | (apply AD.st0; (· exact nxE))); (· first | exact Ok.e0); (· exact rfl); (· exact nxE)) | ((first | apply AL.off | apply AD.off); (· rfl); (· rfl); (· rfl); (· exact setE); (· exact nxE)) | ((first | refine AL.gsplit rfl rfl (fun h => ?_) (fun h => ?_) | refine AD.gsplit rfl rfl (fun h => ?_) (fun h => ?_)) <;> try (exfalso; omega; done)) | (first | refine AL.gsplitB rfl rfl (fun h => ?_) (fun h => ?_) | refine AD.gsplitB rfl rfl (fun h => ?_) (fun h => ?_)) | refine AD.fin (by simp only [List.length_cons, List.length_nil, Nat.reduceAdd]; rfl) rfl (by kernel_rfl) ?_ | refine thenN ?_ | refine AW.seq ?_ | refine AW.reg ?_ | refine AW.dr mixedA (by kernel_rfl) ?_ | refine AW.block ?_ | refine AW.condT rfl ?_ | refine AW.condF rfl ?_ | (refine AW.ite rfl (fun h => ?_) (fun h => ?_) <;> try (exfalso; omega; done)) | refine AW.cond _ rfl (fun h => ?_) (fun h => ?_) | refine AW.ret ?_ | refine AW.exit ?_ | refine AW.skip ?_ | refine thenR ?_ | refine thenX ?_ | refine blockN ?_ | refine blockR ?_ | refine blockX ?_ | refine blockY (by decide) ?_)
  have hca : ∀ H lent, ARs H lent id (· ∈ hs.map (·.1)) caps caps := fun H lent => ⟨rfl, fun i c c' h1 h2 => by rw [h1] at h2; cases h2; exact (hcaps c (List.mem_of_getElem? h1)).ar⟩
  have hD : ∀ l, C.D0 l → l.id < M := fun l h => by obtain ⟨p, hp, e⟩ := List.mem_map.1 (heapL_iff.1 ((hC l).1 h)); rw [← e]; exact hM p hp
  refine AW.loop (X := {k : Nat // k ≤ xs.length ∧ idxOf pred xs 0 = idxOf pred (xs.drop k) k}) (fun k => ⟨[PL xs, .clo (.func g) [] caps, .dead, .dead, .dead, .dead, .dead, I xs.length, I (k.1 : Nat), .dead, .dead, .dead, .dead, .dead, .dead, .dead, .dead, .dead, .dead], heapL hs, M⟩) (fun k => xs.length - k.1) ⟨0, Nat.zero_le _, by simp⟩ ?_ (fun k => ?_)
  ·
    refine Le.keep hself hnd hok ?_ hM hD
    repeat' (first | exact trivial | exact ARs.nil | refine ARs.cons ?_ ?_ | exact AR.dead _ | exact AR.dd _ | exact AR.i (by (try dsimp only); omega) | exact AR.ptr _ _ _ _ (by simp [heapL, upd]) | exact AR.own _ _ _ _ (by simp [heapL, upd]) | refine AR.ownE _ _ _ ?_ (by simp [heapL, upd]) | refine ⟨⟨_, rfl, ?_⟩, ?_⟩ | exact ObA.data | refine ObA.box ?_ | refine ObA.frE ?_ | refine ObA.dataE ?_ | refine ARs.agg ?_ | refine ARs.tup ?_ | exact AR.clo' ARs.nil ARs.nil | exact AR.clo' ARs.nil (hca _ _))
  obtain ⟨k, hk, hall⟩ := k
  simp only
  by_cases hlt : k < xs.length
  · obtain ⟨p, hp⟩ : ∃ p, xs[k]? = some p := ⟨xs[k], by simp⟩
    have hrow : (xs.map Pl.row)[((k : Nat) : Int).toNat]? = some [DI p.f, DI p.t, DI p.d, DI p.k] := row_get hp
    have hgp := hg p (List.mem_of_getElem? hp)
    have hst := idxOf_at (f := pred) hp k
    rw [← hall] at hst
    repeat' (first | refine AL.nil ?_ | ((first | apply AL.st | (apply AL.on; (· rfl); (· rfl)) | (apply AD.st; (· exact nxE)) | (apply AD.on; (· rfl); (· rfl); (· exact nxE))); (· first | exact OpOk.callS hs rfl rfl hgp (fun p hp => rfl) hok (.d _) (.cons (ARs.agg (.cons (.dd _) (.cons (.dd _) (.cons (.dd _) (.cons (.dd _) .nil))))) (hca _ _)) | exact Ok.pe); (· exact setE); (· first | exact updsE | exact rfl); (· exact nxE)) | ((first | apply AL.st0 | (apply AD.st0; (· exact nxE))); (· first | exact Ok.e0); (· exact rfl); (· exact nxE)) | ((first | apply AL.off | apply AD.off); (· rfl); (· rfl); (· rfl); (· exact setE); (· exact nxE)) | ((first | refine AL.gsplit rfl rfl (fun h => ?_) (fun h => ?_) | refine AD.gsplit rfl rfl (fun h => ?_) (fun h => ?_)) <;> try (exfalso; omega; done)) | (first | refine AL.gsplitB rfl rfl (fun h => ?_) (fun h => ?_) | refine AD.gsplitB rfl rfl (fun h => ?_) (fun h => ?_)) | refine AD.fin (by simp only [List.length_cons, List.length_nil, Nat.reduceAdd]; rfl) rfl (by kernel_rfl) ?_ | refine thenN ?_ | refine AW.seq ?_ | refine AW.reg ?_ | refine AW.dr mixedA (by kernel_rfl) ?_ | refine AW.block ?_ | refine AW.condT rfl ?_ | refine AW.condF rfl ?_ | (refine AW.ite rfl (fun h => ?_) (fun h => ?_) <;> try (exfalso; omega; done)) | refine AW.cond _ rfl (fun h => ?_) (fun h => ?_) | refine AW.ret ?_ | refine AW.exit ?_ | refine AW.skip ?_ | refine thenR ?_ | refine thenX ?_ | refine blockN ?_ | refine blockR ?_ | refine blockX ?_ | refine blockY (by decide) ?_)
    ·
      (refine end1p (by first | exact .inl rfl | exact .inr rfl) rfl (by first | exact rT rfl | exact rCA rfl rfl rfl rfl (by simp) | exact rCC rfl rfl rfl rfl rfl) ?_ (Le.keep hself hnd hok ?_ hM hD); (· rw [hst, if_pos h])) <;> (repeat' (first | exact trivial | exact ARs.nil | refine ARs.cons ?_ ?_ | exact AR.dead _ | exact AR.dd _ | exact AR.i (by (try dsimp only); omega) | exact AR.ptr _ _ _ _ (by simp [heapL, upd]) | exact AR.own _ _ _ _ (by simp [heapL, upd]) | refine AR.ownE _ _ _ ?_ (by simp [heapL, upd]) | refine ⟨⟨_, rfl, ?_⟩, ?_⟩ | exact ObA.data | refine ObA.box ?_ | refine ObA.frE ?_ | refine ObA.dataE ?_ | refine ARs.agg ?_ | refine ARs.tup ?_ | exact AR.clo' ARs.nil ARs.nil | exact AR.clo' ARs.nil (hca _ _)))
    · refine ⟨⟨k + 1, by omega, by rw [hst, if_neg (by simp [h])]⟩, ?_, by simp only; omega⟩
      refine Le.keep hself hnd hok ?_ hM hD
      repeat' (first | exact trivial | exact ARs.nil | refine ARs.cons ?_ ?_ | exact AR.dead _ | exact AR.dd _ | exact AR.i (by (try dsimp only); omega) | exact AR.ptr _ _ _ _ (by simp [heapL, upd]) | exact AR.own _ _ _ _ (by simp [heapL, upd]) | refine AR.ownE _ _ _ ?_ (by simp [heapL, upd]) | refine ⟨⟨_, rfl, ?_⟩, ?_⟩ | exact ObA.data | refine ObA.box ?_ | refine ObA.frE ?_ | refine ObA.dataE ?_ | refine ARs.agg ?_ | refine ARs.tup ?_ | exact AR.clo' ARs.nil ARs.nil | exact AR.clo' ARs.nil (hca _ _))
  ·
    repeat' (first | refine AL.nil ?_ | ((first | apply AL.st | (apply AL.on; (· rfl); (· rfl)) | (apply AD.st; (· exact nxE)) | (apply AD.on; (· rfl); (· rfl); (· exact nxE))); (· first | exact Ok.pe); (· exact setE); (· first | exact updsE | exact rfl); (· exact nxE)) | ((first | apply AL.st0 | (apply AD.st0; (· exact nxE))); (· first | exact Ok.e0); (· exact rfl); (· exact nxE)) | ((first | apply AL.off | apply AD.off); (· rfl); (· rfl); (· rfl); (· exact setE); (· exact nxE)) | ((first | refine AL.gsplit rfl rfl (fun h => ?_) (fun h => ?_) | refine AD.gsplit rfl rfl (fun h => ?_) (fun h => ?_)) <;> try (exfalso; omega; done)) | (first | refine AL.gsplitB rfl rfl (fun h => ?_) (fun h => ?_) | refine AD.gsplitB rfl rfl (fun h => ?_) (fun h => ?_)) | refine AD.fin (by simp only [List.length_cons, List.length_nil, Nat.reduceAdd]; rfl) rfl (by kernel_rfl) ?_ | refine thenN ?_ | refine AW.seq ?_ | refine AW.reg ?_ | refine AW.dr mixedA (by kernel_rfl) ?_ | refine AW.block ?_ | refine AW.condT rfl ?_ | refine AW.condF rfl ?_ | (refine AW.ite rfl (fun h => ?_) (fun h => ?_) <;> try (exfalso; omega; done)) | refine AW.cond _ rfl (fun h => ?_) (fun h => ?_) | refine AW.ret ?_ | refine AW.exit ?_ | refine AW.skip ?_ | refine thenR ?_ | refine thenX ?_ | refine blockN ?_ | refine blockR ?_ | refine blockX ?_ | refine blockY (by decide) ?_)
    all_goals
      (refine end1p (by first | exact .inl rfl | exact .inr rfl) rfl (by first | exact rT rfl | exact rCA rfl rfl rfl rfl (by simp) | exact rCC rfl rfl rfl rfl rfl) ?_ (Le.keep hself hnd hok ?_ hM hD); (· rw [hall, List.drop_of_length_le (by omega)]; rfl)) <;> (repeat' (first | exact trivial | exact ARs.nil | refine ARs.cons ?_ ?_ | exact AR.dead _ | exact AR.dd _ | exact AR.i (by (try dsimp only); omega) | exact AR.ptr _ _ _ _ (by simp [heapL, upd]) | exact AR.own _ _ _ _ (by simp [heapL, upd]) | refine AR.ownE _ _ _ ?_ (by simp [heapL, upd]) | refine ⟨⟨_, rfl, ?_⟩, ?_⟩ | exact ObA.data | refine ObA.box ?_ | refine ObA.frE ?_ | refine ObA.dataE ?_ | refine ARs.agg ?_ | refine ARs.tup ?_ | exact AR.clo' ARs.nil ARs.nil | exact AR.clo' ARs.nil (hca _ _)))
set_option maxHeartbeats 1000000 in
theorem containsFuncPl_ac [Mode] (xs : List Pl) (hn : xs.length ≤ 100000000) (g : FuncId) [FnBody Tryz.prog g] (caps : List AV) (hs : HL) (hself : ∀ p ∈ hs, p.2.1 = p.1) (hnd : (hs.map (·.1)).Nodup) (hok : HOk hs) (hcaps : ∀ c ∈ caps, Locs (· ∈ hs.map (·.1)) c) (M : Nat) (hM : ∀ p ∈ hs, p.1.id < M) (pred : Pl → Bool)
    (hg : ∀ p ∈ xs, AC Tryz.prog g (p.av :: caps) (heapL hs) (Bo (pred p)) (heapL hs)) : AC Tryz.prog 75 [PL xs, .clo (.func g) [] caps] (heapL hs) (Bo (xs.any pred)) (heapL hs) := by
  refine AC.of_body M Tryz.func75 rfl (fun l h => by obtain ⟨p, hp, e⟩ := List.mem_map.1 (heapL_iff.1 h); rw [← e]; exact hM p hp) (fun C hC => ?_)
  simp only [startFr, Tryz.ntmps75, List.length_cons, List.length_nil, Nat.reduceAdd, Nat.reduceSub, List.replicate_succ, List.replicate_zero, List.cons_append, List.nil_append]
  have hca : ∀ H lent, ARs H lent id (· ∈ hs.map (·.1)) caps caps := fun H lent => ⟨rfl, fun i c c' h1 h2 => by rw [h1] at h2; cases h2; exact (hcaps c (List.mem_of_getElem? h1)).ar⟩
  have hD : ∀ l, C.D0 l → l.id < M := fun l h => by obtain ⟨p, hp, e⟩ := List.mem_map.1 (heapL_iff.1 ((hC l).1 h)); rw [← e]; exact hM p hp
  have hc := indexFuncPl_ac xs hn g caps hs hself hnd hok hcaps M hM pred hg
  repeat' (first | refine AL.nil ?_ | ((first | apply AL.st | (apply AL.on; (· rfl); (· rfl)) | (apply AD.st; (· exact nxE)) | (apply AD.on; (· rfl); (· rfl); (· exact nxE))); (· first | exact OpOk.callS hs rfl rfl hc (fun p hp => rfl) hok (.d _) (.cons (.dd _) (.cons (AR.clo' .nil (hca _ _)) .nil)) | exact Ok.pe); (· exact setE); (· first | exact updsE | exact rfl); (· exact nxE)) | ((first | apply AL.st0 | (apply AD.st0; (· exact nxE))); (· first | exact Ok.e0); (· exact rfl); (· exact nxE)) | ((first | apply AL.off | apply AD.off); (· rfl); (· rfl); (· rfl); (· exact setE); (· exact nxE)) | ((first | refine AL.gsplit rfl rfl (fun h => ?_) (fun h => ?_) | refine AD.gsplit rfl rfl (fun h => ?_) (fun h => ?_)) <;> try (exfalso; omega; done)) | (first | refine AL.gsplitB rfl rfl (fun h => ?_) (fun h => ?_) | refine AD.gsplitB rfl rfl (fun h => ?_) (fun h => ?_)) | refine AD.fin (by simp only [List.length_cons, List.length_nil, Nat.reduceAdd]; rfl) rfl (by kernel_rfl) ?_ | refine thenN ?_ | refine AW.seq ?_ | refine AW.reg ?_ | refine AW.dr mixedA (by kernel_rfl) ?_ | refine AW.block ?_ | refine AW.condT rfl ?_ | refine AW.condF rfl ?_ | (refine AW.ite rfl (fun h => ?_) (fun h => ?_) <;> try (exfalso; omega; done)) | refine AW.cond _ rfl (fun h => ?_) (fun h => ?_) | refine AW.ret ?_ | refine AW.exit ?_ | refine AW.skip ?_ | refine thenR ?_ | refine thenX ?_ | refine blockN ?_ | refine blockR ?_ | refine blockX ?_ | refine blockY (by decide) ?_)
  (refine end1p (by first | exact .inl rfl | exact .inr rfl) rfl (by first | exact rT rfl | exact rCA rfl rfl rfl rfl (by simp) | exact rCC rfl rfl rfl rfl rfl) ?_ (Le.keep hself hnd hok ?_ hM hD); (· rw [idxOf_any])) <;> (repeat' (first | exact trivial | exact ARs.nil | refine ARs.cons ?_ ?_ | exact AR.dead _ | exact AR.dd _ | exact AR.i (by (try dsimp only); omega) | exact AR.ptr _ _ _ _ (by simp [heapL, upd]) | exact AR.own _ _ _ _ (by simp [heapL, upd]) | refine AR.ownE _ _ _ ?_ (by simp [heapL, upd]) | refine ⟨⟨_, rfl, ?_⟩, ?_⟩ | exact ObA.data | refine ObA.box ?_ | refine ObA.frE ?_ | refine ObA.dataE ?_ | refine ARs.agg ?_ | refine ARs.tup ?_ | exact AR.clo' ARs.nil ARs.nil | exact AR.clo' ARs.nil (hca _ _)))
/-- The test of a place in IsEventGraph: its graph lies in the captured variable. -/
theorem isEGfn_ac [Mode] (ev : Int) (xs : List Pl) (p : Pl) : AC Tryz.prog 76 [p.av, Bx 2 0] (heapL [(⟨0, []⟩, ⟨0, []⟩, ⟨2, [[I ev, PL xs]]⟩)]) (Bo (!plB (IntKind.i64.wrap (ev - 1)) p)) (heapL [(⟨0, []⟩, ⟨0, []⟩, ⟨2, [[I ev, PL xs]]⟩)]) := by
  refine AC.of_body 1 Tryz.func76 rfl (fun l h => by simp [heapL, upd] at h; simp [h]) (fun C hC => ?_)
  simp only [startFr, Tryz.ntmps76, List.length_cons, List.length_nil, Nat.reduceAdd, Nat.reduceSub, List.replicate_succ, List.replicate_zero, List.cons_append, List.nil_append]
  have hD : ∀ l, C.D0 l → l = ⟨0, []⟩ := fun l h => by have := (hC l).1 h; simp [heapL, upd] at this; exact this
  repeat' (first | refine AL.nil ?_ | ((first | apply AL.st | (apply AL.on; (· rfl); (· rfl)) | (apply AD.st; (· exact nxE)) | (apply AD.on; (· rfl); (· rfl); (· exact nxE))); (· first | exact OpOk.call0 [] rfl rfl (isPlace_ac _ _ ⟨_, _, _, _⟩) (.inl rfl) (fun _ => by simp [rn]) (ARs.cons (ARs.agg (ARs.cons (AR.dd _) (ARs.cons (AR.dd _) ARs.nil))) (ARs.cons (ARs.agg (ARs.cons (AR.dd _) (ARs.cons (AR.dd _) (ARs.cons (AR.dd _) (ARs.cons (AR.dd _) ARs.nil))))) ARs.nil)) | exact Ok.pe); (· exact setE); (· first | exact updsE | exact rfl); (· exact nxE)) | ((first | apply AL.st0 | (apply AD.st0; (· exact nxE))); (· first | exact Ok.e0); (· exact rfl); (· exact nxE)) | ((first | apply AL.off | apply AD.off); (· rfl); (· rfl); (· rfl); (· exact setE); (· exact nxE)) | ((first | refine AL.gsplit rfl rfl (fun h => ?_) (fun h => ?_) | refine AD.gsplit rfl rfl (fun h => ?_) (fun h => ?_)) <;> try (exfalso; omega; done)) | (first | refine AL.gsplitB rfl rfl (fun h => ?_) (fun h => ?_) | refine AD.gsplitB rfl rfl (fun h => ?_) (fun h => ?_)) | refine AD.fin (by simp only [List.length_cons, List.length_nil, Nat.reduceAdd]; rfl) rfl (by kernel_rfl) ?_ | refine thenN ?_ | refine AW.seq ?_ | refine AW.reg ?_ | refine AW.dr mixedA (by kernel_rfl) ?_ | refine AW.block ?_ | refine AW.condT rfl ?_ | refine AW.condF rfl ?_ | (refine AW.ite rfl (fun h => ?_) (fun h => ?_) <;> try (exfalso; omega; done)) | refine AW.cond _ rfl (fun h => ?_) (fun h => ?_) | refine AW.ret ?_ | refine AW.exit ?_ | refine AW.skip ?_ | refine thenR ?_ | refine thenX ?_ | refine blockN ?_ | refine blockR ?_ | refine blockX ?_ | refine blockY (by decide) ?_)
  (refine end1p (by first | exact .inl rfl | exact .inr rfl) rfl (by first | exact rT rfl | exact rCA rfl rfl rfl rfl (by simp) | exact rCC rfl rfl rfl rfl rfl) ?_ (Le.head ([(⟨0, []⟩, ⟨0, []⟩, ⟨2, [[I ev, PL xs]]⟩)]) (by first | exact fun l h => absurd h (hD l) | (intro l h; rcases hD l h with rfl; simp [tauL]) | (intro l h; rcases hD l h with rfl | rfl <;> simp [tauL]; done) | (intro l h; rcases hD l h with rfl | rfl | rfl <;> simp [tauL])) ?_ ?_ (by simp) (by simp) (by simp [AllP]) (n' := 1000)); (· rfl)) <;> (repeat' (first | exact trivial | exact ARs.nil | refine ARs.cons ?_ ?_ | exact AR.dead _ | exact AR.dd _ | exact AR.i (by (try dsimp only); omega) | exact AR.ptr _ _ _ _ (by simp [heapL, upd]) | exact AR.own _ _ _ _ (by simp [heapL, upd]) | refine AR.ownE _ _ _ ?_ (by simp [heapL, upd]) | refine ⟨⟨_, rfl, ?_⟩, ?_⟩ | exact ObA.data | refine ObA.box ?_ | refine ObA.frE ?_ | refine ObA.dataE ?_ | refine ARs.agg ?_ | refine ARs.tup ?_ | exact AR.clo' ARs.nil ARs.nil | exact AR.clo' ARs.nil (hca _ _)))
theorem isEG_any [Mode] (ev : Int) (xs : List Pl) (h : wi ev 1 10 = true) (h30 : (xs.length : Int) ≤ 30) : (!xs.any fun p => !plB (IntKind.i64.wrap (ev - 1)) p) = isEG ev xs := by
  rw [← isEG_wrap, h, decide_eq_true (by omega : xs.length ≤ 30), Bool.true_and, Bool.true_and, List.all_eq_not_any_not]
theorem isEG_no [Mode] (ev : Int) (xs : List Pl) (h : wi ev 1 10 = false ∨ ¬(xs.length : Int) ≤ 30) : false = isEG ev xs := by
  rw [← isEG_wrap]
  rcases h with h | h
  · rw [h]; rfl
  · rw [decide_eq_false (by omega : ¬ xs.length ≤ 30), Bool.false_and, Bool.and_false]
set_option maxHeartbeats 1000000 in
theorem iIsEventGraph_ac [Mode] (ev : Int) (xs : List Pl) (hn : xs.length ≤ 100000000) : AC Tryz.prog 49 [grD ev xs] H0 (Bo (isEG ev xs)) H0 := by
  refine AC.of_body 0 Tryz.func49 rfl (fun l h => absurd rfl h) (fun C hC => ?_)
  have hD : ∀ l, ¬ C.D0 l := fun l h => (hC l).1 h rfl
  simp only [startFr, Tryz.ntmps49, List.length_cons, List.length_nil, Nat.reduceAdd, Nat.reduceSub, List.replicate_succ, List.replicate_zero, List.cons_append, List.nil_append]
  have hc := containsFuncPl_ac xs hn 76 [Bx 2 0] [(⟨0, []⟩, ⟨0, []⟩, ⟨2, [[I ev, PL xs]]⟩)] (by simp) (by simp) (by intro p hp r hr c hc; simp at hp; subst hp; simp at hr; subst hr; simp at hc; rcases hc with rfl | rfl <;> exact .d _)
    (by intro c hc; simp at hc; subst hc; exact .ptr _ _ _ _ (by simp)) 1 (by simp) (fun p => !plB (IntKind.i64.wrap (ev - 1)) p) (fun p _ => isEGfn_ac ev xs p)
  repeat' (first | refine AL.nil ?_ | ((first | apply AL.st | (apply AL.on; (· rfl); (· rfl)) | (apply AD.st; (· exact nxE)) | (apply AD.on; (· rfl); (· rfl); (· exact nxE))); (· first | exact OpOk.call0 [] rfl rfl (within_ac _ _ _) (.inl rfl) (fun _ => by simp [rn]) (ARs.cons (AR.dd _) (ARs.cons (AR.dd _) (ARs.cons (AR.dd _) ARs.nil))) | exact OpOk.callS _ rfl rfl hc (by simp [heapL, upd, upds, W.app]) (by intro p hp r hr c hc; simp at hp; subst hp; simp at hr; subst hr; simp at hc; rcases hc with rfl | rfl <;> exact .d _) (.d _) (.cons (.dd _) (.cons (AR.clo' .nil (.cons (AR.ptr _ _ _ _ (by simp)) .nil)) .nil)) | exact Ok.pe); (· exact setE); (· first | exact updsE | exact rfl); (· exact nxE)) | ((first | apply AL.st0 | (apply AD.st0; (· exact nxE))); (· first | exact Ok.e0); (· exact rfl); (· exact nxE)) | ((first | apply AL.off | apply AD.off); (· rfl); (· rfl); (· rfl); (· exact setE); (· exact nxE)) | ((first | refine AL.gsplit rfl rfl (fun h => ?_) (fun h => ?_) | refine AD.gsplit rfl rfl (fun h => ?_) (fun h => ?_)) <;> try (exfalso; omega; done)) | (first | refine AL.gsplitB rfl rfl (fun h => ?_) (fun h => ?_) | refine AD.gsplitB rfl rfl (fun h => ?_) (fun h => ?_)) | refine AD.fin (by simp only [List.length_cons, List.length_nil, Nat.reduceAdd]; rfl) rfl (by kernel_rfl) ?_ | refine thenN ?_ | refine AW.seq ?_ | refine AW.reg ?_ | refine AW.dr mixedA (by kernel_rfl) ?_ | refine AW.block ?_ | refine AW.condT rfl ?_ | refine AW.condF rfl ?_ | (refine AW.ite rfl (fun h => ?_) (fun h => ?_) <;> try (exfalso; omega; done)) | refine AW.cond _ rfl (fun h => ?_) (fun h => ?_) | refine AW.ret ?_ | refine AW.exit ?_ | refine AW.skip ?_ | refine thenR ?_ | refine thenX ?_ | refine blockN ?_ | refine blockR ?_ | refine blockX ?_ | refine blockY (by decide) ?_)
  all_goals
    (refine end1p (by first | exact .inl rfl | exact .inr rfl) rfl (by first | exact rT rfl | exact rCA rfl rfl rfl rfl (by simp) | exact rCC rfl rfl rfl rfl rfl) ?_ (Le.head ([]) (by first | exact fun l h => absurd h (hD l) | (intro l h; rcases hD l h with rfl; simp [tauL]) | (intro l h; rcases hD l h with rfl | rfl <;> simp [tauL]; done) | (intro l h; rcases hD l h with rfl | rfl | rfl <;> simp [tauL])) ?_ ?_ (by simp) (by simp) (by simp [AllP]) (n' := 1000)); (· first | exact congrArg Bo (isEG_any _ _ ‹_› ‹_›) | exact congrArg Bo (isEG_no _ _ (.inl ‹_›)) | exact congrArg Bo (isEG_no _ _ (.inr ‹_›)))) <;> (repeat' (first | exact trivial | exact ARs.nil | refine ARs.cons ?_ ?_ | exact AR.dead _ | exact AR.dd _ | exact AR.i (by (try dsimp only); omega) | exact AR.ptr _ _ _ _ (by simp [heapL, upd]) | exact AR.own _ _ _ _ (by simp [heapL, upd]) | refine AR.ownE _ _ _ ?_ (by simp [heapL, upd]) | refine ⟨⟨_, rfl, ?_⟩, ?_⟩ | exact ObA.data | refine ObA.box ?_ | refine ObA.frE ?_ | refine ObA.dataE ?_ | refine ARs.agg ?_ | refine ARs.tup ?_ | exact AR.clo' ARs.nil ARs.nil | exact AR.clo' ARs.nil (hca _ _)))
end Go.Proofs.YtofakjlamoigcaaGreatDoor
end

section
namespace Go.Proofs.YtofakjlamoigcaaGreatDoor
set_option linter.unusedSimpArgs false
set_option linter.unusedVariables false
open Go Go.RowKit
attribute [local irreducible] AL AD AW OpOk Le AC thenQ blockQ EndQ

end Go.Proofs.YtofakjlamoigcaaGreatDoor
end

section
namespace Go.Proofs.YtofakjlamoigcaaGreatDoor
set_option linter.unusedSimpArgs false
set_option linter.unusedVariables false
open Go Go.RowKit
attribute [local irreducible] AL AD AW OpOk Le AC thenQ blockQ EndQ

end Go.Proofs.YtofakjlamoigcaaGreatDoor
end

section
namespace Go.Proofs.YtofakjlamoigcaaGreatDoor
set_option linter.unusedSimpArgs false
set_option linter.unusedVariables false
open Go Go.RowKit
attribute [local irreducible] AL AD AW OpOk Le AC thenQ blockQ EndQ

/-! ### Tables told by a function -/
def rowF (n : Nat) (g : Nat → Int) : List Int := (List.range n).map g
def tabF (m n : Nat) (f : Nat → Nat → Int) : List (List Int) := (List.range m).map fun i => rowF n (f i)
theorem rowF_len [Mode] {n : Nat} {g : Nat → Int} : (rowF n g).length = n := by simp [rowF]
theorem tabF_len [Mode] {m n : Nat} {f : Nat → Nat → Int} : (tabF m n f).length = m := by simp [tabF]
end Go.Proofs.YtofakjlamoigcaaGreatDoor
end

section
namespace Go.Proofs.YtofakjlamoigcaaGreatDoor
set_option linter.unusedSimpArgs false
set_option linter.unusedVariables false
open Go Go.RowKit
attribute [local irreducible] AL AD AW OpOk Le AC thenQ blockQ EndQ

end Go.Proofs.YtofakjlamoigcaaGreatDoor
end

section
namespace Go.Proofs.YtofakjlamoigcaaGreatDoor
set_option linter.unusedSimpArgs false
set_option linter.unusedVariables false
open Go Go.RowKit
attribute [local irreducible] AL AD AW OpOk Le AC thenQ blockQ EndQ

def okP (r e : Nat) (p : Pl) : Prop := p.t = e ∧ p.k + 1 ≤ r
instance {r e : Nat} {p : Pl} : Decidable (okP r e p) := by unfold okP; exact inferInstance
/-! ### Causes -/
/-- Does a cause end at this firing? -/
def stopC (t : List (List Int)) (xs : List Pl) (r e : Nat) : Prop := (alA t r e xs xs.length).2 < 0 ∨ (alA t r e xs xs.length).1 < entN t (r - 1) e
instance {t : List (List Int)} {xs : List Pl} {r e : Nat} : Decidable (stopC t xs r e) := by unfold stopC; exact inferInstance
end Go.Proofs.YtofakjlamoigcaaGreatDoor
end

section
namespace Go.Proofs.YtofakjlamoigcaaGreatDoor
set_option linter.unusedSimpArgs false
set_option linter.unusedVariables false
open Go Go.RowKit
attribute [local irreducible] AL AD AW OpOk Le AC thenQ blockQ EndQ

/-! ### Fractions -/
/-! ### Live graphs -/
end Go.Proofs.YtofakjlamoigcaaGreatDoor
end

section
namespace Go.Proofs.YtofakjlamoigcaaGreatDoor
open Go Go.RowKit
set_option linter.unusedSimpArgs false
set_option linter.unusedVariables false
attribute [local irreducible] AL AD AW OpOk Le AC thenQ blockQ EndQ

end Go.Proofs.YtofakjlamoigcaaGreatDoor
end

section
namespace Go.Proofs.YtofakjlamoigcaaGreatDoor
set_option linter.unusedSimpArgs false
set_option linter.unusedVariables false
open Go Go.RowKit
attribute [local irreducible] AL AD AW OpOk Le AC thenQ blockQ EndQ

end Go.Proofs.YtofakjlamoigcaaGreatDoor
end

section
namespace Go.Proofs.YtofakjlamoigcaaGreatDoor
set_option linter.unusedSimpArgs false
set_option linter.unusedVariables false
open Go Go.RowKit
attribute [local irreducible] AL AD AW OpOk Le AC thenQ blockQ EndQ

abbrev srcO (code : List Int) (s : Src) : AObj := dobj 3 (srcR code s)
abbrev PO (xs : List Pl) : AObj := dobj 4 (xs.map Pl.row)
theorem next_ex [Mode] {code : List Int} (hc : CodeOk code) {s : Src} (hs : SrcOk code s) (n : Int) : ∃ a s', 0 ≤ a ∧ a ≤ max (n - 1) 0 ∧ SrcOk code s' ∧ nxt code s n = (a, s') ∧ AC Tryz.prog 53 [Bx 3 0, I n] (srcH code s) (I a) (srcH code s') :=
  ⟨(nxt code s n).1, (nxt code s n).2, (nxt_ok hc hs n).1, (nxt_ok hc hs n).2.1, (nxt_ok hc hs n).2.2, rfl, l01Next_ac code hc s hs n⟩
theorem pick_ex [Mode] {code : List Int} (hc : CodeOk code) {s : Src} (hs : SrcOk code s) (xs : List Int) (n : Int) (hn : (xs.length : Int) = n) (h0 : 0 < xs.length := by simp) (hx : xs.length ≤ 100 := by simp) :
    ∃ v s', v ∈ xs ∧ SrcOk code s' ∧ pick code s xs = v ∧ (nxt code s n).2 = s' ∧ AC Tryz.prog 54 [Bx 3 0, .own 1 ⟨1, []⟩ 0 xs.length] (upd (upd H0 ⟨1, []⟩ (some (IO xs))) ⟨0, []⟩ (some (dobj 3 (srcR code s)))) (I v) (srcH code s') := by
  subst hn
  refine ⟨pick code s xs, (nxt code s xs.length).2, ?_, (nxt_ok hc hs _).2.2, rfl, rfl, l01Pick_ac code hc s hs xs h0 hx⟩
  obtain ⟨b1, b2, b3⟩ := nxt_ok hc hs xs.length
  unfold pick
  rw [List.getElem?_eq_getElem (by omega), Option.getD_some]
  exact List.getElem_mem _
def itr {S : Type} (f : S → S) : Nat → S → S
  | 0, s => s
  | n + 1, s => f (itr f n s)
theorem itr_ok [Mode] {S : Type} {f : S → S} {p : Nat → S → Prop} {s : S} (h0 : p 0 s) (h : ∀ k x, p k x → p (k + 1) (f x)) : ∀ n, p n (itr f n s)
  | 0 => h0
  | n + 1 => h n _ (itr_ok h0 h n)
/-- A place drawn. -/
def drPl (code : List Int) (ev : Int) (s : Src) : Pl × Src :=
  let a := nxt code s ev
  let b := nxt code a.2 ev
  let d := nxt code b.2 12
  let q := nxt code d.2 4
  let t := if b.1 ≤ a.1 then d.2 else q.2
  let x := nxt code t 2
  let y := nxt code x.2 3
  let k : Int × Src := if b.1 ≤ a.1 ∨ q.1 = 0 then (1 + x.1 * y.1, y.2) else (0, t)
  let z := nxt code k.2 30
  (⟨a.1, b.1, d.1, if z.1 = 0 then 0 else k.1⟩, z.2)
abbrev RSt := Src × List Pl
def drF (code : List Int) (ev : Int) (q : RSt) : RSt := ((drPl code ev q.1).2, q.2 ++ [(drPl code ev q.1).1])
/-- Places one behind the other: at most 31. -/
def drMany (code : List Int) : Nat → Nat → RSt → RSt
  | 0, _, q => q
  | f + 1, k, q => if (k : Int) < 22 + (nxt code q.1 9).1 then drMany code f (k + 1) ((nxt code q.1 9).2, q.2 ++ [⟨0, 0, k, 1⟩]) else ((nxt code q.1 9).2, q.2)
structure DrG where
  ev : Int
  xs : List Pl
  s : Src
def drEnd (code : List Int) (ev : Int) (q : RSt) : DrG :=
  let z := nxt code q.1 60
  let a := nxt code z.2 3
  if z.1 = 0 then ⟨pick code z.2 [0, 10, 11], q.2, a.2⟩
  else if z.1 = 1 then ⟨ev, q.2 ++ [⟨pick code z.2 [-1, 0, ev], 0, pick code a.2 [-1, 1000, 1001], 1⟩], (nxt code a.2 3).2⟩
  else if z.1 = 2 then ⟨ev, q.2 ++ [⟨0, 0, 0, pick code z.2 [5, 6, -1]⟩], a.2⟩
  else if z.1 = 3 then ⟨ev, (drMany code 31 0 (z.2, q.2)).2, (drMany code 31 0 (z.2, q.2)).1⟩
  else ⟨ev, q.2, z.2⟩
def dr11 (code : List Int) (s : Src) : DrG :=
  let e := nxt code s 5
  let n := nxt code e.2 9
  drEnd code (1 + e.1) (itr (drF code (1 + e.1)) n.1.toNat (n.2, []))
/-! ### Their sizes -/
structure DrPl (p : Pl) : Prop where
  f : -1 ≤ p.f ∧ p.f ≤ 100
  t : -1 ≤ p.t ∧ p.t ≤ 100
  d : -1 ≤ p.d ∧ p.d ≤ 1001
  k : -1 ≤ p.k ∧ p.k ≤ 6
structure RStOk (code : List Int) (m : Nat) (q : RSt) : Prop where
  s : SrcOk code q.1
  xs : ∀ p ∈ q.2, DrPl p
  len : q.2.length ≤ m
theorem RStOk.app [Mode] {code : List Int} {m : Nat} {q : RSt} {p : Pl} {s : Src} (h : RStOk code m q) (hp : DrPl p) (hs : SrcOk code s) : RStOk code (m + 1) (s, q.2 ++ [p]) :=
  ⟨hs, fun p' hp' => by
    rcases List.mem_append.1 hp' with h' | h'
    · exact h.xs p' h'
    · simp at h'; subst h'; exact hp, by have := h.len; simp; omega⟩
theorem drPl_ok [Mode] {code : List Int} (hc : CodeOk code) {s : Src} (hs : SrcOk code s) {ev : Int} (he : ev ≤ 100) : DrPl (drPl code ev s).1 ∧ SrcOk code (drPl code ev s).2 := by
  obtain ⟨a1, a2, a3⟩ := nxt_ok hc hs ev
  obtain ⟨b1, b2, b3⟩ := nxt_ok hc a3 ev
  obtain ⟨d1, d2, d3⟩ := nxt_ok hc b3 12
  obtain ⟨q1, q2, q3⟩ := nxt_ok hc d3 4
  have ht : SrcOk code (if (nxt code (nxt code s ev).2 ev).1 ≤ (nxt code s ev).1 then (nxt code (nxt code (nxt code s ev).2 ev).2 12).2 else (nxt code (nxt code (nxt code (nxt code s ev).2 ev).2 12).2 4).2) := by split <;> assumption
  obtain ⟨x1, x2, x3⟩ := nxt_ok hc ht 2
  obtain ⟨y1, y2, y3⟩ := nxt_ok hc x3 3
  unfold drPl
  simp only
  generalize (nxt code (if (nxt code (nxt code s ev).2 ev).1 ≤ (nxt code s ev).1 then (nxt code (nxt code (nxt code s ev).2 ev).2 12).2 else (nxt code (nxt code (nxt code (nxt code s ev).2 ev).2 12).2 4).2) 2) = X at *
  generalize (nxt code X.2 3) = Y at *
  have hxy : 0 ≤ X.1 * Y.1 ∧ X.1 * Y.1 ≤ 2 := by
    have e1 : X.1 ≤ 1 := by omega
    have e2 : Y.1 ≤ 2 := by omega
    have := Int.mul_nonneg x1 y1
    have := Int.mul_le_mul_of_nonneg_right e1 y1
    omega
  generalize X.1 * Y.1 = m at *
  split
  · obtain ⟨z1, z2, z3⟩ := nxt_ok hc y3 30
    exact ⟨⟨by simp only; omega, by simp only; omega, by simp only; omega, by simp only; split <;> omega⟩, z3⟩
  · obtain ⟨z1, z2, z3⟩ := nxt_ok hc ht 30
    exact ⟨⟨by simp only; omega, by simp only; omega, by simp only; omega, by simp only; split <;> omega⟩, z3⟩
theorem drF_ok [Mode] {code : List Int} (hc : CodeOk code) {ev : Int} (he : ev ≤ 100) {m : Nat} {q : RSt} (h : RStOk code m q) : RStOk code (m + 1) (drF code ev q) :=
  h.app (drPl_ok hc h.s he).1 (drPl_ok hc h.s he).2
theorem drMany_ok [Mode] {code : List Int} (hc : CodeOk code) : ∀ (f k : Nat) (q : RSt) (m : Nat), f + k = 31 → RStOk code m q → RStOk code (m + f) (drMany code f k q)
  | 0, k, q, m, _, h => h
  | f + 1, k, q, m, hk, h => by
    obtain ⟨a1, a2, a3⟩ := nxt_ok hc h.s 9
    unfold drMany
    split
    · have := drMany_ok hc f (k + 1) ((nxt code q.1 9).2, q.2 ++ [⟨0, 0, k, 1⟩]) (m + 1) (by omega) (h.app ⟨by simp, by simp, by simp only; omega, by simp⟩ a3)
      rwa [show m + 1 + f = m + (f + 1) by omega] at this
    · exact ⟨a3, h.xs, by have := h.len; simp only; omega⟩
theorem pick_mem [Mode] {code : List Int} (hc : CodeOk code) {s : Src} (hs : SrcOk code s) {xs : List Int} (h0 : 0 < xs.length) : pick code s xs ∈ xs := by
  obtain ⟨b1, b2, b3⟩ := nxt_ok hc hs xs.length
  unfold pick
  rw [List.getElem?_eq_getElem (by omega), Option.getD_some]
  exact List.getElem_mem _
structure DrOk (code : List Int) (g : DrG) : Prop where
  ev : 0 ≤ g.ev ∧ g.ev ≤ 11
  xs : ∀ p ∈ g.xs, DrPl p
  len : g.xs.length ≤ 40
  s : SrcOk code g.s
theorem drEnd_ok [Mode] {code : List Int} (hc : CodeOk code) {ev : Int} (he : 0 ≤ ev ∧ ev ≤ 5) {q : RSt} (h : RStOk code 8 q) : DrOk code (drEnd code ev q) := by
  obtain ⟨z1, z2, z3⟩ := nxt_ok hc h.s 60
  obtain ⟨y1, y2, y3⟩ := nxt_ok hc z3 3
  obtain ⟨x1, x2, x3⟩ := nxt_ok hc y3 3
  have hl := h.len
  unfold drEnd
  simp only
  split
  · have := pick_mem hc z3 (xs := [0, 10, 11]) (by simp)
    simp at this
    exact ⟨by simp only; omega, h.xs, by simp only; omega, y3⟩
  · split
    · have h1 := pick_mem hc z3 (xs := [-1, 0, ev]) (by simp)
      have h2 := pick_mem hc y3 (xs := [-1, 1000, 1001]) (by simp)
      simp at h1 h2
      have := h.app (p := ⟨pick code (nxt code q.1 60).2 [-1, 0, ev], 0, pick code (nxt code (nxt code q.1 60).2 3).2 [-1, 1000, 1001], 1⟩) (s := (nxt code (nxt code (nxt code q.1 60).2 3).2 3).2) ⟨by simp only; omega, by simp, by simp only; omega, by simp⟩ x3
      exact ⟨by simp only; omega, this.xs, by have := this.len; simp only at this ⊢; omega, x3⟩
    · split
      · have h1 := pick_mem hc z3 (xs := [5, 6, -1]) (by simp)
        simp at h1
        have := h.app (p := ⟨0, 0, 0, pick code (nxt code q.1 60).2 [5, 6, -1]⟩) (s := (nxt code (nxt code q.1 60).2 3).2) ⟨by simp, by simp, by simp, by simp only; omega⟩ y3
        exact ⟨by simp only; omega, this.xs, by have := this.len; simp only at this ⊢; omega, y3⟩
      · split
        · have := drMany_ok hc 31 0 ((nxt code q.1 60).2, q.2) 8 rfl ⟨z3, h.xs, hl⟩
          exact ⟨by simp only; omega, this.xs, by have := this.len; simp only; omega, this.s⟩
        · exact ⟨by simp only; omega, h.xs, by simp only; omega, z3⟩
theorem drI_ok [Mode] {code : List Int} (hc : CodeOk code) {ev : Int} (he : ev ≤ 100) {s : Src} (hs : SrcOk code s) (n : Nat) : RStOk code n (itr (drF code ev) n (s, [])) :=
  itr_ok (p := fun k q => RStOk code k q) ⟨hs, by simp, by simp⟩ (fun k x h => drF_ok hc he h) n
theorem dr11_ok [Mode] {code : List Int} (hc : CodeOk code) {s : Src} (hs : SrcOk code s) : DrOk code (dr11 code s) := by
  obtain ⟨e1, e2, e3⟩ := nxt_ok hc hs 5
  obtain ⟨n1, n2, n3⟩ := nxt_ok hc e3 9
  have h := drI_ok hc (ev := 1 + (nxt code s 5).1) (by omega) n3 (nxt code (nxt code s 5).2 9).1.toNat
  exact drEnd_ok hc (by omega) ⟨h.s, h.xs, by have := h.len; omega⟩
end Go.Proofs.YtofakjlamoigcaaGreatDoor
end
