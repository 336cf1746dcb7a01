/-
  Walks in the abstract reading, part 9.
-/
import Derived.Test.YtegfjedklebbfaaKU8
import Derived.Test.YtegfjedklebbfaaKU6
import Derived.Test.YtegfjedklebbfaaKU7
import Derived.Test.YtegfjedklebbfaaKA3
section
namespace Go.Proofs.Ytegfjedklebbfaa
open Go Go.RowKit
set_option linter.unusedSimpArgs false
set_option linter.unusedVariables false
attribute [local irreducible] AL AD AW OpOk Le AC thenQ blockQ EndQ

section
variable (ev : Int) (xs : List Pl) (es : List Ed) (hn : xs.length ≤ 1048576) (hm : es.length ≤ 1048576)
include hn hm
theorem sApplyEdits_ac : AC Try.prog 62 [grD ev xs, EL es] H0 (.tup [.agg [I (runEv ev xs es), own1 4 (runL ev xs es).length], I (runC ev xs es)]) (hp1 (dobj 4 ((runL ev xs es).map Pl.row))) := by
  refine AC.of_body 0 Try.func62 rfl (fun l h => absurd rfl h) (fun C hC => ?_)
  have hD : ∀ l, ¬ C.D0 l := fun l h => (hC l).1 h rfl
  simp only [startFr, Try.ntmps62, List.length_cons, List.length_nil, Nat.reduceAdd, Nat.reduceSub, List.replicate_succ, List.replicate_zero, List.cons_append, List.nil_append]
  repeat' (first | refine AL.nil ?_ | ((first | apply AL.st | (apply AL.on; (· rfl); (· rfl)) | (apply AD.st; (· exact nxE)) | (apply AD.on; (· rfl); (· rfl); (· exact nxE))); (· first | exact OpOk.call2n [] rfl rfl (sRun_ac ev xs es hn hm) (.inl rfl) (fun _ => by simp [rnO_dobj]) (fun _ => by simp [rnO_dobj]) (ARs.cons (ARs.agg (ARs.cons (AR.dd _) (ARs.cons (AR.dd _) ARs.nil))) (ARs.cons (AR.dd _) ARs.nil)) (by simp only [rn, List.map_cons, List.map_nil]; exact rfl) | exact Ok.pe); (· exact setE); (· first | exact updsE | exact rfl); (· exact nxE)) | ((first | apply AL.st0 | (apply AD.st0; (· exact nxE))); (· first | exact OpOk.call2n [] rfl rfl (sRun_ac ev xs es hn hm) (.inl rfl) (fun _ => by simp [rnO_dobj]) (fun _ => by simp [rnO_dobj]) (ARs.cons (ARs.agg (ARs.cons (AR.dd _) (ARs.cons (AR.dd _) ARs.nil))) (ARs.cons (AR.dd _) ARs.nil)) (by simp only [rn, List.map_cons, List.map_nil]; exact rfl) | exact Ok.e0); (· exact rfl); (· exact nxE)) | ((first | apply AL.off | apply AD.off); (· rfl); (· rfl); (· rfl); (· exact setE); (· exact nxE)) | ((first | refine AL.gsplit rfl rfl (fun h => ?_) (fun h => ?_) | refine AD.gsplit rfl rfl (fun h => ?_) (fun h => ?_)) <;> try (exfalso; omega; done)) | (first | refine AL.gsplitB rfl rfl (fun h => ?_) (fun h => ?_) | refine AD.gsplitB rfl rfl (fun h => ?_) (fun h => ?_)) | refine AD.fin (by simp only [List.length_cons, List.length_nil, Nat.reduceAdd]; rfl) rfl (by kernel_rfl) ?_ | refine thenN ?_ | refine AW.seq ?_ | refine AW.reg ?_ | refine AW.dr mixedA (by kernel_rfl) ?_ | refine AW.block ?_ | refine AW.condT rfl ?_ | refine AW.condF rfl ?_ | (refine AW.ite rfl (fun h => ?_) (fun h => ?_) <;> try (exfalso; omega; done)) | refine AW.cond _ rfl (fun h => ?_) (fun h => ?_) | refine AW.ret ?_ | refine AW.exit ?_ | refine AW.skip ?_ | refine thenR ?_ | refine thenX ?_ | refine blockN ?_ | refine blockR ?_ | refine blockX ?_ | refine blockY (by decide) ?_)
  (refine end2 (res' := .tup [.agg [I (runEv ev xs es), .own 4 ⟨5, [0]⟩ 0 (runL ev xs es).length], I (runC ev xs es)]) (by first | exact .inl rfl | exact .inr rfl) rfl (by first | exact rT rfl | exact rCA rfl rfl rfl rfl (by simp) | exact rCC rfl rfl rfl rfl rfl) (by first | exact rT rfl | exact rCA rfl rfl rfl rfl (by simp) | exact rCC rfl rfl rfl rfl rfl) ?_ (Le.head ([(⟨0, []⟩, ⟨5, [0]⟩, dobj 4 ((runL ev xs es).map Pl.row))]) (by first | exact fun l h => absurd h (hD l) | (intro l h; rcases hD l h with rfl; simp [tauL]) | (intro l h; rcases hD l h with rfl | rfl <;> simp [tauL]; done) | (intro l h; rcases hD l h with rfl | rfl | rfl <;> simp [tauL])) ?_ ?_ (by simp) (by simp) (by simp [AllP]) (n' := 1000)); (· rfl)) <;> (repeat' (first | exact trivial | exact ARs.nil | refine ARs.cons ?_ ?_ | exact AR.dead _ | exact AR.dd _ | exact AR.i (by (try dsimp only); omega) | exact AR.ptr _ _ _ _ (by simp [heapL, upd]) | exact AR.own _ _ _ _ (by simp [heapL, upd]) | refine AR.ownE _ _ _ ?_ (by simp [heapL, upd]) | refine ⟨⟨_, rfl, ?_⟩, ?_⟩ | exact ObA.data | refine ObA.box ?_ | refine ObA.frE ?_ | refine ObA.dataE ?_ | refine ARs.agg ?_ | refine ARs.tup ?_ | exact AR.clo' ARs.nil ARs.nil | exact AR.clo' ARs.nil (hca _ _)))
theorem sInverseEdits_ac : AC Try.prog 64 [grD ev xs, EL es] H0 (.tup [own1 6 (runB ev xs es).length, I (runC ev xs es)]) (hp1 (dobj 6 ((runB ev xs es).map Ed.row))) := by
  refine AC.of_body 0 Try.func64 rfl (fun l h => absurd rfl h) (fun C hC => ?_)
  have hD : ∀ l, ¬ C.D0 l := fun l h => (hC l).1 h rfl
  simp only [startFr, Try.ntmps64, List.length_cons, List.length_nil, Nat.reduceAdd, Nat.reduceSub, List.replicate_succ, List.replicate_zero, List.cons_append, List.nil_append]
  repeat' (first | refine AL.nil ?_ | ((first | apply AL.st | (apply AL.on; (· rfl); (· rfl)) | (apply AD.st; (· exact nxE)) | (apply AD.on; (· rfl); (· rfl); (· exact nxE))); (· first | exact OpOk.call2n [] rfl rfl (sRun_ac ev xs es hn hm) (.inl rfl) (fun _ => by simp [rnO_dobj]) (fun _ => by simp [rnO_dobj]) (ARs.cons (ARs.agg (ARs.cons (AR.dd _) (ARs.cons (AR.dd _) ARs.nil))) (ARs.cons (AR.dd _) ARs.nil)) (by simp only [rn, List.map_cons, List.map_nil]; exact rfl) | exact Ok.pe); (· exact setE); (· first | exact updsE | exact rfl); (· exact nxE)) | ((first | apply AL.st0 | (apply AD.st0; (· exact nxE))); (· first | exact OpOk.call2n [] rfl rfl (sRun_ac ev xs es hn hm) (.inl rfl) (fun _ => by simp [rnO_dobj]) (fun _ => by simp [rnO_dobj]) (ARs.cons (ARs.agg (ARs.cons (AR.dd _) (ARs.cons (AR.dd _) ARs.nil))) (ARs.cons (AR.dd _) ARs.nil)) (by simp only [rn, List.map_cons, List.map_nil]; exact rfl) | exact Ok.e0); (· exact rfl); (· exact nxE)) | ((first | apply AL.off | apply AD.off); (· rfl); (· rfl); (· rfl); (· exact setE); (· exact nxE)) | ((first | refine AL.gsplit rfl rfl (fun h => ?_) (fun h => ?_) | refine AD.gsplit rfl rfl (fun h => ?_) (fun h => ?_)) <;> try (exfalso; omega; done)) | (first | refine AL.gsplitB rfl rfl (fun h => ?_) (fun h => ?_) | refine AD.gsplitB rfl rfl (fun h => ?_) (fun h => ?_)) | refine AD.fin (by simp only [List.length_cons, List.length_nil, Nat.reduceAdd]; rfl) rfl (by kernel_rfl) ?_ | refine thenN ?_ | refine AW.seq ?_ | refine AW.reg ?_ | refine AW.dr mixedA (by kernel_rfl) ?_ | refine AW.block ?_ | refine AW.condT rfl ?_ | refine AW.condF rfl ?_ | (refine AW.ite rfl (fun h => ?_) (fun h => ?_) <;> try (exfalso; omega; done)) | refine AW.cond _ rfl (fun h => ?_) (fun h => ?_) | refine AW.ret ?_ | refine AW.exit ?_ | refine AW.skip ?_ | refine thenR ?_ | refine thenX ?_ | refine blockN ?_ | refine blockR ?_ | refine blockX ?_ | refine blockY (by decide) ?_)
  (refine end2 (res' := .tup [.own 6 ⟨5, [1]⟩ 0 (runB ev xs es).length, I (runC ev xs es)]) (by first | exact .inl rfl | exact .inr rfl) rfl (by first | exact rT rfl | exact rCA rfl rfl rfl rfl (by simp) | exact rCC rfl rfl rfl rfl rfl) (by first | exact rT rfl | exact rCA rfl rfl rfl rfl (by simp) | exact rCC rfl rfl rfl rfl rfl) ?_ (Le.head ([(⟨0, []⟩, ⟨5, [1]⟩, dobj 6 ((runB ev xs es).map Ed.row))]) (by first | exact fun l h => absurd h (hD l) | (intro l h; rcases hD l h with rfl; simp [tauL]) | (intro l h; rcases hD l h with rfl | rfl <;> simp [tauL]; done) | (intro l h; rcases hD l h with rfl | rfl | rfl <;> simp [tauL])) ?_ ?_ (by simp) (by simp) (by simp [AllP]) (n' := 1000)); (· rfl)) <;> (repeat' (first | exact trivial | exact ARs.nil | refine ARs.cons ?_ ?_ | exact AR.dead _ | exact AR.dd _ | exact AR.i (by (try dsimp only); omega) | exact AR.ptr _ _ _ _ (by simp [heapL, upd]) | exact AR.own _ _ _ _ (by simp [heapL, upd]) | refine AR.ownE _ _ _ ?_ (by simp [heapL, upd]) | refine ⟨⟨_, rfl, ?_⟩, ?_⟩ | exact ObA.data | refine ObA.box ?_ | refine ObA.frE ?_ | refine ObA.dataE ?_ | refine ARs.agg ?_ | refine ARs.tup ?_ | exact AR.clo' ARs.nil ARs.nil | exact AR.clo' ARs.nil (hca _ _)))
set_option maxHeartbeats 1000000 in
theorem iApplyEdits_ac : AC Try.prog 61 [grD ev xs, EL es] H0 (.tup [.agg [I (runEv ev xs es), own1 4 (runL ev xs es).length], I (runC ev xs es)]) (hp1 (dobj 4 ((runL ev xs es).map Pl.row))) := by
  have hE := iIsEventGraph_ac ev xs (by omega)
  cases hg : isEG ev xs with
  | false =>
    rw [hg] at hE
    have hz : runC ev xs es = 1 := by simp [runC, hg]
    obtain ⟨e1, e2, e3⟩ := run_bad hz (by decide)
    rw [e1, e2, hz]
    refine AC.of_body 0 Try.func61 rfl (fun l h => absurd rfl h) (fun C hC => ?_)
    have hD : ∀ l, ¬ C.D0 l := fun l h => (hC l).1 h rfl
    simp only [startFr, Try.ntmps61, List.length_cons, List.length_nil, Nat.reduceAdd, Nat.reduceSub, List.replicate_succ, List.replicate_zero, List.cons_append, List.nil_append]
    repeat' (first | refine AL.nil ?_ | ((first | apply AL.st | (apply AL.on; (· rfl); (· rfl)) | (apply AD.st; (· exact nxE)) | (apply AD.on; (· rfl); (· rfl); (· exact nxE))); (· first | exact OpOk.call0 [] rfl rfl (hE) (.inl rfl) (fun _ => by simp [rn]) (ARs.cons (ARs.agg (ARs.cons (AR.dd _) (ARs.cons (AR.dd _) ARs.nil))) ARs.nil) | exact Ok.build0 rfl (by rfl) | exact Ok.pe); (· exact setE); (· first | exact updsE | exact rfl); (· exact nxE)) | ((first | apply AL.st0 | (apply AD.st0; (· exact nxE))); (· first | exact Ok.e0); (· exact rfl); (· exact nxE)) | ((first | apply AL.off | apply AD.off); (· rfl); (· rfl); (· rfl); (· exact setE); (· exact nxE)) | ((first | refine AL.gsplit rfl rfl (fun h => ?_) (fun h => ?_) | refine AD.gsplit rfl rfl (fun h => ?_) (fun h => ?_)) <;> try (exfalso; omega; done)) | (first | refine AL.gsplitB rfl rfl (fun h => ?_) (fun h => ?_) | refine AD.gsplitB rfl rfl (fun h => ?_) (fun h => ?_)) | refine AD.fin (by simp only [List.length_cons, List.length_nil, Nat.reduceAdd]; rfl) rfl (by kernel_rfl) ?_ | refine thenN ?_ | refine AW.seq ?_ | refine AW.reg ?_ | refine AW.dr mixedA (by kernel_rfl) ?_ | refine AW.block ?_ | refine AW.condT rfl ?_ | refine AW.condF rfl ?_ | (refine AW.ite rfl (fun h => ?_) (fun h => ?_) <;> try (exfalso; omega; done)) | refine AW.cond _ rfl (fun h => ?_) (fun h => ?_) | refine AW.ret ?_ | refine AW.exit ?_ | refine AW.skip ?_ | refine thenR ?_ | refine thenX ?_ | refine blockN ?_ | refine blockR ?_ | refine blockX ?_ | refine blockY (by decide) ?_)
    exact end2nilG (.inl rfl) rfl (by first | exact rT rfl | exact rCA rfl rfl rfl rfl (by simp) | exact rCC rfl rfl rfl rfl rfl) (by rfl) (rT rfl) hD
  | true =>
  rw [hg] at hE
  by_cases h60 : 60 < es.length
  · have hz : runC ev xs es = 3 := by simp [runC, hg, h60]
    obtain ⟨e1, e2, e3⟩ := run_bad hz (by decide)
    rw [e1, e2, hz]
    refine AC.of_body 0 Try.func61 rfl (fun l h => absurd rfl h) (fun C hC => ?_)
    have hD : ∀ l, ¬ C.D0 l := fun l h => (hC l).1 h rfl
    simp only [startFr, Try.ntmps61, List.length_cons, List.length_nil, Nat.reduceAdd, Nat.reduceSub, List.replicate_succ, List.replicate_zero, List.cons_append, List.nil_append]
    repeat' (first | refine AL.nil ?_ | ((first | apply AL.st | (apply AL.on; (· rfl); (· rfl)) | (apply AD.st; (· exact nxE)) | (apply AD.on; (· rfl); (· rfl); (· exact nxE))); (· first | exact OpOk.call0 [] rfl rfl (hE) (.inl rfl) (fun _ => by simp [rn]) (ARs.cons (ARs.agg (ARs.cons (AR.dd _) (ARs.cons (AR.dd _) ARs.nil))) ARs.nil) | exact Ok.build0 rfl (by rfl) | exact Ok.pe); (· exact setE); (· first | exact updsE | exact rfl); (· exact nxE)) | ((first | apply AL.st0 | (apply AD.st0; (· exact nxE))); (· first | exact Ok.e0); (· exact rfl); (· exact nxE)) | ((first | apply AL.off | apply AD.off); (· rfl); (· rfl); (· rfl); (· exact setE); (· exact nxE)) | ((first | refine AL.gsplit rfl rfl (fun h => ?_) (fun h => ?_) | refine AD.gsplit rfl rfl (fun h => ?_) (fun h => ?_)) <;> try (exfalso; omega; done)) | (first | refine AL.gsplitB rfl rfl (fun h => ?_) (fun h => ?_) | refine AD.gsplitB rfl rfl (fun h => ?_) (fun h => ?_)) | refine AD.fin (by simp only [List.length_cons, List.length_nil, Nat.reduceAdd]; rfl) rfl (by kernel_rfl) ?_ | refine thenN ?_ | refine AW.seq ?_ | refine AW.reg ?_ | refine AW.dr mixedA (by kernel_rfl) ?_ | refine AW.block ?_ | refine AW.condT rfl ?_ | refine AW.condF rfl ?_ | (refine AW.ite rfl (fun h => ?_) (fun h => ?_) <;> try (exfalso; omega; done)) | refine AW.cond _ rfl (fun h => ?_) (fun h => ?_) | refine AW.ret ?_ | refine AW.exit ?_ | refine AW.skip ?_ | refine thenR ?_ | refine thenX ?_ | refine blockN ?_ | refine blockR ?_ | refine blockX ?_ | refine blockY (by decide) ?_)
    exact end2nilG (.inl rfl) rfl (by first | exact rT rfl | exact rCA rfl rfl rfl rfl (by simp) | exact rCC rfl rfl rfl rfl rfl) (by rfl) (rT rfl) hD
  have hR := iRun_ac ev xs es (isEG_len hg) (by omega) hg
  cases hok : okAt ev xs es es.length with
  | false =>
    rw [if_neg (by rw [hok]; decide), if_neg (by rw [hok]; decide)] at hR
    have hz : runC ev xs es = 5 := by simp [runC, hg, h60, hok]
    obtain ⟨e1, e2, e3⟩ := run_bad hz (by decide)
    rw [e1, e2, hz]
    refine AC.of_body 0 Try.func61 rfl (fun l h => absurd rfl h) (fun C hC => ?_)
    have hD : ∀ l, ¬ C.D0 l := fun l h => (hC l).1 h rfl
    simp only [startFr, Try.ntmps61, List.length_cons, List.length_nil, Nat.reduceAdd, Nat.reduceSub, List.replicate_succ, List.replicate_zero, List.cons_append, List.nil_append]
    repeat' (first | refine AL.nil ?_ | ((first | apply AL.st | (apply AL.on; (· rfl); (· rfl)) | (apply AD.st; (· exact nxE)) | (apply AD.on; (· rfl); (· rfl); (· exact nxE))); (· first | exact OpOk.call0 [] rfl rfl (hE) (.inl rfl) (fun _ => by simp [rn]) (ARs.cons (ARs.agg (ARs.cons (AR.dd _) (ARs.cons (AR.dd _) ARs.nil))) ARs.nil) | exact Ok.build0 rfl (by rfl) | exact OpOk.call2n [] rfl rfl (hR) (.inl rfl) (fun _ => by simp [rnO_dobj]) (fun _ => by simp [rnO_dobj]) (ARs.cons (ARs.agg (ARs.cons (AR.dd _) (ARs.cons (AR.dd _) ARs.nil))) (ARs.cons (AR.dd _) ARs.nil)) (by simp only [rn, List.map_cons, List.map_nil]; exact rfl) | exact Ok.pe); (· exact setE); (· first | exact updsE | exact rfl); (· exact nxE)) | ((first | apply AL.st0 | (apply AD.st0; (· exact nxE))); (· first | exact OpOk.call2n [] rfl rfl (hR) (.inl rfl) (fun _ => by simp [rnO_dobj]) (fun _ => by simp [rnO_dobj]) (ARs.cons (ARs.agg (ARs.cons (AR.dd _) (ARs.cons (AR.dd _) ARs.nil))) (ARs.cons (AR.dd _) ARs.nil)) (by simp only [rn, List.map_cons, List.map_nil]; exact rfl) | exact Ok.e0); (· exact rfl); (· exact nxE)) | ((first | apply AL.off | apply AD.off); (· rfl); (· rfl); (· rfl); (· exact setE); (· exact nxE)) | ((first | refine AL.gsplit rfl rfl (fun h => ?_) (fun h => ?_) | refine AD.gsplit rfl rfl (fun h => ?_) (fun h => ?_)) <;> try (exfalso; omega; done)) | (first | refine AL.gsplitB rfl rfl (fun h => ?_) (fun h => ?_) | refine AD.gsplitB rfl rfl (fun h => ?_) (fun h => ?_)) | refine AD.fin (by simp only [List.length_cons, List.length_nil, Nat.reduceAdd]; rfl) rfl (by kernel_rfl) ?_ | refine thenN ?_ | refine AW.seq ?_ | refine AW.reg ?_ | refine AW.dr mixedA (by kernel_rfl) ?_ | refine AW.block ?_ | refine AW.condT rfl ?_ | refine AW.condF rfl ?_ | (refine AW.ite rfl (fun h => ?_) (fun h => ?_) <;> try (exfalso; omega; done)) | refine AW.cond _ rfl (fun h => ?_) (fun h => ?_) | refine AW.ret ?_ | refine AW.exit ?_ | refine AW.skip ?_ | refine thenR ?_ | refine thenX ?_ | refine blockN ?_ | refine blockR ?_ | refine blockX ?_ | refine blockY (by decide) ?_)
    exact end2nilG (.inl rfl) rfl (by first | exact rT rfl | exact rCA rfl rfl rfl rfl (by simp) | exact rCC rfl rfl rfl rfl rfl) (by rfl) (rT rfl) hD
  | true =>
    rw [if_pos hok, if_pos hok] at hR
    have hz : runC ev xs es = 0 := by simp [runC, hg, h60, hok]
    obtain ⟨e1, e2, e3⟩ := run_good hz
    rw [e1, e2, hz]
    refine AC.of_body 0 Try.func61 rfl (fun l h => absurd rfl h) (fun C hC => ?_)
    have hD : ∀ l, ¬ C.D0 l := fun l h => (hC l).1 h rfl
    simp only [startFr, Try.ntmps61, List.length_cons, List.length_nil, Nat.reduceAdd, Nat.reduceSub, List.replicate_succ, List.replicate_zero, List.cons_append, List.nil_append]
    repeat' (first | refine AL.nil ?_ | ((first | apply AL.st | (apply AL.on; (· rfl); (· rfl)) | (apply AD.st; (· exact nxE)) | (apply AD.on; (· rfl); (· rfl); (· exact nxE))); (· first | exact OpOk.call0 [] rfl rfl (hE) (.inl rfl) (fun _ => by simp [rn]) (ARs.cons (ARs.agg (ARs.cons (AR.dd _) (ARs.cons (AR.dd _) ARs.nil))) ARs.nil) | exact OpOk.call2n [] rfl rfl (hR) (.inl rfl) (fun _ => by simp [rnO_dobj]) (fun _ => by simp [rnO_dobj]) (ARs.cons (ARs.agg (ARs.cons (AR.dd _) (ARs.cons (AR.dd _) ARs.nil))) (ARs.cons (AR.dd _) ARs.nil)) (by simp only [rn, List.map_cons, List.map_nil]; exact rfl) | exact Ok.pe); (· exact setE); (· first | exact updsE | exact rfl); (· exact nxE)) | ((first | apply AL.st0 | (apply AD.st0; (· exact nxE))); (· first | exact OpOk.call2n [] rfl rfl (hR) (.inl rfl) (fun _ => by simp [rnO_dobj]) (fun _ => by simp [rnO_dobj]) (ARs.cons (ARs.agg (ARs.cons (AR.dd _) (ARs.cons (AR.dd _) ARs.nil))) (ARs.cons (AR.dd _) ARs.nil)) (by simp only [rn, List.map_cons, List.map_nil]; exact rfl) | exact Ok.e0); (· exact rfl); (· exact nxE)) | ((first | apply AL.off | apply AD.off); (· rfl); (· rfl); (· rfl); (· exact setE); (· exact nxE)) | ((first | refine AL.gsplit rfl rfl (fun h => ?_) (fun h => ?_) | refine AD.gsplit rfl rfl (fun h => ?_) (fun h => ?_)) <;> try (exfalso; omega; done)) | (first | refine AL.gsplitB rfl rfl (fun h => ?_) (fun h => ?_) | refine AD.gsplitB rfl rfl (fun h => ?_) (fun h => ?_)) | refine AD.fin (by simp only [List.length_cons, List.length_nil, Nat.reduceAdd]; rfl) rfl (by kernel_rfl) ?_ | refine thenN ?_ | refine AW.seq ?_ | refine AW.reg ?_ | refine AW.dr mixedA (by kernel_rfl) ?_ | refine AW.block ?_ | refine AW.condT rfl ?_ | refine AW.condF rfl ?_ | (refine AW.ite rfl (fun h => ?_) (fun h => ?_) <;> try (exfalso; omega; done)) | refine AW.cond _ rfl (fun h => ?_) (fun h => ?_) | refine AW.ret ?_ | refine AW.exit ?_ | refine AW.skip ?_ | refine thenR ?_ | refine thenX ?_ | refine blockN ?_ | refine blockR ?_ | refine blockX ?_ | refine blockY (by decide) ?_)
    (refine end2 (res' := .tup [.agg [I ev, .own 4 ⟨11, [0]⟩ 0 (edsAt xs es es.length).length], I 0]) (by first | exact .inl rfl | exact .inr rfl) rfl (by first | exact rT rfl | exact rCA rfl rfl rfl rfl (by simp) | exact rCC rfl rfl rfl rfl rfl) (by first | exact rT rfl | exact rCA rfl rfl rfl rfl (by simp) | exact rCC rfl rfl rfl rfl rfl) ?_ (Le.head ([(⟨0, []⟩, ⟨11, [0]⟩, dobj 4 ((edsAt xs es es.length).map Pl.row))]) (by first | exact fun l h => absurd h (hD l) | (intro l h; rcases hD l h with rfl; simp [tauL]) | (intro l h; rcases hD l h with rfl | rfl <;> simp [tauL]; done) | (intro l h; rcases hD l h with rfl | rfl | rfl <;> simp [tauL])) ?_ ?_ (by simp) (by simp) (by simp [AllP]) (n' := 1000)); (· rfl)) <;> (repeat' (first | exact trivial | exact ARs.nil | refine ARs.cons ?_ ?_ | exact AR.dead _ | exact AR.dd _ | exact AR.i (by (try dsimp only); omega) | exact AR.ptr _ _ _ _ (by simp [heapL, upd]) | exact AR.own _ _ _ _ (by simp [heapL, upd]) | refine AR.ownE _ _ _ ?_ (by simp [heapL, upd]) | refine ⟨⟨_, rfl, ?_⟩, ?_⟩ | exact ObA.data | refine ObA.box ?_ | refine ObA.frE ?_ | refine ObA.dataE ?_ | refine ARs.agg ?_ | refine ARs.tup ?_ | exact AR.clo' ARs.nil ARs.nil | exact AR.clo' ARs.nil (hca _ _)))
set_option maxHeartbeats 1000000 in
theorem iInverseEdits_ac : AC Try.prog 63 [grD ev xs, EL es] H0 (.tup [own1 6 (runB ev xs es).length, I (runC ev xs es)]) (hp1 (dobj 6 ((runB ev xs es).map Ed.row))) := by
  have hE := iIsEventGraph_ac ev xs (by omega)
  cases hg : isEG ev xs with
  | false =>
    rw [hg] at hE
    have hz : runC ev xs es = 1 := by simp [runC, hg]
    obtain ⟨e1, e2, e3⟩ := run_bad hz (by decide)
    rw [e3, hz]
    refine AC.of_body 0 Try.func63 rfl (fun l h => absurd rfl h) (fun C hC => ?_)
    have hD : ∀ l, ¬ C.D0 l := fun l h => (hC l).1 h rfl
    simp only [startFr, Try.ntmps63, List.length_cons, List.length_nil, Nat.reduceAdd, Nat.reduceSub, List.replicate_succ, List.replicate_zero, List.cons_append, List.nil_append]
    repeat' (first | refine AL.nil ?_ | ((first | apply AL.st | (apply AL.on; (· rfl); (· rfl)) | (apply AD.st; (· exact nxE)) | (apply AD.on; (· rfl); (· rfl); (· exact nxE))); (· first | exact OpOk.call0 [] rfl rfl (hE) (.inl rfl) (fun _ => by simp [rn]) (ARs.cons (ARs.agg (ARs.cons (AR.dd _) (ARs.cons (AR.dd _) ARs.nil))) ARs.nil) | exact Ok.pe); (· exact setE); (· first | exact updsE | exact rfl); (· exact nxE)) | ((first | apply AL.st0 | (apply AD.st0; (· exact nxE))); (· first | exact Ok.e0); (· exact rfl); (· exact nxE)) | ((first | apply AL.off | apply AD.off); (· rfl); (· rfl); (· rfl); (· exact setE); (· exact nxE)) | ((first | refine AL.gsplit rfl rfl (fun h => ?_) (fun h => ?_) | refine AD.gsplit rfl rfl (fun h => ?_) (fun h => ?_)) <;> try (exfalso; omega; done)) | (first | refine AL.gsplitB rfl rfl (fun h => ?_) (fun h => ?_) | refine AD.gsplitB rfl rfl (fun h => ?_) (fun h => ?_)) | refine AD.fin (by simp only [List.length_cons, List.length_nil, Nat.reduceAdd]; rfl) rfl (by kernel_rfl) ?_ | refine thenN ?_ | refine AW.seq ?_ | refine AW.reg ?_ | refine AW.dr mixedA (by kernel_rfl) ?_ | refine AW.block ?_ | refine AW.condT rfl ?_ | refine AW.condF rfl ?_ | (refine AW.ite rfl (fun h => ?_) (fun h => ?_) <;> try (exfalso; omega; done)) | refine AW.cond _ rfl (fun h => ?_) (fun h => ?_) | refine AW.ret ?_ | refine AW.exit ?_ | refine AW.skip ?_ | refine thenR ?_ | refine thenX ?_ | refine blockN ?_ | refine blockR ?_ | refine blockX ?_ | refine blockY (by decide) ?_)
    exact end2nil (.inl rfl) rfl (rT rfl) (rT rfl) hD
  | true =>
  rw [hg] at hE
  by_cases h60 : 60 < es.length
  · have hz : runC ev xs es = 3 := by simp [runC, hg, h60]
    obtain ⟨e1, e2, e3⟩ := run_bad hz (by decide)
    rw [e3, hz]
    refine AC.of_body 0 Try.func63 rfl (fun l h => absurd rfl h) (fun C hC => ?_)
    have hD : ∀ l, ¬ C.D0 l := fun l h => (hC l).1 h rfl
    simp only [startFr, Try.ntmps63, List.length_cons, List.length_nil, Nat.reduceAdd, Nat.reduceSub, List.replicate_succ, List.replicate_zero, List.cons_append, List.nil_append]
    repeat' (first | refine AL.nil ?_ | ((first | apply AL.st | (apply AL.on; (· rfl); (· rfl)) | (apply AD.st; (· exact nxE)) | (apply AD.on; (· rfl); (· rfl); (· exact nxE))); (· first | exact OpOk.call0 [] rfl rfl (hE) (.inl rfl) (fun _ => by simp [rn]) (ARs.cons (ARs.agg (ARs.cons (AR.dd _) (ARs.cons (AR.dd _) ARs.nil))) ARs.nil) | exact Ok.pe); (· exact setE); (· first | exact updsE | exact rfl); (· exact nxE)) | ((first | apply AL.st0 | (apply AD.st0; (· exact nxE))); (· first | exact Ok.e0); (· exact rfl); (· exact nxE)) | ((first | apply AL.off | apply AD.off); (· rfl); (· rfl); (· rfl); (· exact setE); (· exact nxE)) | ((first | refine AL.gsplit rfl rfl (fun h => ?_) (fun h => ?_) | refine AD.gsplit rfl rfl (fun h => ?_) (fun h => ?_)) <;> try (exfalso; omega; done)) | (first | refine AL.gsplitB rfl rfl (fun h => ?_) (fun h => ?_) | refine AD.gsplitB rfl rfl (fun h => ?_) (fun h => ?_)) | refine AD.fin (by simp only [List.length_cons, List.length_nil, Nat.reduceAdd]; rfl) rfl (by kernel_rfl) ?_ | refine thenN ?_ | refine AW.seq ?_ | refine AW.reg ?_ | refine AW.dr mixedA (by kernel_rfl) ?_ | refine AW.block ?_ | refine AW.condT rfl ?_ | refine AW.condF rfl ?_ | (refine AW.ite rfl (fun h => ?_) (fun h => ?_) <;> try (exfalso; omega; done)) | refine AW.cond _ rfl (fun h => ?_) (fun h => ?_) | refine AW.ret ?_ | refine AW.exit ?_ | refine AW.skip ?_ | refine thenR ?_ | refine thenX ?_ | refine blockN ?_ | refine blockR ?_ | refine blockX ?_ | refine blockY (by decide) ?_)
    exact end2nil (.inl rfl) rfl (rT rfl) (rT rfl) hD
  have hR := iRun_ac ev xs es (isEG_len hg) (by omega) hg
  cases hok : okAt ev xs es es.length with
  | false =>
    rw [if_neg (by rw [hok]; decide), if_neg (by rw [hok]; decide)] at hR
    have hz : runC ev xs es = 5 := by simp [runC, hg, h60, hok]
    obtain ⟨e1, e2, e3⟩ := run_bad hz (by decide)
    rw [e3, hz]
    refine AC.of_body 0 Try.func63 rfl (fun l h => absurd rfl h) (fun C hC => ?_)
    have hD : ∀ l, ¬ C.D0 l := fun l h => (hC l).1 h rfl
    simp only [startFr, Try.ntmps63, List.length_cons, List.length_nil, Nat.reduceAdd, Nat.reduceSub, List.replicate_succ, List.replicate_zero, List.cons_append, List.nil_append]
    repeat' (first | refine AL.nil ?_ | ((first | apply AL.st | (apply AL.on; (· rfl); (· rfl)) | (apply AD.st; (· exact nxE)) | (apply AD.on; (· rfl); (· rfl); (· exact nxE))); (· first | exact OpOk.call0 [] rfl rfl (hE) (.inl rfl) (fun _ => by simp [rn]) (ARs.cons (ARs.agg (ARs.cons (AR.dd _) (ARs.cons (AR.dd _) ARs.nil))) ARs.nil) | exact OpOk.call2n [] rfl rfl (hR) (.inl rfl) (fun _ => by simp [rnO_dobj]) (fun _ => by simp [rnO_dobj]) (ARs.cons (ARs.agg (ARs.cons (AR.dd _) (ARs.cons (AR.dd _) ARs.nil))) (ARs.cons (AR.dd _) ARs.nil)) (by simp only [rn, List.map_cons, List.map_nil]; exact rfl) | exact Ok.pe); (· exact setE); (· first | exact updsE | exact rfl); (· exact nxE)) | ((first | apply AL.st0 | (apply AD.st0; (· exact nxE))); (· first | exact OpOk.call2n [] rfl rfl (hR) (.inl rfl) (fun _ => by simp [rnO_dobj]) (fun _ => by simp [rnO_dobj]) (ARs.cons (ARs.agg (ARs.cons (AR.dd _) (ARs.cons (AR.dd _) ARs.nil))) (ARs.cons (AR.dd _) ARs.nil)) (by simp only [rn, List.map_cons, List.map_nil]; exact rfl) | exact Ok.e0); (· exact rfl); (· exact nxE)) | ((first | apply AL.off | apply AD.off); (· rfl); (· rfl); (· rfl); (· exact setE); (· exact nxE)) | ((first | refine AL.gsplit rfl rfl (fun h => ?_) (fun h => ?_) | refine AD.gsplit rfl rfl (fun h => ?_) (fun h => ?_)) <;> try (exfalso; omega; done)) | (first | refine AL.gsplitB rfl rfl (fun h => ?_) (fun h => ?_) | refine AD.gsplitB rfl rfl (fun h => ?_) (fun h => ?_)) | refine AD.fin (by simp only [List.length_cons, List.length_nil, Nat.reduceAdd]; rfl) rfl (by kernel_rfl) ?_ | refine thenN ?_ | refine AW.seq ?_ | refine AW.reg ?_ | refine AW.dr mixedA (by kernel_rfl) ?_ | refine AW.block ?_ | refine AW.condT rfl ?_ | refine AW.condF rfl ?_ | (refine AW.ite rfl (fun h => ?_) (fun h => ?_) <;> try (exfalso; omega; done)) | refine AW.cond _ rfl (fun h => ?_) (fun h => ?_) | refine AW.ret ?_ | refine AW.exit ?_ | refine AW.skip ?_ | refine thenR ?_ | refine thenX ?_ | refine blockN ?_ | refine blockR ?_ | refine blockX ?_ | refine blockY (by decide) ?_)
    exact end2nil (.inl rfl) rfl (rT rfl) (rT rfl) hD
  | true =>
    rw [if_pos hok, if_pos hok] at hR
    have hz : runC ev xs es = 0 := by simp [runC, hg, h60, hok]
    obtain ⟨e1, e2, e3⟩ := run_good hz
    rw [e3, hz]
    refine AC.of_body 0 Try.func63 rfl (fun l h => absurd rfl h) (fun C hC => ?_)
    have hD : ∀ l, ¬ C.D0 l := fun l h => (hC l).1 h rfl
    simp only [startFr, Try.ntmps63, List.length_cons, List.length_nil, Nat.reduceAdd, Nat.reduceSub, List.replicate_succ, List.replicate_zero, List.cons_append, List.nil_append]
    repeat' (first | refine AL.nil ?_ | ((first | apply AL.st | (apply AL.on; (· rfl); (· rfl)) | (apply AD.st; (· exact nxE)) | (apply AD.on; (· rfl); (· rfl); (· exact nxE))); (· first | exact OpOk.call0 [] rfl rfl (hE) (.inl rfl) (fun _ => by simp [rn]) (ARs.cons (ARs.agg (ARs.cons (AR.dd _) (ARs.cons (AR.dd _) ARs.nil))) ARs.nil) | exact OpOk.call2n [] rfl rfl (hR) (.inl rfl) (fun _ => by simp [rnO_dobj]) (fun _ => by simp [rnO_dobj]) (ARs.cons (ARs.agg (ARs.cons (AR.dd _) (ARs.cons (AR.dd _) ARs.nil))) (ARs.cons (AR.dd _) ARs.nil)) (by simp only [rn, List.map_cons, List.map_nil]; exact rfl) | exact Ok.pe); (· exact setE); (· first | exact updsE | exact rfl); (· exact nxE)) | ((first | apply AL.st0 | (apply AD.st0; (· exact nxE))); (· first | exact OpOk.call2n [] rfl rfl (hR) (.inl rfl) (fun _ => by simp [rnO_dobj]) (fun _ => by simp [rnO_dobj]) (ARs.cons (ARs.agg (ARs.cons (AR.dd _) (ARs.cons (AR.dd _) ARs.nil))) (ARs.cons (AR.dd _) ARs.nil)) (by simp only [rn, List.map_cons, List.map_nil]; exact rfl) | exact Ok.e0); (· exact rfl); (· exact nxE)) | ((first | apply AL.off | apply AD.off); (· rfl); (· rfl); (· rfl); (· exact setE); (· exact nxE)) | ((first | refine AL.gsplit rfl rfl (fun h => ?_) (fun h => ?_) | refine AD.gsplit rfl rfl (fun h => ?_) (fun h => ?_)) <;> try (exfalso; omega; done)) | (first | refine AL.gsplitB rfl rfl (fun h => ?_) (fun h => ?_) | refine AD.gsplitB rfl rfl (fun h => ?_) (fun h => ?_)) | refine AD.fin (by simp only [List.length_cons, List.length_nil, Nat.reduceAdd]; rfl) rfl (by kernel_rfl) ?_ | refine thenN ?_ | refine AW.seq ?_ | refine AW.reg ?_ | refine AW.dr mixedA (by kernel_rfl) ?_ | refine AW.block ?_ | refine AW.condT rfl ?_ | refine AW.condF rfl ?_ | (refine AW.ite rfl (fun h => ?_) (fun h => ?_) <;> try (exfalso; omega; done)) | refine AW.cond _ rfl (fun h => ?_) (fun h => ?_) | refine AW.ret ?_ | refine AW.exit ?_ | refine AW.skip ?_ | refine thenR ?_ | refine thenX ?_ | refine blockN ?_ | refine blockR ?_ | refine blockX ?_ | refine blockY (by decide) ?_)
    (refine end2 (res' := .tup [.own 6 ⟨11, [1]⟩ 0 (bksAt xs es es.length).reverse.length, I 0]) (by first | exact .inl rfl | exact .inr rfl) rfl (by first | exact rT rfl | exact rCA rfl rfl rfl rfl (by simp) | exact rCC rfl rfl rfl rfl rfl) (by first | exact rT rfl | exact rCA rfl rfl rfl rfl (by simp) | exact rCC rfl rfl rfl rfl rfl) ?_ (Le.head ([(⟨0, []⟩, ⟨11, [1]⟩, dobj 6 ((bksAt xs es es.length).reverse.map Ed.row))]) (by first | exact fun l h => absurd h (hD l) | (intro l h; rcases hD l h with rfl; simp [tauL]) | (intro l h; rcases hD l h with rfl | rfl <;> simp [tauL]; done) | (intro l h; rcases hD l h with rfl | rfl | rfl <;> simp [tauL])) ?_ ?_ (by simp) (by simp) (by simp [AllP]) (n' := 1000)); (· rfl)) <;> (repeat' (first | exact trivial | exact ARs.nil | refine ARs.cons ?_ ?_ | exact AR.dead _ | exact AR.dd _ | exact AR.i (by (try dsimp only); omega) | exact AR.ptr _ _ _ _ (by simp [heapL, upd]) | exact AR.own _ _ _ _ (by simp [heapL, upd]) | refine AR.ownE _ _ _ ?_ (by simp [heapL, upd]) | refine ⟨⟨_, rfl, ?_⟩, ?_⟩ | exact ObA.data | refine ObA.box ?_ | refine ObA.frE ?_ | refine ObA.dataE ?_ | refine ARs.agg ?_ | refine ARs.tup ?_ | exact AR.clo' ARs.nil ARs.nil | exact AR.clo' ARs.nil (hca _ _)))
end
end Go.Proofs.Ytegfjedklebbfaa
end

section
namespace Go.Proofs.Ytegfjedklebbfaa
set_option linter.unusedSimpArgs false
set_option linter.unusedVariables false
open Go Go.RowKit

theorem edL1 {xs : List Pl} {i : Nat} {p : Pl} : edL xs ⟨1, i, p⟩ = xs.take i ++ p :: xs.drop i := by simp [edL]
theorem edL2 {xs : List Pl} {i : Nat} {p : Pl} : edL xs ⟨2, i, p⟩ = xs.take i ++ xs.drop (i + 1) := by simp [edL]
theorem edL3 {xs : List Pl} {i : Nat} {p : Pl} : edL xs ⟨3, i, p⟩ = xs.take i ++ p :: xs.drop (i + 1) := by simp [edL]
/-- The edits are possible one behind the other, and lead from xs to ys. -/
def Run (ev : Int) : List Pl → List Ed → List Pl → Prop
  | xs, [], ys => ys = xs
  | xs, e :: es, ys => canEd ev xs e = true ∧ Run ev (edL xs e) es ys
theorem Run.app {ev : Int} : ∀ {a b : List Ed} {xs ys zs : List Pl}, Run ev xs a ys → Run ev ys b zs → Run ev xs (a ++ b) zs
  | [], b, xs, ys, zs, h, h' => by cases h; exact h'
  | e :: a, b, xs, ys, zs, h, h' => ⟨h.1, h.2.app h'⟩
theorem Run.snoc {ev : Int} {a : List Ed} {e : Ed} {xs ys : List Pl} (h : Run ev xs a ys) (hc : canEd ev ys e = true) : Run ev xs (a ++ [e]) (edL ys e) := h.app ⟨hc, rfl⟩
theorem edsAt_cons {xs : List Pl} {e : Ed} {es : List Ed} {k : Nat} : edsAt xs (e :: es) (k + 1) = edsAt (edL xs e) es k := by simp [edsAt]
theorem Run.iff {ev : Int} : ∀ {es : List Ed} {xs ys : List Pl}, Run ev xs es ys ↔ okAt ev xs es es.length = true ∧ ys = edsAt xs es es.length
  | [], xs, ys => by simp [Run, okAt, edsAt]
  | e :: es, xs, ys => by
    have ih := Run.iff (ev := ev) (es := es) (xs := edL xs e) (ys := ys)
    have h1 : okAt ev xs (e :: es) (e :: es).length = (canEd ev xs e && okAt ev (edL xs e) es es.length) := by
      unfold okAt
      rw [List.length_cons, List.range_succ_eq_map, List.all_cons, List.all_map]
      rw [show edsAt xs (e :: es) 0 = xs by simp [edsAt]]
      congr 1
    rw [h1, List.length_cons, edsAt_cons, Bool.and_eq_true, and_assoc]
    unfold Run
    rw [ih]
theorem bks_cons {xs : List Pl} {e : Ed} {es : List Ed} : bksAt xs (e :: es) (e :: es).length = invE xs e :: bksAt (edL xs e) es es.length := by
  unfold bksAt
  rw [List.length_cons, List.range_succ_eq_map, List.map_cons, List.map_map]
  rw [show edsAt xs (e :: es) 0 = xs by simp [edsAt]]
  congr 1
theorem take_drop_set {α : Type} (xs : List α) {i : Nat} (h : i < xs.length) : xs.take i ++ xs[i] :: xs.drop (i + 1) = xs := by
  rw [← List.drop_eq_getElem_cons h, List.take_append_drop]
/-- An edit and its inverse. -/
theorem inv_ed {ev : Int} {xs : List Pl} {e : Ed} (hg : isEG ev xs = true) (hc : canEd ev xs e = true) : canEd ev (edL xs e) (invE xs e) = true ∧ edL (edL xs e) (invE xs e) = xs := by
  obtain ⟨hk, h0, h1, h2⟩ := canEd_facts hc
  have hpl : ∀ p, p ∈ xs → plB (ev - 1) p = true := by
    unfold isEG at hg
    simp only [Bool.and_eq_true, List.all_eq_true] at hg
    exact fun p hp => hg.2 p hp
  have h30 : xs.length ≤ 30 := by
    unfold isEG at hg
    simp only [Bool.and_eq_true, decide_eq_true_eq] at hg
    exact hg.1.2
  obtain ⟨kind, idx, pl⟩ := e
  simp only at hk h0 h1 h2
  obtain ⟨i, rfl⟩ : ∃ i : Nat, idx = i := ⟨idx.toNat, by omega⟩
  rw [canEd_k] at hc ⊢
  have hti : (xs.take i).length = min i xs.length := List.length_take
  rcases hk with rfl | rfl | rfl
  · have hi : i ≤ xs.length := by omega
    have e1 : edL xs ⟨1, i, pl⟩ = xs.take i ++ pl :: xs.drop i := by simp [edL]
    have e2 : invE xs ⟨1, i, pl⟩ = ⟨2, i, plZ⟩ := by simp [invE]
    rw [e1, e2]
    refine ⟨by simp [wi]; omega, ?_⟩
    rw [edL2]
    rw [List.take_append_of_le_length (by omega), List.take_of_length_le (by omega)]
    rw [List.drop_append, List.drop_of_length_le (by omega), hti, show i + 1 - min i xs.length = 1 by omega]
    simp
  · have hi : i < xs.length := by have := h2 (by decide); omega
    have e1 : edL xs ⟨2, i, pl⟩ = xs.take i ++ xs.drop (i + 1) := by simp [edL]
    have e2 : invE xs ⟨2, i, pl⟩ = ⟨1, i, xs[i]⟩ := by simp [invE, hi]
    rw [e1, e2]
    refine ⟨?_, ?_⟩
    · have := hpl xs[i] (List.getElem_mem hi)
      simp [wi, this]; omega
    · rw [edL1, List.take_append_of_le_length (by omega), List.take_of_length_le (by omega), List.drop_append, List.drop_of_length_le (by omega), hti, show i - min i xs.length = 0 by omega]
      simp
  · have hi : i < xs.length := by have := h2 (by decide); omega
    have e1 : edL xs ⟨3, i, pl⟩ = xs.take i ++ pl :: xs.drop (i + 1) := by simp [edL]
    have e2 : invE xs ⟨3, i, pl⟩ = ⟨3, i, xs[i]⟩ := by simp [invE, hi]
    rw [e1, e2]
    refine ⟨?_, ?_⟩
    · have := hpl xs[i] (List.getElem_mem hi)
      simp [wi, this]; omega
    · rw [edL3, List.take_append_of_le_length (by omega), List.take_of_length_le (by omega), List.drop_append, List.drop_of_length_le (by omega), hti, show i + 1 - min i xs.length = 1 by omega]
      simp
theorem Run.back {ev : Int} : ∀ {es : List Ed} {xs ys : List Pl}, isEG ev xs = true → Run ev xs es ys → Run ev ys (bksAt xs es es.length).reverse xs
  | [], xs, ys, _, h => by cases h; simp [bksAt, Run]
  | e :: es, xs, ys, hg, h => by
    obtain ⟨h1, h2⟩ := inv_ed hg h.1
    have ih := Run.back (isEG_edL hg h.1) h.2
    rw [bks_cons, List.reverse_cons]
    have := ih.snoc h1
    rwa [h2] at this
theorem runC_run {ev : Int} {xs : List Pl} {es : List Ed} (h : runC ev xs es = 0) : isEG ev xs = true ∧ es.length ≤ 60 ∧ Run ev xs es (runL ev xs es) ∧ runEv ev xs es = ev ∧ runB ev xs es = (bksAt xs es es.length).reverse := by
  have h0 := h
  unfold runC at h
  by_cases hg : isEG ev xs = true
  · rw [if_pos hg] at h
    by_cases hl : 60 < es.length
    · rw [if_pos hl] at h; exact absurd h (by decide)
    · rw [if_neg hl] at h
      by_cases ho : okAt ev xs es es.length = true
      · refine ⟨hg, by omega, Run.iff.2 ⟨ho, by unfold runL; rw [if_pos h0]⟩, by unfold runEv; rw [if_pos h0], by unfold runB; rw [if_pos h0]⟩
      · rw [if_neg ho] at h; exact absurd h (by decide)
  · rw [if_neg hg] at h; exact absurd h (by decide)
theorem run_runC {ev : Int} {xs ys : List Pl} {es : List Ed} (hg : isEG ev xs = true) (hl : es.length ≤ 60) (h : Run ev xs es ys) : runC ev xs es = 0 ∧ runL ev xs es = ys ∧ runEv ev xs es = ev := by
  obtain ⟨h1, h2⟩ := Run.iff.1 h
  have hc : runC ev xs es = 0 := by unfold runC; rw [if_pos hg, if_neg (by omega), if_pos h1]
  exact ⟨hc, by unfold runL; rw [if_pos hc, h2], by unfold runEv; rw [if_pos hc]⟩
theorem run_isEG {ev : Int} : ∀ {es : List Ed} {xs ys : List Pl}, isEG ev xs = true → Run ev xs es ys → isEG ev ys = true
  | [], xs, ys, hg, h => by cases h; exact hg
  | e :: es, xs, ys, hg, h => run_isEG (isEG_edL hg h.1) h.2
/-- Inverse edits restore the graph. -/
theorem restore {ev : Int} {xs : List Pl} {es : List Ed} (h : runC ev xs es = 0) : runC ev (runL ev xs es) (runB ev xs es) = 0 ∧ runL ev (runL ev xs es) (runB ev xs es) = xs ∧ runEv ev (runL ev xs es) (runB ev xs es) = ev := by
  obtain ⟨h1, h2, h3, h4, h5⟩ := runC_run h
  rw [h5]
  exact run_runC (run_isEG h1 h3) (by rw [List.length_reverse, bksAt_len]; exact h2) (h3.back h1)
/-! ### The edits between two graphs -/
theorem eg_facts {ev : Int} {xs : List Pl} (hg : isEG ev xs = true) : xs.length ≤ 30 ∧ ∀ p ∈ xs, plB (ev - 1) p = true := by
  unfold isEG at hg
  simp only [Bool.and_eq_true, decide_eq_true_eq, List.all_eq_true] at hg
  exact ⟨hg.1.2, fun p hp => hg.2 p hp⟩
theorem run_A {ev : Int} {xs ys : List Pl} (hy : isEG ev ys = true) : ∀ k, k ≤ xs.length → k ≤ ys.length → Run ev xs (ebA xs ys k) (ys.take k ++ xs.drop k)
  | 0, _, _ => by simp [ebA, Run]
  | k + 1, h1, h2 => by
    have ih := run_A (xs := xs) hy k (by omega) (by omega)
    have hx : xs[k]? = some (xs[k]'(by omega)) := List.getElem?_eq_getElem _
    have hyk : ys[k]? = some (ys[k]'(by omega)) := List.getElem?_eq_getElem _
    have hts : ys.take (k + 1) = ys.take k ++ [ys[k]'(by omega)] := List.take_succ_eq_append_getElem (by omega)
    have hdr : xs.drop k = xs[k]'(by omega) :: xs.drop (k + 1) := List.drop_eq_getElem_cons (by omega)
    by_cases he : xs[k]'(by omega) = ys[k]'(by omega)
    · rw [ebA_same hx hyk he, hts]
      rw [hdr, he] at ih
      simpa only [List.append_assoc, List.singleton_append] using ih
    · rw [ebA_diff hx hyk he]
      have hlk : (ys.take k).length = k := by rw [List.length_take]; omega
      have hc : canEd ev (ys.take k ++ xs.drop k) ⟨3, k, ys[k]'(by omega)⟩ = true := by
        rw [canEd_k]
        have := (eg_facts hy).2 (ys[k]'(by omega)) (List.getElem_mem _)
        simp [wi, this]; omega
      have := ih.snoc hc
      have e : edL (ys.take k ++ xs.drop k) ⟨3, k, ys[k]'(by omega)⟩ = ys.take (k + 1) ++ xs.drop (k + 1) := by
        rw [edL3, List.take_append_of_le_length (by omega), List.take_of_length_le (by omega), List.drop_append, List.drop_of_length_le (by omega), hlk, show k + 1 - k = 1 by omega, hdr, hts, List.append_assoc]
        rfl
      rwa [e] at this
theorem run_D {ev : Int} {zs : List Pl} {m : Nat} (hm : m ≤ zs.length) : ∀ j, j ≤ zs.length - m → Run ev zs (ebD zs.length j) (zs.take (zs.length - j))
  | 0, _ => by simp [ebD, Run]
  | j + 1, h => by
    have ih := run_D (ev := ev) hm j (by omega)
    rw [ebD_succ]
    have hl : (zs.take (zs.length - j)).length = zs.length - j := by rw [List.length_take]; omega
    have hidx : ((zs.length : Int) - 1 - (j : Int)) = ((zs.length - 1 - j : Nat) : Int) := by omega
    rw [hidx]
    have hc : canEd ev (zs.take (zs.length - j)) ⟨2, ((zs.length - 1 - j : Nat) : Int), plZ⟩ = true := by
      rw [canEd_k]
      simp [wi]; omega
    have := ih.snoc hc
    have e : edL (zs.take (zs.length - j)) ⟨2, ((zs.length - 1 - j : Nat) : Int), plZ⟩ = zs.take (zs.length - (j + 1)) := by
      rw [edL2, List.take_take, List.drop_of_length_le (by omega), List.append_nil]
      congr 1; omega
    rwa [e] at this
theorem run_I {ev : Int} {ys : List Pl} {n : Nat} (hy : isEG ev ys = true) (hn : n ≤ ys.length) : ∀ j, j ≤ ys.length - n → Run ev (ys.take n) (ebI n ys j) (ys.take (n + j))
  | 0, _ => by simp [ebI, Run]
  | j + 1, h => by
    have ih := run_I (n := n) hy hn j (by omega)
    have hyk : ys[n + j]? = some (ys[n + j]'(by omega)) := List.getElem?_eq_getElem _
    rw [ebI_succ n ys j hyk]
    have hl : (ys.take (n + j)).length = n + j := by rw [List.length_take]; omega
    have hidx : ((n : Int) + (j : Int)) = ((n + j : Nat) : Int) := by omega
    rw [hidx]
    obtain ⟨f1, f2⟩ := eg_facts hy
    have hc : canEd ev (ys.take (n + j)) ⟨1, ((n + j : Nat) : Int), ys[n + j]'(by omega)⟩ = true := by
      rw [canEd_k]
      have := f2 (ys[n + j]'(by omega)) (List.getElem_mem _)
      simp [wi, this]; omega
    have := ih.snoc hc
    have e : edL (ys.take (n + j)) ⟨1, ((n + j : Nat) : Int), ys[n + j]'(by omega)⟩ = ys.take (n + (j + 1)) := by
      rw [edL1, List.take_of_length_le (by omega), List.drop_of_length_le (by omega), show n + (j + 1) = n + j + 1 by omega, List.take_succ_eq_append_getElem (by omega)]
    rwa [e] at this
/-- Edits between two graphs lead from one to the other. -/
theorem between {ev ev' : Int} {xs ys : List Pl} (h : ebC ev ev' xs ys = 0) : ev' = ev ∧ runC ev xs (ebR ev ev' xs ys) = 0 ∧ runL ev xs (ebR ev ev' xs ys) = ys ∧ runEv ev xs (ebR ev ev' xs ys) = ev := by
  have hR : ebR ev ev' xs ys = ebs xs ys := by unfold ebR; rw [if_pos h]
  unfold ebC at h
  by_cases hg : isEG ev xs = true ∧ isEG ev' ys = true
  · rw [if_pos hg] at h
    by_cases he : ev = ev'
    · subst he
      obtain ⟨h1, h2⟩ := hg
      rw [hR]
      obtain ⟨f1, _⟩ := eg_facts h1
      obtain ⟨f2, _⟩ := eg_facts h2
      refine ⟨rfl, run_runC h1 ?_ ?_⟩
      · unfold ebs
        rw [List.length_append, List.length_append, ebD_len, ebI_len]
        have := ebA_len xs ys (min xs.length ys.length)
        omega
      · unfold ebs
        have hA := run_A (xs := xs) h2 (min xs.length ys.length) (by omega) (by omega)
        by_cases hle : ys.length ≤ xs.length
        · rw [show min xs.length ys.length = ys.length by omega] at hA ⊢
          rw [List.take_of_length_le (Nat.le_refl _)] at hA
          rw [show ys.length - xs.length = 0 by omega]
          have hI : ebI xs.length ys 0 = [] := by simp [ebI]
          rw [hI, List.append_nil]
          have hzl : (ys ++ xs.drop ys.length).length = xs.length := by simp; omega
          have hD := run_D (ev := ev) (zs := ys ++ xs.drop ys.length) (m := ys.length) (by omega) (xs.length - ys.length) (by omega)
          rw [hzl, show xs.length - (xs.length - ys.length) = ys.length by omega] at hD
          have := hA.app hD
          rwa [List.take_append_of_le_length (Nat.le_refl _), List.take_of_length_le (Nat.le_refl _)] at this
        · rw [show min xs.length ys.length = xs.length by omega] at hA ⊢
          rw [List.drop_of_length_le (Nat.le_refl _), List.append_nil] at hA
          have hD : ebD xs.length (xs.length - ys.length) = [] := by rw [show xs.length - ys.length = 0 by omega]; simp [ebD]
          rw [hD, List.append_nil]
          have hI := run_I (n := xs.length) h2 (by omega) (ys.length - xs.length) (Nat.le_refl _)
          have := hA.app hI
          rwa [show xs.length + (ys.length - xs.length) = ys.length by omega, List.take_of_length_le (Nat.le_refl _)] at this
    · rw [if_neg he] at h; exact absurd h (by decide)
  · rw [if_neg hg] at h; exact absurd h (by decide)
end Go.Proofs.Ytegfjedklebbfaa
end

section
namespace Go.Proofs.Ytegfjedklebbfaa
set_option linter.unusedSimpArgs false
set_option linter.unusedVariables false
open Go Go.RowKit
attribute [local irreducible] AL AD AW OpOk Le AC thenQ blockQ EndQ

theorem frzE2 {P : Program} {f : FuncId} {args : List AV} {n : Nat} {d : D} {es : List Ed} (hc : AC P f args H0 (.tup [own1 6 n, .d d]) (hp1 (dobj 6 (es.map Ed.row)))) (hn : es.length = n) : AC P f args H0 (.tup [EL es, .d d]) H0 :=
  hc.frz (ARs.tup (.cons (AR.whole rfl trivial (by rw [List.length_map]; exact hn)) (.cons (.dd _) .nil)))
theorem frzG2 {P : Program} {f : FuncId} {args : List AV} {n : Nat} {c d : D} {xs : List Pl} (hc : AC P f args H0 (.tup [.agg [.d c, own1 4 n], .d d]) (hp1 (dobj 4 (xs.map Pl.row)))) (hn : xs.length = n) : AC P f args H0 (.tup [.agg [.d c, PL xs], .d d]) H0 :=
  hc.frz (ARs.tup (.cons (ARs.agg (.cons (.dd _) (.cons (AR.whole rfl trivial (by rw [List.length_map]; exact hn)) .nil))) (.cons (.dd _) .nil)))
theorem run_sizes (ev : Int) (xs : List Pl) (es : List Ed) : (runL ev xs es).length ≤ 1000 ∧ (runB ev xs es).length ≤ 1000 := by
  by_cases h : runC ev xs es = 0
  · have h2 := (restore h).1
    obtain ⟨g, l, _⟩ := runC_run h2
    have := (eg_facts g).1
    omega
  · obtain ⟨_, h2, h3⟩ := run_bad rfl h
    rw [h2, h3]; simp
theorem ebR_sizes (ev ev' : Int) (xs ys : List Pl) : (ebR ev ev' xs ys).length ≤ 1000 := by
  by_cases h : ebC ev ev' xs ys = 0
  · have := (runC_run (between h).2.1).2.1
    omega
  · unfold ebR; rw [if_neg h]; simp
set_option maxHeartbeats 1000000 in
theorem likeGraphs9_refl (ev : Int) (xs : List Pl) (hn : xs.length ≤ 100000000) : AC Try.prog 68 [grD ev xs, grD ev xs] H0 (Bo true) H0 := by
  refine AC.of_body 0 Try.func68 rfl (fun l h => absurd rfl h) (fun C hC => ?_)
  have hD : ∀ l, ¬ C.D0 l := fun l h => (hC l).1 h rfl
  simp only [startFr, Try.ntmps68, List.length_cons, List.length_nil, Nat.reduceAdd, Nat.reduceSub, List.replicate_succ, List.replicate_zero, List.cons_append, List.nil_append]
  repeat' (first | ((first | apply Ba | (apply Bb; (· rfl); (· rfl)) | (apply Bc; (· exact nxE)) | (apply Bd; (· rfl); (· rfl); (· exact nxE))); (· first | exact Ok.pe)) | ((first | apply Ca | (apply Cb; (· exact nxE))); (· first | exact Ok.e0)) | refine Sx ?_ | (refine Sy (fun h => ?_) (fun h => ?_) <;> try (exfalso; omega; done)) | refine Sz (fun h => ?_) (fun h => ?_))
  refine AW.loop (X := {k : Nat // k ≤ xs.length}) (fun k => ⟨[Oo, Oo, Bx 2 0, Bx 2 1, Oo, I (k.1 : Nat), Oo, Oo, Oo, Oo, Oo, Oo, Oo, Oo, Oo, Oo, Oo, Oo, Oo, Oo, Oo, Oo, Oo, Oo, Oo, Oo, Oo, Oo, Oo, Oo, Oo, Oo, Oo, Oo, Oo, Oo, Oo, Oo], heapL [(⟨0, []⟩, ⟨0, []⟩, ⟨2, [[I ev, PL xs]]⟩), (⟨1, []⟩, ⟨1, []⟩, ⟨2, [[I ev, PL xs]]⟩)], 900⟩) (fun k => xs.length - k.1) ⟨0, Nat.zero_le _⟩ ?_ (fun k => ?_)
  ·
    (apply Le.headZ [_, _] rfl)
    all_goals (try dsimp only [srcs])
    (case' hfr | hob => (repeat' (first | refine La ?_ ?_ | exact Lc | refine Lo ?_ | refine ⟨⟨_, rfl, ?_⟩, ?_⟩ | refine Lx ?_)))
    all_goals (first | (rfl) | exact Ld)
  obtain ⟨k, hk⟩ := k
  simp only
  by_cases hlt : k < xs.length
  · obtain ⟨x, hx⟩ : ∃ x, xs[k]? = some x := ⟨xs[k], by simp⟩
    have hrow : (xs.map Pl.row)[((k : Nat) : Int).toNat]? = some [DI x.f, DI x.t, DI x.d, DI x.k] := row_get hx
    repeat' (first | ((first | apply Ba | (apply Bb; (· rfl); (· rfl)) | (apply Bc; (· exact nxE)) | (apply Bd; (· rfl); (· rfl); (· exact nxE))); (· first | exact Ok.pe)) | ((first | apply Ca | (apply Cb; (· exact nxE))); (· first | exact Ok.e0)) | refine Sx ?_ | (refine Sy (fun h => ?_) (fun h => ?_) <;> try (exfalso; omega; done)) | refine Sz (fun h => ?_) (fun h => ?_))
    · exact absurd rfl h
    refine ⟨⟨k + 1, by omega⟩, ?_, by simp only; omega⟩
    (apply Le.headZ [_, _] rfl)
    all_goals (try dsimp only [srcs])
    (case' hfr | hob => (repeat' (first | refine La ?_ ?_ | exact Lc | refine Lo ?_ | refine ⟨⟨_, rfl, ?_⟩, ?_⟩ | refine Lx ?_)))
    all_goals (first | (rfl) | exact Ld)
  · obtain rfl : k = xs.length := by omega
    repeat' (first | ((first | apply Ba | (apply Bb; (· rfl); (· rfl)) | (apply Bc; (· exact nxE)) | (apply Bd; (· rfl); (· rfl); (· exact nxE))); (· first | exact Ok.pe)) | ((first | apply Ca | (apply Cb; (· exact nxE))); (· first | exact Ok.e0)) | refine Sx ?_ | (refine Sy (fun h => ?_) (fun h => ?_) <;> try (exfalso; omega; done)) | refine Sz (fun h => ?_) (fun h => ?_))
    refine Ya ?_
    (apply Le.headZ (hs := []) [] rfl)
    all_goals (try dsimp only [srcs])
    (case' hfr => (repeat' (first | refine La ?_ ?_ | exact Lc | refine Lo ?_ | refine ⟨⟨_, rfl, ?_⟩, ?_⟩ | refine Lx ?_)))
    all_goals (first | exact Ld | exact trivial | (rfl))
set_option maxHeartbeats 1000000 in
theorem likeEdits9_refl (xs : List Ed) (hn : xs.length ≤ 100000000) : AC Try.prog 69 [EL xs, EL xs] H0 (Bo true) H0 := by
  refine AC.of_body 0 Try.func69 rfl (fun l h => absurd rfl h) (fun C hC => ?_)
  have hD : ∀ l, ¬ C.D0 l := fun l h => (hC l).1 h rfl
  simp only [startFr, Try.ntmps69, List.length_cons, List.length_nil, Nat.reduceAdd, Nat.reduceSub, List.replicate_succ, List.replicate_zero, List.cons_append, List.nil_append]
  repeat' (first | ((first | apply Ba | (apply Bb; (· rfl); (· rfl)) | (apply Bc; (· exact nxE)) | (apply Bd; (· rfl); (· rfl); (· exact nxE))); (· first | exact Ok.pe)) | ((first | apply Ca | (apply Cb; (· exact nxE))); (· first | exact Ok.e0)) | refine Sx ?_ | (refine Sy (fun h => ?_) (fun h => ?_) <;> try (exfalso; omega; done)) | refine Sz (fun h => ?_) (fun h => ?_))
  refine AW.loop (X := {k : Nat // k ≤ xs.length}) (fun k => ⟨[EL xs, EL xs, Oo, Oo, Oo, I (k.1 : Nat), Oo, Oo, Oo, Oo, Oo, Oo, Oo, Oo, Oo, Oo, Oo, Oo, Oo, Oo, Oo, Oo, Oo, Oo, Oo, Oo], heapL [], 900⟩) (fun k => xs.length - k.1) ⟨0, Nat.zero_le _⟩ ?_ (fun k => ?_)
  ·
    (apply Le.headZ [] rfl)
    all_goals (try dsimp only [srcs])
    (case' hfr | hob => (repeat' (first | refine La ?_ ?_ | exact Lc | refine Lo ?_ | refine ⟨⟨_, rfl, ?_⟩, ?_⟩ | refine Lx ?_)))
    all_goals (first | (rfl) | exact Ld)
  obtain ⟨k, hk⟩ := k
  simp only
  by_cases hlt : k < xs.length
  · obtain ⟨x, hx⟩ : ∃ x, xs[k]? = some x := ⟨xs[k], by simp⟩
    have hrow : (xs.map Ed.row)[((k : Nat) : Int).toNat]? = some [DI x.kind, DI x.idx, DI x.pl.f, DI x.pl.t, DI x.pl.d, DI x.pl.k] := row_get hx
    repeat' (first | ((first | apply Ba | (apply Bb; (· rfl); (· rfl)) | (apply Bc; (· exact nxE)) | (apply Bd; (· rfl); (· rfl); (· exact nxE))); (· first | exact Ok.neqEdS rfl rfl rfl | exact Ok.pe)) | ((first | apply Ca | (apply Cb; (· exact nxE))); (· first | exact Ok.e0)) | refine Sx ?_ | (refine Sy (fun h => ?_) (fun h => ?_) <;> try (exfalso; omega; done)) | refine Sz (fun h => ?_) (fun h => ?_))
    refine ⟨⟨k + 1, by omega⟩, ?_, by simp only; omega⟩
    (apply Le.headZ [] rfl)
    all_goals (try dsimp only [srcs])
    (case' hfr | hob => (repeat' (first | refine La ?_ ?_ | exact Lc | refine Lo ?_ | refine ⟨⟨_, rfl, ?_⟩, ?_⟩ | refine Lx ?_)))
    all_goals (first | (rfl) | exact Ld)
  · obtain rfl : k = xs.length := by omega
    repeat' (first | ((first | apply Ba | (apply Bb; (· rfl); (· rfl)) | (apply Bc; (· exact nxE)) | (apply Bd; (· rfl); (· rfl); (· exact nxE))); (· first | exact Ok.pe)) | ((first | apply Ca | (apply Cb; (· exact nxE))); (· first | exact Ok.e0)) | refine Sx ?_ | (refine Sy (fun h => ?_) (fun h => ?_) <;> try (exfalso; omega; done)) | refine Sz (fun h => ?_) (fun h => ?_))
    refine Ya ?_
    (apply Le.headZ (hs := []) [] rfl)
    all_goals (try dsimp only [srcs])
    (case' hfr => (repeat' (first | refine La ?_ ?_ | exact Lc | refine Lo ?_ | refine ⟨⟨_, rfl, ?_⟩, ?_⟩ | refine Lx ?_)))
    all_goals (first | exact Ld | exact trivial | (rfl))
set_option maxRecDepth 100000 in
set_option maxHeartbeats 8000000 in
theorem lawFnEditLists_ac (code : List Int) (hl : code.length ≤ 9223372036854775807) (hb : ∀ b ∈ code, 0 ≤ b ∧ b ≤ 255) : AC Try.prog 8 [.d (BD code)] H0 (Bo true) H0 := by
  have hBig := big_ac code hl
  by_cases hbig : 4096 < (code.length : Int)
  ·
    refine AC.of_body 0 Try.func8 rfl (fun l h => absurd rfl h) (fun C hC => ?_)
    have hD : ∀ l, ¬ C.D0 l := fun l h => (hC l).1 h rfl
    simp only [startFr, Try.ntmps8, List.length_cons, List.length_nil, Nat.reduceAdd, Nat.reduceSub, List.replicate_succ, List.replicate_zero, List.cons_append, List.nil_append]
    repeat' (first | ((first | apply Ba | (apply Bb; (· rfl); (· rfl)) | (apply Bc; (· exact nxE)) | (apply Bd; (· rfl); (· rfl); (· exact nxE))); (· first | exact Kz rfl rfl (hBig) (Ad An) | exact Ok.pe)) | ((first | apply Ca | (apply Cb; (· exact nxE))); (· first | exact Ok.e0)) | refine Sx ?_ | (refine Sy (fun h => ?_) (fun h => ?_) <;> try (exfalso; omega; done)) | refine Sz (fun h => ?_) (fun h => ?_))
    refine Ya ?_
    (apply Le.headZ (hs := []) [] rfl)
    all_goals (try dsimp only [srcs])
    (case' hfr => (repeat' (first | refine La ?_ ?_ | exact Lc | refine Lo ?_ | refine ⟨⟨_, rfl, ?_⟩, ?_⟩ | refine Lx ?_)))
    all_goals (first | exact Ld | exact trivial | (rfl))
  have hc : CodeOk code := ⟨by omega, hb⟩
  obtain ⟨ev, xs, es, hx, he, hG1⟩ := drawApplyEdits_ex code hc
  obtain ⟨ev1, xs1, ev2, xs2, hx1, hx2, hG2⟩ := drawEditsBetween_ex code hc
  have hI1 := frzG2 (iApplyEdits_ac ev xs es (by omega) (by omega)) rfl
  have hS1 := frzG2 (sApplyEdits_ac ev xs es (by omega) (by omega)) rfl
  have hI2 := frzE2 (iInverseEdits_ac ev xs es (by omega) (by omega)) rfl
  have hS2 := frzE2 (sInverseEdits_ac ev xs es (by omega) (by omega)) rfl
  have hI3 := frzE2 (iEditsBetween_ac ev1 ev2 xs1 xs2 (by omega) (by omega)) rfl
  have hS3 := frzE2 (sEditsBetween_ac ev1 ev2 xs1 xs2 (by omega) (by omega)) rfl
  have hY : ebC ev1 ev2 xs1 xs2 = 0 → AC Try.prog 61 [grD ev1 xs1, EL (ebR ev1 ev2 xs1 xs2)] H0 (.tup [grD ev2 xs2, I 0]) H0 := fun h => by
    obtain ⟨e1, e2, e3, e4⟩ := between h
    have := frzG2 (iApplyEdits_ac ev1 xs1 (ebR ev1 ev2 xs1 xs2) (by omega) (by have := ebR_sizes ev1 ev2 xs1 xs2; omega)) rfl
    rw [e2, e3, e4] at this
    rw [show grD ev2 xs2 = grD ev1 xs2 by rw [e1]]; exact this
  have hZ : runC ev xs es = 0 → AC Try.prog 61 [grD (runEv ev xs es) (runL ev xs es), EL (runB ev xs es)] H0 (.tup [grD ev xs, I 0]) H0 := fun h => by
    obtain ⟨e2, e3, e4⟩ := restore h
    obtain ⟨r2, r3⟩ := run_sizes ev xs es
    have := frzG2 (iApplyEdits_ac ev (runL ev xs es) (runB ev xs es) (by omega) (by omega)) rfl
    rw [e2, e3, e4] at this
    rw [(run_good h).1]; exact this
  obtain ⟨hr, hrb⟩ := run_sizes ev xs es
  have hbr := ebR_sizes ev1 ev2 xs1 xs2
  have hL1 := likeGraphs9_refl (runEv ev xs es) (runL ev xs es) (by omega)
  have hL2 := likeEdits9_refl (runB ev xs es) (by omega)
  have hL3 := likeEdits9_refl (ebR ev1 ev2 xs1 xs2) (by omega)
  have hL4 := likeGraphs9_refl ev2 xs2 (by omega)
  have hL5 := likeGraphs9_refl ev xs (by omega)
  generalize runEv ev xs es = ev3 at *
  generalize runL ev xs es = xs3 at *
  generalize runB ev xs es = es3 at *
  generalize runC ev xs es = c3 at *
  generalize ebR ev1 ev2 xs1 xs2 = es4 at *
  generalize ebC ev1 ev2 xs1 xs2 = c4 at *
  refine AC.of_body 0 Try.func8 rfl (fun l h => absurd rfl h) (fun C hC => ?_)
  have hD : ∀ l, ¬ C.D0 l := fun l h => (hC l).1 h rfl
  simp only [startFr, Try.ntmps8, List.length_cons, List.length_nil, Nat.reduceAdd, Nat.reduceSub, List.replicate_succ, List.replicate_zero, List.cons_append, List.nil_append]
  repeat' (first | ((first | apply Ba | (apply Bb; (· rfl); (· rfl)) | (apply Bc; (· exact nxE)) | (apply Bd; (· rfl); (· rfl); (· exact nxE))); (· first | exact Kz rfl rfl (hBig) (Ad An) | exact Kz rfl rfl (hG1) (Ad An) | exact Kz rfl rfl (hG2) (Ad An) | exact Kz rfl rfl (hI1) (Aa (Ad (Ad An)) (Ad An)) | exact Kz rfl rfl (hS1) (Aa (Ad (Ad An)) (Ad An)) | exact Kz rfl rfl (hI2) (Aa (Ad (Ad An)) (Ad An)) | exact Kz rfl rfl (hS2) (Aa (Ad (Ad An)) (Ad An)) | exact Kz rfl rfl (hI3) (Aa (Ad (Ad An)) (Aa (Ad (Ad An)) An)) | exact Kz rfl rfl (hS3) (Aa (Ad (Ad An)) (Aa (Ad (Ad An)) An)) | exact Kz rfl rfl (hL1) (Aa (Ad (Ad An)) (Aa (Ad (Ad An)) An)) | exact Kz rfl rfl (hL2) (Ad (Ad An)) | exact Kz rfl rfl (hL3) (Ad (Ad An)) | exact Kz rfl rfl (hL4) (Aa (Ad (Ad An)) (Aa (Ad (Ad An)) An)) | exact Kz rfl rfl (hL5) (Aa (Ad (Ad An)) (Aa (Ad (Ad An)) An)) | exact Kz rfl rfl (hY (by omega)) (Aa (Ad (Ad An)) (Ad An)) | exact Kz rfl rfl (hZ (by omega)) (Aa (Ad (Ad An)) (Ad An)) | exact Ok.pe)) | ((first | apply Ca | (apply Cb; (· exact nxE))); (· first | exact Ok.e0)) | refine Sx ?_ | (refine Sy (fun h => ?_) (fun h => ?_) <;> try (exfalso; omega; done)) | refine Sz (fun h => ?_) (fun h => ?_))
  all_goals
    refine Ya ?_
    (apply Le.headZ (hs := []) [] rfl)
    all_goals (try dsimp only [srcs])
    (case' hfr => (repeat' (first | refine La ?_ ?_ | exact Lc | refine Lo ?_ | refine ⟨⟨_, rfl, ?_⟩, ?_⟩ | refine Lx ?_)))
    all_goals (first | exact Ld | exact trivial | (first | rfl | exact (decide_eq_true (by omega)).symm))
end Go.Proofs.Ytegfjedklebbfaa
end
