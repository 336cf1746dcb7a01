/-
  Walks in the abstract reading: FasterPlace and MoreTokens of the program.
-/
import Derived.Test.YtcjidnpkeliieaaKE5
import Derived.Test.YtcjidnpkeliieaaKE8
namespace Go.Proofs.Ytcjidnpkeliieaa
set_option linter.unusedSimpArgs false
set_option linter.unusedVariables false
open Go Go.RowKit
attribute [local irreducible] AL AD AW OpOk Le AC thenQ blockQ EndQ

theorem isEG_set {ev : Int} {xs : List Pl} {i : Nat} {p : Pl} (h : isEG ev xs = true) (hp : plB (ev - 1) p = true) : isEG ev (xs.set i p) = true := by
  simp only [isEG, Bool.and_eq_true, decide_eq_true_eq, List.all_eq_true, List.length_set] at h ⊢
  refine ⟨h.1, fun q hq => ?_⟩
  rcases List.mem_or_eq_of_mem_set hq with h1 | rfl
  · exact h.2 q h1
  · exact hp
theorem Wk.same {xs ys : List Pl} (hl : ys.length = xs.length) (h : ∀ i, (plA ys i).f = (plA xs i).f ∧ (plA ys i).t = (plA xs i).t) : ∀ {c : List Nat} {u v : Int}, Wk xs u c v → Wk ys u c v
  | [], _, _, hw => hw
  | i :: c, u, v, ⟨h1, h2, h3⟩ => ⟨by omega, by rw [(h i).1]; exact h2, by rw [(h i).2]; exact Wk.same hl h h3⟩
theorem Circ.same {xs ys : List Pl} (hl : ys.length = xs.length) (h : ∀ i, (plA ys i).f = (plA xs i).f ∧ (plA ys i).t = (plA xs i).t) {c : List Nat} (hc : Circ xs c) : Circ ys c := by
  have e : (c.map fun i => (plA ys i).f) = c.map fun i => (plA xs i).f := List.map_congr_left fun i _ => (h i).1
  refine ⟨hc.ne, ?_, by rw [e]; exact hc.nd, fun i hi => ?_⟩
  · have := hc.wk.same hl h
    simp only [firstF] at this ⊢
    rw [(h (hdN c)).1]
    exact this
  · have := hc.mn i hi
    simp only [firstF] at this ⊢
    rw [(h (hdN c)).1, (h i).1]
    exact this
theorem plB_at {ev : Int} {xs : List Pl} {i : Nat} (h : isEG ev xs = true) (hi : i < xs.length) : plB (ev - 1) (plA xs i) = true := by
  simp only [isEG, Bool.and_eq_true, List.all_eq_true] at h
  have e : plA xs i = xs[i] := by simp [plA, hi]
  rw [e]
  exact h.2 _ (List.getElem_mem hi)
set_option maxHeartbeats 1000000 in
theorem fasterGraph_ac (ev : Int) (xs : List Pl) (i : Nat) (by' : Int) (hn : xs.length ≤ 1048576) (hi : i < xs.length) (hd : 0 ≤ (plA xs i).d ∧ (plA xs i).d ≤ 10000) (hb : -10000 ≤ by' ∧ by' ≤ 10000) : AC Try.prog 70 [grD ev xs, I i, I by'] H0 (.agg [I ev, own1 4 xs.length]) (hp1 (dobj 4 ((fasterL xs i by').map Pl.row))) := by
  have hO := cloneGraph_ac ev xs hn
  have hr := ownPl_row hi
  unfold fasterL
  have hs := ownPl_set (xs := xs) (i := i) (p := ⟨(plA xs i).f, (plA xs i).t, max 0 ((plA xs i).d - by'), (plA xs i).k⟩)
  simp only at hs
  have hl : (dobj 4 (xs.map Pl.row)).rows.length = xs.length := by simp [dobj]
  generalize plA xs i = p at *
  obtain ⟨pf, pt, pd, pk⟩ := p
  simp only at hr hs hd
  refine AC.of_body 0 Try.func70 rfl (fun l h => absurd rfl h) (fun C hC => ?_)
  have hD : ∀ l, ¬ C.D0 l := fun l h => (hC l).1 h rfl
  simp only [startFr, Try.ntmps70, List.length_cons, List.length_nil, Nat.reduceAdd, Nat.reduceSub, List.replicate_succ, List.replicate_zero, List.cons_append, List.nil_append]
  repeat' (first | refine Qa ?_ | ((first | apply Ba | (apply Bb; (· rfl); (· rfl)) | (apply Bc; (· exact nxE)) | (apply Bd; (· rfl); (· rfl); (· exact nxE))); (· first | exact OpOk.loadCell rfl rfl rfl rfl hr rfl | exact Eo rfl rfl (hO) (Sa (Sd (Sd Sn)) Sn) | exact Ok.storeC rfl rfl rfl rfl hr (by simp only [List.length_cons, List.length_nil, Nat.reduceAdd, Nat.reduceLT]) (by conv => lhs; whnf) (by rfl) (by rfl) hs | exact Ok.pe); (first | refine Na ?_ | refine Nb ?_)) | ((first | apply Ca | (apply Cb; (· exact nxE))); (· first | exact Eo rfl rfl (hO) (Sa (Sd (Sd Sn)) Sn) | exact Ok.storeC rfl rfl rfl rfl hr (by simp only [List.length_cons, List.length_nil, Nat.reduceAdd, Nat.reduceLT]) (by conv => lhs; whnf) (by rfl) (by rfl) hs | exact Ok.e0); (first | refine Nc ?_ | refine Nd ?_)) | refine Oa ?_ | refine Ob ?_ | ((first | refine Ga (fun h => ?_) (fun h => ?_) | refine AD.gsplit rfl rfl (fun h => ?_) (fun h => ?_)) <;> try (exfalso; omega; done)) | (first | refine AL.gsplitB rfl rfl (fun h => ?_) (fun h => ?_) | refine AD.gsplitB rfl rfl (fun h => ?_) (fun h => ?_)) | refine Fa ?_ | refine Qb ?_ | refine Qc ?_ | refine Qd ?_ | refine Fb ?_ | refine Qe ?_ | refine Wa ?_ | refine Wb ?_ | (refine AW.ite rfl (fun h => ?_) (fun h => ?_) <;> try (exfalso; omega; done)) | refine AW.cond _ rfl (fun h => ?_) (fun h => ?_) | refine Qf ?_ | refine Qg ?_ | refine Qh ?_ | refine Qi ?_ | refine Xa ?_ | refine Xb ?_ | refine Xc ?_ | refine Xd ?_ | refine Fc ?_)
  refine Ya ?_
  (apply Le.head [(⟨0, []⟩, _, _)])
  (case' hfr | hob => (repeat' (first | refine La ?_ ?_ | exact Lc | refine Lo ?_ | refine ⟨⟨_, rfl, ?_⟩, ?_⟩ | refine ObA.box ?_ | refine ObA.frE ?_ | refine ObA.dataE ?_ | refine ARs.agg ?_ | refine ARs.tup ?_ | refine AR.b ?_ | refine AR.iE ?_ | refine AR.e ?_ | refine AR.clo' ARs.nil ?_)))
  all_goals (first | exact Ld | (rfl))
theorem eg_no {ev : Int} {xs : List Pl} {b : Bool} (h : isEG ev xs = false) : cqC ev xs b = 1 := by
  have h1 : liveI ev xs = 1 := by unfold liveI; rw [h]; rfl
  unfold cqC codeI
  rw [h1]; simp
theorem in_no {ev : Int} {xs : List Pl} (h : isEG ev xs = true) : cqC ev xs false = 2 := by
  have h1 : liveI ev xs ≠ 1 := by unfold liveI; rw [if_pos h]; split <;> decide
  unfold cqC codeI
  rw [if_neg (by simp [h1])]; simp [h1]
theorem in_yes {ev : Int} {xs : List Pl} : cqC ev xs true = bcC ev xs := by
  unfold cqC codeI
  simp only [Bool.true_eq_false, and_false, if_false]
  by_cases h : liveI ev xs = 0
  · rw [if_pos h]
  · rw [if_neg h]; unfold bcC; rw [if_neg h]
end Go.Proofs.Ytcjidnpkeliieaa
