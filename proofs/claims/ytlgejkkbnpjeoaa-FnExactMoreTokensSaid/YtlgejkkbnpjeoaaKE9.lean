/-
  Walks in the abstract reading: FasterPlace and MoreTokens of the program.
-/
import Derived.Test.YtlgejkkbnpjeoaaKE5
import Derived.Test.YtlgejkkbnpjeoaaKE8
namespace Go.Proofs.Ytlgejkkbnpjeoaa
set_option linter.unusedSimpArgs false
set_option linter.unusedVariables false
open Go Go.RowKit
attribute [local irreducible] AL AD AW OpOk Le AC thenQ blockQ EndQ

theorem isEG_set {ev : Int} {xs : List Pl} {i : Nat} {p : Pl} (h : isEG ev xs = true) (hp : plB (ev - 1) p = true) : isEG ev (xs.set i p) = true := by
  simp only [isEG, Bool.and_eq_true, decide_eq_true_eq, List.all_eq_true, List.length_set] at h ⊢
  refine ⟨h.1, fun q hq => ?_⟩
  rcases List.mem_or_eq_of_mem_set hq with h1 | rfl
  · exact h.2 q h1
  · exact hp
theorem Wk.same {xs ys : List Pl} (hl : ys.length = xs.length) (h : ∀ i, (plA ys i).f = (plA xs i).f ∧ (plA ys i).t = (plA xs i).t) : ∀ {c : List Nat} {u v : Int}, Wk xs u c v → Wk ys u c v
  | [], _, _, hw => hw
  | i :: c, u, v, ⟨h1, h2, h3⟩ => ⟨by omega, by rw [(h i).1]; exact h2, by rw [(h i).2]; exact Wk.same hl h h3⟩
theorem Circ.same {xs ys : List Pl} (hl : ys.length = xs.length) (h : ∀ i, (plA ys i).f = (plA xs i).f ∧ (plA ys i).t = (plA xs i).t) {c : List Nat} (hc : Circ xs c) : Circ ys c := by
  have e : (c.map fun i => (plA ys i).f) = c.map fun i => (plA xs i).f := List.map_congr_left fun i _ => (h i).1
  refine ⟨hc.ne, ?_, by rw [e]; exact hc.nd, fun i hi => ?_⟩
  · have := hc.wk.same hl h
    simp only [firstF] at this ⊢
    rw [(h (hdN c)).1]
    exact this
  · have := hc.mn i hi
    simp only [firstF] at this ⊢
    rw [(h (hdN c)).1, (h i).1]
    exact this
theorem plB_at {ev : Int} {xs : List Pl} {i : Nat} (h : isEG ev xs = true) (hi : i < xs.length) : plB (ev - 1) (plA xs i) = true := by
  simp only [isEG, Bool.and_eq_true, List.all_eq_true] at h
  have e : plA xs i = xs[i] := by simp [plA, hi]
  rw [e]
  exact h.2 _ (List.getElem_mem hi)
theorem moreL_eg {ev : Int} {xs : List Pl} {i : Nat} (h : isEG ev xs = true) (hi : i < xs.length) (hk : (plA xs i).k ≠ 5) : isEG ev (moreL xs i) = true := by
  refine isEG_set h ?_
  have hp := plB_at h hi
  simp only [plB, Bool.and_eq_true, wi_iff] at hp ⊢
  omega
theorem eg_no {ev : Int} {xs : List Pl} {b : Bool} (h : isEG ev xs = false) : cqC ev xs b = 1 := by
  have h1 : liveI ev xs = 1 := by unfold liveI; rw [h]; rfl
  unfold cqC codeI
  rw [h1]; simp
theorem in_no {ev : Int} {xs : List Pl} (h : isEG ev xs = true) : cqC ev xs false = 2 := by
  have h1 : liveI ev xs ≠ 1 := by unfold liveI; rw [if_pos h]; split <;> decide
  unfold cqC codeI
  rw [if_neg (by simp [h1])]; simp [h1]
theorem in_yes {ev : Int} {xs : List Pl} : cqC ev xs true = bcC ev xs := by
  unfold cqC codeI
  simp only [Bool.true_eq_false, and_false, if_false]
  by_cases h : liveI ev xs = 0
  · rw [if_pos h]
  · rw [if_neg h]; unfold bcC; rw [if_neg h]
set_option maxHeartbeats 2000000 in
theorem iMoreTokens_ac (ev : Int) (xs : List Pl) (i : Int) (hx : xs.length ≤ 100000000) : AC Try.prog 60 [grD ev xs, I i] H0 (.tup [.agg [I (mtR ev xs i).1, I (mtR ev xs i).2], I (mtC ev xs i)]) H0 := by
  have hE := iIsEventGraph_ac ev xs hx
  have hI := within_ac i 0 ((xs.length : Int) - 1)
  unfold mtR mtC
  cases hg : isEG ev xs
  · rw [eg_no hg, if_neg (by decide), if_neg (by decide)]
    rw [hg] at hE
    refine AC.of_body 0 Try.func60 rfl (fun l h => absurd rfl h) (fun C hC => ?_)
    have hD : ∀ l, ¬ C.D0 l := fun l h => (hC l).1 h rfl
    simp only [startFr, Try.ntmps60, List.length_cons, List.length_nil, Nat.reduceAdd, Nat.reduceSub, List.replicate_succ, List.replicate_zero, List.cons_append, List.nil_append]
    repeat' (first | refine Qa ?_ | ((first | apply Ba | (apply Bb; (· rfl); (· rfl)) | (apply Bc; (· exact nxE)) | (apply Bd; (· rfl); (· rfl); (· exact nxE))); (· first | exact Kz rfl rfl (hE) (Aa (Ad (Ad An)) An) | exact Ok.pe); (first | refine Na ?_ | refine Nb ?_)) | ((first | apply Ca | (apply Cb; (· exact nxE))); (· first | exact Ok.e0); (first | refine Nc ?_ | refine Nd ?_)) | refine Oa ?_ | refine Ob ?_ | ((first | refine Ga (fun h => ?_) (fun h => ?_) | refine AD.gsplit rfl rfl (fun h => ?_) (fun h => ?_)) <;> try (exfalso; omega; done)) | (first | refine AL.gsplitB rfl rfl (fun h => ?_) (fun h => ?_) | refine AD.gsplitB rfl rfl (fun h => ?_) (fun h => ?_)) | refine Fa ?_ | refine Qb ?_ | refine Qc ?_ | refine Qd ?_ | refine Fb ?_ | refine Qe ?_ | refine Wa ?_ | refine Wb ?_ | (refine AW.ite rfl (fun h => ?_) (fun h => ?_) <;> try (exfalso; omega; done)) | refine AW.cond _ rfl (fun h => ?_) (fun h => ?_) | refine Qf ?_ | refine Qg ?_ | refine Qh ?_ | refine Qi ?_ | refine Xa ?_ | refine Xb ?_ | refine Xc ?_ | refine Xd ?_ | refine Fc ?_)
    refine Yb ?_
    (apply Le.headZ (hs := []) [] rfl)
    all_goals (try dsimp only [srcs])
    (case' hfr => (repeat' (first | refine La ?_ ?_ | exact Lc | refine Lo ?_ | refine ⟨⟨_, rfl, ?_⟩, ?_⟩ | refine ObA.box ?_ | refine ObA.frE ?_ | refine ObA.dataE ?_ | refine ARs.agg ?_ | refine ARs.tup ?_ | refine AR.b ?_ | refine AR.iE ?_ | refine AR.e ?_ | refine AR.clo' ARs.nil ?_)))
    all_goals (first | exact Ld | exact trivial | (rfl))
  rw [hg] at hE
  cases h1 : wi i 0 ((xs.length : Int) - 1)
  · rw [in_no hg, if_neg (by decide), if_neg (by decide)]
    rw [h1] at hI
    refine AC.of_body 0 Try.func60 rfl (fun l h => absurd rfl h) (fun C hC => ?_)
    have hD : ∀ l, ¬ C.D0 l := fun l h => (hC l).1 h rfl
    simp only [startFr, Try.ntmps60, List.length_cons, List.length_nil, Nat.reduceAdd, Nat.reduceSub, List.replicate_succ, List.replicate_zero, List.cons_append, List.nil_append]
    repeat' (first | refine Qa ?_ | ((first | apply Ba | (apply Bb; (· rfl); (· rfl)) | (apply Bc; (· exact nxE)) | (apply Bd; (· rfl); (· rfl); (· exact nxE))); (· first | exact Kz rfl rfl (hE) (Aa (Ad (Ad An)) An) | exact Kz rfl rfl (hI) (Ad (Ad (Ad An))) | exact Ok.pe); (first | refine Na ?_ | refine Nb ?_)) | ((first | apply Ca | (apply Cb; (· exact nxE))); (· first | exact Ok.e0); (first | refine Nc ?_ | refine Nd ?_)) | refine Oa ?_ | refine Ob ?_ | ((first | refine Ga (fun h => ?_) (fun h => ?_) | refine AD.gsplit rfl rfl (fun h => ?_) (fun h => ?_)) <;> try (exfalso; omega; done)) | (first | refine AL.gsplitB rfl rfl (fun h => ?_) (fun h => ?_) | refine AD.gsplitB rfl rfl (fun h => ?_) (fun h => ?_)) | refine Fa ?_ | refine Qb ?_ | refine Qc ?_ | refine Qd ?_ | refine Fb ?_ | refine Qe ?_ | refine Wa ?_ | refine Wb ?_ | (refine AW.ite rfl (fun h => ?_) (fun h => ?_) <;> try (exfalso; omega; done)) | refine AW.cond _ rfl (fun h => ?_) (fun h => ?_) | refine Qf ?_ | refine Qg ?_ | refine Qh ?_ | refine Qi ?_ | refine Xa ?_ | refine Xb ?_ | refine Xc ?_ | refine Xd ?_ | refine Fc ?_)
    refine Yb ?_
    (apply Le.headZ (hs := []) [] rfl)
    all_goals (try dsimp only [srcs])
    (case' hfr => (repeat' (first | refine La ?_ ?_ | exact Lc | refine Lo ?_ | refine ⟨⟨_, rfl, ?_⟩, ?_⟩ | refine ObA.box ?_ | refine ObA.frE ?_ | refine ObA.dataE ?_ | refine ARs.agg ?_ | refine ARs.tup ?_ | refine AR.b ?_ | refine AR.iE ?_ | refine AR.e ?_ | refine AR.clo' ARs.nil ?_)))
    all_goals (first | exact Ld | exact trivial | (rfl))
  · rw [in_yes]
    rw [h1] at hI
    obtain ⟨i', rfl⟩ : ∃ n : Nat, i = n := ⟨i.toNat, by have := wi_iff.1 h1; omega⟩
    have hi : i' < xs.length := by have := wi_iff.1 h1; omega
    have hrow := pl_row (n := 0) hi
    obtain ⟨n, rfl, g1, g2, g3, g4⟩ := isEG_ok hg
    have hCt := cycleTime_ac n xs hg
    by_cases hc : bcC n xs = 0
    · rw [if_pos hc, if_pos hc]
      rw [hc] at hCt
      obtain ⟨_, _, ⟨g7, g8⟩, ⟨g9, g10⟩⟩ := okPl_at g4 i' hi
      have hO := cloneGraph_ac n xs (by omega)
      have hr := ownPl_row hi
      have hs := ownPl_set (xs := xs) (i := i') (p := ⟨(plA xs i').f, (plA xs i').t, (plA xs i').d, (plA xs i').k + 1⟩)
      have hT := fun h => cycleTime_ac n (moreL xs i') (moreL_eg hg hi h)
      have hfl : ((moreL xs i').map Pl.row).length = xs.length := by simp [moreL]
      rw [Int.toNat_natCast]
      unfold moreL at *
      generalize hys : xs.set i' ⟨(plA xs i').f, (plA xs i').t, (plA xs i').d, (plA xs i').k + 1⟩ = ys at *
      clear hys
      rw [← hfl] at hO
      generalize plA xs i' = p at *
      obtain ⟨pf, pt, pd, pk⟩ := p
      simp only at hrow hr hs g7 g8 g9 g10 hT ⊢
      generalize ctR n xs = cr at hCt
      by_cases h5 : pk = 5
      · rw [if_pos h5, if_pos h5]
        subst h5
        refine AC.of_body 0 Try.func60 rfl (fun l h => absurd rfl h) (fun C hC => ?_)
        have hD : ∀ l, ¬ C.D0 l := fun l h => (hC l).1 h rfl
        simp only [startFr, Try.ntmps60, List.length_cons, List.length_nil, Nat.reduceAdd, Nat.reduceSub, List.replicate_succ, List.replicate_zero, List.cons_append, List.nil_append]
        repeat' (first | refine Qa ?_ | ((first | apply Ba | (apply Bb; (· rfl); (· rfl)) | (apply Bc; (· exact nxE)) | (apply Bd; (· rfl); (· rfl); (· exact nxE))); (· first | exact Kz rfl rfl (hE) (Aa (Ad (Ad An)) An) | exact Kz rfl rfl (hI) (Ad (Ad (Ad An))) | exact Kz rfl rfl (hCt) (Aa (Ad (Ad An)) An) | exact Ok.pe); (first | refine Na ?_ | refine Nb ?_)) | ((first | apply Ca | (apply Cb; (· exact nxE))); (· first | exact Ok.e0); (first | refine Nc ?_ | refine Nd ?_)) | refine Oa ?_ | refine Ob ?_ | ((first | refine Ga (fun h => ?_) (fun h => ?_) | refine AD.gsplit rfl rfl (fun h => ?_) (fun h => ?_)) <;> try (exfalso; omega; done)) | (first | refine AL.gsplitB rfl rfl (fun h => ?_) (fun h => ?_) | refine AD.gsplitB rfl rfl (fun h => ?_) (fun h => ?_)) | refine Fa ?_ | refine Qb ?_ | refine Qc ?_ | refine Qd ?_ | refine Fb ?_ | refine Qe ?_ | refine Wa ?_ | refine Wb ?_ | (refine AW.ite rfl (fun h => ?_) (fun h => ?_) <;> try (exfalso; omega; done)) | refine AW.cond _ rfl (fun h => ?_) (fun h => ?_) | refine Qf ?_ | refine Qg ?_ | refine Qh ?_ | refine Qi ?_ | refine Xa ?_ | refine Xb ?_ | refine Xc ?_ | refine Xd ?_ | refine Fc ?_)
        refine Yb ?_
        (apply Le.headZ (hs := []) [] rfl)
        all_goals (try dsimp only [srcs])
        (case' hfr => (repeat' (first | refine La ?_ ?_ | exact Lc | refine Lo ?_ | refine ⟨⟨_, rfl, ?_⟩, ?_⟩ | refine ObA.box ?_ | refine ObA.frE ?_ | refine ObA.dataE ?_ | refine ARs.agg ?_ | refine ARs.tup ?_ | refine AR.b ?_ | refine AR.iE ?_ | refine AR.e ?_ | refine AR.clo' ARs.nil ?_)))
        all_goals (first | exact Ld | exact trivial | (rfl))
      · rw [if_neg h5, if_neg h5]
        have hT := hT h5
        have hQ := hCt
        refine AC.of_body 0 Try.func60 rfl (fun l h => absurd rfl h) (fun C hC => ?_)
        have hD : ∀ l, ¬ C.D0 l := fun l h => (hC l).1 h rfl
        simp only [startFr, Try.ntmps60, List.length_cons, List.length_nil, Nat.reduceAdd, Nat.reduceSub, List.replicate_succ, List.replicate_zero, List.cons_append, List.nil_append]
        repeat' (first | refine Qa ?_ | ((first | apply Ba | (apply Bb; (· rfl); (· rfl)) | (apply Bc; (· exact nxE)) | (apply Bd; (· rfl); (· rfl); (· exact nxE))); (· first | exact Kz rfl rfl (hE) (Aa (Ad (Ad An)) An) | exact Kz rfl rfl (hI) (Ad (Ad (Ad An))) | exact Kz rfl rfl (hQ) (Aa (Ad (Ad An)) An) | exact OpOk.loadCell rfl rfl rfl rfl hr rfl | exact Zf rfl rfl (hT) (Sa (Sd (Sw Sn)) Sn) | exact Eo rfl rfl (hO) (Sa (Sd (Sd Sn)) Sn) | exact Ok.storeC rfl rfl rfl rfl hr (by simp only [List.length_cons, List.length_nil, Nat.reduceAdd, Nat.reduceLT]) (by conv => lhs; whnf) (by rfl) (by rfl) hs | exact Ok.pe); (first | refine Na ?_ | refine Nb ?_)) | ((first | apply Ca | (apply Cb; (· exact nxE))); (· first | exact Eo rfl rfl (hO) (Sa (Sd (Sd Sn)) Sn) | exact Ok.storeC rfl rfl rfl rfl hr (by simp only [List.length_cons, List.length_nil, Nat.reduceAdd, Nat.reduceLT]) (by conv => lhs; whnf) (by rfl) (by rfl) hs | exact Ok.e0); (first | refine Nc ?_ | refine Nd ?_)) | refine Oa ?_ | refine Ob ?_ | ((first | refine Ga (fun h => ?_) (fun h => ?_) | refine AD.gsplit rfl rfl (fun h => ?_) (fun h => ?_)) <;> try (exfalso; omega; done)) | (first | refine AL.gsplitB rfl rfl (fun h => ?_) (fun h => ?_) | refine AD.gsplitB rfl rfl (fun h => ?_) (fun h => ?_)) | refine Fa ?_ | refine Qb ?_ | refine Qc ?_ | refine Qd ?_ | refine Fb ?_ | refine Qe ?_ | refine Wa ?_ | refine Wb ?_ | (refine AW.ite rfl (fun h => ?_) (fun h => ?_) <;> try (exfalso; omega; done)) | refine AW.cond _ rfl (fun h => ?_) (fun h => ?_) | refine Qf ?_ | refine Qg ?_ | refine Qh ?_ | refine Qi ?_ | refine Xa ?_ | refine Xb ?_ | refine Xc ?_ | refine Xd ?_ | refine Fc ?_)
        refine Yb ?_
        (apply Le.headZ (hs := []) [] rfl)
        all_goals (try dsimp only [srcs])
        (case' hfr => (repeat' (first | refine La ?_ ?_ | exact Lc | refine Lo ?_ | refine ⟨⟨_, rfl, ?_⟩, ?_⟩ | refine ObA.box ?_ | refine ObA.frE ?_ | refine ObA.dataE ?_ | refine ARs.agg ?_ | refine ARs.tup ?_ | refine AR.b ?_ | refine AR.iE ?_ | refine AR.e ?_ | refine AR.clo' ARs.nil ?_)))
        all_goals (first | exact Ld | exact trivial | (rfl))
    · rw [if_neg hc, if_neg hc]
      have hQ := hCt
      generalize ctR n xs = cr at hQ
      generalize bcC n xs = bc at *
      refine AC.of_body 0 Try.func60 rfl (fun l h => absurd rfl h) (fun C hC => ?_)
      have hD : ∀ l, ¬ C.D0 l := fun l h => (hC l).1 h rfl
      simp only [startFr, Try.ntmps60, List.length_cons, List.length_nil, Nat.reduceAdd, Nat.reduceSub, List.replicate_succ, List.replicate_zero, List.cons_append, List.nil_append]
      repeat' (first | refine Qa ?_ | ((first | apply Ba | (apply Bb; (· rfl); (· rfl)) | (apply Bc; (· exact nxE)) | (apply Bd; (· rfl); (· rfl); (· exact nxE))); (· first | exact Kz rfl rfl (hE) (Aa (Ad (Ad An)) An) | exact Kz rfl rfl (hI) (Ad (Ad (Ad An))) | exact Kz rfl rfl (hQ) (Aa (Ad (Ad An)) An) | exact Ok.pe); (first | refine Na ?_ | refine Nb ?_)) | ((first | apply Ca | (apply Cb; (· exact nxE))); (· first | exact Ok.e0); (first | refine Nc ?_ | refine Nd ?_)) | refine Oa ?_ | refine Ob ?_ | ((first | refine Ga (fun h => ?_) (fun h => ?_) | refine AD.gsplit rfl rfl (fun h => ?_) (fun h => ?_)) <;> try (exfalso; omega; done)) | (first | refine AL.gsplitB rfl rfl (fun h => ?_) (fun h => ?_) | refine AD.gsplitB rfl rfl (fun h => ?_) (fun h => ?_)) | refine Fa ?_ | refine Qb ?_ | refine Qc ?_ | refine Qd ?_ | refine Fb ?_ | refine Qe ?_ | refine Wa ?_ | refine Wb ?_ | (refine AW.ite rfl (fun h => ?_) (fun h => ?_) <;> try (exfalso; omega; done)) | refine AW.cond _ rfl (fun h => ?_) (fun h => ?_) | refine Qf ?_ | refine Qg ?_ | refine Qh ?_ | refine Qi ?_ | refine Xa ?_ | refine Xb ?_ | refine Xc ?_ | refine Xd ?_ | refine Fc ?_)
      refine Yb ?_
      (apply Le.headZ (hs := []) [] rfl)
      all_goals (try dsimp only [srcs])
      (case' hfr => (repeat' (first | refine La ?_ ?_ | exact Lc | refine Lo ?_ | refine ⟨⟨_, rfl, ?_⟩, ?_⟩ | refine ObA.box ?_ | refine ObA.frE ?_ | refine ObA.dataE ?_ | refine ARs.agg ?_ | refine ARs.tup ?_ | refine AR.b ?_ | refine AR.iE ?_ | refine AR.e ?_ | refine AR.clo' ARs.nil ?_)))
      all_goals (first | exact Ld | exact trivial | (rfl))
end Go.Proofs.Ytlgejkkbnpjeoaa
