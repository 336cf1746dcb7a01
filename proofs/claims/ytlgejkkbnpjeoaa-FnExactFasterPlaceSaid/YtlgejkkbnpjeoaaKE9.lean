/-
  Walks in the abstract reading: FasterPlace and MoreTokens of the program.
-/
import Derived.Test.YtlgejkkbnpjeoaaKE5
import Derived.Test.YtlgejkkbnpjeoaaKE8
namespace Go.Proofs.Ytlgejkkbnpjeoaa
set_option linter.unusedSimpArgs false
set_option linter.unusedVariables false
open Go Go.RowKit
attribute [local irreducible] AL AD AW OpOk Le AC thenQ blockQ EndQ

theorem isEG_set {ev : Int} {xs : List Pl} {i : Nat} {p : Pl} (h : isEG ev xs = true) (hp : plB (ev - 1) p = true) : isEG ev (xs.set i p) = true := by
  simp only [isEG, Bool.and_eq_true, decide_eq_true_eq, List.all_eq_true, List.length_set] at h ⊢
  refine ⟨h.1, fun q hq => ?_⟩
  rcases List.mem_or_eq_of_mem_set hq with h1 | rfl
  · exact h.2 q h1
  · exact hp
theorem fold_set {β : Type} {f : β → Pl → β} {p q : Pl} (h : ∀ b, f b p = f b q) : ∀ {xs : List Pl} {i : Nat} {b : β}, xs[i]? = some q → (xs.set i p).foldl f b = xs.foldl f b
  | [], i, b, h1 => by simp at h1
  | x :: xs, 0, b, h1 => by simp at h1; subst h1; simp [h]
  | x :: xs, i + 1, b, h1 => by simp at h1; simp [fold_set h h1]
theorem plA_set {xs : List Pl} {i : Nat} {p : Pl} (hi : i < xs.length) (j : Nat) : plA (xs.set i p) j = if j = i then p else plA xs j := by
  unfold plA
  rw [List.getElem?_set]
  by_cases h : i = j
  · subst h; simp [hi]
  · rw [if_neg h, if_neg (Ne.symm h)]
theorem Wk.same {xs ys : List Pl} (hl : ys.length = xs.length) (h : ∀ i, (plA ys i).f = (plA xs i).f ∧ (plA ys i).t = (plA xs i).t) : ∀ {c : List Nat} {u v : Int}, Wk xs u c v → Wk ys u c v
  | [], _, _, hw => hw
  | i :: c, u, v, ⟨h1, h2, h3⟩ => ⟨by omega, by rw [(h i).1]; exact h2, by rw [(h i).2]; exact Wk.same hl h h3⟩
theorem Circ.same {xs ys : List Pl} (hl : ys.length = xs.length) (h : ∀ i, (plA ys i).f = (plA xs i).f ∧ (plA ys i).t = (plA xs i).t) {c : List Nat} (hc : Circ xs c) : Circ ys c := by
  have e : (c.map fun i => (plA ys i).f) = c.map fun i => (plA xs i).f := List.map_congr_left fun i _ => (h i).1
  refine ⟨hc.ne, ?_, by rw [e]; exact hc.nd, fun i hi => ?_⟩
  · have := hc.wk.same hl h
    simp only [firstF] at this ⊢
    rw [(h (hdN c)).1]
    exact this
  · have := hc.mn i hi
    simp only [firstF] at this ⊢
    rw [(h (hdN c)).1, (h i).1]
    exact this
theorem hasC_same {xs ys : List Pl} (hl : ys.length = xs.length) (h : ∀ i, (plA ys i).f = (plA xs i).f ∧ (plA ys i).t = (plA xs i).t) : hasC ys ↔ hasC xs :=
  ⟨fun ⟨c, hc⟩ => ⟨c, hc.same hl.symm fun i => ⟨(h i).1.symm, (h i).2.symm⟩⟩, fun ⟨c, hc⟩ => ⟨c, hc.same hl h⟩⟩
theorem fasterL_same {xs : List Pl} {i : Nat} {b : Int} (hi : i < xs.length) (j : Nat) : (plA (fasterL xs i b) j).f = (plA xs j).f ∧ (plA (fasterL xs i b) j).t = (plA xs j).t := by
  unfold fasterL
  rw [plA_set hi]
  split
  · rename_i e; subst e; exact ⟨rfl, rfl⟩
  · exact ⟨rfl, rfl⟩
theorem plB_at {ev : Int} {xs : List Pl} {i : Nat} (h : isEG ev xs = true) (hi : i < xs.length) : plB (ev - 1) (plA xs i) = true := by
  simp only [isEG, Bool.and_eq_true, List.all_eq_true] at h
  have e : plA xs i = xs[i] := by simp [plA, hi]
  rw [e]
  exact h.2 _ (List.getElem_mem hi)
theorem fasterL_eg {ev : Int} {xs : List Pl} {i : Nat} {b : Int} (h : isEG ev xs = true) (hi : i < xs.length) (hb : 0 ≤ b ∧ b ≤ (plA xs i).d) : isEG ev (fasterL xs i b) = true := by
  refine isEG_set h ?_
  have hp := plB_at h hi
  simp only [plB, Bool.and_eq_true, wi_iff] at hp ⊢
  omega
theorem fasterL_live {ev : Int} {xs : List Pl} {i : Nat} {b : Int} (hi : i < xs.length) : liveB ev (fasterL xs i b) = liveB ev xs := by
  unfold liveB deadC freeT fasterL
  rw [fold_set (f := freeS) (p := ⟨(plA xs i).f, (plA xs i).t, max 0 ((plA xs i).d - b), (plA xs i).k⟩) (q := plA xs i) (fun t => rfl) (by simp [plA, hi])]
theorem fasterL_bc {ev : Int} {xs : List Pl} {i : Nat} {b : Int} (h : isEG ev xs = true) (hi : i < xs.length) (hb : 0 ≤ b ∧ b ≤ (plA xs i).d) : bcC ev (fasterL xs i b) = bcC ev xs := by
  have h2 := hasC_same (xs := xs) (ys := fasterL xs i b) fasterL_len (fasterL_same hi)
  have e : liveI ev (fasterL xs i b) = liveI ev xs := by unfold liveI; rw [fasterL_eg h hi hb, h, fasterL_live hi]
  unfold bcC
  rw [e]
  by_cases h3 : hasC xs
  · rw [if_pos h3, if_pos (h2.2 h3)]
  · rw [if_neg h3, if_neg (fun h4 => h3 (h2.1 h4))]
set_option maxHeartbeats 1000000 in
theorem fasterGraph_ac (ev : Int) (xs : List Pl) (i : Nat) (by' : Int) (hn : xs.length ≤ 1048576) (hi : i < xs.length) (hd : 0 ≤ (plA xs i).d ∧ (plA xs i).d ≤ 10000) (hb : -10000 ≤ by' ∧ by' ≤ 10000) : AC Try.prog 115 [grD ev xs, I i, I by'] H0 (.agg [I ev, own1 4 xs.length]) (hp1 (dobj 4 ((fasterL xs i by').map Pl.row))) := by
  have hO := cloneGraph_ac ev xs hn
  have hr := ownPl_row hi
  unfold fasterL
  have hs := ownPl_set (xs := xs) (i := i) (p := ⟨(plA xs i).f, (plA xs i).t, max 0 ((plA xs i).d - by'), (plA xs i).k⟩)
  simp only at hs
  have hl : (dobj 4 (xs.map Pl.row)).rows.length = xs.length := by simp [dobj]
  generalize plA xs i = p at *
  obtain ⟨pf, pt, pd, pk⟩ := p
  simp only at hr hs hd
  refine AC.of_body 0 Try.func115 rfl (fun l h => absurd rfl h) (fun C hC => ?_)
  have hD : ∀ l, ¬ C.D0 l := fun l h => (hC l).1 h rfl
  simp only [startFr, Try.ntmps115, List.length_cons, List.length_nil, Nat.reduceAdd, Nat.reduceSub, List.replicate_succ, List.replicate_zero, List.cons_append, List.nil_append]
  repeat' (first | refine Qa ?_ | ((first | apply Ba | (apply Bb; (· rfl); (· rfl)) | (apply Bc; (· exact nxE)) | (apply Bd; (· rfl); (· rfl); (· exact nxE))); (· first | exact OpOk.loadCell rfl rfl rfl rfl hr rfl | exact Eo rfl rfl (hO) (Sa (Sd (Sd Sn)) Sn) | exact Ok.storeC rfl rfl rfl rfl hr (by simp only [List.length_cons, List.length_nil, Nat.reduceAdd, Nat.reduceLT]) (by conv => lhs; whnf) (by rfl) (by rfl) hs | exact Ok.pe); (first | refine Na ?_ | refine Nb ?_)) | ((first | apply Ca | (apply Cb; (· exact nxE))); (· first | exact Eo rfl rfl (hO) (Sa (Sd (Sd Sn)) Sn) | exact Ok.storeC rfl rfl rfl rfl hr (by simp only [List.length_cons, List.length_nil, Nat.reduceAdd, Nat.reduceLT]) (by conv => lhs; whnf) (by rfl) (by rfl) hs | exact Ok.e0); (first | refine Nc ?_ | refine Nd ?_)) | refine Oa ?_ | refine Ob ?_ | ((first | refine Ga (fun h => ?_) (fun h => ?_) | refine AD.gsplit rfl rfl (fun h => ?_) (fun h => ?_)) <;> try (exfalso; omega; done)) | (first | refine AL.gsplitB rfl rfl (fun h => ?_) (fun h => ?_) | refine AD.gsplitB rfl rfl (fun h => ?_) (fun h => ?_)) | refine Fa ?_ | refine Qb ?_ | refine Qc ?_ | refine Qd ?_ | refine Fb ?_ | refine Qe ?_ | refine Wa ?_ | refine Wb ?_ | (refine AW.ite rfl (fun h => ?_) (fun h => ?_) <;> try (exfalso; omega; done)) | refine AW.cond _ rfl (fun h => ?_) (fun h => ?_) | refine Qf ?_ | refine Qg ?_ | refine Qh ?_ | refine Qi ?_ | refine Xa ?_ | refine Xb ?_ | refine Xc ?_ | refine Xd ?_ | refine Fc ?_)
  refine Ya ?_
  (apply Le.head [(⟨0, []⟩, _, _)])
  (case' hfr | hob => (repeat' (first | refine La ?_ ?_ | exact Lc | refine Lo ?_ | refine ⟨⟨_, rfl, ?_⟩, ?_⟩ | refine ObA.box ?_ | refine ObA.frE ?_ | refine ObA.dataE ?_ | refine ARs.agg ?_ | refine ARs.tup ?_ | refine AR.b ?_ | refine AR.iE ?_ | refine AR.e ?_ | refine AR.clo' ARs.nil ?_)))
  all_goals (first | exact Ld | (rfl))
theorem eg_no {ev : Int} {xs : List Pl} {b : Bool} (h : isEG ev xs = false) : cqC ev xs b = 1 := by
  have h1 : liveI ev xs = 1 := by unfold liveI; rw [h]; rfl
  unfold cqC codeI
  rw [h1]; simp
theorem in_no {ev : Int} {xs : List Pl} (h : isEG ev xs = true) : cqC ev xs false = 2 := by
  have h1 : liveI ev xs ≠ 1 := by unfold liveI; rw [if_pos h]; split <;> decide
  unfold cqC codeI
  rw [if_neg (by simp [h1])]; simp [h1]
theorem in_yes {ev : Int} {xs : List Pl} : cqC ev xs true = bcC ev xs := by
  unfold cqC codeI
  simp only [Bool.true_eq_false, and_false, if_false]
  by_cases h : liveI ev xs = 0
  · rw [if_pos h]
  · rw [if_neg h]; unfold bcC; rw [if_neg h]
set_option maxHeartbeats 2000000 in
theorem iFasterPlace_ac (ev : Int) (xs : List Pl) (i by' : Int) (hx : xs.length ≤ 100000000) : AC Try.prog 63 [grD ev xs, I i, I by'] H0 (.tup [.agg [I (fpR ev xs i by').1, I (fpR ev xs i by').2], I (fpC ev xs i by')]) H0 := by
  have hE := iIsEventGraph_ac ev xs hx
  have hI := within_ac i 0 ((xs.length : Int) - 1)
  unfold fpR fpC
  cases hg : isEG ev xs
  · rw [eg_no hg, if_neg (by decide), if_neg (by decide)]
    rw [hg] at hE
    refine AC.of_body 0 Try.func63 rfl (fun l h => absurd rfl h) (fun C hC => ?_)
    have hD : ∀ l, ¬ C.D0 l := fun l h => (hC l).1 h rfl
    simp only [startFr, Try.ntmps63, List.length_cons, List.length_nil, Nat.reduceAdd, Nat.reduceSub, List.replicate_succ, List.replicate_zero, List.cons_append, List.nil_append]
    repeat' (first | refine Qa ?_ | ((first | apply Ba | (apply Bb; (· rfl); (· rfl)) | (apply Bc; (· exact nxE)) | (apply Bd; (· rfl); (· rfl); (· exact nxE))); (· first | exact Kz rfl rfl (hE) (Aa (Ad (Ad An)) An) | exact Ok.pe); (first | refine Na ?_ | refine Nb ?_)) | ((first | apply Ca | (apply Cb; (· exact nxE))); (· first | exact Ok.e0); (first | refine Nc ?_ | refine Nd ?_)) | refine Oa ?_ | refine Ob ?_ | ((first | refine Ga (fun h => ?_) (fun h => ?_) | refine AD.gsplit rfl rfl (fun h => ?_) (fun h => ?_)) <;> try (exfalso; omega; done)) | (first | refine AL.gsplitB rfl rfl (fun h => ?_) (fun h => ?_) | refine AD.gsplitB rfl rfl (fun h => ?_) (fun h => ?_)) | refine Fa ?_ | refine Qb ?_ | refine Qc ?_ | refine Qd ?_ | refine Fb ?_ | refine Qe ?_ | refine Wa ?_ | refine Wb ?_ | (refine AW.ite rfl (fun h => ?_) (fun h => ?_) <;> try (exfalso; omega; done)) | refine AW.cond _ rfl (fun h => ?_) (fun h => ?_) | refine Qf ?_ | refine Qg ?_ | refine Qh ?_ | refine Qi ?_ | refine Xa ?_ | refine Xb ?_ | refine Xc ?_ | refine Xd ?_ | refine Fc ?_)
    refine Yb ?_
    (apply Le.headZ (hs := []) [] rfl)
    all_goals (try dsimp only [srcs])
    (case' hfr => (repeat' (first | refine La ?_ ?_ | exact Lc | refine Lo ?_ | refine ⟨⟨_, rfl, ?_⟩, ?_⟩ | refine ObA.box ?_ | refine ObA.frE ?_ | refine ObA.dataE ?_ | refine ARs.agg ?_ | refine ARs.tup ?_ | refine AR.b ?_ | refine AR.iE ?_ | refine AR.e ?_ | refine AR.clo' ARs.nil ?_)))
    all_goals (first | exact Ld | exact trivial | (rfl))
  rw [hg] at hE
  cases h1 : wi i 0 ((xs.length : Int) - 1)
  · have hf : fpIn xs i by' = false := by unfold fpIn; rw [h1]; rfl
    rw [hf, in_no hg, if_neg (by decide), if_neg (by decide)]
    rw [h1] at hI
    refine AC.of_body 0 Try.func63 rfl (fun l h => absurd rfl h) (fun C hC => ?_)
    have hD : ∀ l, ¬ C.D0 l := fun l h => (hC l).1 h rfl
    simp only [startFr, Try.ntmps63, List.length_cons, List.length_nil, Nat.reduceAdd, Nat.reduceSub, List.replicate_succ, List.replicate_zero, List.cons_append, List.nil_append]
    repeat' (first | refine Qa ?_ | ((first | apply Ba | (apply Bb; (· rfl); (· rfl)) | (apply Bc; (· exact nxE)) | (apply Bd; (· rfl); (· rfl); (· exact nxE))); (· first | exact Kz rfl rfl (hE) (Aa (Ad (Ad An)) An) | exact Kz rfl rfl (hI) (Ad (Ad (Ad An))) | exact Ok.pe); (first | refine Na ?_ | refine Nb ?_)) | ((first | apply Ca | (apply Cb; (· exact nxE))); (· first | exact Ok.e0); (first | refine Nc ?_ | refine Nd ?_)) | refine Oa ?_ | refine Ob ?_ | ((first | refine Ga (fun h => ?_) (fun h => ?_) | refine AD.gsplit rfl rfl (fun h => ?_) (fun h => ?_)) <;> try (exfalso; omega; done)) | (first | refine AL.gsplitB rfl rfl (fun h => ?_) (fun h => ?_) | refine AD.gsplitB rfl rfl (fun h => ?_) (fun h => ?_)) | refine Fa ?_ | refine Qb ?_ | refine Qc ?_ | refine Qd ?_ | refine Fb ?_ | refine Qe ?_ | refine Wa ?_ | refine Wb ?_ | (refine AW.ite rfl (fun h => ?_) (fun h => ?_) <;> try (exfalso; omega; done)) | refine AW.cond _ rfl (fun h => ?_) (fun h => ?_) | refine Qf ?_ | refine Qg ?_ | refine Qh ?_ | refine Qi ?_ | refine Xa ?_ | refine Xb ?_ | refine Xc ?_ | refine Xd ?_ | refine Fc ?_)
    refine Yb ?_
    (apply Le.headZ (hs := []) [] rfl)
    all_goals (try dsimp only [srcs])
    (case' hfr => (repeat' (first | refine La ?_ ?_ | exact Lc | refine Lo ?_ | refine ⟨⟨_, rfl, ?_⟩, ?_⟩ | refine ObA.box ?_ | refine ObA.frE ?_ | refine ObA.dataE ?_ | refine ARs.agg ?_ | refine ARs.tup ?_ | refine AR.b ?_ | refine AR.iE ?_ | refine AR.e ?_ | refine AR.clo' ARs.nil ?_)))
    all_goals (first | exact Ld | exact trivial | (rfl))
  · obtain ⟨i', rfl⟩ : ∃ n : Nat, i = n := ⟨i.toNat, by have := wi_iff.1 h1; omega⟩
    have hi : i' < xs.length := by have := wi_iff.1 h1; omega
    have hrow := pl_row (n := 0) hi
    rw [h1] at hI
    have hf : fpIn xs i' by' = wi by' 0 (plA xs i').d := by unfold fpIn; rw [h1]; rfl
    have hI2 := within_ac by' 0 (plA xs i').d
    rw [hf, Int.toNat_natCast]
    cases h2 : wi by' 0 (plA xs i').d
    · rw [h2] at hI2
      rw [in_no hg, if_neg (by decide), if_neg (by decide)]
      generalize plA xs i' = p at *
      obtain ⟨pf, pt, pd, pk⟩ := p
      simp only at hrow hI2
      refine AC.of_body 0 Try.func63 rfl (fun l h => absurd rfl h) (fun C hC => ?_)
      have hD : ∀ l, ¬ C.D0 l := fun l h => (hC l).1 h rfl
      simp only [startFr, Try.ntmps63, List.length_cons, List.length_nil, Nat.reduceAdd, Nat.reduceSub, List.replicate_succ, List.replicate_zero, List.cons_append, List.nil_append]
      repeat' (first | refine Qa ?_ | ((first | apply Ba | (apply Bb; (· rfl); (· rfl)) | (apply Bc; (· exact nxE)) | (apply Bd; (· rfl); (· rfl); (· exact nxE))); (· first | exact Kz rfl rfl (hE) (Aa (Ad (Ad An)) An) | exact Kz rfl rfl (hI) (Ad (Ad (Ad An))) | exact Kz rfl rfl (hI2) (Ad (Ad (Ad An))) | exact Ok.pe); (first | refine Na ?_ | refine Nb ?_)) | ((first | apply Ca | (apply Cb; (· exact nxE))); (· first | exact Ok.e0); (first | refine Nc ?_ | refine Nd ?_)) | refine Oa ?_ | refine Ob ?_ | ((first | refine Ga (fun h => ?_) (fun h => ?_) | refine AD.gsplit rfl rfl (fun h => ?_) (fun h => ?_)) <;> try (exfalso; omega; done)) | (first | refine AL.gsplitB rfl rfl (fun h => ?_) (fun h => ?_) | refine AD.gsplitB rfl rfl (fun h => ?_) (fun h => ?_)) | refine Fa ?_ | refine Qb ?_ | refine Qc ?_ | refine Qd ?_ | refine Fb ?_ | refine Qe ?_ | refine Wa ?_ | refine Wb ?_ | (refine AW.ite rfl (fun h => ?_) (fun h => ?_) <;> try (exfalso; omega; done)) | refine AW.cond _ rfl (fun h => ?_) (fun h => ?_) | refine Qf ?_ | refine Qg ?_ | refine Qh ?_ | refine Qi ?_ | refine Xa ?_ | refine Xb ?_ | refine Xc ?_ | refine Xd ?_ | refine Fc ?_)
      refine Yb ?_
      (apply Le.headZ (hs := []) [] rfl)
      all_goals (try dsimp only [srcs])
      (case' hfr => (repeat' (first | refine La ?_ ?_ | exact Lc | refine Lo ?_ | refine ⟨⟨_, rfl, ?_⟩, ?_⟩ | refine ObA.box ?_ | refine ObA.frE ?_ | refine ObA.dataE ?_ | refine ARs.agg ?_ | refine ARs.tup ?_ | refine AR.b ?_ | refine AR.iE ?_ | refine AR.e ?_ | refine AR.clo' ARs.nil ?_)))
      all_goals (first | exact Ld | exact trivial | (rfl))
    · rw [h2] at hI2
      obtain ⟨n, rfl, g1, g2, g3, g4⟩ := isEG_ok hg
      obtain ⟨_, _, ⟨g7, g8⟩, _⟩ := okPl_at g4 i' hi
      have hw := wi_iff.1 h2
      have hbc := fasterL_bc hg hi hw
      have hF := fasterGraph_ac n xs i' by' (by omega) hi ⟨g7, g8⟩ (by omega)
      have hT := cycleTime_ac n (fasterL xs i' by') (fasterL_eg hg hi hw)
      have hfl : ((fasterL xs i' by').map Pl.row).length = xs.length := by simp [fasterL]
      have e1 : (if cqC n xs true = 0 then ctR n (fasterL xs i' by') else (0, 0)) = ctR n (fasterL xs i' by') := by
        rw [in_yes]
        by_cases h : bcC n xs = 0
        · rw [if_pos h]
        · rw [if_neg h]; unfold ctR; rw [hbc, if_neg h]
      have e2 : (if cqC n xs true = 0 then bcC n (fasterL xs i' by') else cqC n xs true) = bcC n (fasterL xs i' by') := by
        rw [in_yes, hbc]; split <;> first | rfl | (symm; assumption) | skip
      rw [e1, e2]
      rw [← hfl] at hF
      clear e1 e2 hbc
      generalize fasterL xs i' by' = ys at *
      generalize plA xs i' = p at *
      obtain ⟨pf, pt, pd, pk⟩ := p
      simp only at hrow hI2
      refine AC.of_body 0 Try.func63 rfl (fun l h => absurd rfl h) (fun C hC => ?_)
      have hD : ∀ l, ¬ C.D0 l := fun l h => (hC l).1 h rfl
      simp only [startFr, Try.ntmps63, List.length_cons, List.length_nil, Nat.reduceAdd, Nat.reduceSub, List.replicate_succ, List.replicate_zero, List.cons_append, List.nil_append]
      repeat' (first | refine Qa ?_ | ((first | apply Ba | (apply Bb; (· rfl); (· rfl)) | (apply Bc; (· exact nxE)) | (apply Bd; (· rfl); (· rfl); (· exact nxE))); (· first | exact Kz rfl rfl (hE) (Aa (Ad (Ad An)) An) | exact Kz rfl rfl (hI) (Ad (Ad (Ad An))) | exact Kz rfl rfl (hI2) (Ad (Ad (Ad An))) | exact Zf rfl rfl (hT) (Sa (Sd (Sw Sn)) Sn) | exact Eo rfl rfl (hF) (Sa (Sd (Sd Sn)) (Sd (Sd Sn))) | exact Ok.pe); (first | refine Na ?_ | refine Nb ?_)) | ((first | apply Ca | (apply Cb; (· exact nxE))); (· first | exact Eo rfl rfl (hF) (Sa (Sd (Sd Sn)) (Sd (Sd Sn))) | exact Ok.e0); (first | refine Nc ?_ | refine Nd ?_)) | refine Oa ?_ | refine Ob ?_ | ((first | refine Ga (fun h => ?_) (fun h => ?_) | refine AD.gsplit rfl rfl (fun h => ?_) (fun h => ?_)) <;> try (exfalso; omega; done)) | (first | refine AL.gsplitB rfl rfl (fun h => ?_) (fun h => ?_) | refine AD.gsplitB rfl rfl (fun h => ?_) (fun h => ?_)) | refine Fa ?_ | refine Qb ?_ | refine Qc ?_ | refine Qd ?_ | refine Fb ?_ | refine Qe ?_ | refine Wa ?_ | refine Wb ?_ | (refine AW.ite rfl (fun h => ?_) (fun h => ?_) <;> try (exfalso; omega; done)) | refine AW.cond _ rfl (fun h => ?_) (fun h => ?_) | refine Qf ?_ | refine Qg ?_ | refine Qh ?_ | refine Qi ?_ | refine Xa ?_ | refine Xb ?_ | refine Xc ?_ | refine Xd ?_ | refine Fc ?_)
      refine Yb ?_
      (apply Le.headZ (hs := []) [] rfl)
      all_goals (try dsimp only [srcs])
      (case' hfr => (repeat' (first | refine La ?_ ?_ | exact Lc | refine Lo ?_ | refine ⟨⟨_, rfl, ?_⟩, ?_⟩ | refine ObA.box ?_ | refine ObA.frE ?_ | refine ObA.dataE ?_ | refine ARs.agg ?_ | refine ARs.tup ?_ | refine AR.b ?_ | refine AR.iE ?_ | refine AR.e ?_ | refine AR.clo' ARs.nil ?_)))
      all_goals (first | exact Ld | exact trivial | (rfl))
end Go.Proofs.Ytlgejkkbnpjeoaa
