/-
  Walks in the abstract reading, part 8.
-/
import Derived.Test.YtegfjedklebbfaaKfU7
import Derived.Test.YtegfjedklebbfaaKfU6
section
namespace Go.Proofs.Ytegfjedklebbfaa
set_option linter.unusedSimpArgs false
set_option linter.unusedVariables false
open Go Go.RowKit
attribute [local irreducible] AL AD AW OpOk Le AC thenQ blockQ EndQ

theorem isEG_set {ev : Int} {xs : List Pl} {i : Nat} {p : Pl} (h : isEG ev xs = true) (hp : plB (ev - 1) p = true) : isEG ev (xs.set i p) = true := by
  simp only [isEG, Bool.and_eq_true, decide_eq_true_eq, List.all_eq_true, List.length_set] at h ⊢
  refine ⟨h.1, fun q hq => ?_⟩
  rcases List.mem_or_eq_of_mem_set hq with h1 | rfl
  · exact h.2 q h1
  · exact hp
theorem fold_set {β : Type} {f : β → Pl → β} {p q : Pl} (h : ∀ b, f b p = f b q) : ∀ {xs : List Pl} {i : Nat} {b : β}, xs[i]? = some q → (xs.set i p).foldl f b = xs.foldl f b
  | [], i, b, h1 => by simp at h1
  | x :: xs, 0, b, h1 => by simp at h1; subst h1; simp [h]
  | x :: xs, i + 1, b, h1 => by simp at h1; simp [fold_set h h1]
theorem plA_set {xs : List Pl} {i : Nat} {p : Pl} (hi : i < xs.length) (j : Nat) : plA (xs.set i p) j = if j = i then p else plA xs j := by
  unfold plA
  rw [List.getElem?_set]
  by_cases h : i = j
  · subst h; simp [hi]
  · rw [if_neg h, if_neg (Ne.symm h)]
theorem Wk.same {xs ys : List Pl} (hl : ys.length = xs.length) (h : ∀ i, (plA ys i).f = (plA xs i).f ∧ (plA ys i).t = (plA xs i).t) : ∀ {c : List Nat} {u v : Int}, Wk xs u c v → Wk ys u c v
  | [], _, _, hw => hw
  | i :: c, u, v, ⟨h1, h2, h3⟩ => ⟨by omega, by rw [(h i).1]; exact h2, by rw [(h i).2]; exact Wk.same hl h h3⟩
theorem Circ.same {xs ys : List Pl} (hl : ys.length = xs.length) (h : ∀ i, (plA ys i).f = (plA xs i).f ∧ (plA ys i).t = (plA xs i).t) {c : List Nat} (hc : Circ xs c) : Circ ys c := by
  have e : (c.map fun i => (plA ys i).f) = c.map fun i => (plA xs i).f := List.map_congr_left fun i _ => (h i).1
  refine ⟨hc.ne, ?_, by rw [e]; exact hc.nd, fun i hi => ?_⟩
  · have := hc.wk.same hl h
    simp only [firstF] at this ⊢
    rw [(h (hdN c)).1]
    exact this
  · have := hc.mn i hi
    simp only [firstF] at this ⊢
    rw [(h (hdN c)).1, (h i).1]
    exact this
theorem hasC_same {xs ys : List Pl} (hl : ys.length = xs.length) (h : ∀ i, (plA ys i).f = (plA xs i).f ∧ (plA ys i).t = (plA xs i).t) : hasC ys ↔ hasC xs :=
  ⟨fun ⟨c, hc⟩ => ⟨c, hc.same hl.symm fun i => ⟨(h i).1.symm, (h i).2.symm⟩⟩, fun ⟨c, hc⟩ => ⟨c, hc.same hl h⟩⟩
theorem fasterL_same {xs : List Pl} {i : Nat} {b : Int} (hi : i < xs.length) (j : Nat) : (plA (fasterL xs i b) j).f = (plA xs j).f ∧ (plA (fasterL xs i b) j).t = (plA xs j).t := by
  unfold fasterL
  rw [plA_set hi]
  split
  · rename_i e; subst e; exact ⟨rfl, rfl⟩
  · exact ⟨rfl, rfl⟩
theorem plB_at {ev : Int} {xs : List Pl} {i : Nat} (h : isEG ev xs = true) (hi : i < xs.length) : plB (ev - 1) (plA xs i) = true := by
  simp only [isEG, Bool.and_eq_true, List.all_eq_true] at h
  have e : plA xs i = xs[i] := by simp [plA, hi]
  rw [e]
  exact h.2 _ (List.getElem_mem hi)
theorem fasterL_eg {ev : Int} {xs : List Pl} {i : Nat} {b : Int} (h : isEG ev xs = true) (hi : i < xs.length) (hb : 0 ≤ b ∧ b ≤ (plA xs i).d) : isEG ev (fasterL xs i b) = true := by
  refine isEG_set h ?_
  have hp := plB_at h hi
  simp only [plB, Bool.and_eq_true, wi_iff] at hp ⊢
  omega
theorem moreL_eg {ev : Int} {xs : List Pl} {i : Nat} (h : isEG ev xs = true) (hi : i < xs.length) (hk : (plA xs i).k ≠ 5) : isEG ev (moreL xs i) = true := by
  refine isEG_set h ?_
  have hp := plB_at h hi
  simp only [plB, Bool.and_eq_true, wi_iff] at hp ⊢
  omega
theorem fasterL_live {ev : Int} {xs : List Pl} {i : Nat} {b : Int} (hi : i < xs.length) : liveB ev (fasterL xs i b) = liveB ev xs := by
  unfold liveB deadC freeT fasterL
  rw [fold_set (f := freeS) (p := ⟨(plA xs i).f, (plA xs i).t, max 0 ((plA xs i).d - b), (plA xs i).k⟩) (q := plA xs i) (fun t => rfl) (by simp [plA, hi])]
theorem fasterL_bc {ev : Int} {xs : List Pl} {i : Nat} {b : Int} (h : isEG ev xs = true) (hi : i < xs.length) (hb : 0 ≤ b ∧ b ≤ (plA xs i).d) : bcC ev (fasterL xs i b) = bcC ev xs := by
  have h2 := hasC_same (xs := xs) (ys := fasterL xs i b) fasterL_len (fasterL_same hi)
  have e : liveI ev (fasterL xs i b) = liveI ev xs := by unfold liveI; rw [fasterL_eg h hi hb, h, fasterL_live hi]
  unfold bcC
  rw [e]
  by_cases h3 : hasC xs
  · rw [if_pos h3, if_pos (h2.2 h3)]
  · rw [if_neg h3, if_neg (fun h4 => h3 (h2.1 h4))]
set_option maxHeartbeats 1000000 in
theorem fasterGraph_ac (ev : Int) (xs : List Pl) (i : Nat) (by' : Int) (hn : xs.length ≤ 1048576) (hi : i < xs.length) (hd : 0 ≤ (plA xs i).d ∧ (plA xs i).d ≤ 10000) (hb : -10000 ≤ by' ∧ by' ≤ 10000) : AC Try.prog 114 [grD ev xs, I i, I by'] H0 (.agg [I ev, own1 4 xs.length]) (hp1 (dobj 4 ((fasterL xs i by').map Pl.row))) := by
  have hO := cloneGraph_ac ev xs hn
  have hr := ownPl_row hi
  unfold fasterL
  have hs := ownPl_set (xs := xs) (i := i) (p := ⟨(plA xs i).f, (plA xs i).t, max 0 ((plA xs i).d - by'), (plA xs i).k⟩)
  simp only at hs
  have hl : (dobj 4 (xs.map Pl.row)).rows.length = xs.length := by simp [dobj]
  generalize plA xs i = p at *
  obtain ⟨pf, pt, pd, pk⟩ := p
  simp only at hr hs hd
  refine AC.of_body 0 Try.func114 rfl (fun l h => absurd rfl h) (fun C hC => ?_)
  have hD : ∀ l, ¬ C.D0 l := fun l h => (hC l).1 h rfl
  simp only [startFr, Try.ntmps114, List.length_cons, List.length_nil, Nat.reduceAdd, Nat.reduceSub, List.replicate_succ, List.replicate_zero, List.cons_append, List.nil_append]
  repeat' (first | ((first | apply Ba | (apply Bb; (· rfl); (· rfl)) | (apply Bc; (· exact nxE)) | (apply Bd; (· rfl); (· rfl); (· exact nxE))); (· first | exact OpOk.loadCell rfl rfl rfl rfl hr rfl | exact Eo rfl rfl (hO) (Sa (Sd (Sd Sn)) Sn) | exact Ok.storeC rfl rfl rfl rfl hr (by simp only [List.length_cons, List.length_nil, Nat.reduceAdd, Nat.reduceLT]) (by conv => lhs; whnf) (by rfl) (by rfl) hs | exact Ok.pe)) | ((first | apply Ca | (apply Cb; (· exact nxE))); (· first | exact Eo rfl rfl (hO) (Sa (Sd (Sd Sn)) Sn) | exact Ok.storeC rfl rfl rfl rfl hr (by simp only [List.length_cons, List.length_nil, Nat.reduceAdd, Nat.reduceLT]) (by conv => lhs; whnf) (by rfl) (by rfl) hs | exact Ok.e0)) | refine Sx ?_ | (refine Sy (fun h => ?_) (fun h => ?_) <;> try (exfalso; omega; done)) | refine Sz (fun h => ?_) (fun h => ?_))
  refine Ya ?_
  (apply Le.head [(⟨0, []⟩, _, _)])
  (case' hfr | hob => (repeat' (first | refine La ?_ ?_ | exact Lc | refine Lo ?_ | refine ⟨⟨_, rfl, ?_⟩, ?_⟩ | refine Lx ?_)))
  all_goals (first | exact Ld | (rfl))
theorem eg_no {ev : Int} {xs : List Pl} {b : Bool} (h : isEG ev xs = false) : cqC ev xs b = 1 := by
  have h1 : liveI ev xs = 1 := by unfold liveI; rw [h]; rfl
  unfold cqC codeI
  rw [h1]; simp
theorem in_no {ev : Int} {xs : List Pl} (h : isEG ev xs = true) : cqC ev xs false = 2 := by
  have h1 : liveI ev xs ≠ 1 := by unfold liveI; rw [if_pos h]; split <;> decide
  unfold cqC codeI
  rw [if_neg (by simp [h1])]; simp [h1]
theorem in_yes {ev : Int} {xs : List Pl} : cqC ev xs true = bcC ev xs := by
  unfold cqC codeI
  simp only [Bool.true_eq_false, and_false, if_false]
  by_cases h : liveI ev xs = 0
  · rw [if_pos h]
  · rw [if_neg h]; unfold bcC; rw [if_neg h]
set_option maxHeartbeats 2000000 in
theorem iFasterPlace_ac (ev : Int) (xs : List Pl) (i by' : Int) (hx : xs.length ≤ 100000000) : AC Try.prog 15 [grD ev xs, I i, I by'] H0 (.tup [.agg [I (fpR ev xs i by').1, I (fpR ev xs i by').2], I (fpC ev xs i by')]) H0 := by
  have hE := iIsEventGraph_ac ev xs hx
  have hI := within_ac i 0 ((xs.length : Int) - 1)
  unfold fpR fpC
  cases hg : isEG ev xs
  · rw [eg_no hg, if_neg (by decide), if_neg (by decide)]
    rw [hg] at hE
    refine AC.of_body 0 Try.func15 rfl (fun l h => absurd rfl h) (fun C hC => ?_)
    have hD : ∀ l, ¬ C.D0 l := fun l h => (hC l).1 h rfl
    simp only [startFr, Try.ntmps15, List.length_cons, List.length_nil, Nat.reduceAdd, Nat.reduceSub, List.replicate_succ, List.replicate_zero, List.cons_append, List.nil_append]
    repeat' (first | ((first | apply Ba | (apply Bb; (· rfl); (· rfl)) | (apply Bc; (· exact nxE)) | (apply Bd; (· rfl); (· rfl); (· exact nxE))); (· first | exact Kz rfl rfl (hE) (Aa (Ad (Ad An)) An) | exact Ok.pe)) | ((first | apply Ca | (apply Cb; (· exact nxE))); (· first | exact Ok.e0)) | refine Sx ?_ | (refine Sy (fun h => ?_) (fun h => ?_) <;> try (exfalso; omega; done)) | refine Sz (fun h => ?_) (fun h => ?_))
    refine Yb ?_
    (apply Le.headZ (hs := []) [] rfl)
    all_goals (try dsimp only [srcs])
    (case' hfr => (repeat' (first | refine La ?_ ?_ | exact Lc | refine Lo ?_ | refine ⟨⟨_, rfl, ?_⟩, ?_⟩ | refine Lx ?_)))
    all_goals (first | exact Ld | exact trivial | (rfl))
  rw [hg] at hE
  cases h1 : wi i 0 ((xs.length : Int) - 1)
  · have hf : fpIn xs i by' = false := by unfold fpIn; rw [h1]; rfl
    rw [hf, in_no hg, if_neg (by decide), if_neg (by decide)]
    rw [h1] at hI
    refine AC.of_body 0 Try.func15 rfl (fun l h => absurd rfl h) (fun C hC => ?_)
    have hD : ∀ l, ¬ C.D0 l := fun l h => (hC l).1 h rfl
    simp only [startFr, Try.ntmps15, List.length_cons, List.length_nil, Nat.reduceAdd, Nat.reduceSub, List.replicate_succ, List.replicate_zero, List.cons_append, List.nil_append]
    repeat' (first | ((first | apply Ba | (apply Bb; (· rfl); (· rfl)) | (apply Bc; (· exact nxE)) | (apply Bd; (· rfl); (· rfl); (· exact nxE))); (· first | exact Kz rfl rfl (hE) (Aa (Ad (Ad An)) An) | exact Kz rfl rfl (hI) (Ad (Ad (Ad An))) | exact Ok.pe)) | ((first | apply Ca | (apply Cb; (· exact nxE))); (· first | exact Ok.e0)) | refine Sx ?_ | (refine Sy (fun h => ?_) (fun h => ?_) <;> try (exfalso; omega; done)) | refine Sz (fun h => ?_) (fun h => ?_))
    refine Yb ?_
    (apply Le.headZ (hs := []) [] rfl)
    all_goals (try dsimp only [srcs])
    (case' hfr => (repeat' (first | refine La ?_ ?_ | exact Lc | refine Lo ?_ | refine ⟨⟨_, rfl, ?_⟩, ?_⟩ | refine Lx ?_)))
    all_goals (first | exact Ld | exact trivial | (rfl))
  · obtain ⟨i', rfl⟩ : ∃ n : Nat, i = n := ⟨i.toNat, by have := wi_iff.1 h1; omega⟩
    have hi : i' < xs.length := by have := wi_iff.1 h1; omega
    have hrow := pl_row (n := 0) hi
    rw [h1] at hI
    have hf : fpIn xs i' by' = wi by' 0 (plA xs i').d := by unfold fpIn; rw [h1]; rfl
    have hI2 := within_ac by' 0 (plA xs i').d
    rw [hf, Int.toNat_natCast]
    cases h2 : wi by' 0 (plA xs i').d
    · rw [h2] at hI2
      rw [in_no hg, if_neg (by decide), if_neg (by decide)]
      generalize plA xs i' = p at *
      obtain ⟨pf, pt, pd, pk⟩ := p
      simp only at hrow hI2
      refine AC.of_body 0 Try.func15 rfl (fun l h => absurd rfl h) (fun C hC => ?_)
      have hD : ∀ l, ¬ C.D0 l := fun l h => (hC l).1 h rfl
      simp only [startFr, Try.ntmps15, List.length_cons, List.length_nil, Nat.reduceAdd, Nat.reduceSub, List.replicate_succ, List.replicate_zero, List.cons_append, List.nil_append]
      repeat' (first | ((first | apply Ba | (apply Bb; (· rfl); (· rfl)) | (apply Bc; (· exact nxE)) | (apply Bd; (· rfl); (· rfl); (· exact nxE))); (· first | exact Kz rfl rfl (hE) (Aa (Ad (Ad An)) An) | exact Kz rfl rfl (hI) (Ad (Ad (Ad An))) | exact Kz rfl rfl (hI2) (Ad (Ad (Ad An))) | exact Ok.pe)) | ((first | apply Ca | (apply Cb; (· exact nxE))); (· first | exact Ok.e0)) | refine Sx ?_ | (refine Sy (fun h => ?_) (fun h => ?_) <;> try (exfalso; omega; done)) | refine Sz (fun h => ?_) (fun h => ?_))
      refine Yb ?_
      (apply Le.headZ (hs := []) [] rfl)
      all_goals (try dsimp only [srcs])
      (case' hfr => (repeat' (first | refine La ?_ ?_ | exact Lc | refine Lo ?_ | refine ⟨⟨_, rfl, ?_⟩, ?_⟩ | refine Lx ?_)))
      all_goals (first | exact Ld | exact trivial | (rfl))
    · rw [h2] at hI2
      obtain ⟨n, rfl, g1, g2, g3, g4⟩ := isEG_ok hg
      obtain ⟨_, _, ⟨g7, g8⟩, _⟩ := okPl_at g4 i' hi
      have hw := wi_iff.1 h2
      have hbc := fasterL_bc hg hi hw
      have hF := fasterGraph_ac n xs i' by' (by omega) hi ⟨g7, g8⟩ (by omega)
      have hT := cycleTime_ac n (fasterL xs i' by') (fasterL_eg hg hi hw)
      have hfl : ((fasterL xs i' by').map Pl.row).length = xs.length := by simp [fasterL]
      have e1 : (if cqC n xs true = 0 then ctR n (fasterL xs i' by') else (0, 0)) = ctR n (fasterL xs i' by') := by
        rw [in_yes]
        by_cases h : bcC n xs = 0
        · rw [if_pos h]
        · rw [if_neg h]; unfold ctR; rw [hbc, if_neg h]
      have e2 : (if cqC n xs true = 0 then bcC n (fasterL xs i' by') else cqC n xs true) = bcC n (fasterL xs i' by') := by
        rw [in_yes, hbc]; split <;> first | rfl | (symm; assumption) | skip
      rw [e1, e2]
      rw [← hfl] at hF
      clear e1 e2 hbc
      generalize fasterL xs i' by' = ys at *
      generalize plA xs i' = p at *
      obtain ⟨pf, pt, pd, pk⟩ := p
      simp only at hrow hI2
      refine AC.of_body 0 Try.func15 rfl (fun l h => absurd rfl h) (fun C hC => ?_)
      have hD : ∀ l, ¬ C.D0 l := fun l h => (hC l).1 h rfl
      simp only [startFr, Try.ntmps15, List.length_cons, List.length_nil, Nat.reduceAdd, Nat.reduceSub, List.replicate_succ, List.replicate_zero, List.cons_append, List.nil_append]
      repeat' (first | ((first | apply Ba | (apply Bb; (· rfl); (· rfl)) | (apply Bc; (· exact nxE)) | (apply Bd; (· rfl); (· rfl); (· exact nxE))); (· first | exact Kz rfl rfl (hE) (Aa (Ad (Ad An)) An) | exact Kz rfl rfl (hI) (Ad (Ad (Ad An))) | exact Kz rfl rfl (hI2) (Ad (Ad (Ad An))) | exact Zf rfl rfl (hT) (Sa (Sd (Sw Sn)) Sn) | exact Eo rfl rfl (hF) (Sa (Sd (Sd Sn)) (Sd (Sd Sn))) | exact Ok.pe)) | ((first | apply Ca | (apply Cb; (· exact nxE))); (· first | exact Eo rfl rfl (hF) (Sa (Sd (Sd Sn)) (Sd (Sd Sn))) | exact Ok.e0)) | refine Sx ?_ | (refine Sy (fun h => ?_) (fun h => ?_) <;> try (exfalso; omega; done)) | refine Sz (fun h => ?_) (fun h => ?_))
      refine Yb ?_
      (apply Le.headZ (hs := []) [] rfl)
      all_goals (try dsimp only [srcs])
      (case' hfr => (repeat' (first | refine La ?_ ?_ | exact Lc | refine Lo ?_ | refine ⟨⟨_, rfl, ?_⟩, ?_⟩ | refine Lx ?_)))
      all_goals (first | exact Ld | exact trivial | (rfl))
set_option maxHeartbeats 2000000 in
theorem iMoreTokens_ac (ev : Int) (xs : List Pl) (i : Int) (hx : xs.length ≤ 100000000) : AC Try.prog 21 [grD ev xs, I i] H0 (.tup [.agg [I (mtR ev xs i).1, I (mtR ev xs i).2], I (mtC ev xs i)]) H0 := by
  have hE := iIsEventGraph_ac ev xs hx
  have hI := within_ac i 0 ((xs.length : Int) - 1)
  unfold mtR mtC
  cases hg : isEG ev xs
  · rw [eg_no hg, if_neg (by decide), if_neg (by decide)]
    rw [hg] at hE
    refine AC.of_body 0 Try.func21 rfl (fun l h => absurd rfl h) (fun C hC => ?_)
    have hD : ∀ l, ¬ C.D0 l := fun l h => (hC l).1 h rfl
    simp only [startFr, Try.ntmps21, List.length_cons, List.length_nil, Nat.reduceAdd, Nat.reduceSub, List.replicate_succ, List.replicate_zero, List.cons_append, List.nil_append]
    repeat' (first | ((first | apply Ba | (apply Bb; (· rfl); (· rfl)) | (apply Bc; (· exact nxE)) | (apply Bd; (· rfl); (· rfl); (· exact nxE))); (· first | exact Kz rfl rfl (hE) (Aa (Ad (Ad An)) An) | exact Ok.pe)) | ((first | apply Ca | (apply Cb; (· exact nxE))); (· first | exact Ok.e0)) | refine Sx ?_ | (refine Sy (fun h => ?_) (fun h => ?_) <;> try (exfalso; omega; done)) | refine Sz (fun h => ?_) (fun h => ?_))
    refine Yb ?_
    (apply Le.headZ (hs := []) [] rfl)
    all_goals (try dsimp only [srcs])
    (case' hfr => (repeat' (first | refine La ?_ ?_ | exact Lc | refine Lo ?_ | refine ⟨⟨_, rfl, ?_⟩, ?_⟩ | refine Lx ?_)))
    all_goals (first | exact Ld | exact trivial | (rfl))
  rw [hg] at hE
  cases h1 : wi i 0 ((xs.length : Int) - 1)
  · rw [in_no hg, if_neg (by decide), if_neg (by decide)]
    rw [h1] at hI
    refine AC.of_body 0 Try.func21 rfl (fun l h => absurd rfl h) (fun C hC => ?_)
    have hD : ∀ l, ¬ C.D0 l := fun l h => (hC l).1 h rfl
    simp only [startFr, Try.ntmps21, List.length_cons, List.length_nil, Nat.reduceAdd, Nat.reduceSub, List.replicate_succ, List.replicate_zero, List.cons_append, List.nil_append]
    repeat' (first | ((first | apply Ba | (apply Bb; (· rfl); (· rfl)) | (apply Bc; (· exact nxE)) | (apply Bd; (· rfl); (· rfl); (· exact nxE))); (· first | exact Kz rfl rfl (hE) (Aa (Ad (Ad An)) An) | exact Kz rfl rfl (hI) (Ad (Ad (Ad An))) | exact Ok.pe)) | ((first | apply Ca | (apply Cb; (· exact nxE))); (· first | exact Ok.e0)) | refine Sx ?_ | (refine Sy (fun h => ?_) (fun h => ?_) <;> try (exfalso; omega; done)) | refine Sz (fun h => ?_) (fun h => ?_))
    refine Yb ?_
    (apply Le.headZ (hs := []) [] rfl)
    all_goals (try dsimp only [srcs])
    (case' hfr => (repeat' (first | refine La ?_ ?_ | exact Lc | refine Lo ?_ | refine ⟨⟨_, rfl, ?_⟩, ?_⟩ | refine Lx ?_)))
    all_goals (first | exact Ld | exact trivial | (rfl))
  · rw [in_yes]
    rw [h1] at hI
    obtain ⟨i', rfl⟩ : ∃ n : Nat, i = n := ⟨i.toNat, by have := wi_iff.1 h1; omega⟩
    have hi : i' < xs.length := by have := wi_iff.1 h1; omega
    have hrow := pl_row (n := 0) hi
    obtain ⟨n, rfl, g1, g2, g3, g4⟩ := isEG_ok hg
    have hCt := cycleTime_ac n xs hg
    by_cases hc : bcC n xs = 0
    · rw [if_pos hc, if_pos hc]
      rw [hc] at hCt
      obtain ⟨_, _, ⟨g7, g8⟩, ⟨g9, g10⟩⟩ := okPl_at g4 i' hi
      have hO := cloneGraph_ac n xs (by omega)
      have hr := ownPl_row hi
      have hs := ownPl_set (xs := xs) (i := i') (p := ⟨(plA xs i').f, (plA xs i').t, (plA xs i').d, (plA xs i').k + 1⟩)
      have hT := fun h => cycleTime_ac n (moreL xs i') (moreL_eg hg hi h)
      have hfl : ((moreL xs i').map Pl.row).length = xs.length := by simp [moreL]
      rw [Int.toNat_natCast]
      unfold moreL at *
      generalize hys : xs.set i' ⟨(plA xs i').f, (plA xs i').t, (plA xs i').d, (plA xs i').k + 1⟩ = ys at *
      clear hys
      rw [← hfl] at hO
      generalize plA xs i' = p at *
      obtain ⟨pf, pt, pd, pk⟩ := p
      simp only at hrow hr hs g7 g8 g9 g10 hT ⊢
      generalize ctR n xs = cr at hCt
      by_cases h5 : pk = 5
      · rw [if_pos h5, if_pos h5]
        subst h5
        refine AC.of_body 0 Try.func21 rfl (fun l h => absurd rfl h) (fun C hC => ?_)
        have hD : ∀ l, ¬ C.D0 l := fun l h => (hC l).1 h rfl
        simp only [startFr, Try.ntmps21, List.length_cons, List.length_nil, Nat.reduceAdd, Nat.reduceSub, List.replicate_succ, List.replicate_zero, List.cons_append, List.nil_append]
        repeat' (first | ((first | apply Ba | (apply Bb; (· rfl); (· rfl)) | (apply Bc; (· exact nxE)) | (apply Bd; (· rfl); (· rfl); (· exact nxE))); (· first | exact Kz rfl rfl (hE) (Aa (Ad (Ad An)) An) | exact Kz rfl rfl (hI) (Ad (Ad (Ad An))) | exact Kz rfl rfl (hCt) (Aa (Ad (Ad An)) An) | exact Ok.pe)) | ((first | apply Ca | (apply Cb; (· exact nxE))); (· first | exact Ok.e0)) | refine Sx ?_ | (refine Sy (fun h => ?_) (fun h => ?_) <;> try (exfalso; omega; done)) | refine Sz (fun h => ?_) (fun h => ?_))
        refine Yb ?_
        (apply Le.headZ (hs := []) [] rfl)
        all_goals (try dsimp only [srcs])
        (case' hfr => (repeat' (first | refine La ?_ ?_ | exact Lc | refine Lo ?_ | refine ⟨⟨_, rfl, ?_⟩, ?_⟩ | refine Lx ?_)))
        all_goals (first | exact Ld | exact trivial | (rfl))
      · rw [if_neg h5, if_neg h5]
        have hT := hT h5
        have hQ := hCt
        refine AC.of_body 0 Try.func21 rfl (fun l h => absurd rfl h) (fun C hC => ?_)
        have hD : ∀ l, ¬ C.D0 l := fun l h => (hC l).1 h rfl
        simp only [startFr, Try.ntmps21, List.length_cons, List.length_nil, Nat.reduceAdd, Nat.reduceSub, List.replicate_succ, List.replicate_zero, List.cons_append, List.nil_append]
        repeat' (first | ((first | apply Ba | (apply Bb; (· rfl); (· rfl)) | (apply Bc; (· exact nxE)) | (apply Bd; (· rfl); (· rfl); (· exact nxE))); (· first | exact Kz rfl rfl (hE) (Aa (Ad (Ad An)) An) | exact Kz rfl rfl (hI) (Ad (Ad (Ad An))) | exact Kz rfl rfl (hQ) (Aa (Ad (Ad An)) An) | exact OpOk.loadCell rfl rfl rfl rfl hr rfl | exact Zf rfl rfl (hT) (Sa (Sd (Sw Sn)) Sn) | exact Eo rfl rfl (hO) (Sa (Sd (Sd Sn)) Sn) | exact Ok.storeC rfl rfl rfl rfl hr (by simp only [List.length_cons, List.length_nil, Nat.reduceAdd, Nat.reduceLT]) (by conv => lhs; whnf) (by rfl) (by rfl) hs | exact Ok.pe)) | ((first | apply Ca | (apply Cb; (· exact nxE))); (· first | exact Eo rfl rfl (hO) (Sa (Sd (Sd Sn)) Sn) | exact Ok.storeC rfl rfl rfl rfl hr (by simp only [List.length_cons, List.length_nil, Nat.reduceAdd, Nat.reduceLT]) (by conv => lhs; whnf) (by rfl) (by rfl) hs | exact Ok.e0)) | refine Sx ?_ | (refine Sy (fun h => ?_) (fun h => ?_) <;> try (exfalso; omega; done)) | refine Sz (fun h => ?_) (fun h => ?_))
        refine Yb ?_
        (apply Le.headZ (hs := []) [] rfl)
        all_goals (try dsimp only [srcs])
        (case' hfr => (repeat' (first | refine La ?_ ?_ | exact Lc | refine Lo ?_ | refine ⟨⟨_, rfl, ?_⟩, ?_⟩ | refine Lx ?_)))
        all_goals (first | exact Ld | exact trivial | (rfl))
    · rw [if_neg hc, if_neg hc]
      have hQ := hCt
      generalize ctR n xs = cr at hQ
      generalize bcC n xs = bc at *
      refine AC.of_body 0 Try.func21 rfl (fun l h => absurd rfl h) (fun C hC => ?_)
      have hD : ∀ l, ¬ C.D0 l := fun l h => (hC l).1 h rfl
      simp only [startFr, Try.ntmps21, List.length_cons, List.length_nil, Nat.reduceAdd, Nat.reduceSub, List.replicate_succ, List.replicate_zero, List.cons_append, List.nil_append]
      repeat' (first | ((first | apply Ba | (apply Bb; (· rfl); (· rfl)) | (apply Bc; (· exact nxE)) | (apply Bd; (· rfl); (· rfl); (· exact nxE))); (· first | exact Kz rfl rfl (hE) (Aa (Ad (Ad An)) An) | exact Kz rfl rfl (hI) (Ad (Ad (Ad An))) | exact Kz rfl rfl (hQ) (Aa (Ad (Ad An)) An) | exact Ok.pe)) | ((first | apply Ca | (apply Cb; (· exact nxE))); (· first | exact Ok.e0)) | refine Sx ?_ | (refine Sy (fun h => ?_) (fun h => ?_) <;> try (exfalso; omega; done)) | refine Sz (fun h => ?_) (fun h => ?_))
      refine Yb ?_
      (apply Le.headZ (hs := []) [] rfl)
      all_goals (try dsimp only [srcs])
      (case' hfr => (repeat' (first | refine La ?_ ?_ | exact Lc | refine Lo ?_ | refine ⟨⟨_, rfl, ?_⟩, ?_⟩ | refine Lx ?_)))
      all_goals (first | exact Ld | exact trivial | (rfl))
end Go.Proofs.Ytegfjedklebbfaa
end

section
namespace Go.Proofs.Ytegfjedklebbfaa
set_option linter.unusedSimpArgs false
set_option linter.unusedVariables false
open Go Go.RowKit
attribute [local irreducible] AL AD AW OpOk Le AC thenQ blockQ EndQ

def cmpI (x y : Int) : Int := if x < y then -1 else if y < x then 1 else 0
def crI (a b : Int × Int) : Int := cmpI (a.1 * b.2) (b.1 * a.2)
/-- Ratios whose products fit. -/
def smallR (a : Int × Int) : Prop := (0 ≤ a.1 ∧ a.1 ≤ 1000000) ∧ (0 ≤ a.2 ∧ a.2 ≤ 1000000)
theorem smallR.mul {a b : Int × Int} (h : smallR a) (k : smallR b) : (0 ≤ a.1 * b.2 ∧ a.1 * b.2 ≤ 1000000000000) ∧ (0 ≤ b.1 * a.2 ∧ b.1 * a.2 ≤ 1000000000000) :=
  ⟨mul_in h.1 k.2, mul_in k.1 h.2⟩
theorem l01Compare_ac (a b : Int × Int) (ha : smallR a) (hb : smallR b) : AC Try.prog 122 [.agg [I a.1, I a.2], .agg [I b.1, I b.2]] H0 (I (crI a b)) H0 := by
  obtain ⟨h1, h2⟩ := ha.mul hb
  unfold crI cmpI
  obtain ⟨a1, a2⟩ := a
  obtain ⟨b1, b2⟩ := b
  simp only at h1 h2 ⊢
  refine AC.of_body 0 Try.func122 rfl (fun l h => absurd rfl h) (fun C hC => ?_)
  have hD : ∀ l, ¬ C.D0 l := fun l h => (hC l).1 h rfl
  simp only [startFr, Try.ntmps122, List.length_cons, List.length_nil, Nat.reduceAdd, Nat.reduceSub, List.replicate_succ, List.replicate_zero, List.cons_append, List.nil_append]
  repeat' (first | ((first | apply Ba | (apply Bb; (· rfl); (· rfl)) | (apply Bc; (· exact nxE)) | (apply Bd; (· rfl); (· rfl); (· exact nxE))); (· first | exact Ok.pe)) | ((first | apply Ca | (apply Cb; (· exact nxE))); (· first | exact Ok.e0)) | refine Sx ?_ | (refine Sy (fun h => ?_) (fun h => ?_) <;> try (exfalso; omega; done)) | refine Sz (fun h => ?_) (fun h => ?_))
  all_goals first
    | (rw [if_pos (by omega)]
       refine Ya ?_
       (apply Le.headZ (hs := []) [] rfl)
       all_goals (try dsimp only [srcs])
       (case' hfr => (repeat' (first | refine La ?_ ?_ | exact Lc | refine Lo ?_ | refine ⟨⟨_, rfl, ?_⟩, ?_⟩ | refine Lx ?_)))
       all_goals (first | exact Ld | exact trivial | (rfl))
       done)
    | (rw [if_neg (by omega), if_pos (by omega)]
       refine Ya ?_
       (apply Le.headZ (hs := []) [] rfl)
       all_goals (try dsimp only [srcs])
       (case' hfr => (repeat' (first | refine La ?_ ?_ | exact Lc | refine Lo ?_ | refine ⟨⟨_, rfl, ?_⟩, ?_⟩ | refine Lx ?_)))
       all_goals (first | exact Ld | exact trivial | (rfl))
       done)
    | (rw [if_neg (by omega), if_neg (by omega)]
       refine Ya ?_
       (apply Le.headZ (hs := []) [] rfl)
       all_goals (try dsimp only [srcs])
       (case' hfr => (repeat' (first | refine La ?_ ?_ | exact Lc | refine Lo ?_ | refine ⟨⟨_, rfl, ?_⟩, ?_⟩ | refine Lx ?_)))
       all_goals (first | exact Ld | exact trivial | (rfl))
       done)
theorem isNaN_ac (x : Int) : AC Try.prog 259 [I x] H0 (Bo false) H0 := by
  refine AC.of_body 0 Try.func259 rfl (fun l h => absurd rfl h) (fun C hC => ?_)
  have hD : ∀ l, ¬ C.D0 l := fun l h => (hC l).1 h rfl
  simp only [startFr, Try.ntmps259, List.length_cons, List.length_nil, Nat.reduceAdd, Nat.reduceSub, List.replicate_succ, List.replicate_zero, List.cons_append, List.nil_append]
  repeat' (first | ((first | apply Ba | (apply Bb; (· rfl); (· rfl)) | (apply Bc; (· exact nxE)) | (apply Bd; (· rfl); (· rfl); (· exact nxE))); (· first | exact Ok.pe)) | ((first | apply Ca | (apply Cb; (· exact nxE))); (· first | exact Ok.e0)) | refine Sx ?_ | (refine Sy (fun h => ?_) (fun h => ?_) <;> try (exfalso; omega; done)) | refine Sz (fun h => ?_) (fun h => ?_))
  refine Ya ?_
  (apply Le.headZ (hs := []) [] rfl)
  all_goals (try dsimp only [srcs])
  (case' hfr => (repeat' (first | refine La ?_ ?_ | exact Lc | refine Lo ?_ | refine ⟨⟨_, rfl, ?_⟩, ?_⟩ | refine Lx ?_)))
  all_goals (first | exact Ld | exact trivial | ((simp; done)))
theorem compareI_ac (x y : Int) : AC Try.prog 212 [I x, I y] H0 (I (cmpI x y)) H0 := by
  unfold cmpI
  refine AC.of_body 0 Try.func212 rfl (fun l h => absurd rfl h) (fun C hC => ?_)
  have hD : ∀ l, ¬ C.D0 l := fun l h => (hC l).1 h rfl
  simp only [startFr, Try.ntmps212, List.length_cons, List.length_nil, Nat.reduceAdd, Nat.reduceSub, List.replicate_succ, List.replicate_zero, List.cons_append, List.nil_append]
  repeat' (first | ((first | apply Ba | (apply Bb; (· rfl); (· rfl)) | (apply Bc; (· exact nxE)) | (apply Bd; (· rfl); (· rfl); (· exact nxE))); (· first | exact Kz rfl rfl (isNaN_ac _) (Ad An) | exact Ok.pe)) | ((first | apply Ca | (apply Cb; (· exact nxE))); (· first | exact Ok.e0)) | refine Sx ?_ | (refine Sy (fun h => ?_) (fun h => ?_) <;> try (exfalso; omega; done)) | refine Sz (fun h => ?_) (fun h => ?_))
  all_goals first
    | (rw [if_pos (by omega)]
       refine Ya ?_
       (apply Le.headZ (hs := []) [] rfl)
       all_goals (try dsimp only [srcs])
       (case' hfr => (repeat' (first | refine La ?_ ?_ | exact Lc | refine Lo ?_ | refine ⟨⟨_, rfl, ?_⟩, ?_⟩ | refine Lx ?_)))
       all_goals (first | exact Ld | exact trivial | (rfl))
       done)
    | (rw [if_neg (by omega), if_pos (by omega)]
       refine Ya ?_
       (apply Le.headZ (hs := []) [] rfl)
       all_goals (try dsimp only [srcs])
       (case' hfr => (repeat' (first | refine La ?_ ?_ | exact Lc | refine Lo ?_ | refine ⟨⟨_, rfl, ?_⟩, ?_⟩ | refine Lx ?_)))
       all_goals (first | exact Ld | exact trivial | (rfl))
       done)
    | (rw [if_neg (by omega), if_neg (by omega)]
       refine Ya ?_
       (apply Le.headZ (hs := []) [] rfl)
       all_goals (try dsimp only [srcs])
       (case' hfr => (repeat' (first | refine La ?_ ?_ | exact Lc | refine Lo ?_ | refine ⟨⟨_, rfl, ?_⟩, ?_⟩ | refine Lx ?_)))
       all_goals (first | exact Ld | exact trivial | (rfl))
       done)
theorem compareRatios_ac (a b : Int × Int) (ha : smallR a) (hb : smallR b) : AC Try.prog 121 [.agg [I a.1, I a.2], .agg [I b.1, I b.2]] H0 (I (crI a b)) H0 := by
  obtain ⟨h1, h2⟩ := ha.mul hb
  unfold crI
  obtain ⟨a1, a2⟩ := a
  obtain ⟨b1, b2⟩ := b
  simp only at h1 h2 ⊢
  refine AC.of_body 0 Try.func121 rfl (fun l h => absurd rfl h) (fun C hC => ?_)
  have hD : ∀ l, ¬ C.D0 l := fun l h => (hC l).1 h rfl
  simp only [startFr, Try.ntmps121, List.length_cons, List.length_nil, Nat.reduceAdd, Nat.reduceSub, List.replicate_succ, List.replicate_zero, List.cons_append, List.nil_append]
  repeat' (first | ((first | apply Ba | (apply Bb; (· rfl); (· rfl)) | (apply Bc; (· exact nxE)) | (apply Bd; (· rfl); (· rfl); (· exact nxE))); (· first | exact Kz rfl rfl (compareI_ac _ _) (Ad (Ad An)) | exact Ok.pe)) | ((first | apply Ca | (apply Cb; (· exact nxE))); (· first | exact Ok.e0)) | refine Sx ?_ | (refine Sy (fun h => ?_) (fun h => ?_) <;> try (exfalso; omega; done)) | refine Sz (fun h => ?_) (fun h => ?_))
  refine Ya ?_
  (apply Le.headZ (hs := []) [] rfl)
  all_goals (try dsimp only [srcs])
  (case' hfr => (repeat' (first | refine La ?_ ?_ | exact Lc | refine Lo ?_ | refine ⟨⟨_, rfl, ?_⟩, ?_⟩ | refine Lx ?_)))
  all_goals (first | exact Ld | exact trivial | (rfl))
/-! ### Graphs with a faster place -/
theorem fasterL_eg0 {ev : Int} {xs : List Pl} {i : Nat} {b : Int} (h : isEG ev xs = true) (hi : i < xs.length) (hb : 0 ≤ b) : isEG ev (fasterL xs i b) = true := by
  refine isEG_set h ?_
  have hp := plB_at h hi
  simp only [plB, Bool.and_eq_true, wi_iff] at hp ⊢
  omega
theorem fasterL_bc0 {ev : Int} {xs : List Pl} {i : Nat} {b : Int} (h : isEG ev xs = true) (hi : i < xs.length) (hb : 0 ≤ b) : bcC ev (fasterL xs i b) = bcC ev xs := by
  have h2 := hasC_same (xs := xs) (ys := fasterL xs i b) fasterL_len (fasterL_same hi)
  have e : liveI ev (fasterL xs i b) = liveI ev xs := by unfold liveI; rw [fasterL_eg0 h hi hb, h, fasterL_live hi]
  unfold bcC
  rw [e]
  by_cases h3 : hasC xs
  · rw [if_pos h3, if_pos (h2.2 h3)]
  · rw [if_neg h3, if_neg (fun h4 => h3 (h2.1 h4))]
theorem bcC_ok {ev : Int} {xs : List Pl} (h : bcC ev xs = 0) : liveI ev xs = 0 ∧ hasC xs := by
  unfold bcC at h
  by_cases h0 : liveI ev xs = 0
  · rw [if_pos h0] at h
    exact ⟨h0, Classical.byContradiction fun hc => by rw [if_neg hc] at h; exact absurd h (by decide)⟩
  · rw [if_neg h0] at h; exact absurd h h0
theorem ctR_small {ev : Int} {xs : List Pl} : smallR (ctR ev xs) := by
  unfold ctR
  by_cases h : bcC ev xs = 0
  · rw [if_pos h]
    obtain ⟨h0, hc⟩ := bcC_ok h
    obtain ⟨n, rfl, h1, h2, h3, h4, h5⟩ := live_ok h0
    obtain ⟨c, _, e2, e3⟩ := h5.best h2 hc
    obtain ⟨g1, _, ⟨g4, _⟩⟩ := h5.circ e2
    have := h5.red h2 g1 e2.wk.lt g4
    rw [e3] at this
    exact ⟨⟨this.1.1, by omega⟩, ⟨by omega, by omega⟩⟩
  · rw [if_neg h]; exact ⟨by decide, by decide⟩
theorem hasC_ne {xs : List Pl} (h : hasC xs) : 0 < xs.length := by
  obtain ⟨c, hc⟩ := h
  cases c with
  | nil => exact absurd rfl hc.ne
  | cons i c => have := hc.wk.lt i (by simp); omega
/-- The best of the first k places, and its time. -/
noncomputable def bpN (ev : Int) (xs : List Pl) (b : Int) : Nat → Nat × (Int × Int)
  | 0 => (0, (0, 0))
  | k + 1 => if k = 0 ∨ crI (ctR ev (fasterL xs k b)) (bpN ev xs b k).2 < 0 then (k, ctR ev (fasterL xs k b)) else bpN ev xs b k
theorem bpN_small {ev : Int} {xs : List Pl} {b : Int} : ∀ k, smallR (bpN ev xs b k).2
  | 0 => (⟨by decide, by decide⟩ : smallR ((0 : Int), (0 : Int)))
  | k + 1 => by
    rw [bpN]
    split
    · exact ctR_small
    · exact bpN_small k
noncomputable def bpC (ev : Int) (xs : List Pl) (b : Int) : Int := cqC ev xs (wi b 0 1000)
noncomputable def bpI (ev : Int) (xs : List Pl) (b : Int) : Int := if bpC ev xs b = 0 then ((bpN ev xs b xs.length).1 : Int) else 0
noncomputable def bpR (ev : Int) (xs : List Pl) (b : Int) : Int × Int := if bpC ev xs b = 0 then (bpN ev xs b xs.length).2 else (0, 0)
theorem fasterL_d {n : Nat} {xs : List Pl} (hv : ∀ p ∈ xs, okPl n p) {i : Nat} (hi : i < xs.length) : 0 ≤ (plA xs i).d ∧ (plA xs i).d ≤ 10000 := (okPl_at hv i hi).2.2.1
theorem fasterL_rl {xs : List Pl} {i : Nat} {b : Int} : ((fasterL xs i b).map Pl.row).length = xs.length := by simp [fasterL]
set_option maxHeartbeats 2000000 in
theorem sBestPlace_ac (ev : Int) (xs : List Pl) (b : Int) (hx : xs.length ≤ 100000000) : AC Try.prog 19 [grD ev xs, I b] H0 (.tup [I (bpI ev xs b), .agg [I (bpR ev xs b).1, I (bpR ev xs b).2], I (bpC ev xs b)]) H0 := by
  have hI := l01In_ac b 0 1000
  have hq := l27Code_ac ev xs (wi b 0 1000) hx
  unfold bpI bpR bpC
  by_cases hc : cqC ev xs (wi b 0 1000) = 0
  · rw [if_pos hc, if_pos hc]
    rw [hc] at hq ⊢
    obtain ⟨c1, c2, c3⟩ := cqC_ok hc
    rw [c2] at hI hq
    obtain ⟨n, rfl, g1, g2, g3, g4, g5⟩ := live_ok c1
    have hw := wi_iff.1 c2
    generalize cqR n xs true = qr at hq
    clear hc
    refine AC.of_body 0 Try.func19 rfl (fun l h => absurd rfl h) (fun C hC => ?_)
    have hD : ∀ l, ¬ C.D0 l := fun l h => (hC l).1 h rfl
    simp only [startFr, Try.ntmps19, List.length_cons, List.length_nil, Nat.reduceAdd, Nat.reduceSub, List.replicate_succ, List.replicate_zero, List.cons_append, List.nil_append]
    repeat' (first | ((first | apply Ba | (apply Bb; (· rfl); (· rfl)) | (apply Bc; (· exact nxE)) | (apply Bd; (· rfl); (· rfl); (· exact nxE))); (· first | exact Kz rfl rfl (hI) (Ad (Ad (Ad An))) | exact Kz rfl rfl (hq) (Aa (Ad (Ad An)) (Ad An)) | exact Ok.pe)) | ((first | apply Ca | (apply Cb; (· exact nxE))); (· first | exact Ok.e0)) | refine Sx ?_ | (refine Sy (fun h => ?_) (fun h => ?_) <;> try (exfalso; omega; done)) | refine Sz (fun h => ?_) (fun h => ?_))
    refine AW.loop (X := {k : Nat // k ≤ xs.length}) (fun k => ⟨[Oo, I b, Bx 2 0, Oo, Oo, Bx 2 1, Oo, Oo, Oo, I ((bpN n xs b k.1).1 : Nat), Bx 2 2, I (k.1 : Nat), Oo, Oo, Oo, Oo, Oo, Oo, Oo, Oo, Oo, Oo, Oo, Oo, Oo, Oo, Oo, Oo, Oo, Oo, Oo, Oo, Oo, Oo, Oo, Oo, Oo, Oo, Oo, Oo, Oo, Oo, Oo, Oo, Oo, Oo, Oo, Oo, Oo, Oo, Oo, Oo, Oo], heapL [(⟨0, []⟩, ⟨0, []⟩, ⟨2, [[I n, PL xs]]⟩), (⟨1, []⟩, ⟨1, []⟩, ⟨2, [[I 0, I 0]]⟩), (⟨2, []⟩, ⟨2, []⟩, ⟨2, [[I (bpN n xs b k.1).2.1, I (bpN n xs b k.1).2.2]]⟩)], 900⟩) (fun k => xs.length - k.1) ⟨0, Nat.zero_le _⟩ ?_ (fun k => ?_)
    ·
      (apply Le.headZ [_, _, _] rfl)
      all_goals (try dsimp only [srcs])
      (case' hfr | hob => (repeat' (first | refine La ?_ ?_ | exact Lc | refine Lo ?_ | refine ⟨⟨_, rfl, ?_⟩, ?_⟩ | refine Lx ?_)))
      all_goals (first | (rfl) | exact Ld)
    obtain ⟨i, hi⟩ := k
    simp only
    by_cases hlt : i < xs.length
    ·
      have hF := l27Faster_ac n n xs i b (by omega) hlt (fasterL_d g4 hlt) (by omega)
      rw [← fasterL_rl (xs := xs) (i := i) (b := b)] at hF
      have hT := sCycleTime_ac n (fasterL xs i b) (by rw [fasterL_len]; exact hx)
      have hC := l01Compare_ac (ctR n (fasterL xs i b)) (bpN n xs b i).2 ctR_small (bpN_small i)
      have hb : bpN n xs b (i + 1) = if i = 0 ∨ crI (ctR n (fasterL xs i b)) (bpN n xs b i).2 < 0 then (i, ctR n (fasterL xs i b)) else bpN n xs b i := rfl
      have hcmp := hC
      clear hC
      generalize crI (ctR n (fasterL xs i b)) (bpN n xs b i).2 = cr at *
      generalize ctR n (fasterL xs i b) = r at *
      generalize bcC n (fasterL xs i b) = bc at *
      generalize bpN n xs b i = s at *
      generalize fasterL xs i b = ys at *
      obtain ⟨r1, r2⟩ := r
      obtain ⟨s0, s1, s2⟩ := s
      simp only at hcmp hT hb ⊢
      repeat' (first | ((first | apply Ba | (apply Bb; (· rfl); (· rfl)) | (apply Bc; (· exact nxE)) | (apply Bd; (· rfl); (· rfl); (· exact nxE))); (· first | exact Zf rfl rfl (hT) (Sa (Sd (Sw Sn)) Sn) | exact Kz rfl rfl (hcmp) (Aa (Ad (Ad An)) (Aa (Ad (Ad An)) An)) | exact Eo rfl rfl (hF) (Sa (Sd (Sd Sn)) (Sd (Sd Sn))) | exact Ok.pe)) | ((first | apply Ca | (apply Cb; (· exact nxE))); (· first | exact Eo rfl rfl (hF) (Sa (Sd (Sd Sn)) (Sd (Sd Sn))) | exact Ok.e0)) | refine Sx ?_ | (refine Sy (fun h => ?_) (fun h => ?_) <;> try (exfalso; omega; done)) | refine Sz (fun h => ?_) (fun h => ?_))
      all_goals first
        | (rw [if_pos (by omega)] at hb
           refine ⟨⟨i + 1, by omega⟩, ?_, by simp only; omega⟩
           simp only
           rw [hb]
           (apply Le.headZ [_, _, _] rfl)
           all_goals (try dsimp only [srcs])
           (case' hfr | hob => (repeat' (first | refine La ?_ ?_ | exact Lc | refine Lo ?_ | refine ⟨⟨_, rfl, ?_⟩, ?_⟩ | refine Lx ?_)))
           all_goals (first | (rfl) | exact Ld)
           done)
        | (rw [if_neg (by omega)] at hb
           refine ⟨⟨i + 1, by omega⟩, ?_, by simp only; omega⟩
           simp only
           rw [hb]
           (apply Le.headZ [_, _, _] rfl)
           all_goals (try dsimp only [srcs])
           (case' hfr | hob => (repeat' (first | refine La ?_ ?_ | exact Lc | refine Lo ?_ | refine ⟨⟨_, rfl, ?_⟩, ?_⟩ | refine Lx ?_)))
           all_goals (first | (rfl) | exact Ld)
           done)
    ·
      obtain rfl : i = xs.length := by omega
      repeat' (first | ((first | apply Ba | (apply Bb; (· rfl); (· rfl)) | (apply Bc; (· exact nxE)) | (apply Bd; (· rfl); (· rfl); (· exact nxE))); (· first | exact Ok.pe)) | ((first | apply Ca | (apply Cb; (· exact nxE))); (· first | exact Ok.e0)) | refine Sx ?_ | (refine Sy (fun h => ?_) (fun h => ?_) <;> try (exfalso; omega; done)) | refine Sz (fun h => ?_) (fun h => ?_))
      refine Yc ?_
      (apply Le.headZ (hs := []) [] rfl)
      all_goals (try dsimp only [srcs])
      (case' hfr => (repeat' (first | refine La ?_ ?_ | exact Lc | refine Lo ?_ | refine ⟨⟨_, rfl, ?_⟩, ?_⟩ | refine Lx ?_)))
      all_goals (first | exact Ld | exact trivial | (rfl))
  · rw [if_neg hc, if_neg hc]
    generalize cqC ev xs (wi b 0 1000) = Q at *
    generalize wi b 0 1000 = vb at *
    generalize cqR ev xs vb = qr at hq
    refine AC.of_body 0 Try.func19 rfl (fun l h => absurd rfl h) (fun C hC => ?_)
    have hD : ∀ l, ¬ C.D0 l := fun l h => (hC l).1 h rfl
    simp only [startFr, Try.ntmps19, List.length_cons, List.length_nil, Nat.reduceAdd, Nat.reduceSub, List.replicate_succ, List.replicate_zero, List.cons_append, List.nil_append]
    repeat' (first | ((first | apply Ba | (apply Bb; (· rfl); (· rfl)) | (apply Bc; (· exact nxE)) | (apply Bd; (· rfl); (· rfl); (· exact nxE))); (· first | exact Kz rfl rfl (hI) (Ad (Ad (Ad An))) | exact Kz rfl rfl (hq) (Aa (Ad (Ad An)) (Ad An)) | exact Ok.pe)) | ((first | apply Ca | (apply Cb; (· exact nxE))); (· first | exact Ok.e0)) | refine Sx ?_ | (refine Sy (fun h => ?_) (fun h => ?_) <;> try (exfalso; omega; done)) | refine Sz (fun h => ?_) (fun h => ?_))
    refine Yc ?_
    (apply Le.headZ (hs := []) [] rfl)
    all_goals (try dsimp only [srcs])
    (case' hfr => (repeat' (first | refine La ?_ ?_ | exact Lc | refine Lo ?_ | refine ⟨⟨_, rfl, ?_⟩, ?_⟩ | refine Lx ?_)))
    all_goals (first | exact Ld | exact trivial | (rfl))
set_option maxHeartbeats 2000000 in
theorem iBestPlace_ac (ev : Int) (xs : List Pl) (b : Int) (hx : xs.length ≤ 100000000) : AC Try.prog 18 [grD ev xs, I b] H0 (.tup [I (bpI ev xs b), .agg [I (bpR ev xs b).1, I (bpR ev xs b).2], I (bpC ev xs b)]) H0 := by
  have hE := iIsEventGraph_ac ev xs hx
  have hI := within_ac b 0 1000
  unfold bpI bpR bpC
  cases hg : isEG ev xs
  · rw [eg_no hg, if_neg (by decide), if_neg (by decide)]
    rw [hg] at hE
    refine AC.of_body 0 Try.func18 rfl (fun l h => absurd rfl h) (fun C hC => ?_)
    have hD : ∀ l, ¬ C.D0 l := fun l h => (hC l).1 h rfl
    simp only [startFr, Try.ntmps18, List.length_cons, List.length_nil, Nat.reduceAdd, Nat.reduceSub, List.replicate_succ, List.replicate_zero, List.cons_append, List.nil_append]
    repeat' (first | ((first | apply Ba | (apply Bb; (· rfl); (· rfl)) | (apply Bc; (· exact nxE)) | (apply Bd; (· rfl); (· rfl); (· exact nxE))); (· first | exact Kz rfl rfl (hE) (Aa (Ad (Ad An)) An) | exact Ok.pe)) | ((first | apply Ca | (apply Cb; (· exact nxE))); (· first | exact Ok.e0)) | refine Sx ?_ | (refine Sy (fun h => ?_) (fun h => ?_) <;> try (exfalso; omega; done)) | refine Sz (fun h => ?_) (fun h => ?_))
    refine Yc ?_
    (apply Le.headZ (hs := []) [] rfl)
    all_goals (try dsimp only [srcs])
    (case' hfr => (repeat' (first | refine La ?_ ?_ | exact Lc | refine Lo ?_ | refine ⟨⟨_, rfl, ?_⟩, ?_⟩ | refine Lx ?_)))
    all_goals (first | exact Ld | exact trivial | (rfl))
  rw [hg] at hE
  cases hw : wi b 0 1000
  · rw [in_no hg, if_neg (by decide), if_neg (by decide)]
    rw [hw] at hI
    refine AC.of_body 0 Try.func18 rfl (fun l h => absurd rfl h) (fun C hC => ?_)
    have hD : ∀ l, ¬ C.D0 l := fun l h => (hC l).1 h rfl
    simp only [startFr, Try.ntmps18, List.length_cons, List.length_nil, Nat.reduceAdd, Nat.reduceSub, List.replicate_succ, List.replicate_zero, List.cons_append, List.nil_append]
    repeat' (first | ((first | apply Ba | (apply Bb; (· rfl); (· rfl)) | (apply Bc; (· exact nxE)) | (apply Bd; (· rfl); (· rfl); (· exact nxE))); (· first | exact Kz rfl rfl (hE) (Aa (Ad (Ad An)) An) | exact Kz rfl rfl (hI) (Ad (Ad (Ad An))) | exact Ok.pe)) | ((first | apply Ca | (apply Cb; (· exact nxE))); (· first | exact Ok.e0)) | refine Sx ?_ | (refine Sy (fun h => ?_) (fun h => ?_) <;> try (exfalso; omega; done)) | refine Sz (fun h => ?_) (fun h => ?_))
    refine Yc ?_
    (apply Le.headZ (hs := []) [] rfl)
    all_goals (try dsimp only [srcs])
    (case' hfr => (repeat' (first | refine La ?_ ?_ | exact Lc | refine Lo ?_ | refine ⟨⟨_, rfl, ?_⟩, ?_⟩ | refine Lx ?_)))
    all_goals (first | exact Ld | exact trivial | (rfl))
  · rw [in_yes]
    rw [hw] at hI
    obtain ⟨n, rfl, g1, g2, g3, g4⟩ := isEG_ok hg
    have hq := cycleTime_ac n xs hg
    have hw := wi_iff.1 hw
    by_cases hc : bcC n xs = 0
    · rw [if_pos hc, if_pos hc]
      rw [hc] at hq ⊢
      have hne := hasC_ne (bcC_ok hc).2
      generalize ctR n xs = qr at hq
      refine AC.of_body 0 Try.func18 rfl (fun l h => absurd rfl h) (fun C hC => ?_)
      have hD : ∀ l, ¬ C.D0 l := fun l h => (hC l).1 h rfl
      simp only [startFr, Try.ntmps18, List.length_cons, List.length_nil, Nat.reduceAdd, Nat.reduceSub, List.replicate_succ, List.replicate_zero, List.cons_append, List.nil_append]
      repeat' (first | ((first | apply Ba | (apply Bb; (· rfl); (· rfl)) | (apply Bc; (· exact nxE)) | (apply Bd; (· rfl); (· rfl); (· exact nxE))); (· first | exact Kz rfl rfl (hE) (Aa (Ad (Ad An)) An) | exact Kz rfl rfl (hI) (Ad (Ad (Ad An))) | exact Kz rfl rfl (hq) (Aa (Ad (Ad An)) An) | exact Ok.pe)) | ((first | apply Ca | (apply Cb; (· exact nxE))); (· first | exact Ok.e0)) | refine Sx ?_ | (refine Sy (fun h => ?_) (fun h => ?_) <;> try (exfalso; omega; done)) | refine Sz (fun h => ?_) (fun h => ?_))
      refine AW.loop (X := {k : Nat // k ≤ xs.length}) (fun k => ⟨[Oo, I b, Bx 2 0, Oo, Oo, Bx 2 1, Oo, Oo, Oo, I (if k.1 = 0 then -1 else ((bpN n xs b k.1).1 : Nat)), Bx 2 2, Oo, Oo, Oo, Oo, Oo, Oo, Oo, Oo, Oo, Oo, Oo, Oo, Oo, Oo, Oo, Oo, Oo, Oo, Oo, Oo, Oo, Oo, Oo, I xs.length, I (k.1 : Nat), Oo, Oo, Oo, Oo, Oo, Oo, Oo, Oo, Oo, Oo, Oo, Oo, Oo, Oo, Oo, Oo, Oo, Oo, Oo, Oo, Oo, Oo, Oo], heapL [(⟨0, []⟩, ⟨0, []⟩, ⟨2, [[I n, PL xs]]⟩), (⟨1, []⟩, ⟨1, []⟩, ⟨2, [[I 0, I 0]]⟩), (⟨2, []⟩, ⟨2, []⟩, ⟨2, [[I (bpN n xs b k.1).2.1, I (bpN n xs b k.1).2.2]]⟩)], 900⟩) (fun k => xs.length - k.1) ⟨0, Nat.zero_le _⟩ ?_ (fun k => ?_)
      ·
        (apply Le.headZ [_, _, _] rfl)
        all_goals (try dsimp only [srcs])
        (case' hfr | hob => (repeat' (first | refine La ?_ ?_ | exact Lc | refine Lo ?_ | refine ⟨⟨_, rfl, ?_⟩, ?_⟩ | refine Lx ?_)))
        all_goals (first | (rfl) | exact Ld)
      obtain ⟨i, hi⟩ := k
      simp only
      by_cases hlt : i < xs.length
      ·
        have hF := fasterGraph_ac n xs i b (by omega) hlt (fasterL_d g4 hlt) (by omega)
        rw [← fasterL_rl (xs := xs) (i := i) (b := b)] at hF
        have hT := cycleTime_ac n (fasterL xs i b) (fasterL_eg0 hg hlt (by omega))
        have hcmp := compareRatios_ac (ctR n (fasterL xs i b)) (bpN n xs b i).2 ctR_small (bpN_small i)
        have hb : bpN n xs b (i + 1) = if i = 0 ∨ crI (ctR n (fasterL xs i b)) (bpN n xs b i).2 < 0 then (i, ctR n (fasterL xs i b)) else bpN n xs b i := rfl
        generalize crI (ctR n (fasterL xs i b)) (bpN n xs b i).2 = cr at *
        generalize ctR n (fasterL xs i b) = r at *
        generalize bcC n (fasterL xs i b) = bc at *
        generalize bpN n xs b i = s at *
        generalize fasterL xs i b = ys at *
        obtain ⟨r1, r2⟩ := r
        obtain ⟨s0, s1, s2⟩ := s
        simp only at hcmp hT hb ⊢
        obtain ⟨z, hz⟩ : ∃ z, (if i = 0 then (-1 : Int) else (s0 : Nat)) = z := ⟨_, rfl⟩
        rw [hz]
        have hz0 : z < 0 ↔ i = 0 := by rw [← hz]; split <;> omega
        repeat' (first | ((first | apply Ba | (apply Bb; (· rfl); (· rfl)) | (apply Bc; (· exact nxE)) | (apply Bd; (· rfl); (· rfl); (· exact nxE))); (· first | exact Zf rfl rfl (hT) (Sa (Sd (Sw Sn)) Sn) | exact Kz rfl rfl (hcmp) (Aa (Ad (Ad An)) (Aa (Ad (Ad An)) An)) | exact Eo rfl rfl (hF) (Sa (Sd (Sd Sn)) (Sd (Sd Sn))) | exact Ok.pe)) | ((first | apply Ca | (apply Cb; (· exact nxE))); (· first | exact Eo rfl rfl (hF) (Sa (Sd (Sd Sn)) (Sd (Sd Sn))) | exact Ok.e0)) | refine Sx ?_ | (refine Sy (fun h => ?_) (fun h => ?_) <;> try (exfalso; omega; done)) | refine Sz (fun h => ?_) (fun h => ?_))
        all_goals first
          | (rw [if_pos (by omega)] at hb
             refine ⟨⟨i + 1, by omega⟩, ?_, by simp only; omega⟩
             simp only
             rw [hb, if_neg (by omega)]
             (apply Le.headZ [_, _, _] rfl)
             all_goals (try dsimp only [srcs])
             (case' hfr | hob => (repeat' (first | refine La ?_ ?_ | exact Lc | refine Lo ?_ | refine ⟨⟨_, rfl, ?_⟩, ?_⟩ | refine Lx ?_)))
             all_goals (first | (rfl) | exact Ld)
             done)
          | (rw [if_neg (by omega)] at hb
             refine ⟨⟨i + 1, by omega⟩, ?_, by simp only; omega⟩
             simp only
             rw [hb, if_neg (by omega)]
             rw [if_neg (by omega)] at hz
             rw [← hz]
             (apply Le.headZ [_, _, _] rfl)
             all_goals (try dsimp only [srcs])
             (case' hfr | hob => (repeat' (first | refine La ?_ ?_ | exact Lc | refine Lo ?_ | refine ⟨⟨_, rfl, ?_⟩, ?_⟩ | refine Lx ?_)))
             all_goals (first | (rfl) | exact Ld)
             done)
      ·
        obtain rfl : i = xs.length := by omega
        rw [if_neg (by omega)]
        repeat' (first | ((first | apply Ba | (apply Bb; (· rfl); (· rfl)) | (apply Bc; (· exact nxE)) | (apply Bd; (· rfl); (· rfl); (· exact nxE))); (· first | exact Ok.pe)) | ((first | apply Ca | (apply Cb; (· exact nxE))); (· first | exact Ok.e0)) | refine Sx ?_ | (refine Sy (fun h => ?_) (fun h => ?_) <;> try (exfalso; omega; done)) | refine Sz (fun h => ?_) (fun h => ?_))
        refine Yc ?_
        (apply Le.headZ (hs := []) [] rfl)
        all_goals (try dsimp only [srcs])
        (case' hfr => (repeat' (first | refine La ?_ ?_ | exact Lc | refine Lo ?_ | refine ⟨⟨_, rfl, ?_⟩, ?_⟩ | refine Lx ?_)))
        all_goals (first | exact Ld | exact trivial | (rfl))
    · rw [if_neg hc, if_neg hc]
      generalize ctR n xs = qr at hq
      generalize bcC n xs = Q at *
      refine AC.of_body 0 Try.func18 rfl (fun l h => absurd rfl h) (fun C hC => ?_)
      have hD : ∀ l, ¬ C.D0 l := fun l h => (hC l).1 h rfl
      simp only [startFr, Try.ntmps18, List.length_cons, List.length_nil, Nat.reduceAdd, Nat.reduceSub, List.replicate_succ, List.replicate_zero, List.cons_append, List.nil_append]
      repeat' (first | ((first | apply Ba | (apply Bb; (· rfl); (· rfl)) | (apply Bc; (· exact nxE)) | (apply Bd; (· rfl); (· rfl); (· exact nxE))); (· first | exact Kz rfl rfl (hE) (Aa (Ad (Ad An)) An) | exact Kz rfl rfl (hI) (Ad (Ad (Ad An))) | exact Kz rfl rfl (hq) (Aa (Ad (Ad An)) An) | exact Ok.pe)) | ((first | apply Ca | (apply Cb; (· exact nxE))); (· first | exact Ok.e0)) | refine Sx ?_ | (refine Sy (fun h => ?_) (fun h => ?_) <;> try (exfalso; omega; done)) | refine Sz (fun h => ?_) (fun h => ?_))
      refine Yc ?_
      (apply Le.headZ (hs := []) [] rfl)
      all_goals (try dsimp only [srcs])
      (case' hfr => (repeat' (first | refine La ?_ ?_ | exact Lc | refine Lo ?_ | refine ⟨⟨_, rfl, ?_⟩, ?_⟩ | refine Lx ?_)))
      all_goals (first | exact Ld | exact trivial | (rfl))
end Go.Proofs.Ytegfjedklebbfaa
end
