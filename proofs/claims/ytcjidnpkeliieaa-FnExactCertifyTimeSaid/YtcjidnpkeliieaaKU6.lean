/-
  Walks in the abstract reading, part 6.
-/
import Derived.Test.YtcjidnpkeliieaaKU5
import Derived.Test.YtcjidnpkeliieaaKA3
import Derived.Test.YtcjidnpkeliieaaKU4
section
namespace Go.Proofs.Ytcjidnpkeliieaa
set_option linter.unusedSimpArgs false
set_option linter.unusedVariables false
open Go Go.RowKit
attribute [local irreducible] AL AD AW OpOk Le AC thenQ blockQ EndQ

noncomputable def bcC (ev : Int) (xs : List Pl) : Int := open Classical in if liveI ev xs = 0 then (if hasC xs then 0 else 4) else liveI ev xs
noncomputable def bcL (ev : Int) (xs : List Pl) : List Nat := if bcC ev xs = 0 then overC xs (maxR xs).1 (maxR xs).2 (-1) ev.toNat else []
noncomputable def ctR (ev : Int) (xs : List Pl) : Int × Int := if bcC ev xs = 0 then maxR xs else (0, 0)
theorem live_ok {ev : Int} {xs : List Pl} (h : liveI ev xs = 0) : ∃ n : Nat, ev = n ∧ 1 ≤ n ∧ n ≤ 10 ∧ xs.length ≤ 30 ∧ (∀ p ∈ xs, okPl n p) ∧ Live xs n := by
  unfold liveI at h
  by_cases hg : isEG ev xs = true
  · obtain ⟨n, rfl, h1, h2, h3, h4⟩ := isEG_ok hg
    rw [if_pos hg] at h
    cases hl : liveB n xs
    · rw [hl] at h; simp at h
    · exact ⟨n, rfl, h1, h2, h3, h4, live_of h4 hl⟩
  · rw [if_neg hg] at h; simp at h
theorem Live.isMax {n : Nat} {xs : List Pl} (hl : Live xs n) (hn : n ≤ 10) (hc : hasC xs) : MaxR xs (maxR xs) := by
  obtain ⟨c0, h0⟩ := hc
  have key : ∀ (m : Nat) (c : List Nat), Circ xs c → (1000000000000 - rank 1000 (redR (sumD xs c) (sumT xs c))).toNat ≤ m → ∃ r, MaxR xs r := by
    intro m
    induction m with
    | zero =>
      intro c hcc hm
      obtain ⟨g1, ⟨g2, g3⟩, ⟨g4, g5⟩⟩ := hl.circ hcc
      obtain ⟨⟨r1, r2⟩, ⟨r3, r4⟩, r5⟩ := hl.red hn g1 hcc.wk.lt g4
      have hup : rank 1000 (redR (sumD xs c) (sumT xs c)) ≤ 100000 * 1000000 := by
        unfold rank
        refine Int.le_trans (Int.ediv_le_self _ (Int.mul_nonneg (by omega) (by omega))) ?_
        omega
      omega
    | succ m ih =>
      intro c hcc hm
      obtain ⟨g1, ⟨g2, g3⟩, ⟨g4, g5⟩⟩ := hl.circ hcc
      obtain ⟨⟨r1, r2⟩, ⟨r3, r4⟩, r5⟩ := hl.red hn g1 hcc.wk.lt g4
      by_cases hz : overC xs (redR (sumD xs c) (sumT xs c)).1 (redR (sumD xs c) (sumT xs c)).2 0 n = []
      · exact ⟨_, hl.max_of hn hcc hz⟩
      · obtain ⟨s1, s2⟩ := overC_sound hz
        obtain ⟨k1, _, ⟨k4, k5⟩⟩ := hl.circ s1
        have hrank := rank_redR (M := 1000) (r := redR (sumD xs c) (sumT xs c)) (by omega) (by omega) k4 (by omega) s2
        exact ih _ s1 (by omega)
  obtain ⟨r, hr⟩ := key _ c0 h0 (Nat.le_refl _)
  rw [maxR_eq hl hr]
  exact hr
theorem Live.best {n : Nat} {xs : List Pl} (hl : Live xs n) (hn : n ≤ 10) (hc : hasC xs) : ∃ c, overC xs (maxR xs).1 (maxR xs).2 (-1) n = c ∧ Circ xs c ∧ redR (sumD xs c) (sumT xs c) = maxR xs := by
  have hm := hl.isMax hn hc
  obtain ⟨c, h1, h2⟩ := hm.eq
  obtain ⟨h3, h4⟩ := overC_sound (hl.over (u1 := (Go.Proofs.Ytcjidnpkeliieaa.maxR xs).1) (u2 := (Go.Proofs.Ytcjidnpkeliieaa.maxR xs).2) (over := -1) h1 (by omega))
  refine ⟨_, rfl, h3, ?_⟩
  have := hm.le _ h3
  exact redR_of_zero hm.pos hm.red (hl.circ h3).2.2.1 (by omega)
set_option maxHeartbeats 1000000 in
theorem BestCircuit_ac (ev : Int) (xs : List Pl) (hx : xs.length ≤ 100000000) : AC Try.prog 23 [grD ev xs] H0 (.tup [IL (cN (bcL ev xs)), I (bcC ev xs)]) H0 := by
  have hL := l12Live_ac ev xs hx
  by_cases h0 : liveI ev xs = 0
  · obtain ⟨n, rfl, h1, h2, h3, h4, h5⟩ := live_ok h0
    rw [h0] at hL
    by_cases hc : hasC xs
    · have hC : bcC n xs = 0 := by unfold bcC; rw [if_pos h0, if_pos hc]
      unfold bcL
      rw [hC, if_pos rfl, Int.toNat_natCast]
      have hB := l15Best_yes n n xs h2 (by omega) h4 h5 hc
      generalize overC xs (maxR xs).1 (maxR xs).2 (-1) n = c at hB
      refine AC.of_body 0 Try.func23 rfl (fun l h => absurd rfl h) (fun C hC => ?_)
      have hD : ∀ l, ¬ C.D0 l := fun l h => (hC l).1 h rfl
      simp only [startFr, Try.ntmps23, List.length_cons, List.length_nil, Nat.reduceAdd, Nat.reduceSub, List.replicate_succ, List.replicate_zero, List.cons_append, List.nil_append]
      repeat' (first | refine Qa ?_ | ((first | apply Ba | (apply Bb; (· rfl); (· rfl)) | (apply Bc; (· exact nxE)) | (apply Bd; (· rfl); (· rfl); (· exact nxE))); (· first | exact Kz rfl rfl (hL) (Aa (Ad (Ad An)) An) | exact Kz rfl rfl (hB) (Aa (Ad (Ad An)) An) | exact Ok.pe); (first | refine Na ?_ | refine Nb ?_)) | ((first | apply Ca | (apply Cb; (· exact nxE))); (· first | exact Ok.e0); (first | refine Nc ?_ | refine Nd ?_)) | refine Oa ?_ | refine Ob ?_ | ((first | refine Ga (fun h => ?_) (fun h => ?_) | refine AD.gsplit rfl rfl (fun h => ?_) (fun h => ?_)) <;> try (exfalso; omega; done)) | (first | refine AL.gsplitB rfl rfl (fun h => ?_) (fun h => ?_) | refine AD.gsplitB rfl rfl (fun h => ?_) (fun h => ?_)) | refine Fa ?_ | refine Qb ?_ | refine Qc ?_ | refine Qd ?_ | refine Fb ?_ | refine Qe ?_ | refine Wa ?_ | refine Wb ?_ | (refine AW.ite rfl (fun h => ?_) (fun h => ?_) <;> try (exfalso; omega; done)) | refine AW.cond _ rfl (fun h => ?_) (fun h => ?_) | refine Qf ?_ | refine Qg ?_ | refine Qh ?_ | refine Qi ?_ | refine Xa ?_ | refine Xb ?_ | refine Xc ?_ | refine Xd ?_ | refine Fc ?_)
      refine Yb ?_
      (apply Le.headZ (hs := []) [] rfl)
      all_goals (try dsimp only [srcs])
      (case' hfr => (repeat' (first | refine La ?_ ?_ | exact Lc | refine Lo ?_ | refine ⟨⟨_, rfl, ?_⟩, ?_⟩ | refine ObA.box ?_ | refine ObA.frE ?_ | refine ObA.dataE ?_ | refine ARs.agg ?_ | refine ARs.tup ?_ | refine AR.b ?_ | refine AR.iE ?_ | refine AR.e ?_ | refine AR.clo' ARs.nil ?_)))
      all_goals (first | exact Ld | exact trivial | (rfl))
    · have hC : bcC n xs = 4 := by unfold bcC; rw [if_pos h0, if_neg hc]
      unfold bcL
      rw [hC, if_neg (by decide)]
      have hB := l15Best_no n n xs h2 (by omega) h4 h5 hc
      refine AC.of_body 0 Try.func23 rfl (fun l h => absurd rfl h) (fun C hC => ?_)
      have hD : ∀ l, ¬ C.D0 l := fun l h => (hC l).1 h rfl
      simp only [startFr, Try.ntmps23, List.length_cons, List.length_nil, Nat.reduceAdd, Nat.reduceSub, List.replicate_succ, List.replicate_zero, List.cons_append, List.nil_append]
      repeat' (first | refine Qa ?_ | ((first | apply Ba | (apply Bb; (· rfl); (· rfl)) | (apply Bc; (· exact nxE)) | (apply Bd; (· rfl); (· rfl); (· exact nxE))); (· first | exact Kz rfl rfl (hL) (Aa (Ad (Ad An)) An) | exact Kz rfl rfl (hB) (Aa (Ad (Ad An)) An) | exact Ok.pe); (first | refine Na ?_ | refine Nb ?_)) | ((first | apply Ca | (apply Cb; (· exact nxE))); (· first | exact Ok.e0); (first | refine Nc ?_ | refine Nd ?_)) | refine Oa ?_ | refine Ob ?_ | ((first | refine Ga (fun h => ?_) (fun h => ?_) | refine AD.gsplit rfl rfl (fun h => ?_) (fun h => ?_)) <;> try (exfalso; omega; done)) | (first | refine AL.gsplitB rfl rfl (fun h => ?_) (fun h => ?_) | refine AD.gsplitB rfl rfl (fun h => ?_) (fun h => ?_)) | refine Fa ?_ | refine Qb ?_ | refine Qc ?_ | refine Qd ?_ | refine Fb ?_ | refine Qe ?_ | refine Wa ?_ | refine Wb ?_ | (refine AW.ite rfl (fun h => ?_) (fun h => ?_) <;> try (exfalso; omega; done)) | refine AW.cond _ rfl (fun h => ?_) (fun h => ?_) | refine Qf ?_ | refine Qg ?_ | refine Qh ?_ | refine Qi ?_ | refine Xa ?_ | refine Xb ?_ | refine Xc ?_ | refine Xd ?_ | refine Fc ?_)
      refine Yb ?_
      (apply Le.headZ (hs := []) [] rfl)
      all_goals (try dsimp only [srcs])
      (case' hfr => (repeat' (first | refine La ?_ ?_ | exact Lc | refine Lo ?_ | refine ⟨⟨_, rfl, ?_⟩, ?_⟩ | refine ObA.box ?_ | refine ObA.frE ?_ | refine ObA.dataE ?_ | refine ARs.agg ?_ | refine ARs.tup ?_ | refine AR.b ?_ | refine AR.iE ?_ | refine AR.e ?_ | refine AR.clo' ARs.nil ?_)))
      all_goals (first | exact Ld | exact trivial | (rfl))
  · have hC : bcC ev xs = liveI ev xs := by unfold bcC; rw [if_neg h0]
    unfold bcL
    rw [hC, if_neg h0]
    refine AC.of_body 0 Try.func23 rfl (fun l h => absurd rfl h) (fun C hC => ?_)
    have hD : ∀ l, ¬ C.D0 l := fun l h => (hC l).1 h rfl
    simp only [startFr, Try.ntmps23, List.length_cons, List.length_nil, Nat.reduceAdd, Nat.reduceSub, List.replicate_succ, List.replicate_zero, List.cons_append, List.nil_append]
    repeat' (first | refine Qa ?_ | ((first | apply Ba | (apply Bb; (· rfl); (· rfl)) | (apply Bc; (· exact nxE)) | (apply Bd; (· rfl); (· rfl); (· exact nxE))); (· first | exact Kz rfl rfl (hL) (Aa (Ad (Ad An)) An) | exact Ok.pe); (first | refine Na ?_ | refine Nb ?_)) | ((first | apply Ca | (apply Cb; (· exact nxE))); (· first | exact Ok.e0); (first | refine Nc ?_ | refine Nd ?_)) | refine Oa ?_ | refine Ob ?_ | ((first | refine Ga (fun h => ?_) (fun h => ?_) | refine AD.gsplit rfl rfl (fun h => ?_) (fun h => ?_)) <;> try (exfalso; omega; done)) | (first | refine AL.gsplitB rfl rfl (fun h => ?_) (fun h => ?_) | refine AD.gsplitB rfl rfl (fun h => ?_) (fun h => ?_)) | refine Fa ?_ | refine Qb ?_ | refine Qc ?_ | refine Qd ?_ | refine Fb ?_ | refine Qe ?_ | refine Wa ?_ | refine Wb ?_ | (refine AW.ite rfl (fun h => ?_) (fun h => ?_) <;> try (exfalso; omega; done)) | refine AW.cond _ rfl (fun h => ?_) (fun h => ?_) | refine Qf ?_ | refine Qg ?_ | refine Qh ?_ | refine Qi ?_ | refine Xa ?_ | refine Xb ?_ | refine Xc ?_ | refine Xd ?_ | refine Fc ?_)
    refine Yb ?_
    (apply Le.headZ (hs := []) [] rfl)
    all_goals (try dsimp only [srcs])
    (case' hfr => (repeat' (first | refine La ?_ ?_ | exact Lc | refine Lo ?_ | refine ⟨⟨_, rfl, ?_⟩, ?_⟩ | refine ObA.box ?_ | refine ObA.frE ?_ | refine ObA.dataE ?_ | refine ARs.agg ?_ | refine ARs.tup ?_ | refine AR.b ?_ | refine AR.iE ?_ | refine AR.e ?_ | refine AR.clo' ARs.nil ?_)))
    all_goals (first | exact Ld | exact trivial | (rfl))
/-! ### Chapter 27 -/
end Go.Proofs.Ytcjidnpkeliieaa
end

section
namespace Go.Proofs.Ytcjidnpkeliieaa
set_option linter.unusedSimpArgs false
set_option linter.unusedVariables false
open Go Go.RowKit
attribute [local irreducible] AL AD AW OpOk Le AC thenQ blockQ EndQ

end Go.Proofs.Ytcjidnpkeliieaa
end

section
namespace Go.Proofs.Ytcjidnpkeliieaa
set_option linter.unusedSimpArgs false
set_option linter.unusedVariables false
open Go Go.RowKit
attribute [local irreducible] AL AD AW OpOk Le AC thenQ blockQ EndQ

/-- The first K of a row told anew. -/
def fillF (x : Int) (K : Nat) : Nat → Int := fun v => if v < K then x else 0
theorem fillF_0 {n : Nat} {x : Int} : dobj 1 (List.replicate n [DI 0]) = IO (rowF n (fillF x 0)) := by
  show dobj 1 _ = dobj 1 (IR (rowF n (fillF x 0)))
  congr 1
  apply List.ext_getElem?
  intro i
  by_cases hi : i < n
  · rw [IRF_get hi, List.getElem?_replicate, if_pos hi]; simp [fillF]
  · rw [List.getElem?_eq_none (by simp; omega), List.getElem?_eq_none (by rw [IR_len, rowF_len]; omega)]
theorem fillF_set {n K : Nat} {x : Int} : (IR (rowF n (fillF x K))).set K [DI x] = IR (rowF n (fillF x (K + 1))) := by
  rw [IR_set, rowF_set]
  congr 1
  refine rowF_congr fun j _ => ?_
  simp only [fillF]
  by_cases h : j = K
  · rw [if_pos h, if_pos (by omega)]
  · rw [if_neg h]
    by_cases h2 : j < K
    · rw [if_pos h2, if_pos (by omega)]
    · rw [if_neg h2, if_neg (by omega)]
theorem td0_set {n u : Nat} : (IR (rowF n (fillF (-1) n))).set u [DI 0] = IR (rowF n (fun v => if v = u then 0 else -1)) := by
  rw [IR_set, rowF_set]
  congr 1
  exact rowF_congr fun j hj => by simp only [fillF, hj, if_true]
theorem rowI_at {n j : Nat} {g : Nat → Int} (h : j < n) : (IR (rowF n g))[j]? = some [DI (g j)] := IRF_get h
theorem tdPl {n : Nat} {xs : List Pl} (hv : ∀ p ∈ xs, okPl n p) : ∀ i, i < xs.length → (0 ≤ (plA xs i).f ∧ (plA xs i).f < n) ∧ (0 ≤ (plA xs i).t ∧ (plA xs i).t < n) ∧ (0 ≤ (plA xs i).k ∧ (plA xs i).k ≤ 5) := fun i hi => by
  have := okPl_at hv i hi
  exact ⟨this.1, this.2.1, this.2.2.2⟩
abbrev tdSt (p : (Nat → Int) × Bool) (xs : List Pl) (n u : Nat) : Prop := TdInv xs n u p.1 ∧ (p.2 = false → tdF xs u = p.1)
set_option maxHeartbeats 4000000 in
theorem tokenDistances_ac (n : Nat) (xs : List Pl) (u : Nat) (hu : u < n) (hn : n ≤ 10) (hx : xs.length ≤ 100000000) (hv : ∀ p ∈ xs, okPl n p) : AC Try.prog 194 [grD n xs, I u] H0 (own1 1 n) (hp1 (IO (rowF n (tdF xs u)))) := by
  refine AC.of_body 0 Try.func194 rfl (fun l h => absurd rfl h) (fun C hC => ?_)
  have hD : ∀ l, ¬ C.D0 l := fun l h => (hC l).1 h rfl
  simp only [startFr, Try.ntmps194, List.length_cons, List.length_nil, Nat.reduceAdd, Nat.reduceSub, List.replicate_succ, List.replicate_zero, List.cons_append, List.nil_append]
  repeat' (first | refine Qa ?_ | ((first | apply Ba | (apply Bb; (· rfl); (· rfl)) | (apply Bc; (· exact nxE)) | (apply Bd; (· rfl); (· rfl); (· exact nxE))); (· first | exact Ok.pe); (first | refine Na ?_ | refine Nb ?_)) | ((first | apply Ca | (apply Cb; (· exact nxE))); (· first | exact Ok.e0); (first | refine Nc ?_ | refine Nd ?_)) | refine Oa ?_ | refine Ob ?_ | ((first | refine Ga (fun h => ?_) (fun h => ?_) | refine AD.gsplit rfl rfl (fun h => ?_) (fun h => ?_)) <;> try (exfalso; omega; done)) | (first | refine AL.gsplitB rfl rfl (fun h => ?_) (fun h => ?_) | refine AD.gsplitB rfl rfl (fun h => ?_) (fun h => ?_)) | refine Fa ?_ | refine Qb ?_ | refine Qc ?_ | refine Qd ?_ | refine Fb ?_ | refine Qe ?_ | refine Wa ?_ | refine Wb ?_ | (refine AW.ite rfl (fun h => ?_) (fun h => ?_) <;> try (exfalso; omega; done)) | refine AW.cond _ rfl (fun h => ?_) (fun h => ?_) | refine Qf ?_ | refine Qg ?_ | refine Qh ?_ | refine Qi ?_ | refine Xa ?_ | refine Xb ?_ | refine Xc ?_ | refine Xd ?_ | refine Fc ?_)
  refine AW.loop (X := {k : Nat // k ≤ n}) (fun k => ⟨[Oo, I u, Bx 2 0, Oo, Oo, .own 1 ⟨1, []⟩ 0 n, Oo, Oo, Oo, Oo, Oo, Oo, Oo, Oo, Oo, I n, I (k.1 : Nat), Oo, Oo, Oo, Oo, Oo, Oo, Oo, Oo, Oo, Oo, Oo, Oo, Oo, Oo, Oo, Oo, Oo, Oo, Oo, Oo, Oo, Oo, Oo, Oo, Oo, Oo, Oo, Oo, Oo, Oo, Oo, Oo, Oo, Oo, Oo, Oo, Oo, Oo, Oo, Oo, Oo, Oo, Oo, Oo, Oo, Oo, Oo, Oo, Oo, Oo, Oo, Oo, Oo], heapL [(⟨0, []⟩, ⟨0, []⟩, ⟨2, [[I n, PL xs]]⟩), (⟨1, []⟩, ⟨1, []⟩, IO (rowF n (fillF (-1) k.1)))], 900⟩) (fun k => n - k.1) ⟨0, Nat.zero_le _⟩ ?_ (fun k => ?_)
  ·
    (apply Le.headZ [_, _] rfl)
    all_goals (try dsimp only [srcs])
    (case' hfr | hob => (repeat' (first | refine La ?_ ?_ | exact Lc | refine Lo ?_ | refine ⟨⟨_, rfl, ?_⟩, ?_⟩ | refine ObA.box ?_ | refine ObA.frE ?_ | refine ObA.dataE ?_ | refine ARs.agg ?_ | refine ARs.tup ?_ | refine AR.b ?_ | refine AR.iE ?_ | refine AR.e ?_ | refine AR.clo' ARs.nil ?_)))
    all_goals (first | ((first | exact fillF_0 | (rw [fillF_0]; done))) | exact Ld)
  obtain ⟨i, hi⟩ := k
  simp only
  by_cases hlt : i < n
  · have hown := rowI_at (g := fillF (-1) i) hlt
    repeat' (first | refine Qa ?_ | ((first | apply Ba | (apply Bb; (· rfl); (· rfl)) | (apply Bc; (· exact nxE)) | (apply Bd; (· rfl); (· rfl); (· exact nxE))); (· first | exact Ok.st1 rfl rfl rfl (by simp [rowF_len]; omega) (by rw [hown]; rfl) rfl rfl fillF_set | exact Ok.pe); (first | refine Na ?_ | refine Nb ?_)) | ((first | apply Ca | (apply Cb; (· exact nxE))); (· first | exact Ok.st1 rfl rfl rfl (by simp [rowF_len]; omega) (by rw [hown]; rfl) rfl rfl fillF_set | exact Ok.e0); (first | refine Nc ?_ | refine Nd ?_)) | refine Oa ?_ | refine Ob ?_ | ((first | refine Ga (fun h => ?_) (fun h => ?_) | refine AD.gsplit rfl rfl (fun h => ?_) (fun h => ?_)) <;> try (exfalso; omega; done)) | (first | refine AL.gsplitB rfl rfl (fun h => ?_) (fun h => ?_) | refine AD.gsplitB rfl rfl (fun h => ?_) (fun h => ?_)) | refine Fa ?_ | refine Qb ?_ | refine Qc ?_ | refine Qd ?_ | refine Fb ?_ | refine Qe ?_ | refine Wa ?_ | refine Wb ?_ | (refine AW.ite rfl (fun h => ?_) (fun h => ?_) <;> try (exfalso; omega; done)) | refine AW.cond _ rfl (fun h => ?_) (fun h => ?_) | refine Qf ?_ | refine Qg ?_ | refine Qh ?_ | refine Qi ?_ | refine Xa ?_ | refine Xb ?_ | refine Xc ?_ | refine Xd ?_ | refine Fc ?_)
    refine ⟨⟨i + 1, by omega⟩, ?_, by simp only; omega⟩
    (apply Le.headZ [_, _] rfl)
    all_goals (try dsimp only [srcs])
    (case' hfr | hob => (repeat' (first | refine La ?_ ?_ | exact Lc | refine Lo ?_ | refine ⟨⟨_, rfl, ?_⟩, ?_⟩ | refine ObA.box ?_ | refine ObA.frE ?_ | refine ObA.dataE ?_ | refine ARs.agg ?_ | refine ARs.tup ?_ | refine AR.b ?_ | refine AR.iE ?_ | refine AR.e ?_ | refine AR.clo' ARs.nil ?_)))
    all_goals (first | (rfl) | exact Ld)
  obtain rfl : i = n := by omega
  have hown0 := rowI_at (n := i) (g := fillF (-1) i) hu
  repeat' (first | refine Qa ?_ | ((first | apply Ba | (apply Bb; (· rfl); (· rfl)) | (apply Bc; (· exact nxE)) | (apply Bd; (· rfl); (· rfl); (· exact nxE))); (· first | exact Ok.st1 rfl rfl rfl (by simp [rowF_len]; omega) (by rw [hown0]; rfl) rfl rfl td0_set | exact Ok.pe); (first | refine Na ?_ | refine Nb ?_)) | ((first | apply Ca | (apply Cb; (· exact nxE))); (· first | exact Ok.st1 rfl rfl rfl (by simp [rowF_len]; omega) (by rw [hown0]; rfl) rfl rfl td0_set | exact Ok.e0); (first | refine Nc ?_ | refine Nd ?_)) | refine Oa ?_ | refine Ob ?_ | ((first | refine Ga (fun h => ?_) (fun h => ?_) | refine AD.gsplit rfl rfl (fun h => ?_) (fun h => ?_)) <;> try (exfalso; omega; done)) | (first | refine AL.gsplitB rfl rfl (fun h => ?_) (fun h => ?_) | refine AD.gsplitB rfl rfl (fun h => ?_) (fun h => ?_)) | refine Fa ?_ | refine Qb ?_ | refine Qc ?_ | refine Qd ?_ | refine Fb ?_ | refine Qe ?_ | refine Wa ?_ | refine Wb ?_ | (refine AW.ite rfl (fun h => ?_) (fun h => ?_) <;> try (exfalso; omega; done)) | refine AW.cond _ rfl (fun h => ?_) (fun h => ?_) | refine Qf ?_ | refine Qg ?_ | refine Qh ?_ | refine Qi ?_ | refine Xa ?_ | refine Xb ?_ | refine Xc ?_ | refine Xd ?_ | refine Fc ?_)
  refine AW.loop (X := {p : (Nat → Int) × Bool // tdSt p xs i u}) (fun p => ⟨[Oo, Oo, Bx 2 0, Oo, Oo, .own 1 ⟨1, []⟩ 0 i, Oo, Bo p.1.2, Oo, Oo, Oo, Oo, Oo, Oo, Oo, Oo, Oo, Oo, Oo, Oo, Oo, Oo, Oo, Oo, Oo, Oo, Oo, Oo, Oo, Oo, Oo, Oo, Oo, Oo, Oo, Oo, Oo, Oo, Oo, Oo, Oo, Oo, Oo, Oo, Oo, Oo, Oo, Oo, Oo, Oo, Oo, Oo, Oo, Oo, Oo, Oo, Oo, Oo, Oo, Oo, Oo, Oo, Oo, Oo, Oo, Oo, Oo, Oo, Oo, Oo], heapL [(⟨0, []⟩, ⟨0, []⟩, ⟨2, [[I i, PL xs]]⟩), (⟨1, []⟩, ⟨1, []⟩, IO (rowF i p.1.1))], 900⟩) (fun p => 2 * mesN p.1.1 i + if p.1.2 then 1 else 0) ⟨(fun v => if v = u then 0 else -1, true), TdInv.start hu, fun h => by cases h⟩ ?_ (fun p => ?_)
  ·
    (apply Le.headZ [_, _] rfl)
    all_goals (try dsimp only [srcs])
    (case' hfr | hob => (repeat' (first | refine La ?_ ?_ | exact Lc | refine Lo ?_ | refine ⟨⟨_, rfl, ?_⟩, ?_⟩ | refine ObA.box ?_ | refine ObA.frE ?_ | refine ObA.dataE ?_ | refine ARs.agg ?_ | refine ARs.tup ?_ | refine AR.b ?_ | refine AR.iE ?_ | refine AR.e ?_ | refine AR.clo' ARs.nil ?_)))
    all_goals (first | (rfl) | exact Ld)
  obtain ⟨⟨d, ch⟩, hI, hf⟩ := p
  simp only at hI hf ⊢
  cases ch
  · have hfin := hf rfl
    repeat' (first | refine Qa ?_ | ((first | apply Ba | (apply Bb; (· rfl); (· rfl)) | (apply Bc; (· exact nxE)) | (apply Bd; (· rfl); (· rfl); (· exact nxE))); (· first | exact Ok.pe); (first | refine Na ?_ | refine Nb ?_)) | ((first | apply Ca | (apply Cb; (· exact nxE))); (· first | exact Ok.e0); (first | refine Nc ?_ | refine Nd ?_)) | refine Oa ?_ | refine Ob ?_ | ((first | refine Ga (fun h => ?_) (fun h => ?_) | refine AD.gsplit rfl rfl (fun h => ?_) (fun h => ?_)) <;> try (exfalso; omega; done)) | (first | refine AL.gsplitB rfl rfl (fun h => ?_) (fun h => ?_) | refine AD.gsplitB rfl rfl (fun h => ?_) (fun h => ?_)) | refine Fa ?_ | refine Qb ?_ | refine Qc ?_ | refine Qd ?_ | refine Fb ?_ | refine Qe ?_ | refine Wa ?_ | refine Wb ?_ | (refine AW.ite rfl (fun h => ?_) (fun h => ?_) <;> try (exfalso; omega; done)) | refine AW.cond _ rfl (fun h => ?_) (fun h => ?_) | refine Qf ?_ | refine Qg ?_ | refine Qh ?_ | refine Qi ?_ | refine Xa ?_ | refine Xb ?_ | refine Xc ?_ | refine Xd ?_ | refine Fc ?_)
    refine Ya ?_
    (apply Le.head [(⟨0, []⟩, _, _)])
    (case' hfr | hob => (repeat' (first | refine La ?_ ?_ | exact Lc | refine Lo ?_ | refine ⟨⟨_, rfl, ?_⟩, ?_⟩ | refine ObA.box ?_ | refine ObA.frE ?_ | refine ObA.dataE ?_ | refine ARs.agg ?_ | refine ARs.tup ?_ | refine AR.b ?_ | refine AR.iE ?_ | refine AR.e ?_ | refine AR.clo' ARs.nil ?_)))
    all_goals (first | exact Ld | ((first | rfl | (rw [hfin]; done))))
  ·
    have hP := hI.places hn (tdPl hv)
    repeat' (first | refine Qa ?_ | ((first | apply Ba | (apply Bb; (· rfl); (· rfl)) | (apply Bc; (· exact nxE)) | (apply Bd; (· rfl); (· rfl); (· exact nxE))); (· first | exact Ok.pe); (first | refine Na ?_ | refine Nb ?_)) | ((first | apply Ca | (apply Cb; (· exact nxE))); (· first | exact Ok.e0); (first | refine Nc ?_ | refine Nd ?_)) | refine Oa ?_ | refine Ob ?_ | ((first | refine Ga (fun h => ?_) (fun h => ?_) | refine AD.gsplit rfl rfl (fun h => ?_) (fun h => ?_)) <;> try (exfalso; omega; done)) | (first | refine AL.gsplitB rfl rfl (fun h => ?_) (fun h => ?_) | refine AD.gsplitB rfl rfl (fun h => ?_) (fun h => ?_)) | refine Fa ?_ | refine Qb ?_ | refine Qc ?_ | refine Qd ?_ | refine Fb ?_ | refine Qe ?_ | refine Wa ?_ | refine Wb ?_ | (refine AW.ite rfl (fun h => ?_) (fun h => ?_) <;> try (exfalso; omega; done)) | refine AW.cond _ rfl (fun h => ?_) (fun h => ?_) | refine Qf ?_ | refine Qg ?_ | refine Qh ?_ | refine Qi ?_ | refine Xa ?_ | refine Xb ?_ | refine Xc ?_ | refine Xd ?_ | refine Fc ?_)
    refine AW.loop (X := {k : Nat // k ≤ xs.length}) (fun k => ⟨[Oo, Oo, Bx 2 0, Oo, Oo, .own 1 ⟨1, []⟩ 0 i, Oo, Bo (tdAt xs d k.1).ch, Oo, Oo, Oo, Oo, Oo, Oo, Oo, Oo, Oo, Oo, Oo, Oo, Oo, Oo, Oo, Oo, Oo, Oo, Oo, Oo, PL xs, I xs.length, I (k.1 : Nat), Oo, Oo, Oo, Oo, Oo, Oo, Oo, Oo, Oo, Oo, Oo, Oo, Oo, Oo, Oo, Oo, Oo, Oo, Oo, Oo, Oo, Oo, Oo, Oo, Oo, Oo, Oo, Oo, Oo, Oo, Oo, Oo, Oo, Oo, Oo, Oo, Oo, Oo, Oo], heapL [(⟨0, []⟩, ⟨0, []⟩, ⟨2, [[I i, PL xs]]⟩), (⟨1, []⟩, ⟨1, []⟩, IO (rowF i (tdAt xs d k.1).d))], 900⟩) (fun k => xs.length - k.1) ⟨0, Nat.zero_le _⟩ ?_ (fun k => ?_)
    ·
      (apply Le.headZ [_, _] rfl)
      all_goals (try dsimp only [srcs])
      (case' hfr | hob => (repeat' (first | refine La ?_ ?_ | exact Lc | refine Lo ?_ | refine ⟨⟨_, rfl, ?_⟩, ?_⟩ | refine ObA.box ?_ | refine ObA.frE ?_ | refine ObA.dataE ?_ | refine ARs.agg ?_ | refine ARs.tup ?_ | refine AR.b ?_ | refine AR.iE ?_ | refine AR.e ?_ | refine AR.clo' ARs.nil ?_)))
      all_goals (first | (rfl) | exact Ld)
    obtain ⟨k, hk⟩ := k
    simp only
    by_cases hlt2 : k < xs.length
    · have hrow := pl_row (n := 0) hlt2
      obtain ⟨⟨g1, g2⟩, ⟨g3, g4⟩, ⟨g5, g6⟩⟩ := tdPl hv k hlt2
      have hle := (hP k hk).1.le
      have hnn := (hP k hk).1.nn
      have hcnt := cntN_le (d := (tdAt xs d k).d) i
      have hstep : tdAt xs d (k + 1) = tdStep xs (tdAt xs d k) k := rfl
      unfold tdStep at hstep
      simp only [plF, plT] at hstep
      obtain ⟨s, hs⟩ : ∃ s, tdAt xs d k = s := ⟨_, rfl⟩
      rw [hs] at hstep hle hnn hcnt ⊢
      obtain ⟨e, ch⟩ := s
      simp only at hstep hle hnn hcnt ⊢
      generalize plA xs k = p at *
      obtain ⟨pf, pt, pd, pk⟩ := p
      obtain ⟨f, rfl⟩ : ∃ f : Nat, pf = f := ⟨pf.toNat, by simp at g1; omega⟩
      obtain ⟨t, rfl⟩ : ∃ t : Nat, pt = t := ⟨pt.toNat, by simp at g3; omega⟩
      simp only [Int.toNat_natCast] at hrow g2 g4 g5 g6 hstep
      have hF := rowI_at (n := i) (g := e) (show f < i by omega)
      have hT := rowI_at (n := i) (g := e) (show t < i by omega)
      have hlf := hle f
      have hlt3 := hle t
      have hset : (IR (rowF i e)).set t [DI (e f + pk)] = IR (rowF i (fun v => if v = t then e f + pk else e v)) := by rw [IR_set, rowF_set]
      repeat' (first | refine Qa ?_ | ((first | apply Ba | (apply Bb; (· rfl); (· rfl)) | (apply Bc; (· exact nxE)) | (apply Bd; (· rfl); (· rfl); (· exact nxE))); (· first | exact Ok.ld1 rfl rfl rfl hF | exact Ok.ld1 rfl rfl rfl hT | exact Ok.st1 rfl rfl rfl (by simp [rowF_len]; omega) (by rw [hT]; rfl) rfl rfl hset | exact Ok.pe); (first | refine Na ?_ | refine Nb ?_)) | ((first | apply Ca | (apply Cb; (· exact nxE))); (· first | exact Ok.st1 rfl rfl rfl (by simp [rowF_len]; omega) (by rw [hT]; rfl) rfl rfl hset | exact Ok.e0); (first | refine Nc ?_ | refine Nd ?_)) | refine Oa ?_ | refine Ob ?_ | ((first | refine Ga (fun h => ?_) (fun h => ?_) | refine AD.gsplit rfl rfl (fun h => ?_) (fun h => ?_)) <;> try (exfalso; omega; done)) | (first | refine AL.gsplitB rfl rfl (fun h => ?_) (fun h => ?_) | refine AD.gsplitB rfl rfl (fun h => ?_) (fun h => ?_)) | refine Fa ?_ | refine Qb ?_ | refine Qc ?_ | refine Qd ?_ | refine Fb ?_ | refine Qe ?_ | refine Wa ?_ | refine Wb ?_ | (refine AW.ite rfl (fun h => ?_) (fun h => ?_) <;> try (exfalso; omega; done)) | refine AW.cond _ rfl (fun h => ?_) (fun h => ?_) | refine Qf ?_ | refine Qg ?_ | refine Qh ?_ | refine Qi ?_ | refine Xa ?_ | refine Xb ?_ | refine Xc ?_ | refine Xd ?_ | refine Fc ?_)
      all_goals first
        | (have hno : ¬ (0 ≤ e f ∧ (e t < 0 ∨ e f + pk < e t)) := by omega
           rw [if_neg hno] at hstep
           refine ⟨⟨k + 1, by omega⟩, ?_, by simp only; omega⟩
           simp only
           rw [hstep]
           (apply Le.headZ [_, _] rfl)
           all_goals (try dsimp only [srcs])
           (case' hfr | hob => (repeat' (first | refine La ?_ ?_ | exact Lc | refine Lo ?_ | refine ⟨⟨_, rfl, ?_⟩, ?_⟩ | refine ObA.box ?_ | refine ObA.frE ?_ | refine ObA.dataE ?_ | refine ARs.agg ?_ | refine ARs.tup ?_ | refine AR.b ?_ | refine AR.iE ?_ | refine AR.e ?_ | refine AR.clo' ARs.nil ?_)))
           all_goals (first | (rfl) | exact Ld)
           done)
        | (have hyes : 0 ≤ e f ∧ (e t < 0 ∨ e f + pk < e t) := by omega
           rw [if_pos hyes] at hstep
           refine ⟨⟨k + 1, by omega⟩, ?_, by simp only; omega⟩
           simp only
           rw [hstep]
           (apply Le.headZ [_, _] rfl)
           all_goals (try dsimp only [srcs])
           (case' hfr | hob => (repeat' (first | refine La ?_ ?_ | exact Lc | refine Lo ?_ | refine ⟨⟨_, rfl, ?_⟩, ?_⟩ | refine ObA.box ?_ | refine ObA.frE ?_ | refine ObA.dataE ?_ | refine ARs.agg ?_ | refine ARs.tup ?_ | refine AR.b ?_ | refine AR.iE ?_ | refine AR.e ?_ | refine AR.clo' ARs.nil ?_)))
           all_goals (first | (rfl) | exact Ld)
           done)
    · obtain rfl : k = xs.length := by omega
      obtain ⟨h1, h2⟩ := hP xs.length (Nat.le_refl _)
      repeat' (first | refine Qa ?_ | ((first | apply Ba | (apply Bb; (· rfl); (· rfl)) | (apply Bc; (· exact nxE)) | (apply Bd; (· rfl); (· rfl); (· exact nxE))); (· first | exact Ok.pe); (first | refine Na ?_ | refine Nb ?_)) | ((first | apply Ca | (apply Cb; (· exact nxE))); (· first | exact Ok.e0); (first | refine Nc ?_ | refine Nd ?_)) | refine Oa ?_ | refine Ob ?_ | ((first | refine Ga (fun h => ?_) (fun h => ?_) | refine AD.gsplit rfl rfl (fun h => ?_) (fun h => ?_)) <;> try (exfalso; omega; done)) | (first | refine AL.gsplitB rfl rfl (fun h => ?_) (fun h => ?_) | refine AD.gsplitB rfl rfl (fun h => ?_) (fun h => ?_)) | refine Fa ?_ | refine Qb ?_ | refine Qc ?_ | refine Qd ?_ | refine Fb ?_ | refine Qe ?_ | refine Wa ?_ | refine Wb ?_ | (refine AW.ite rfl (fun h => ?_) (fun h => ?_) <;> try (exfalso; omega; done)) | refine AW.cond _ rfl (fun h => ?_) (fun h => ?_) | refine Qf ?_ | refine Qg ?_ | refine Qh ?_ | refine Qi ?_ | refine Xa ?_ | refine Xb ?_ | refine Xc ?_ | refine Xd ?_ | refine Fc ?_)
      refine ⟨⟨((tdAt xs d xs.length).d, (tdAt xs d xs.length).ch), h1, fun hc => ?_⟩, ?_, ?_⟩
      · rcases h2 with ⟨_, e2, e3⟩ | ⟨e1, _⟩
        · simp only; rw [e2]; exact hI.fin (tdPl hv) e3
        · simp only at hc; rw [hc] at e1; cases e1
      ·
        (apply Le.headZ [_, _] rfl)
        all_goals (try dsimp only [srcs])
        (case' hfr | hob => (repeat' (first | refine La ?_ ?_ | exact Lc | refine Lo ?_ | refine ⟨⟨_, rfl, ?_⟩, ?_⟩ | refine ObA.box ?_ | refine ObA.frE ?_ | refine ObA.dataE ?_ | refine ARs.agg ?_ | refine ARs.tup ?_ | refine AR.b ?_ | refine AR.iE ?_ | refine AR.e ?_ | refine AR.clo' ARs.nil ?_)))
        all_goals (first | (rfl) | exact Ld)
      · simp only
        rcases h2 with ⟨e1, e2, _⟩ | ⟨e1, e2⟩
        · simp only [e1, e2]; simp
        · simp only [e1]; simp; omega
theorem tdOk {n : Nat} {xs : List Pl} {u : Nat} (hv : ∀ p ∈ xs, okPl n p) (hn : n ≤ 10) (hu : u < n) : TdOk xs u (tdF xs u) := td_exists hn (tdPl hv) _ _ (Nat.le_refl _) (TdInv.start hu)
set_option maxHeartbeats 1000000 in
theorem hasFn_ac (n : Nat) (xs : List Pl) (p : Pl) (hp : okPl n p) (hn : n ≤ 10) (hx : xs.length ≤ 100000000) (hv : ∀ p ∈ xs, okPl n p) : AC Try.prog 193 [p.av, Bx 2 0] (heapL [(⟨0, []⟩, ⟨0, []⟩, ⟨2, [[I n, PL xs]]⟩)]) (Bo (decide (0 ≤ tdF xs p.t p.f.toNat))) (heapL [(⟨0, []⟩, ⟨0, []⟩, ⟨2, [[I n, PL xs]]⟩)]) := by
  obtain ⟨⟨h1, h2⟩, ⟨h3, h4⟩, _⟩ := hp
  obtain ⟨pf, pt, pd, pk⟩ := p
  obtain ⟨f, rfl⟩ : ∃ f : Nat, pf = f := ⟨pf.toNat, by simp at h1; omega⟩
  obtain ⟨t, rfl⟩ : ∃ t : Nat, pt = t := ⟨pt.toNat, by simp at h3; omega⟩
  simp only [Int.toNat_natCast] at h2 h4 ⊢
  have hT := tokenDistances_ac n xs t (by omega) hn hx hv
  have hF := rowI_at (n := n) (g := tdF xs t) (show f < n by omega)
  refine AC.of_body 1 Try.func193 rfl (fun l h => by simp [heapL, upd] at h; simp [h]) (fun C hC => ?_)
  simp only [startFr, Try.ntmps193, List.length_cons, List.length_nil, Nat.reduceAdd, Nat.reduceSub, List.replicate_succ, List.replicate_zero, List.cons_append, List.nil_append]
  have hD : ∀ l, C.D0 l → l = ⟨0, []⟩ := fun l h => by have := (hC l).1 h; simp [heapL, upd] at this; exact this
  repeat' (first | refine Qa ?_ | ((first | apply Ba | (apply Bb; (· rfl); (· rfl)) | (apply Bc; (· exact nxE)) | (apply Bd; (· rfl); (· rfl); (· exact nxE))); (· first | exact Ok.ld1 rfl rfl rfl hF | exact Eo rfl rfl (hT) (Sa (Sd (Sd Sn)) (Sd Sn)) | exact Ok.pe); (first | refine Na ?_ | refine Nb ?_)) | ((first | apply Ca | (apply Cb; (· exact nxE))); (· first | exact Eo rfl rfl (hT) (Sa (Sd (Sd Sn)) (Sd Sn)) | exact Ok.e0); (first | refine Nc ?_ | refine Nd ?_)) | refine Oa ?_ | refine Ob ?_ | ((first | refine Ga (fun h => ?_) (fun h => ?_) | refine AD.gsplit rfl rfl (fun h => ?_) (fun h => ?_)) <;> try (exfalso; omega; done)) | (first | refine AL.gsplitB rfl rfl (fun h => ?_) (fun h => ?_) | refine AD.gsplitB rfl rfl (fun h => ?_) (fun h => ?_)) | refine Fa ?_ | refine Qb ?_ | refine Qc ?_ | refine Qd ?_ | refine Fb ?_ | refine Qe ?_ | refine Wa ?_ | refine Wb ?_ | (refine AW.ite rfl (fun h => ?_) (fun h => ?_) <;> try (exfalso; omega; done)) | refine AW.cond _ rfl (fun h => ?_) (fun h => ?_) | refine Qf ?_ | refine Qg ?_ | refine Qh ?_ | refine Qi ?_ | refine Xa ?_ | refine Xb ?_ | refine Xc ?_ | refine Xd ?_ | refine Fc ?_)
  (refine end1p (by first | exact .inl rfl | exact .inr rfl) rfl (by first | exact rT rfl | exact rCA rfl rfl rfl rfl (by simp) | exact rCC rfl rfl rfl rfl rfl) ?_ (Le.head ([(⟨0, []⟩, ⟨0, []⟩, ⟨2, [[I n, PL xs]]⟩)]) (by first | exact fun l h => absurd h (hD l) | (intro l h; rcases hD l h with rfl; simp [tauL]) | (intro l h; rcases hD l h with rfl | rfl <;> simp [tauL]; done) | (intro l h; rcases hD l h with rfl | rfl | rfl <;> simp [tauL])) ?_ ?_ (by simp) (by simp) (by simp [AllP]) (n' := 1000)); (· rfl)) <;> (repeat' (first | exact trivial | exact ARs.nil | refine ARs.cons ?_ ?_ | exact AR.dead _ | exact AR.dd _ | exact AR.i (by (try dsimp only); omega) | exact AR.ptr _ _ _ _ (by simp [heapL, upd]) | exact AR.own _ _ _ _ (by simp [heapL, upd]) | refine AR.ownE _ _ _ ?_ (by simp [heapL, upd]) | refine ⟨⟨_, rfl, ?_⟩, ?_⟩ | exact ObA.data | refine ObA.box ?_ | refine ObA.frE ?_ | refine ObA.dataE ?_ | refine ARs.agg ?_ | refine ARs.tup ?_ | exact AR.clo' ARs.nil ARs.nil | exact AR.clo' ARs.nil (hca _ _)))
set_option maxHeartbeats 1000000 in
theorem hasCircuit_ac (n : Nat) (xs : List Pl) (hn : n ≤ 10) (hx : xs.length ≤ 100000000) (hv : ∀ p ∈ xs, okPl n p) : AC Try.prog 137 [grD n xs] H0 (Bo (xs.any fun p => decide (0 ≤ tdF xs p.t p.f.toNat))) H0 := by
  have hc := containsFuncPl_ac xs hx 193 [Bx 2 0] [(⟨0, []⟩, ⟨0, []⟩, ⟨2, [[I n, PL xs]]⟩)] (by simp) (by simp) (by intro p hp r hr c hc; simp at hp; subst hp; simp at hr; subst hr; simp at hc; rcases hc with rfl | rfl <;> exact .d _)
    (by intro c hc; simp at hc; subst hc; exact .ptr _ _ _ _ (by simp)) 1 (by simp) (fun p => decide (0 ≤ tdF xs p.t p.f.toNat)) (fun p hp => hasFn_ac n xs p (hv p hp) hn hx hv)
  refine AC.of_body 0 Try.func137 rfl (fun l h => absurd rfl h) (fun C hC => ?_)
  have hD : ∀ l, ¬ C.D0 l := fun l h => (hC l).1 h rfl
  simp only [startFr, Try.ntmps137, List.length_cons, List.length_nil, Nat.reduceAdd, Nat.reduceSub, List.replicate_succ, List.replicate_zero, List.cons_append, List.nil_append]
  repeat' (first | refine Qa ?_ | ((first | apply Ba | (apply Bb; (· rfl); (· rfl)) | (apply Bc; (· exact nxE)) | (apply Bd; (· rfl); (· rfl); (· exact nxE))); (· first | exact OpOk.callS _ rfl rfl hc (by simp [heapL, upd, upds, W.app]) (by intro p hp r hr c hc; simp at hp; subst hp; simp at hr; subst hr; simp at hc; rcases hc with rfl | rfl <;> exact .d _) (.d _) (.cons (.dd _) (.cons (AR.clo' .nil (.cons (AR.ptr _ _ _ _ (by simp)) .nil)) .nil)) | exact Ok.pe); (first | refine Na ?_ | refine Nb ?_)) | ((first | apply Ca | (apply Cb; (· exact nxE))); (· first | exact Ok.e0); (first | refine Nc ?_ | refine Nd ?_)) | refine Oa ?_ | refine Ob ?_ | ((first | refine Ga (fun h => ?_) (fun h => ?_) | refine AD.gsplit rfl rfl (fun h => ?_) (fun h => ?_)) <;> try (exfalso; omega; done)) | (first | refine AL.gsplitB rfl rfl (fun h => ?_) (fun h => ?_) | refine AD.gsplitB rfl rfl (fun h => ?_) (fun h => ?_)) | refine Fa ?_ | refine Qb ?_ | refine Qc ?_ | refine Qd ?_ | refine Fb ?_ | refine Qe ?_ | refine Wa ?_ | refine Wb ?_ | (refine AW.ite rfl (fun h => ?_) (fun h => ?_) <;> try (exfalso; omega; done)) | refine AW.cond _ rfl (fun h => ?_) (fun h => ?_) | refine Qf ?_ | refine Qg ?_ | refine Qh ?_ | refine Qi ?_ | refine Xa ?_ | refine Xb ?_ | refine Xc ?_ | refine Xd ?_ | refine Fc ?_)
  (refine end1p (by first | exact .inl rfl | exact .inr rfl) rfl (by first | exact rT rfl | exact rCA rfl rfl rfl rfl (by simp) | exact rCC rfl rfl rfl rfl rfl) ?_ (Le.head ([]) (by first | exact fun l h => absurd h (hD l) | (intro l h; rcases hD l h with rfl; simp [tauL]) | (intro l h; rcases hD l h with rfl | rfl <;> simp [tauL]; done) | (intro l h; rcases hD l h with rfl | rfl | rfl <;> simp [tauL])) ?_ ?_ (by simp) (by simp) (by simp [AllP]) (n' := 1000)); (· rfl)) <;> (repeat' (first | exact trivial | exact ARs.nil | refine ARs.cons ?_ ?_ | exact AR.dead _ | exact AR.dd _ | exact AR.i (by (try dsimp only); omega) | exact AR.ptr _ _ _ _ (by simp [heapL, upd]) | exact AR.own _ _ _ _ (by simp [heapL, upd]) | refine AR.ownE _ _ _ ?_ (by simp [heapL, upd]) | refine ⟨⟨_, rfl, ?_⟩, ?_⟩ | exact ObA.data | refine ObA.box ?_ | refine ObA.frE ?_ | refine ObA.dataE ?_ | refine ARs.agg ?_ | refine ARs.tup ?_ | exact AR.clo' ARs.nil ARs.nil | exact AR.clo' ARs.nil (hca _ _)))
theorem hasC_any {n : Nat} {xs : List Pl} (hn : n ≤ 10) (hv : ∀ p ∈ xs, okPl n p) : (xs.any fun p => decide (0 ≤ tdF xs p.t p.f.toNat)) = true ↔ hasC xs := by
  rw [hasC_iff (n := n) (fun i hi => ⟨(okPl_at hv i hi).1, (okPl_at hv i hi).2.1, (okPl_at hv i hi).2.2.1.1⟩) (fun u hu => ⟨_, tdOk hv hn hu⟩), List.any_eq_true]
  constructor
  · rintro ⟨p, hp, h⟩
    obtain ⟨i, hi, rfl⟩ := List.getElem_of_mem hp
    refine ⟨i, hi, ?_⟩
    have e : plA xs i = xs[i] := by simp [plA, hi]
    simp only [plF]
    rw [e]
    exact of_decide_eq_true h
  · rintro ⟨i, hi, h⟩
    have e : plA xs i = xs[i] := by simp [plA, hi]
    simp only [plF] at h
    rw [e] at h
    exact ⟨xs[i], List.getElem_mem hi, decide_eq_true h⟩
end Go.Proofs.Ytcjidnpkeliieaa
end
