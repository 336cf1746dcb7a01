/-
  Walks in the abstract reading: FasterPlace and MoreTokens of the reference.
-/
import Derived.Test.YtlgejkkbnpjeoaaKE4
namespace Go.Proofs.Ytlgejkkbnpjeoaa
set_option linter.unusedSimpArgs false
set_option linter.unusedVariables false
open Go Go.RowKit
attribute [local irreducible] AL AD AW OpOk Le AC thenQ blockQ EndQ

theorem codeI_ok {ev : Int} {xs : List Pl} {b : Bool} (h : codeI ev xs b = 0) : liveI ev xs = 0 ∧ b = true := by
  unfold codeI at h
  cases b with
  | true => simpa using h
  | false =>
    by_cases h1 : liveI ev xs = 1
    · simp [h1] at h
    · simp [h1] at h
theorem cqC_ok {ev : Int} {xs : List Pl} {b : Bool} (h : cqC ev xs b = 0) : liveI ev xs = 0 ∧ b = true ∧ bcC ev xs = 0 := by
  unfold cqC at h
  by_cases h1 : codeI ev xs b = 0
  · rw [if_pos h1] at h
    exact ⟨(codeI_ok h1).1, (codeI_ok h1).2, h⟩
  · rw [if_neg h1] at h; exact absurd h h1
def fpIn (xs : List Pl) (i by' : Int) : Bool := wi i 0 ((xs.length : Int) - 1) && wi by' 0 (plA xs i.toNat).d
noncomputable def fpC (ev : Int) (xs : List Pl) (i by' : Int) : Int := if cqC ev xs (fpIn xs i by') = 0 then bcC ev (fasterL xs i.toNat by') else cqC ev xs (fpIn xs i by')
noncomputable def fpR (ev : Int) (xs : List Pl) (i by' : Int) : Int × Int := if cqC ev xs (fpIn xs i by') = 0 then ctR ev (fasterL xs i.toNat by') else (0, 0)
theorem fasterL_len {xs : List Pl} {i : Nat} {b : Int} : (fasterL xs i b).length = xs.length := by simp [fasterL]
set_option maxHeartbeats 2000000 in
theorem sFasterPlace_ac (ev : Int) (xs : List Pl) (i by' : Int) (hx : xs.length ≤ 100000000) : AC Try.prog 62 [grD ev xs, I i, I by'] H0 (.tup [.agg [I (fpR ev xs i by').1, I (fpR ev xs i by').2], I (fpC ev xs i by')]) H0 := by
  have hQ := fun b => l27Code_ac ev xs b hx
  have hI := l01In_ac i 0 ((xs.length : Int) - 1)
  unfold fpR fpC
  cases h1 : wi i 0 ((xs.length : Int) - 1)
  · have hf : fpIn xs i by' = false := by unfold fpIn; rw [h1]; rfl
    have hc : cqC ev xs false ≠ 0 := fun h => by have := (cqC_ok h).2.1; cases this
    rw [hf, if_neg hc, if_neg hc]
    rw [h1] at hI
    have hq := hQ false
    refine AC.of_body 0 Try.func62 rfl (fun l h => absurd rfl h) (fun C hC => ?_)
    have hD : ∀ l, ¬ C.D0 l := fun l h => (hC l).1 h rfl
    simp only [startFr, Try.ntmps62, List.length_cons, List.length_nil, Nat.reduceAdd, Nat.reduceSub, List.replicate_succ, List.replicate_zero, List.cons_append, List.nil_append]
    repeat' (first | refine Qa ?_ | ((first | apply Ba | (apply Bb; (· rfl); (· rfl)) | (apply Bc; (· exact nxE)) | (apply Bd; (· rfl); (· rfl); (· exact nxE))); (· first | exact Kz rfl rfl (hI) (Ad (Ad (Ad An))) | exact Kz rfl rfl (hq) (Aa (Ad (Ad An)) (Ad An)) | exact Ok.pe); (first | refine Na ?_ | refine Nb ?_)) | ((first | apply Ca | (apply Cb; (· exact nxE))); (· first | exact Ok.e0); (first | refine Nc ?_ | refine Nd ?_)) | refine Oa ?_ | refine Ob ?_ | ((first | refine Ga (fun h => ?_) (fun h => ?_) | refine AD.gsplit rfl rfl (fun h => ?_) (fun h => ?_)) <;> try (exfalso; omega; done)) | (first | refine AL.gsplitB rfl rfl (fun h => ?_) (fun h => ?_) | refine AD.gsplitB rfl rfl (fun h => ?_) (fun h => ?_)) | refine Fa ?_ | refine Qb ?_ | refine Qc ?_ | refine Qd ?_ | refine Fb ?_ | refine Qe ?_ | refine Wa ?_ | refine Wb ?_ | (refine AW.ite rfl (fun h => ?_) (fun h => ?_) <;> try (exfalso; omega; done)) | refine AW.cond _ rfl (fun h => ?_) (fun h => ?_) | refine Qf ?_ | refine Qg ?_ | refine Qh ?_ | refine Qi ?_ | refine Xa ?_ | refine Xb ?_ | refine Xc ?_ | refine Xd ?_ | refine Fc ?_)
    refine Yb ?_
    (apply Le.headZ (hs := []) [] rfl)
    all_goals (try dsimp only [srcs])
    (case' hfr => (repeat' (first | refine La ?_ ?_ | exact Lc | refine Lo ?_ | refine ⟨⟨_, rfl, ?_⟩, ?_⟩ | refine ObA.box ?_ | refine ObA.frE ?_ | refine ObA.dataE ?_ | refine ARs.agg ?_ | refine ARs.tup ?_ | refine AR.b ?_ | refine AR.iE ?_ | refine AR.e ?_ | refine AR.clo' ARs.nil ?_)))
    all_goals (first | exact Ld | exact trivial | (rfl))
  · obtain ⟨i', rfl⟩ : ∃ n : Nat, i = n := ⟨i.toNat, by have := wi_iff.1 h1; omega⟩
    have hi : i' < xs.length := by have := wi_iff.1 h1; omega
    have hrow := pl_row (n := 0) hi
    rw [h1] at hI
    have hf : fpIn xs i' by' = wi by' 0 (plA xs i').d := by unfold fpIn; rw [h1]; rfl
    have hI2 := l01In_ac by' 0 (plA xs i').d
    have hq := hQ (wi by' 0 (plA xs i').d)
    rw [hf, Int.toNat_natCast]
    by_cases hc : cqC ev xs (wi by' 0 (plA xs i').d) = 0
    · rw [if_pos hc, if_pos hc]
      obtain ⟨c1, c2, c3⟩ := cqC_ok hc
      obtain ⟨n, rfl, g1, g2, g3, g4, g5⟩ := live_ok c1
      have ho := okPl_at g4 i' hi
      obtain ⟨_, _, ⟨g7, g8⟩, _⟩ := ho
      have hw := wi_iff.1 c2
      rw [hc] at hq
      have hF := l27Faster_ac n n xs i' by' (by omega) hi ⟨g7, g8⟩ (by omega)
      have hT := sCycleTime_ac n (fasterL xs i' by') (by rw [fasterL_len]; exact hx)
      have hfl : ((fasterL xs i' by').map Pl.row).length = xs.length := by simp [fasterL]
      rw [← hfl] at hF
      generalize fasterL xs i' by' = ys at *
      generalize wi by' 0 (plA xs i').d = vb at *
      generalize plA xs i' = p at *
      obtain ⟨pf, pt, pd, pk⟩ := p
      simp only at hrow hI2
      refine AC.of_body 0 Try.func62 rfl (fun l h => absurd rfl h) (fun C hC => ?_)
      have hD : ∀ l, ¬ C.D0 l := fun l h => (hC l).1 h rfl
      simp only [startFr, Try.ntmps62, List.length_cons, List.length_nil, Nat.reduceAdd, Nat.reduceSub, List.replicate_succ, List.replicate_zero, List.cons_append, List.nil_append]
      repeat' (first | refine Qa ?_ | ((first | apply Ba | (apply Bb; (· rfl); (· rfl)) | (apply Bc; (· exact nxE)) | (apply Bd; (· rfl); (· rfl); (· exact nxE))); (· first | exact Kz rfl rfl (hI) (Ad (Ad (Ad An))) | exact Kz rfl rfl (hI2) (Ad (Ad (Ad An))) | exact Kz rfl rfl (hq) (Aa (Ad (Ad An)) (Ad An)) | exact Zf rfl rfl (hT) (Sa (Sd (Sw Sn)) Sn) | exact Eo rfl rfl (hF) (Sa (Sd (Sd Sn)) (Sd (Sd Sn))) | exact Ok.pe); (first | refine Na ?_ | refine Nb ?_)) | ((first | apply Ca | (apply Cb; (· exact nxE))); (· first | exact Eo rfl rfl (hF) (Sa (Sd (Sd Sn)) (Sd (Sd Sn))) | exact Ok.e0); (first | refine Nc ?_ | refine Nd ?_)) | refine Oa ?_ | refine Ob ?_ | ((first | refine Ga (fun h => ?_) (fun h => ?_) | refine AD.gsplit rfl rfl (fun h => ?_) (fun h => ?_)) <;> try (exfalso; omega; done)) | (first | refine AL.gsplitB rfl rfl (fun h => ?_) (fun h => ?_) | refine AD.gsplitB rfl rfl (fun h => ?_) (fun h => ?_)) | refine Fa ?_ | refine Qb ?_ | refine Qc ?_ | refine Qd ?_ | refine Fb ?_ | refine Qe ?_ | refine Wa ?_ | refine Wb ?_ | (refine AW.ite rfl (fun h => ?_) (fun h => ?_) <;> try (exfalso; omega; done)) | refine AW.cond _ rfl (fun h => ?_) (fun h => ?_) | refine Qf ?_ | refine Qg ?_ | refine Qh ?_ | refine Qi ?_ | refine Xa ?_ | refine Xb ?_ | refine Xc ?_ | refine Xd ?_ | refine Fc ?_)
      refine Yb ?_
      (apply Le.headZ (hs := []) [] rfl)
      all_goals (try dsimp only [srcs])
      (case' hfr => (repeat' (first | refine La ?_ ?_ | exact Lc | refine Lo ?_ | refine ⟨⟨_, rfl, ?_⟩, ?_⟩ | refine ObA.box ?_ | refine ObA.frE ?_ | refine ObA.dataE ?_ | refine ARs.agg ?_ | refine ARs.tup ?_ | refine AR.b ?_ | refine AR.iE ?_ | refine AR.e ?_ | refine AR.clo' ARs.nil ?_)))
      all_goals (first | exact Ld | exact trivial | (rfl))
    · rw [if_neg hc, if_neg hc]
      generalize wi by' 0 (plA xs i').d = vb at *
      generalize plA xs i' = p at *
      obtain ⟨pf, pt, pd, pk⟩ := p
      simp only at hrow hI2
      refine AC.of_body 0 Try.func62 rfl (fun l h => absurd rfl h) (fun C hC => ?_)
      have hD : ∀ l, ¬ C.D0 l := fun l h => (hC l).1 h rfl
      simp only [startFr, Try.ntmps62, List.length_cons, List.length_nil, Nat.reduceAdd, Nat.reduceSub, List.replicate_succ, List.replicate_zero, List.cons_append, List.nil_append]
      repeat' (first | refine Qa ?_ | ((first | apply Ba | (apply Bb; (· rfl); (· rfl)) | (apply Bc; (· exact nxE)) | (apply Bd; (· rfl); (· rfl); (· exact nxE))); (· first | exact Kz rfl rfl (hI) (Ad (Ad (Ad An))) | exact Kz rfl rfl (hI2) (Ad (Ad (Ad An))) | exact Kz rfl rfl (hq) (Aa (Ad (Ad An)) (Ad An)) | exact Ok.pe); (first | refine Na ?_ | refine Nb ?_)) | ((first | apply Ca | (apply Cb; (· exact nxE))); (· first | exact Ok.e0); (first | refine Nc ?_ | refine Nd ?_)) | refine Oa ?_ | refine Ob ?_ | ((first | refine Ga (fun h => ?_) (fun h => ?_) | refine AD.gsplit rfl rfl (fun h => ?_) (fun h => ?_)) <;> try (exfalso; omega; done)) | (first | refine AL.gsplitB rfl rfl (fun h => ?_) (fun h => ?_) | refine AD.gsplitB rfl rfl (fun h => ?_) (fun h => ?_)) | refine Fa ?_ | refine Qb ?_ | refine Qc ?_ | refine Qd ?_ | refine Fb ?_ | refine Qe ?_ | refine Wa ?_ | refine Wb ?_ | (refine AW.ite rfl (fun h => ?_) (fun h => ?_) <;> try (exfalso; omega; done)) | refine AW.cond _ rfl (fun h => ?_) (fun h => ?_) | refine Qf ?_ | refine Qg ?_ | refine Qh ?_ | refine Qi ?_ | refine Xa ?_ | refine Xb ?_ | refine Xc ?_ | refine Xd ?_ | refine Fc ?_)
      refine Yb ?_
      (apply Le.headZ (hs := []) [] rfl)
      all_goals (try dsimp only [srcs])
      (case' hfr => (repeat' (first | refine La ?_ ?_ | exact Lc | refine Lo ?_ | refine ⟨⟨_, rfl, ?_⟩, ?_⟩ | refine ObA.box ?_ | refine ObA.frE ?_ | refine ObA.dataE ?_ | refine ARs.agg ?_ | refine ARs.tup ?_ | refine AR.b ?_ | refine AR.iE ?_ | refine AR.e ?_ | refine AR.clo' ARs.nil ?_)))
      all_goals (first | exact Ld | exact trivial | (rfl))
end Go.Proofs.Ytlgejkkbnpjeoaa
