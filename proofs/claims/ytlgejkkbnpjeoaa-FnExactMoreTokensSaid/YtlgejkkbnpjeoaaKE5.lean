/-
  Walks in the abstract reading: FasterPlace and MoreTokens of the reference.
-/
import Derived.Test.YtlgejkkbnpjeoaaKE4
namespace Go.Proofs.Ytlgejkkbnpjeoaa
set_option linter.unusedSimpArgs false
set_option linter.unusedVariables false
open Go Go.RowKit
attribute [local irreducible] AL AD AW OpOk Le AC thenQ blockQ EndQ

theorem codeI_ok {ev : Int} {xs : List Pl} {b : Bool} (h : codeI ev xs b = 0) : liveI ev xs = 0 ∧ b = true := by
  unfold codeI at h
  cases b with
  | true => simpa using h
  | false =>
    by_cases h1 : liveI ev xs = 1
    · simp [h1] at h
    · simp [h1] at h
theorem cqC_ok {ev : Int} {xs : List Pl} {b : Bool} (h : cqC ev xs b = 0) : liveI ev xs = 0 ∧ b = true ∧ bcC ev xs = 0 := by
  unfold cqC at h
  by_cases h1 : codeI ev xs b = 0
  · rw [if_pos h1] at h
    exact ⟨(codeI_ok h1).1, (codeI_ok h1).2, h⟩
  · rw [if_neg h1] at h; exact absurd h h1
theorem moreL_len {xs : List Pl} {i : Nat} : (moreL xs i).length = xs.length := by simp [moreL]
noncomputable def mtC (ev : Int) (xs : List Pl) (i : Int) : Int := if cqC ev xs (wi i 0 ((xs.length : Int) - 1)) = 0 then (if (plA xs i.toNat).k = 5 then 3 else bcC ev (moreL xs i.toNat)) else cqC ev xs (wi i 0 ((xs.length : Int) - 1))
noncomputable def mtR (ev : Int) (xs : List Pl) (i : Int) : Int × Int := if cqC ev xs (wi i 0 ((xs.length : Int) - 1)) = 0 then (if (plA xs i.toNat).k = 5 then (0, 0) else ctR ev (moreL xs i.toNat)) else (0, 0)
set_option maxHeartbeats 2000000 in
theorem sMoreTokens_ac (ev : Int) (xs : List Pl) (i : Int) (hx : xs.length ≤ 100000000) : AC Try.prog 59 [grD ev xs, I i] H0 (.tup [.agg [I (mtR ev xs i).1, I (mtR ev xs i).2], I (mtC ev xs i)]) H0 := by
  have hI := l01In_ac i 0 ((xs.length : Int) - 1)
  have hq := l27Code_ac ev xs (wi i 0 ((xs.length : Int) - 1)) hx
  unfold mtR mtC
  by_cases hc : cqC ev xs (wi i 0 ((xs.length : Int) - 1)) = 0
  · rw [if_pos hc, if_pos hc]
    rw [hc] at hq
    obtain ⟨c1, c2, c3⟩ := cqC_ok hc
    obtain ⟨i', rfl⟩ : ∃ n : Nat, i = n := ⟨i.toNat, by have := wi_iff.1 c2; omega⟩
    have hi : i' < xs.length := by have := wi_iff.1 c2; omega
    have hrow := pl_row (n := 0) hi
    obtain ⟨n, rfl, g1, g2, g3, g4, g5⟩ := live_ok c1
    obtain ⟨_, _, ⟨g7, g8⟩, ⟨g9, g10⟩⟩ := okPl_at g4 i' hi
    have hO := l11Own_ac n xs (by omega)
    have hr := ownPl_row hi
    have hs := ownPl_set (xs := xs) (i := i') (p := ⟨(plA xs i').f, (plA xs i').t, (plA xs i').d, (plA xs i').k + 1⟩)
    have hT := sCycleTime_ac n (moreL xs i') (by rw [moreL_len]; exact hx)
    have hfl : ((moreL xs i').map Pl.row).length = xs.length := by simp [moreL]
    rw [Int.toNat_natCast]
    unfold moreL at *
    generalize hys : xs.set i' ⟨(plA xs i').f, (plA xs i').t, (plA xs i').d, (plA xs i').k + 1⟩ = ys at *
    clear hys
    rw [← hfl] at hO
    generalize plA xs i' = p at *
    obtain ⟨pf, pt, pd, pk⟩ := p
    simp only at hrow hr hs g7 g8 g9 g10 ⊢
    by_cases h5 : pk = 5
    · rw [if_pos h5, if_pos h5]
      subst h5
      refine AC.of_body 0 Try.func59 rfl (fun l h => absurd rfl h) (fun C hC => ?_)
      have hD : ∀ l, ¬ C.D0 l := fun l h => (hC l).1 h rfl
      simp only [startFr, Try.ntmps59, List.length_cons, List.length_nil, Nat.reduceAdd, Nat.reduceSub, List.replicate_succ, List.replicate_zero, List.cons_append, List.nil_append]
      repeat' (first | refine Qa ?_ | ((first | apply Ba | (apply Bb; (· rfl); (· rfl)) | (apply Bc; (· exact nxE)) | (apply Bd; (· rfl); (· rfl); (· exact nxE))); (· first | exact Kz rfl rfl (hI) (Ad (Ad (Ad An))) | exact Kz rfl rfl (hq) (Aa (Ad (Ad An)) (Ad An)) | exact Ok.pe); (first | refine Na ?_ | refine Nb ?_)) | ((first | apply Ca | (apply Cb; (· exact nxE))); (· first | exact Ok.e0); (first | refine Nc ?_ | refine Nd ?_)) | refine Oa ?_ | refine Ob ?_ | ((first | refine Ga (fun h => ?_) (fun h => ?_) | refine AD.gsplit rfl rfl (fun h => ?_) (fun h => ?_)) <;> try (exfalso; omega; done)) | (first | refine AL.gsplitB rfl rfl (fun h => ?_) (fun h => ?_) | refine AD.gsplitB rfl rfl (fun h => ?_) (fun h => ?_)) | refine Fa ?_ | refine Qb ?_ | refine Qc ?_ | refine Qd ?_ | refine Fb ?_ | refine Qe ?_ | refine Wa ?_ | refine Wb ?_ | (refine AW.ite rfl (fun h => ?_) (fun h => ?_) <;> try (exfalso; omega; done)) | refine AW.cond _ rfl (fun h => ?_) (fun h => ?_) | refine Qf ?_ | refine Qg ?_ | refine Qh ?_ | refine Qi ?_ | refine Xa ?_ | refine Xb ?_ | refine Xc ?_ | refine Xd ?_ | refine Fc ?_)
      refine Yb ?_
      (apply Le.headZ (hs := []) [] rfl)
      all_goals (try dsimp only [srcs])
      (case' hfr => (repeat' (first | refine La ?_ ?_ | exact Lc | refine Lo ?_ | refine ⟨⟨_, rfl, ?_⟩, ?_⟩ | refine ObA.box ?_ | refine ObA.frE ?_ | refine ObA.dataE ?_ | refine ARs.agg ?_ | refine ARs.tup ?_ | refine AR.b ?_ | refine AR.iE ?_ | refine AR.e ?_ | refine AR.clo' ARs.nil ?_)))
      all_goals (first | exact Ld | exact trivial | (rfl))
    · rw [if_neg h5, if_neg h5]
      refine AC.of_body 0 Try.func59 rfl (fun l h => absurd rfl h) (fun C hC => ?_)
      have hD : ∀ l, ¬ C.D0 l := fun l h => (hC l).1 h rfl
      simp only [startFr, Try.ntmps59, List.length_cons, List.length_nil, Nat.reduceAdd, Nat.reduceSub, List.replicate_succ, List.replicate_zero, List.cons_append, List.nil_append]
      repeat' (first | refine Qa ?_ | ((first | apply Ba | (apply Bb; (· rfl); (· rfl)) | (apply Bc; (· exact nxE)) | (apply Bd; (· rfl); (· rfl); (· exact nxE))); (· first | exact Kz rfl rfl (hI) (Ad (Ad (Ad An))) | exact Kz rfl rfl (hq) (Aa (Ad (Ad An)) (Ad An)) | exact OpOk.loadCell rfl rfl rfl rfl hr rfl | exact Zf rfl rfl (hT) (Sa (Sd (Sw Sn)) Sn) | exact Eo rfl rfl (hO) (Sa (Sd (Sd Sn)) Sn) | exact Ok.storeC rfl rfl rfl rfl hr (by simp only [List.length_cons, List.length_nil, Nat.reduceAdd, Nat.reduceLT]) (by conv => lhs; whnf) (by rfl) (by rfl) hs | exact Ok.pe); (first | refine Na ?_ | refine Nb ?_)) | ((first | apply Ca | (apply Cb; (· exact nxE))); (· first | exact Eo rfl rfl (hO) (Sa (Sd (Sd Sn)) Sn) | exact Ok.storeC rfl rfl rfl rfl hr (by simp only [List.length_cons, List.length_nil, Nat.reduceAdd, Nat.reduceLT]) (by conv => lhs; whnf) (by rfl) (by rfl) hs | exact Ok.e0); (first | refine Nc ?_ | refine Nd ?_)) | refine Oa ?_ | refine Ob ?_ | ((first | refine Ga (fun h => ?_) (fun h => ?_) | refine AD.gsplit rfl rfl (fun h => ?_) (fun h => ?_)) <;> try (exfalso; omega; done)) | (first | refine AL.gsplitB rfl rfl (fun h => ?_) (fun h => ?_) | refine AD.gsplitB rfl rfl (fun h => ?_) (fun h => ?_)) | refine Fa ?_ | refine Qb ?_ | refine Qc ?_ | refine Qd ?_ | refine Fb ?_ | refine Qe ?_ | refine Wa ?_ | refine Wb ?_ | (refine AW.ite rfl (fun h => ?_) (fun h => ?_) <;> try (exfalso; omega; done)) | refine AW.cond _ rfl (fun h => ?_) (fun h => ?_) | refine Qf ?_ | refine Qg ?_ | refine Qh ?_ | refine Qi ?_ | refine Xa ?_ | refine Xb ?_ | refine Xc ?_ | refine Xd ?_ | refine Fc ?_)
      refine Yb ?_
      (apply Le.headZ (hs := []) [] rfl)
      all_goals (try dsimp only [srcs])
      (case' hfr => (repeat' (first | refine La ?_ ?_ | exact Lc | refine Lo ?_ | refine ⟨⟨_, rfl, ?_⟩, ?_⟩ | refine ObA.box ?_ | refine ObA.frE ?_ | refine ObA.dataE ?_ | refine ARs.agg ?_ | refine ARs.tup ?_ | refine AR.b ?_ | refine AR.iE ?_ | refine AR.e ?_ | refine AR.clo' ARs.nil ?_)))
      all_goals (first | exact Ld | exact trivial | (rfl))
  · rw [if_neg hc, if_neg hc]
    generalize wi i 0 ((xs.length : Int) - 1) = vb at *
    refine AC.of_body 0 Try.func59 rfl (fun l h => absurd rfl h) (fun C hC => ?_)
    have hD : ∀ l, ¬ C.D0 l := fun l h => (hC l).1 h rfl
    simp only [startFr, Try.ntmps59, List.length_cons, List.length_nil, Nat.reduceAdd, Nat.reduceSub, List.replicate_succ, List.replicate_zero, List.cons_append, List.nil_append]
    repeat' (first | refine Qa ?_ | ((first | apply Ba | (apply Bb; (· rfl); (· rfl)) | (apply Bc; (· exact nxE)) | (apply Bd; (· rfl); (· rfl); (· exact nxE))); (· first | exact Kz rfl rfl (hI) (Ad (Ad (Ad An))) | exact Kz rfl rfl (hq) (Aa (Ad (Ad An)) (Ad An)) | exact Ok.pe); (first | refine Na ?_ | refine Nb ?_)) | ((first | apply Ca | (apply Cb; (· exact nxE))); (· first | exact Ok.e0); (first | refine Nc ?_ | refine Nd ?_)) | refine Oa ?_ | refine Ob ?_ | ((first | refine Ga (fun h => ?_) (fun h => ?_) | refine AD.gsplit rfl rfl (fun h => ?_) (fun h => ?_)) <;> try (exfalso; omega; done)) | (first | refine AL.gsplitB rfl rfl (fun h => ?_) (fun h => ?_) | refine AD.gsplitB rfl rfl (fun h => ?_) (fun h => ?_)) | refine Fa ?_ | refine Qb ?_ | refine Qc ?_ | refine Qd ?_ | refine Fb ?_ | refine Qe ?_ | refine Wa ?_ | refine Wb ?_ | (refine AW.ite rfl (fun h => ?_) (fun h => ?_) <;> try (exfalso; omega; done)) | refine AW.cond _ rfl (fun h => ?_) (fun h => ?_) | refine Qf ?_ | refine Qg ?_ | refine Qh ?_ | refine Qi ?_ | refine Xa ?_ | refine Xb ?_ | refine Xc ?_ | refine Xd ?_ | refine Fc ?_)
    refine Yb ?_
    (apply Le.headZ (hs := []) [] rfl)
    all_goals (try dsimp only [srcs])
    (case' hfr => (repeat' (first | refine La ?_ ?_ | exact Lc | refine Lo ?_ | refine ⟨⟨_, rfl, ?_⟩, ?_⟩ | refine ObA.box ?_ | refine ObA.frE ?_ | refine ObA.dataE ?_ | refine ARs.agg ?_ | refine ARs.tup ?_ | refine AR.b ?_ | refine AR.iE ?_ | refine AR.e ?_ | refine AR.clo' ARs.nil ?_)))
    all_goals (first | exact Ld | exact trivial | (rfl))
end Go.Proofs.Ytlgejkkbnpjeoaa
