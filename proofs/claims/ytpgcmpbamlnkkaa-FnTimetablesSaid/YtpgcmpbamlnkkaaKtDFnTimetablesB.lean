/-
  The law FnTimetables, in the abstract reading, case B.
-/
import Derived.Test.YtpgcmpbamlnkkaaKtU12
namespace Go.Proofs.Ytpgcmpbamlnkkaa
set_option linter.unusedSimpArgs false
set_option linter.unusedVariables false
open Go Go.RowKit
attribute [local irreducible] AL AD AW OpOk Le AC thenQ blockQ EndQ

set_option maxRecDepth 100000 in
set_option maxHeartbeats 16000000 in
theorem ttWalkB (code : List Int) (hbig : ¬ 4096 < (code.length : Int)) (ev : Int) (xs : List Pl) (P : Int) (ew : Int) (ys : List Pl) (Q : Int) (ez : Int) (zs : List Pl) (R : Int) (st : List Int) (P1 : Int) (x1 : List Int) (c1 : Int) (l : List Nat) (c2 : Int) (s p : List Int) (c3 : Int) (kb vb : Bool)
    (hsl : s.length ≤ 1000000) (hll : l.length ≤ 1000) (hti : ∀ (i : Nat) (a : Int), s[i]? = some a → (p.any fun x => decide (x = (i : Int))) = decide (a = 0)) (hkt : kb = (decide (c3 = 0) && s.all fun a => decide (a ≥ 0))) (hH : ∀ i : Int, AC Try.prog 24 [IL p, I i] H0 (Bo (p.any fun x => decide (x = i))) H0) (h1 : c1 = 0) (h2 : c2 ≠ 0) (hP1 : P1 = P) (hK2 : AC Try.prog 34 [grD ev xs, ttA P1 x1] H0 (.tup [Bo true, I 0]) H0)
    (hBig : AC Try.prog 10 [.d (BD code)] H0 (Bo (decide (4096 < (code.length : Int)))) H0)
    (hG : AC Try.prog 25 [.d (BD code)] H0 (.tup [grD ev xs, I P]) H0)
    (hG2 : AC Try.prog 28 [.d (BD code)] H0 (.tup [grD ew ys, I Q]) H0)
    (hG3 : AC Try.prog 31 [.d (BD code)] H0 (.tup [grD ez zs, ttA R st]) H0)
    (hE1 : AC Try.prog 26 [grD ev xs, I P] H0 (.tup [ttA P1 x1, I c1]) H0)
    (hB1 : AC Try.prog 29 [grD ew ys, I Q] H0 (.tup [IL (cN l), I c2]) H0)
    (hS1 : AC Try.prog 32 [grD ez zs, ttA R st] H0 (.tup [IL s, I c3]) H0)
    (hT1 : AC Try.prog 35 [grD ez zs, ttA R st] H0 (.tup [IL p, I c3]) H0)
    (hV1 : AC Try.prog 38 [grD ez zs, ttA R st] H0 (Bo vb) H0)
    (hE2 : AC Try.prog 27 [grD ev xs, I P] H0 (.tup [ttA P1 x1, I c1]) H0)
    (hB2 : AC Try.prog 30 [grD ew ys, I Q] H0 (.tup [IL (cN l), I c2]) H0)
    (hS2 : AC Try.prog 33 [grD ez zs, ttA R st] H0 (.tup [IL s, I c3]) H0)
    (hT2 : AC Try.prog 36 [grD ez zs, ttA R st] H0 (.tup [IL p, I c3]) H0)
    (hV2 : AC Try.prog 39 [grD ez zs, ttA R st] H0 (Bo vb) H0)
    (hK : AC Try.prog 34 [grD ez zs, ttA R st] H0 (.tup [Bo kb, I c3]) H0)
    (hL0 : AC Try.prog 37 [ttA P1 x1, ttA P1 x1] H0 (Bo true) H0)
    (hL1 : AC Try.prog 23 [IL (cN l), IL (cN l)] H0 (Bo true) H0)
    (hL2 : AC Try.prog 23 [IL s, IL s] H0 (Bo true) H0)
    (hL3 : AC Try.prog 23 [IL p, IL p] H0 (Bo true) H0) : AC Try.prog 4 [.d (BD code)] H0 (Bo true) H0 := by
  have hsr : (IR s).length = s.length := IR_len
  have hlr : (IR (cN l)).length = l.length := by simp
  subst hP1 h1
  refine AC.of_body 0 Try.func4 rfl (fun l h => absurd rfl h) (fun C hC => ?_)
  have hD : ∀ l, ¬ C.D0 l := fun l h => (hC l).1 h rfl
  simp only [startFr, Try.ntmps4, List.length_cons, List.length_nil, Nat.reduceAdd, Nat.reduceSub, List.replicate_succ, List.replicate_zero, List.cons_append, List.nil_append]
  repeat' (first | ((first | apply Ba | (apply Bb; (· rfl); (· rfl)) | (apply Bc; (· exact nxE)) | (apply Bd; (· rfl); (· rfl); (· exact nxE))); (· first | exact Kz rfl rfl (hBig) (Ad An) | exact Kz rfl rfl (hG) (Ad An) | exact Kz rfl rfl (hG2) (Ad An) | exact Kz rfl rfl (hG3) (Ad An) | exact Kz rfl rfl (hE1) (Aa (Ad (Ad An)) (Ad An)) | exact Kz rfl rfl (hB1) (Aa (Ad (Ad An)) (Ad An)) | exact Kz rfl rfl (hS1) (Aa (Ad (Ad An)) (Aa (Ad (Ad An)) An)) | exact Kz rfl rfl (hT1) (Aa (Ad (Ad An)) (Aa (Ad (Ad An)) An)) | exact Kz rfl rfl (hV1) (Aa (Ad (Ad An)) (Aa (Ad (Ad An)) An)) | exact Kz rfl rfl (hE2) (Aa (Ad (Ad An)) (Ad An)) | exact Kz rfl rfl (hB2) (Aa (Ad (Ad An)) (Ad An)) | exact Kz rfl rfl (hS2) (Aa (Ad (Ad An)) (Aa (Ad (Ad An)) An)) | exact Kz rfl rfl (hT2) (Aa (Ad (Ad An)) (Aa (Ad (Ad An)) An)) | exact Kz rfl rfl (hV2) (Aa (Ad (Ad An)) (Aa (Ad (Ad An)) An)) | exact Kz rfl rfl (hK) (Aa (Ad (Ad An)) (Aa (Ad (Ad An)) An)) | exact Kz rfl rfl (hL0) (Aa (Ad (Ad An)) (Aa (Ad (Ad An)) An)) | exact Kz rfl rfl (hL1) (Ad (Ad An)) | exact Kz rfl rfl (hL2) (Ad (Ad An)) | exact Kz rfl rfl (hL3) (Ad (Ad An)) | exact Ok.bneS rfl rfl rfl (by kernel_rfl) | exact Ok.pe)) | ((first | apply Ca | (apply Cb; (· exact nxE))); (· first | exact Ok.e0)) | refine Sx ?_ | (refine Sy (fun h => ?_) (fun h => ?_) <;> try (exfalso; omega; done)) | refine Sz (fun h => ?_) (fun h => ?_))
  refine AW.loop (X := {k : Nat // k ≤ s.length}) (fun k => ⟨[Oo, Oo, Oo, Bx 2 0, I P1, Bx 2 1, I 0, Oo, Oo, Bx 2 2, I Q, IL (cN l), I c2, Oo, Oo, Oo, Oo, IL s, Oo, Oo, Oo, Bo kb, Oo, IL p, Oo, Oo, Oo, Bo (decide (c3 = 0) && (s.take k.1).all fun a => decide (a ≥ 0)), I (k.1 : Nat), Oo, Oo, Oo, Oo, Oo, Oo, Oo, Oo, Oo, Oo, Oo, Oo, Oo, Oo, Oo, Oo, Oo, Oo, Oo, Oo, Oo, Oo, Oo, Oo, Oo, Oo, Oo, Oo, Oo, Oo, Oo, Oo, Oo, Oo, Oo, Oo, Oo, Oo, Oo, Oo, Oo, Oo, Oo, Oo, Oo, Oo, Oo, Oo, Oo, Oo, Oo, Oo, Oo, Oo, Oo, Oo, Oo, Oo, Oo, Oo, Oo, Oo, Oo, Oo, Oo, Oo, Oo, Oo, Oo, Oo, Oo, Oo, Oo, Oo, Oo, Oo, Oo, Oo, Oo, Oo, Oo, Oo, Oo, Oo, Oo, Oo, Oo, Oo, Oo, Oo, Oo, Oo, Oo, Oo, Oo, Oo, Oo, Oo, Oo, Oo, Oo, Oo, Oo, Oo, Oo, Oo, Oo, Oo, Oo, Oo, Oo, Oo, Oo, Oo, Oo, Oo, Oo, Oo, Oo, Oo, Oo, Oo, Oo, Oo, Oo, Oo, Oo, Oo, Oo, Oo, Oo, Oo, Oo, Oo, Oo, Oo, Oo, Oo, Oo, Oo, Oo, Oo, Oo, Oo, Oo, Oo, Oo, Oo, Oo, Oo, Oo, Oo, Oo, Oo, Oo, Oo, Oo, Oo, Oo, Oo, Oo, Oo, Oo, Oo, Oo, Oo, Oo, Oo, Oo, Oo, Oo, Oo, Oo, Oo, Oo, Oo, Oo, Oo, Oo, Oo, Oo, Oo, Oo, Oo, Oo, Oo, Oo, Oo, Oo, Oo, Oo, Oo, Oo, Oo, Oo, Oo, Oo, Oo, Oo, Oo, Oo, Oo, Oo, Oo, Oo, Oo, Oo, Oo, Oo, Oo, Oo, Oo, Oo, Oo, Oo, Oo, Oo, Oo, Oo, Oo], heapL [(⟨0, []⟩, ⟨0, []⟩, ⟨2, [[I ev, PL xs]]⟩), (⟨1, []⟩, ⟨1, []⟩, ⟨2, [[I P1, IL x1]]⟩), (⟨2, []⟩, ⟨2, []⟩, ⟨2, [[I ew, PL ys]]⟩)], 900⟩) (fun k => s.length - k.1) ⟨0, Nat.zero_le _⟩ ?_ (fun k => ?_)
  ·
    (apply Le.headZ [_, _, _] rfl)
    all_goals (try dsimp only [srcs])
    (case' hfr | hob => (repeat' (first | refine La ?_ ?_ | exact Lc | refine Lo ?_ | refine ⟨⟨_, rfl, ?_⟩, ?_⟩ | refine Lx ?_)))
    all_goals (first | ((first | (simp; done) | rfl)) | exact Ld)
  obtain ⟨i, hi⟩ := k
  simp only
  by_cases hlt : i < s.length
  · obtain ⟨a, ha⟩ : ∃ a, s[i]? = some a := ⟨s[i], by simp⟩
    have hcell := IR_get ha
    have hti1 := hti i a ha
    have hHi := hH (i : Nat)
    rw [hti1] at hHi
    have htk : (s.take (i + 1)).all (fun a => decide (a ≥ 0)) = ((s.take i).all (fun a => decide (a ≥ 0)) && decide (a ≥ 0)) := by
      obtain ⟨hi', e⟩ := List.getElem?_eq_some_iff.1 ha
      rw [List.take_succ_eq_append_getElem hi', List.all_append, e]
      simp
    have hJ := hHi
    clear hHi hH hti hti1 hK2
    generalize hg1 : (s.take (i + 1)).all (fun a => decide (a ≥ 0)) = g1 at *
    generalize (s.take i).all (fun a => decide (a ≥ 0)) = g at *
    have hstep : (decide (c3 = 0) && g1) = ((decide (c3 = 0) && g) && decide (a ≥ 0)) := by rw [htk, Bool.and_assoc]
    clear htk
    have hfin : (decide (c3 = 0) && (s.take (i + 1)).all fun a => decide (a ≥ 0)) = (decide (c3 = 0) && g1) := by rw [← hg1]
    generalize (decide (c3 = 0) && g) = v at *
    clear hg1
    cases v
    · rw [Bool.false_and] at hstep
      repeat' (first | ((first | apply Ba | (apply Bb; (· rfl); (· rfl)) | (apply Bc; (· exact nxE)) | (apply Bd; (· rfl); (· rfl); (· exact nxE))); (· first | exact Ok.lenD rfl rfl hsr | exact Kz rfl rfl (hJ) (Ad (Ad An)) | exact Ok.bneS rfl rfl rfl (by kernel_rfl) | exact Ok.pe)) | ((first | apply Ca | (apply Cb; (· exact nxE))); (· first | exact Ok.e0)) | refine Sx ?_ | (refine Sy (fun h => ?_) (fun h => ?_) <;> try (exfalso; omega; done)) | refine Sz (fun h => ?_) (fun h => ?_))
      refine ⟨⟨i + 1, by omega⟩, ?_, by simp only; omega⟩
      (apply Le.headZ [_, _, _] rfl)
      all_goals (try dsimp only [srcs])
      (case' hfr | hob => (repeat' (first | refine La ?_ ?_ | exact Lc | refine Lo ?_ | refine ⟨⟨_, rfl, ?_⟩, ?_⟩ | refine Lx ?_)))
      all_goals (first | ((first | exact hfin.trans hstep | exact (hfin.trans hstep).symm | (rw [hfin.trans hstep]; done) | exact congrArg Bo (hfin.trans hstep) | exact congrArg Bo (hfin.trans hstep).symm)) | exact Ld)
    · rw [Bool.true_and] at hstep
      repeat' (first | ((first | apply Ba | (apply Bb; (· rfl); (· rfl)) | (apply Bc; (· exact nxE)) | (apply Bd; (· rfl); (· rfl); (· exact nxE))); (· first | exact Ok.lenD rfl rfl hsr | exact Kz rfl rfl (hJ) (Ad (Ad An)) | exact Ok.bneS rfl rfl rfl (by kernel_rfl) | exact Ok.pe)) | ((first | apply Ca | (apply Cb; (· exact nxE))); (· first | exact Ok.e0)) | refine Sx ?_ | (refine Sy (fun h => ?_) (fun h => ?_) <;> try (exfalso; omega; done)) | refine Sz (fun h => ?_) (fun h => ?_))
      refine ⟨⟨i + 1, by omega⟩, ?_, by simp only; omega⟩
      (apply Le.headZ [_, _, _] rfl)
      all_goals (try dsimp only [srcs])
      (case' hfr | hob => (repeat' (first | refine La ?_ ?_ | exact Lc | refine Lo ?_ | refine ⟨⟨_, rfl, ?_⟩, ?_⟩ | refine Lx ?_)))
      all_goals (first | ((first | exact hfin.trans hstep | exact (hfin.trans hstep).symm | (rw [hfin.trans hstep]; done) | exact congrArg Bo (hfin.trans hstep) | exact congrArg Bo (hfin.trans hstep).symm)) | exact Ld)
  obtain rfl : i = s.length := by omega
  rw [List.take_length, ← hkt]
  clear hH hti hkt
  repeat' (first | ((first | apply Ba | (apply Bb; (· rfl); (· rfl)) | (apply Bc; (· exact nxE)) | (apply Bd; (· rfl); (· rfl); (· exact nxE))); (· first | exact Ok.lenD rfl rfl hsr | exact Ok.bneS rfl rfl rfl (by kernel_rfl) | exact Kz rfl rfl (hK2) (Aa (Ad (Ad An)) (Aa (Ad (Ad An)) An)) | exact Ok.pe)) | ((first | apply Ca | (apply Cb; (· exact nxE))); (· first | exact Ok.e0)) | refine Sx ?_ | (refine Sy (fun h => ?_) (fun h => ?_) <;> try (exfalso; omega; done)) | refine Sz (fun h => ?_) (fun h => ?_))
  all_goals
    refine Ya ?_
    (apply Le.headZ (hs := []) [] rfl)
    all_goals (try dsimp only [srcs])
    (case' hfr => (repeat' (first | refine La ?_ ?_ | exact Lc | refine Lo ?_ | refine ⟨⟨_, rfl, ?_⟩, ?_⟩ | refine Lx ?_)))
    all_goals (first | exact Ld | exact trivial | (first | rfl | exact (decide_eq_true (by omega)).symm))
end Go.Proofs.Ytpgcmpbamlnkkaa
