/-
  Walks in the abstract reading: a place read by the program; an edit read by the program.
-/
import Derived.Test.YtdgodkpobomneaaDoorKrG26
import Derived.Test.YtdgodkpobomneaaDoorKrS8
import Derived.Test.YtdgodkpobomneaaDoorKrA3
namespace Go.Proofs.YtdgodkpobomneaaDoor
set_option linter.unusedSimpArgs false
set_option linter.unusedVariables false
open Go Go.RowKit
attribute [local irreducible] AL AD AW OpOk Le AC thenQ blockQ EndQ

theorem cut_len1 [Mode] (l : List UInt8) (c : UInt8) : (Lib.cut l [c]).1.length ≤ l.length ∧ (Lib.cut l [c]).2.1.length ≤ l.length := by
  rcases first_byte c l with h1 | ⟨a, b, rfl, h1⟩
  · rw [cut_no h1]; simp
  · rw [cut_at h1]; simp only [List.length_append, List.length_cons]; omega
/-- The array of numbers, so far filled. -/
def arC (a b c d : Int) : Nat → List AV
  | 0 => [I 0, I 0, I 0, I 0]
  | 1 => [I a, I 0, I 0, I 0]
  | 2 => [I a, I b, I 0, I 0]
  | 3 => [I a, I b, I c, I 0]
  | _ => [I a, I b, I c, I d]
/-- The first of four that fails, or four. -/
def badK (a b c d : Bool) : Nat := if a = false then 0 else if b = false then 1 else if c = false then 2 else if d = false then 3 else 4
set_option maxHeartbeats 4000000 in
theorem readPlace_ac [Mode] [HasTab] [HasErr] [HasLen] (l : List UInt8) (hl : l.length ≤ 100000000) : AC Tryd.prog 51 [Str l] H0 (.tup [(rpN l).1.av, Bo (rpN l).2]) H0 := by
  have hC1 := cut_ac l [62] (by omega)
  have hC2 := cut_ac (rpR l) [58] (by have := (cut_len1 l 62).2; unfold rpR; omega)
  have hC3 := cut_ac (rpS l) [42] (by have := (cut_len1 l 62).2; have := (cut_len1 (rpR l) 58).2; unfold rpS; unfold rpR at *; omega)
  have w1 : (rpA l).length ≤ 100000000 := by have := (cut_len1 l 62).1; unfold rpA; omega
  have w2 : (rpB l).length ≤ 100000000 := by have := (cut_len1 l 62).2; have := (cut_len1 (rpR l) 58).1; unfold rpB; unfold rpR at *; omega
  have w3 : (rpC l).length ≤ 100000000 := by have := (cut_len1 l 62).2; have := (cut_len1 (rpR l) 58).2; have := (cut_len1 (rpS l) 42).1; unfold rpC; unfold rpS rpR at *; omega
  have w4 : (rpD l).length ≤ 100000000 := by have := (cut_len1 l 62).2; have := (cut_len1 (rpR l) 58).2; have := (cut_len1 (rpS l) 42).2; unfold rpD; unfold rpS rpR at *; omega
  have hN1 := readNumber_ac (rpA l) w1
  have hN2 := readNumber_ac (rpB l) w2
  have hN3 := readNumber_ac (rpC l) w3
  have hN4 := readNumber_ac (rpD l) w4
  have hres : rpN l = if (rdN (rpA l)).2 = true ∧ (rdN (rpB l)).2 = true ∧ (rdN (rpC l)).2 = true ∧ (rdN (rpD l)).2 = true then (⟨(rdN (rpA l)).1, (rdN (rpB l)).1, (rdN (rpC l)).1, (rdN (rpD l)).1⟩, true) else (⟨0, 0, 0, 0⟩, false) := rfl
  change AC Tryd.prog 49 [Str l, Str [62]] H0 (.tup [Str (rpA l), Str (rpR l), Bo (Lib.cut l [62]).2.2]) H0 at hC1
  change AC Tryd.prog 49 [Str (rpR l), Str [58]] H0 (.tup [Str (rpB l), Str (rpS l), Bo (Lib.cut (rpR l) [58]).2.2]) H0 at hC2
  change AC Tryd.prog 49 [Str (rpS l), Str [42]] H0 (.tup [Str (rpC l), Str (rpD l), Bo (Lib.cut (rpS l) [42]).2.2]) H0 at hC3
  generalize (Lib.cut l [62]).2.2 = f1 at *
  generalize (Lib.cut (rpR l) [58]).2.2 = f2 at *
  generalize (Lib.cut (rpS l) [42]).2.2 = f3 at *
  generalize rdN (rpA l) = q1 at *
  generalize rdN (rpB l) = q2 at *
  generalize rdN (rpC l) = q3 at *
  generalize rdN (rpD l) = q4 at *
  generalize rpA l = A at *
  generalize rpB l = B at *
  generalize rpC l = D at *
  generalize rpD l = E at *
  generalize rpR l = R at *
  generalize rpS l = S at *
  obtain ⟨n1, b1⟩ := q1
  obtain ⟨n2, b2⟩ := q2
  obtain ⟨n3, b3⟩ := q3
  obtain ⟨n4, b4⟩ := q4
  simp only at hN1 hN2 hN3 hN4 hres
  obtain ⟨m, hm⟩ : ∃ m, badK b1 b2 b3 b4 = m := ⟨_, rfl⟩
  have hm4 : m ≤ 4 := by unfold badK at hm; (repeat' split at hm) <;> omega
  generalize rpN l = q at *
  obtain ⟨p, b⟩ := q
  simp only
  refine AC.of_body 0 Tryd.func51 rfl (fun l h => absurd rfl h) (fun C hC => ?_)
  have hD : ∀ l, ¬ C.D0 l := fun l h => (hC l).1 h rfl
  simp only [startFr, Tryd.ntmps51, List.length_cons, List.length_nil, Nat.reduceAdd, Nat.reduceSub, List.replicate_succ, List.replicate_zero, List.cons_append, List.nil_append]
  repeat' (first | ((first | apply Ba | (apply Bb; (· rfl); (· rfl)) | (apply Bc; (· exact nxE)) | (apply Bd; (· rfl); (· rfl); (· exact nxE))); (· first | exact Kz rfl rfl (hC1) (Ad (Ad An)) | exact Kz rfl rfl (hC2) (Ad (Ad An)) | exact Kz rfl rfl (hC3) (Ad (Ad An)) | exact Ok.abuild4 rfl rfl rfl rfl rfl Tryd.underlying103 rfl rfl rfl rfl | exact Ok.seqS rfl rfl rfl | exact Ok.slen rfl rfl | exact Ok.pe)) | ((first | apply Ca | (apply Cb; (· exact nxE))); (· first | exact Ok.e0)) | refine Sx ?_ | (refine Sy (fun h => ?_) (fun h => ?_) <;> try (exfalso; omega; done)) | refine Sz (fun h => ?_) (fun h => ?_))
  refine AW.loop (X := {k : Nat // k ≤ m}) (fun k => ⟨[Oo, Oo, Bx 4 0, Oo, Oo, Oo, Oo, Oo, Oo, Oo, Oo, Oo, Bx 4 1, Oo, Oo, Oo, Oo, Oo, Oo, Oo, Oo, Oo, Oo, Oo, Oo, Oo, Oo, Oo, Oo, Oo, Oo, Oo, Oo, Oo, Oo, Oo, Oo, Oo, Oo, .agg [Str A, Str B, Str D, Str E], I (k.1 : Nat), Oo, Oo, Oo, Oo, Oo, Oo, Oo, Oo, Oo, Oo, Oo, Oo, Oo, Oo, Oo, Oo, Oo, Oo, Oo, Oo, Oo, Oo, Oo, Oo], heapL [(⟨0, []⟩, ⟨0, []⟩, ⟨4, [[I 0, I 0, I 0, I 0]]⟩), (⟨1, []⟩, ⟨1, []⟩, ⟨4, [arC n1 n2 n3 n4 k.1]⟩)], 900⟩) (fun k => m - k.1) ⟨0, Nat.zero_le _⟩ ?_ (fun k => ?_)
  ·
    (apply Le.headZ [_, _] rfl)
    all_goals (try dsimp only [srcs])
    (case' hfr | hob => (repeat' (first | refine La ?_ ?_ | exact Lc | refine Lo ?_ | refine ⟨⟨_, rfl, ?_⟩, ?_⟩ | refine Lx ?_)))
    all_goals (first | (rfl) | exact Ld)
  obtain ⟨k, hk⟩ := k
  simp only
  have hcase : (k = 0 ∧ b1 = true ∧ 1 ≤ m) ∨ (k = 0 ∧ b1 = false) ∨ (k = 1 ∧ b2 = true ∧ 2 ≤ m) ∨ (k = 1 ∧ b2 = false) ∨ (k = 2 ∧ b3 = true ∧ 3 ≤ m) ∨ (k = 2 ∧ b3 = false) ∨ (k = 3 ∧ b4 = true ∧ 4 ≤ m) ∨ (k = 3 ∧ b4 = false) ∨ (k = 4 ∧ b1 = true ∧ b2 = true ∧ b3 = true ∧ b4 = true) := by
    subst hm
    unfold badK at hk ⊢
    cases b1 <;> cases b2 <;> cases b3 <;> cases b4 <;> simp at hk ⊢ <;> omega
  rcases hcase with ⟨rfl, rfl, h9⟩ | ⟨rfl, rfl⟩ | ⟨rfl, rfl, h9⟩ | ⟨rfl, rfl⟩ | ⟨rfl, rfl, h9⟩ | ⟨rfl, rfl⟩ | ⟨rfl, rfl, h9⟩ | ⟨rfl, rfl⟩ | ⟨rfl, rfl, rfl, rfl, rfl⟩
  · simp only [arC]
    repeat' (first | ((first | apply Ba | (apply Bb; (· rfl); (· rfl)) | (apply Bc; (· exact nxE)) | (apply Bd; (· rfl); (· rfl); (· exact nxE))); (· first | exact Kz rfl rfl (hN1) (Ad An) | exact Ok.aidx rfl rfl rfl Tryd.underlying103 (by decide) (by decide) rfl | exact Ok.aptrN (j' := 0) rfl rfl rfl Tryd.underlying102 (by decide) (by decide) rfl | exact Ok.seqS rfl rfl rfl | exact Ok.slen rfl rfl | exact Ok.pe)) | ((first | apply Ca | (apply Cb; (· exact nxE))); (· first | exact Ok.e0)) | refine Sx ?_ | (refine Sy (fun h => ?_) (fun h => ?_) <;> try (exfalso; omega; done)) | refine Sz (fun h => ?_) (fun h => ?_))
    refine ⟨⟨1, by omega⟩, ?_, by simp only; omega⟩
    (apply Le.headZ [_, _] rfl)
    all_goals (try dsimp only [srcs])
    (case' hfr | hob => (repeat' (first | refine La ?_ ?_ | exact Lc | refine Lo ?_ | refine ⟨⟨_, rfl, ?_⟩, ?_⟩ | refine Lx ?_)))
    all_goals (first | (rfl) | exact Ld)
  · have hpb : p = ⟨0, 0, 0, 0⟩ ∧ b = false := by simpa using hres
    obtain ⟨rfl, rfl⟩ := hpb
    repeat' (first | ((first | apply Ba | (apply Bb; (· rfl); (· rfl)) | (apply Bc; (· exact nxE)) | (apply Bd; (· rfl); (· rfl); (· exact nxE))); (· first | exact Kz rfl rfl (hN1) (Ad An) | exact Ok.aidx rfl rfl rfl Tryd.underlying103 (by decide) (by decide) rfl | exact Ok.aptr rfl rfl rfl Tryd.underlying102 (by decide) (by decide) | exact Ok.seqS rfl rfl rfl | exact Ok.slen rfl rfl | exact Ok.pe)) | ((first | apply Ca | (apply Cb; (· exact nxE))); (· first | exact Ok.e0)) | refine Sx ?_ | (refine Sy (fun h => ?_) (fun h => ?_) <;> try (exfalso; omega; done)) | refine Sz (fun h => ?_) (fun h => ?_))
    all_goals
      refine Yb ?_
      (apply Le.headZ (hs := []) [] rfl)
      all_goals (try dsimp only [srcs])
      (case' hfr => (repeat' (first | refine La ?_ ?_ | exact Lc | refine Lo ?_ | refine ⟨⟨_, rfl, ?_⟩, ?_⟩ | refine Lx ?_)))
      all_goals (first | exact Ld | exact trivial | (rfl))
  · simp only [arC]
    repeat' (first | ((first | apply Ba | (apply Bb; (· rfl); (· rfl)) | (apply Bc; (· exact nxE)) | (apply Bd; (· rfl); (· rfl); (· exact nxE))); (· first | exact Kz rfl rfl (hN2) (Ad An) | exact Ok.aidx rfl rfl rfl Tryd.underlying103 (by decide) (by decide) rfl | exact Ok.aptrN (j' := 1) rfl rfl rfl Tryd.underlying102 (by decide) (by decide) rfl | exact Ok.seqS rfl rfl rfl | exact Ok.slen rfl rfl | exact Ok.pe)) | ((first | apply Ca | (apply Cb; (· exact nxE))); (· first | exact Ok.e0)) | refine Sx ?_ | (refine Sy (fun h => ?_) (fun h => ?_) <;> try (exfalso; omega; done)) | refine Sz (fun h => ?_) (fun h => ?_))
    refine ⟨⟨2, by omega⟩, ?_, by simp only; omega⟩
    (apply Le.headZ [_, _] rfl)
    all_goals (try dsimp only [srcs])
    (case' hfr | hob => (repeat' (first | refine La ?_ ?_ | exact Lc | refine Lo ?_ | refine ⟨⟨_, rfl, ?_⟩, ?_⟩ | refine Lx ?_)))
    all_goals (first | (rfl) | exact Ld)
  · have hpb : p = ⟨0, 0, 0, 0⟩ ∧ b = false := by simpa using hres
    obtain ⟨rfl, rfl⟩ := hpb
    repeat' (first | ((first | apply Ba | (apply Bb; (· rfl); (· rfl)) | (apply Bc; (· exact nxE)) | (apply Bd; (· rfl); (· rfl); (· exact nxE))); (· first | exact Kz rfl rfl (hN2) (Ad An) | exact Ok.aidx rfl rfl rfl Tryd.underlying103 (by decide) (by decide) rfl | exact Ok.aptr rfl rfl rfl Tryd.underlying102 (by decide) (by decide) | exact Ok.seqS rfl rfl rfl | exact Ok.slen rfl rfl | exact Ok.pe)) | ((first | apply Ca | (apply Cb; (· exact nxE))); (· first | exact Ok.e0)) | refine Sx ?_ | (refine Sy (fun h => ?_) (fun h => ?_) <;> try (exfalso; omega; done)) | refine Sz (fun h => ?_) (fun h => ?_))
    all_goals
      refine Yb ?_
      (apply Le.headZ (hs := []) [] rfl)
      all_goals (try dsimp only [srcs])
      (case' hfr => (repeat' (first | refine La ?_ ?_ | exact Lc | refine Lo ?_ | refine ⟨⟨_, rfl, ?_⟩, ?_⟩ | refine Lx ?_)))
      all_goals (first | exact Ld | exact trivial | (rfl))
  · simp only [arC]
    repeat' (first | ((first | apply Ba | (apply Bb; (· rfl); (· rfl)) | (apply Bc; (· exact nxE)) | (apply Bd; (· rfl); (· rfl); (· exact nxE))); (· first | exact Kz rfl rfl (hN3) (Ad An) | exact Ok.aidx rfl rfl rfl Tryd.underlying103 (by decide) (by decide) rfl | exact Ok.aptrN (j' := 2) rfl rfl rfl Tryd.underlying102 (by decide) (by decide) rfl | exact Ok.seqS rfl rfl rfl | exact Ok.slen rfl rfl | exact Ok.pe)) | ((first | apply Ca | (apply Cb; (· exact nxE))); (· first | exact Ok.e0)) | refine Sx ?_ | (refine Sy (fun h => ?_) (fun h => ?_) <;> try (exfalso; omega; done)) | refine Sz (fun h => ?_) (fun h => ?_))
    refine ⟨⟨3, by omega⟩, ?_, by simp only; omega⟩
    (apply Le.headZ [_, _] rfl)
    all_goals (try dsimp only [srcs])
    (case' hfr | hob => (repeat' (first | refine La ?_ ?_ | exact Lc | refine Lo ?_ | refine ⟨⟨_, rfl, ?_⟩, ?_⟩ | refine Lx ?_)))
    all_goals (first | (rfl) | exact Ld)
  · have hpb : p = ⟨0, 0, 0, 0⟩ ∧ b = false := by simpa using hres
    obtain ⟨rfl, rfl⟩ := hpb
    repeat' (first | ((first | apply Ba | (apply Bb; (· rfl); (· rfl)) | (apply Bc; (· exact nxE)) | (apply Bd; (· rfl); (· rfl); (· exact nxE))); (· first | exact Kz rfl rfl (hN3) (Ad An) | exact Ok.aidx rfl rfl rfl Tryd.underlying103 (by decide) (by decide) rfl | exact Ok.aptr rfl rfl rfl Tryd.underlying102 (by decide) (by decide) | exact Ok.seqS rfl rfl rfl | exact Ok.slen rfl rfl | exact Ok.pe)) | ((first | apply Ca | (apply Cb; (· exact nxE))); (· first | exact Ok.e0)) | refine Sx ?_ | (refine Sy (fun h => ?_) (fun h => ?_) <;> try (exfalso; omega; done)) | refine Sz (fun h => ?_) (fun h => ?_))
    all_goals
      refine Yb ?_
      (apply Le.headZ (hs := []) [] rfl)
      all_goals (try dsimp only [srcs])
      (case' hfr => (repeat' (first | refine La ?_ ?_ | exact Lc | refine Lo ?_ | refine ⟨⟨_, rfl, ?_⟩, ?_⟩ | refine Lx ?_)))
      all_goals (first | exact Ld | exact trivial | (rfl))
  · simp only [arC]
    repeat' (first | ((first | apply Ba | (apply Bb; (· rfl); (· rfl)) | (apply Bc; (· exact nxE)) | (apply Bd; (· rfl); (· rfl); (· exact nxE))); (· first | exact Kz rfl rfl (hN4) (Ad An) | exact Ok.aidx rfl rfl rfl Tryd.underlying103 (by decide) (by decide) rfl | exact Ok.aptrN (j' := 3) rfl rfl rfl Tryd.underlying102 (by decide) (by decide) rfl | exact Ok.seqS rfl rfl rfl | exact Ok.slen rfl rfl | exact Ok.pe)) | ((first | apply Ca | (apply Cb; (· exact nxE))); (· first | exact Ok.e0)) | refine Sx ?_ | (refine Sy (fun h => ?_) (fun h => ?_) <;> try (exfalso; omega; done)) | refine Sz (fun h => ?_) (fun h => ?_))
    refine ⟨⟨4, by omega⟩, ?_, by simp only; omega⟩
    (apply Le.headZ [_, _] rfl)
    all_goals (try dsimp only [srcs])
    (case' hfr | hob => (repeat' (first | refine La ?_ ?_ | exact Lc | refine Lo ?_ | refine ⟨⟨_, rfl, ?_⟩, ?_⟩ | refine Lx ?_)))
    all_goals (first | (rfl) | exact Ld)
  · have hpb : p = ⟨0, 0, 0, 0⟩ ∧ b = false := by simpa using hres
    obtain ⟨rfl, rfl⟩ := hpb
    repeat' (first | ((first | apply Ba | (apply Bb; (· rfl); (· rfl)) | (apply Bc; (· exact nxE)) | (apply Bd; (· rfl); (· rfl); (· exact nxE))); (· first | exact Kz rfl rfl (hN4) (Ad An) | exact Ok.aidx rfl rfl rfl Tryd.underlying103 (by decide) (by decide) rfl | exact Ok.aptr rfl rfl rfl Tryd.underlying102 (by decide) (by decide) | exact Ok.seqS rfl rfl rfl | exact Ok.slen rfl rfl | exact Ok.pe)) | ((first | apply Ca | (apply Cb; (· exact nxE))); (· first | exact Ok.e0)) | refine Sx ?_ | (refine Sy (fun h => ?_) (fun h => ?_) <;> try (exfalso; omega; done)) | refine Sz (fun h => ?_) (fun h => ?_))
    all_goals
      refine Yb ?_
      (apply Le.headZ (hs := []) [] rfl)
      all_goals (try dsimp only [srcs])
      (case' hfr => (repeat' (first | refine La ?_ ?_ | exact Lc | refine Lo ?_ | refine ⟨⟨_, rfl, ?_⟩, ?_⟩ | refine Lx ?_)))
      all_goals (first | exact Ld | exact trivial | (rfl))
  · have hpb : p = ⟨n1, n2, n3, n4⟩ ∧ b = true := by simpa using hres
    obtain ⟨rfl, rfl⟩ := hpb
    repeat' (first | ((first | apply Ba | (apply Bb; (· rfl); (· rfl)) | (apply Bc; (· exact nxE)) | (apply Bd; (· rfl); (· rfl); (· exact nxE))); (· first | exact Ok.aidx rfl rfl rfl Tryd.underlying103 (by decide) (by decide) rfl | exact Ok.aptr rfl rfl rfl Tryd.underlying102 (by decide) (by decide) | exact Ok.seqS rfl rfl rfl | exact Ok.slen rfl rfl | exact Ok.pe)) | ((first | apply Ca | (apply Cb; (· exact nxE))); (· first | exact Ok.e0)) | refine Sx ?_ | (refine Sy (fun h => ?_) (fun h => ?_) <;> try (exfalso; omega; done)) | refine Sz (fun h => ?_) (fun h => ?_))
    all_goals
      refine Yb ?_
      (apply Le.headZ (hs := []) [] rfl)
      all_goals (try dsimp only [srcs])
      (case' hfr => (repeat' (first | refine La ?_ ?_ | exact Lc | refine Lo ?_ | refine ⟨⟨_, rfl, ?_⟩, ?_⟩ | refine Lx ?_)))
      all_goals (first | exact Ld | exact trivial | (rfl))
end Go.Proofs.YtdgodkpobomneaaDoor
