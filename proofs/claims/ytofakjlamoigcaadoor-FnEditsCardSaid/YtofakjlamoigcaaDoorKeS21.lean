/-
  Walks in the abstract reading: an edit read by the program.
-/
import Derived.Test.YtofakjlamoigcaaDoorKeU5
namespace Go.Proofs.YtofakjlamoigcaaDoor
set_option linter.unusedSimpArgs false
set_option linter.unusedVariables false
open Go Go.RowKit
attribute [local irreducible] AL AD AW OpOk Le AC thenQ blockQ EndQ

abbrev edZ : Ed := ⟨0, 0, ⟨0, 0, 0, 0⟩⟩
/-- What the program answers. -/
def reR : List UInt8 → Ed × Bool
  | [] => (edZ, false)
  | c :: l => if (reN c l).2 = true ∧ edB (reN c l).1 = true then ((reN c l).1, true) else (edZ, false)
theorem reR_ok [Mode] {e : Ed} (h : edB e = true) : reR (edT e) = (e, true) := by
  obtain ⟨c, l, h1, h2⟩ := re_ok h
  rw [h1]
  show (if _ then _ else _) = _
  rw [h2, if_pos ⟨rfl, h⟩]
theorem reR_no [Mode] {s : List UInt8} (h : ∀ e, edB e = true → edT e ≠ s) : reR s = (edZ, false) := by
  cases s with
  | nil => rfl
  | cons c l =>
    show (if _ then _ else _) = _
    split
    · rename_i h1
      exact absurd (re_some h1.1 h1.2) (h _ h1.2)
    · rfl
set_option maxHeartbeats 4000000 in
theorem iReadEdit_ac [Mode] [HasTab] [HasErr] [HasLen] (s : List UInt8) (hs : s.length ≤ 2000000) : AC Tryd.prog 15 [Str s] H0 (.tup [(reR s).1.av, Bo (reR s).2]) H0 := by
  cases s with
  | nil =>
    show AC Tryd.prog 15 [Str []] H0 (.tup [edZ.av, Bo false]) H0
    refine AC.of_body 0 Tryd.func15 rfl (fun l h => absurd rfl h) (fun C hC => ?_)
    have hD : ∀ l, ¬ C.D0 l := fun l h => (hC l).1 h rfl
    simp only [startFr, Tryd.ntmps15, List.length_cons, List.length_nil, Nat.reduceAdd, Nat.reduceSub, List.replicate_succ, List.replicate_zero, List.cons_append, List.nil_append]
    repeat' (first | ((first | apply Ba | (apply Bb; (· rfl); (· rfl)) | (apply Bc; (· exact nxE)) | (apply Bd; (· rfl); (· rfl); (· exact nxE))); (· first | exact Ok.seqS rfl rfl rfl | exact Ok.slen rfl rfl | exact Ok.sidx rfl rfl rfl (by decide) rfl | exact Ok.pe)) | ((first | apply Ca | (apply Cb; (· exact nxE))); (· first | exact Ok.e0)) | refine Sx ?_ | (refine Sy (fun h => ?_) (fun h => ?_) <;> try (exfalso; omega; done)) | refine Sz (fun h => ?_) (fun h => ?_))
    refine Yb ?_
    (apply Le.headZ (hs := []) [] rfl)
    all_goals (try dsimp only [srcs])
    (case' hfr => (repeat' (first | refine La ?_ ?_ | exact Lc | refine Lo ?_ | refine ⟨⟨_, rfl, ?_⟩, ?_⟩ | refine Lx ?_)))
    all_goals (first | exact Ld | exact trivial | (rfl))
  | cons c l =>
    rw [List.length_cons] at hs
    have hCt := cut_ac l [32] (by omega)
    have hN := readNumber_ac (Lib.cut l [32]).1 (by have := (cut_len1 l 32).1; omega)
    have hP := readPlace_ac (Lib.cut l [32]).2.1 (by have := (cut_len1 l 32).2; omega)
    have hq : reR (c :: l) = if (reN c l).2 = true ∧ edB (reN c l).1 = true then ((reN c l).1, true) else (edZ, false) := rfl
    unfold reN at hq
    generalize (Lib.cut l [32]).1 = w at *
    generalize (Lib.cut l [32]).2.1 = r at *
    generalize (Lib.cut l [32]).2.2 = f at *
    generalize rdN w = q1 at *
    generalize rpN r = q2 at *
    generalize reR (c :: l) = q at *
    obtain ⟨n, b⟩ := q1
    obtain ⟨p, bp⟩ := q2
    obtain ⟨e, be⟩ := q
    simp only at hN hP hq ⊢
    by_cases c1 : c = 45
    · subst c1
      simp only [if_true] at hq
      have hE := isEdit_ac ⟨2, n, ⟨0, 0, 0, 0⟩⟩
      generalize edB ⟨2, n, ⟨0, 0, 0, 0⟩⟩ = g at *
      have hb : b = false ∨ (b = true ∧ f = true) ∨ (b = true ∧ f = false) := by cases b <;> cases f <;> simp
      rcases hb with rfl | ⟨rfl, rfl⟩ | ⟨rfl, rfl⟩
      · simp at hq
        obtain ⟨rfl, rfl⟩ := hq
        clear hE
        refine AC.of_body 0 Tryd.func15 rfl (fun l h => absurd rfl h) (fun C hC => ?_)
        have hD : ∀ l, ¬ C.D0 l := fun l h => (hC l).1 h rfl
        simp only [startFr, Tryd.ntmps15, List.length_cons, List.length_nil, Nat.reduceAdd, Nat.reduceSub, List.replicate_succ, List.replicate_zero, List.cons_append, List.nil_append]
        repeat' (first | ((first | apply Ba | (apply Bb; (· rfl); (· rfl)) | (apply Bc; (· exact nxE)) | (apply Bd; (· rfl); (· rfl); (· exact nxE))); (· first | exact Ok.sFrom (a := 45 :: l) (j := 1) rfl rfl rfl rfl (by simp) | exact Kz rfl rfl (hCt) (Ad (Ad An)) | exact Kz rfl rfl (hN) (Ad An) | exact Kz rfl rfl (hP) (Ad An) | exact Ok.seqS rfl rfl rfl | exact Ok.slen rfl rfl | exact Ok.sidx rfl rfl rfl (by decide) rfl | exact Ok.pe)) | ((first | apply Ca | (apply Cb; (· exact nxE))); (· first | exact Ok.e0)) | refine Sx ?_ | (refine Sy (fun h => ?_) (fun h => ?_) <;> try (exfalso; omega; done)) | refine Sz (fun h => ?_) (fun h => ?_))
        all_goals
          refine Yb ?_
          (apply Le.headZ (hs := []) [] rfl)
          all_goals (try dsimp only [srcs])
          (case' hfr => (repeat' (first | refine La ?_ ?_ | exact Lc | refine Lo ?_ | refine ⟨⟨_, rfl, ?_⟩, ?_⟩ | refine Lx ?_)))
          all_goals (first | exact Ld | exact trivial | (rfl))
      · simp at hq
        obtain ⟨rfl, rfl⟩ := hq
        clear hE
        refine AC.of_body 0 Tryd.func15 rfl (fun l h => absurd rfl h) (fun C hC => ?_)
        have hD : ∀ l, ¬ C.D0 l := fun l h => (hC l).1 h rfl
        simp only [startFr, Tryd.ntmps15, List.length_cons, List.length_nil, Nat.reduceAdd, Nat.reduceSub, List.replicate_succ, List.replicate_zero, List.cons_append, List.nil_append]
        repeat' (first | ((first | apply Ba | (apply Bb; (· rfl); (· rfl)) | (apply Bc; (· exact nxE)) | (apply Bd; (· rfl); (· rfl); (· exact nxE))); (· first | exact Ok.sFrom (a := 45 :: l) (j := 1) rfl rfl rfl rfl (by simp) | exact Kz rfl rfl (hCt) (Ad (Ad An)) | exact Kz rfl rfl (hN) (Ad An) | exact Kz rfl rfl (hP) (Ad An) | exact Ok.seqS rfl rfl rfl | exact Ok.slen rfl rfl | exact Ok.sidx rfl rfl rfl (by decide) rfl | exact Ok.pe)) | ((first | apply Ca | (apply Cb; (· exact nxE))); (· first | exact Ok.e0)) | refine Sx ?_ | (refine Sy (fun h => ?_) (fun h => ?_) <;> try (exfalso; omega; done)) | refine Sz (fun h => ?_) (fun h => ?_))
        all_goals
          refine Yb ?_
          (apply Le.headZ (hs := []) [] rfl)
          all_goals (try dsimp only [srcs])
          (case' hfr => (repeat' (first | refine La ?_ ?_ | exact Lc | refine Lo ?_ | refine ⟨⟨_, rfl, ?_⟩, ?_⟩ | refine Lx ?_)))
          all_goals (first | exact Ld | exact trivial | (rfl))
      · cases g
        all_goals
          simp at hq
          obtain ⟨rfl, rfl⟩ := hq
          refine AC.of_body 0 Tryd.func15 rfl (fun l h => absurd rfl h) (fun C hC => ?_)
          have hD : ∀ l, ¬ C.D0 l := fun l h => (hC l).1 h rfl
          simp only [startFr, Tryd.ntmps15, List.length_cons, List.length_nil, Nat.reduceAdd, Nat.reduceSub, List.replicate_succ, List.replicate_zero, List.cons_append, List.nil_append]
          repeat' (first | ((first | apply Ba | (apply Bb; (· rfl); (· rfl)) | (apply Bc; (· exact nxE)) | (apply Bd; (· rfl); (· rfl); (· exact nxE))); (· first | exact Ok.sFrom (a := 45 :: l) (j := 1) rfl rfl rfl rfl (by simp) | exact Kz rfl rfl (hCt) (Ad (Ad An)) | exact Kz rfl rfl (hN) (Ad An) | exact Kz rfl rfl (hP) (Ad An) | exact Kz rfl rfl (hE) (Aa (Ad (Ad (Ad (Ad (Ad (Ad An)))))) An) | exact Ok.seqS rfl rfl rfl | exact Ok.slen rfl rfl | exact Ok.sidx rfl rfl rfl (by decide) rfl | exact Ok.pe)) | ((first | apply Ca | (apply Cb; (· exact nxE))); (· first | exact Ok.e0)) | refine Sx ?_ | (refine Sy (fun h => ?_) (fun h => ?_) <;> try (exfalso; omega; done)) | refine Sz (fun h => ?_) (fun h => ?_))
        all_goals
          refine Yb ?_
          (apply Le.headZ (hs := []) [] rfl)
          all_goals (try dsimp only [srcs])
          (case' hfr => (repeat' (first | refine La ?_ ?_ | exact Lc | refine Lo ?_ | refine ⟨⟨_, rfl, ?_⟩, ?_⟩ | refine Lx ?_)))
          all_goals (first | exact Ld | exact trivial | (rfl))
    rw [if_neg c1] at hq
    by_cases c2 : c = 43
    · subst c2
      have e43 : ((43 : UInt8) = 61) = False := eq_false (by decide)
      simp only [true_or, if_true, if_false, e43] at hq
      have hE := isEdit_ac ⟨1, n, p⟩
      generalize edB ⟨1, n, p⟩ = g at *
      obtain ⟨pf, pt, pd, pk⟩ := p
      have hb : b = false ∨ (b = true ∧ f = false) ∨ (b = true ∧ f = true ∧ bp = false) ∨ (b = true ∧ f = true ∧ bp = true) := by cases b <;> cases f <;> cases bp <;> simp
      rcases hb with rfl | ⟨rfl, rfl⟩ | ⟨rfl, rfl, rfl⟩ | ⟨rfl, rfl, rfl⟩
      · simp at hq
        obtain ⟨rfl, rfl⟩ := hq
        clear hE
        refine AC.of_body 0 Tryd.func15 rfl (fun l h => absurd rfl h) (fun C hC => ?_)
        have hD : ∀ l, ¬ C.D0 l := fun l h => (hC l).1 h rfl
        simp only [startFr, Tryd.ntmps15, List.length_cons, List.length_nil, Nat.reduceAdd, Nat.reduceSub, List.replicate_succ, List.replicate_zero, List.cons_append, List.nil_append]
        repeat' (first | ((first | apply Ba | (apply Bb; (· rfl); (· rfl)) | (apply Bc; (· exact nxE)) | (apply Bd; (· rfl); (· rfl); (· exact nxE))); (· first | exact Ok.sFrom (a := 43 :: l) (j := 1) rfl rfl rfl rfl (by simp) | exact Kz rfl rfl (hCt) (Ad (Ad An)) | exact Kz rfl rfl (hN) (Ad An) | exact Kz rfl rfl (hP) (Ad An) | exact Ok.seqS rfl rfl rfl | exact Ok.slen rfl rfl | exact Ok.sidx rfl rfl rfl (by decide) rfl | exact Ok.pe)) | ((first | apply Ca | (apply Cb; (· exact nxE))); (· first | exact Ok.e0)) | refine Sx ?_ | (refine Sy (fun h => ?_) (fun h => ?_) <;> try (exfalso; omega; done)) | refine Sz (fun h => ?_) (fun h => ?_))
        all_goals
          refine Yb ?_
          (apply Le.headZ (hs := []) [] rfl)
          all_goals (try dsimp only [srcs])
          (case' hfr => (repeat' (first | refine La ?_ ?_ | exact Lc | refine Lo ?_ | refine ⟨⟨_, rfl, ?_⟩, ?_⟩ | refine Lx ?_)))
          all_goals (first | exact Ld | exact trivial | (rfl))
      · simp at hq
        obtain ⟨rfl, rfl⟩ := hq
        clear hE
        refine AC.of_body 0 Tryd.func15 rfl (fun l h => absurd rfl h) (fun C hC => ?_)
        have hD : ∀ l, ¬ C.D0 l := fun l h => (hC l).1 h rfl
        simp only [startFr, Tryd.ntmps15, List.length_cons, List.length_nil, Nat.reduceAdd, Nat.reduceSub, List.replicate_succ, List.replicate_zero, List.cons_append, List.nil_append]
        repeat' (first | ((first | apply Ba | (apply Bb; (· rfl); (· rfl)) | (apply Bc; (· exact nxE)) | (apply Bd; (· rfl); (· rfl); (· exact nxE))); (· first | exact Ok.sFrom (a := 43 :: l) (j := 1) rfl rfl rfl rfl (by simp) | exact Kz rfl rfl (hCt) (Ad (Ad An)) | exact Kz rfl rfl (hN) (Ad An) | exact Kz rfl rfl (hP) (Ad An) | exact Ok.seqS rfl rfl rfl | exact Ok.slen rfl rfl | exact Ok.sidx rfl rfl rfl (by decide) rfl | exact Ok.pe)) | ((first | apply Ca | (apply Cb; (· exact nxE))); (· first | exact Ok.e0)) | refine Sx ?_ | (refine Sy (fun h => ?_) (fun h => ?_) <;> try (exfalso; omega; done)) | refine Sz (fun h => ?_) (fun h => ?_))
        all_goals
          refine Yb ?_
          (apply Le.headZ (hs := []) [] rfl)
          all_goals (try dsimp only [srcs])
          (case' hfr => (repeat' (first | refine La ?_ ?_ | exact Lc | refine Lo ?_ | refine ⟨⟨_, rfl, ?_⟩, ?_⟩ | refine Lx ?_)))
          all_goals (first | exact Ld | exact trivial | (rfl))
      · simp at hq
        obtain ⟨rfl, rfl⟩ := hq
        clear hE
        refine AC.of_body 0 Tryd.func15 rfl (fun l h => absurd rfl h) (fun C hC => ?_)
        have hD : ∀ l, ¬ C.D0 l := fun l h => (hC l).1 h rfl
        simp only [startFr, Tryd.ntmps15, List.length_cons, List.length_nil, Nat.reduceAdd, Nat.reduceSub, List.replicate_succ, List.replicate_zero, List.cons_append, List.nil_append]
        repeat' (first | ((first | apply Ba | (apply Bb; (· rfl); (· rfl)) | (apply Bc; (· exact nxE)) | (apply Bd; (· rfl); (· rfl); (· exact nxE))); (· first | exact Ok.sFrom (a := 43 :: l) (j := 1) rfl rfl rfl rfl (by simp) | exact Kz rfl rfl (hCt) (Ad (Ad An)) | exact Kz rfl rfl (hN) (Ad An) | exact Kz rfl rfl (hP) (Ad An) | exact Ok.seqS rfl rfl rfl | exact Ok.slen rfl rfl | exact Ok.sidx rfl rfl rfl (by decide) rfl | exact Ok.pe)) | ((first | apply Ca | (apply Cb; (· exact nxE))); (· first | exact Ok.e0)) | refine Sx ?_ | (refine Sy (fun h => ?_) (fun h => ?_) <;> try (exfalso; omega; done)) | refine Sz (fun h => ?_) (fun h => ?_))
        all_goals
          refine Yb ?_
          (apply Le.headZ (hs := []) [] rfl)
          all_goals (try dsimp only [srcs])
          (case' hfr => (repeat' (first | refine La ?_ ?_ | exact Lc | refine Lo ?_ | refine ⟨⟨_, rfl, ?_⟩, ?_⟩ | refine Lx ?_)))
          all_goals (first | exact Ld | exact trivial | (rfl))
      · cases g
        all_goals
          simp at hq
          obtain ⟨rfl, rfl⟩ := hq
          refine AC.of_body 0 Tryd.func15 rfl (fun l h => absurd rfl h) (fun C hC => ?_)
          have hD : ∀ l, ¬ C.D0 l := fun l h => (hC l).1 h rfl
          simp only [startFr, Tryd.ntmps15, List.length_cons, List.length_nil, Nat.reduceAdd, Nat.reduceSub, List.replicate_succ, List.replicate_zero, List.cons_append, List.nil_append]
          repeat' (first | ((first | apply Ba | (apply Bb; (· rfl); (· rfl)) | (apply Bc; (· exact nxE)) | (apply Bd; (· rfl); (· rfl); (· exact nxE))); (· first | exact Ok.sFrom (a := 43 :: l) (j := 1) rfl rfl rfl rfl (by simp) | exact Kz rfl rfl (hCt) (Ad (Ad An)) | exact Kz rfl rfl (hN) (Ad An) | exact Kz rfl rfl (hP) (Ad An) | exact Kz rfl rfl (hE) (Aa (Ad (Ad (Ad (Ad (Ad (Ad An)))))) An) | exact Ok.seqS rfl rfl rfl | exact Ok.slen rfl rfl | exact Ok.sidx rfl rfl rfl (by decide) rfl | exact Ok.pe)) | ((first | apply Ca | (apply Cb; (· exact nxE))); (· first | exact Ok.e0)) | refine Sx ?_ | (refine Sy (fun h => ?_) (fun h => ?_) <;> try (exfalso; omega; done)) | refine Sz (fun h => ?_) (fun h => ?_))
        all_goals
          refine Yb ?_
          (apply Le.headZ (hs := []) [] rfl)
          all_goals (try dsimp only [srcs])
          (case' hfr => (repeat' (first | refine La ?_ ?_ | exact Lc | refine Lo ?_ | refine ⟨⟨_, rfl, ?_⟩, ?_⟩ | refine Lx ?_)))
          all_goals (first | exact Ld | exact trivial | (rfl))
    by_cases c3 : c = 61
    · subst c3
      have e61 : ((61 : UInt8) = 61) = True := eq_self 61
      simp only [or_true, if_true, e61] at hq
      have hE := isEdit_ac ⟨3, n, p⟩
      generalize edB ⟨3, n, p⟩ = g at *
      obtain ⟨pf, pt, pd, pk⟩ := p
      have hb : b = false ∨ (b = true ∧ f = false) ∨ (b = true ∧ f = true ∧ bp = false) ∨ (b = true ∧ f = true ∧ bp = true) := by cases b <;> cases f <;> cases bp <;> simp
      rcases hb with rfl | ⟨rfl, rfl⟩ | ⟨rfl, rfl, rfl⟩ | ⟨rfl, rfl, rfl⟩
      · simp at hq
        obtain ⟨rfl, rfl⟩ := hq
        clear hE
        refine AC.of_body 0 Tryd.func15 rfl (fun l h => absurd rfl h) (fun C hC => ?_)
        have hD : ∀ l, ¬ C.D0 l := fun l h => (hC l).1 h rfl
        simp only [startFr, Tryd.ntmps15, List.length_cons, List.length_nil, Nat.reduceAdd, Nat.reduceSub, List.replicate_succ, List.replicate_zero, List.cons_append, List.nil_append]
        repeat' (first | ((first | apply Ba | (apply Bb; (· rfl); (· rfl)) | (apply Bc; (· exact nxE)) | (apply Bd; (· rfl); (· rfl); (· exact nxE))); (· first | exact Ok.sFrom (a := 61 :: l) (j := 1) rfl rfl rfl rfl (by simp) | exact Kz rfl rfl (hCt) (Ad (Ad An)) | exact Kz rfl rfl (hN) (Ad An) | exact Kz rfl rfl (hP) (Ad An) | exact Ok.seqS rfl rfl rfl | exact Ok.slen rfl rfl | exact Ok.sidx rfl rfl rfl (by decide) rfl | exact Ok.pe)) | ((first | apply Ca | (apply Cb; (· exact nxE))); (· first | exact Ok.e0)) | refine Sx ?_ | (refine Sy (fun h => ?_) (fun h => ?_) <;> try (exfalso; omega; done)) | refine Sz (fun h => ?_) (fun h => ?_))
        all_goals
          refine Yb ?_
          (apply Le.headZ (hs := []) [] rfl)
          all_goals (try dsimp only [srcs])
          (case' hfr => (repeat' (first | refine La ?_ ?_ | exact Lc | refine Lo ?_ | refine ⟨⟨_, rfl, ?_⟩, ?_⟩ | refine Lx ?_)))
          all_goals (first | exact Ld | exact trivial | (rfl))
      · simp at hq
        obtain ⟨rfl, rfl⟩ := hq
        clear hE
        refine AC.of_body 0 Tryd.func15 rfl (fun l h => absurd rfl h) (fun C hC => ?_)
        have hD : ∀ l, ¬ C.D0 l := fun l h => (hC l).1 h rfl
        simp only [startFr, Tryd.ntmps15, List.length_cons, List.length_nil, Nat.reduceAdd, Nat.reduceSub, List.replicate_succ, List.replicate_zero, List.cons_append, List.nil_append]
        repeat' (first | ((first | apply Ba | (apply Bb; (· rfl); (· rfl)) | (apply Bc; (· exact nxE)) | (apply Bd; (· rfl); (· rfl); (· exact nxE))); (· first | exact Ok.sFrom (a := 61 :: l) (j := 1) rfl rfl rfl rfl (by simp) | exact Kz rfl rfl (hCt) (Ad (Ad An)) | exact Kz rfl rfl (hN) (Ad An) | exact Kz rfl rfl (hP) (Ad An) | exact Ok.seqS rfl rfl rfl | exact Ok.slen rfl rfl | exact Ok.sidx rfl rfl rfl (by decide) rfl | exact Ok.pe)) | ((first | apply Ca | (apply Cb; (· exact nxE))); (· first | exact Ok.e0)) | refine Sx ?_ | (refine Sy (fun h => ?_) (fun h => ?_) <;> try (exfalso; omega; done)) | refine Sz (fun h => ?_) (fun h => ?_))
        all_goals
          refine Yb ?_
          (apply Le.headZ (hs := []) [] rfl)
          all_goals (try dsimp only [srcs])
          (case' hfr => (repeat' (first | refine La ?_ ?_ | exact Lc | refine Lo ?_ | refine ⟨⟨_, rfl, ?_⟩, ?_⟩ | refine Lx ?_)))
          all_goals (first | exact Ld | exact trivial | (rfl))
      · simp at hq
        obtain ⟨rfl, rfl⟩ := hq
        clear hE
        refine AC.of_body 0 Tryd.func15 rfl (fun l h => absurd rfl h) (fun C hC => ?_)
        have hD : ∀ l, ¬ C.D0 l := fun l h => (hC l).1 h rfl
        simp only [startFr, Tryd.ntmps15, List.length_cons, List.length_nil, Nat.reduceAdd, Nat.reduceSub, List.replicate_succ, List.replicate_zero, List.cons_append, List.nil_append]
        repeat' (first | ((first | apply Ba | (apply Bb; (· rfl); (· rfl)) | (apply Bc; (· exact nxE)) | (apply Bd; (· rfl); (· rfl); (· exact nxE))); (· first | exact Ok.sFrom (a := 61 :: l) (j := 1) rfl rfl rfl rfl (by simp) | exact Kz rfl rfl (hCt) (Ad (Ad An)) | exact Kz rfl rfl (hN) (Ad An) | exact Kz rfl rfl (hP) (Ad An) | exact Ok.seqS rfl rfl rfl | exact Ok.slen rfl rfl | exact Ok.sidx rfl rfl rfl (by decide) rfl | exact Ok.pe)) | ((first | apply Ca | (apply Cb; (· exact nxE))); (· first | exact Ok.e0)) | refine Sx ?_ | (refine Sy (fun h => ?_) (fun h => ?_) <;> try (exfalso; omega; done)) | refine Sz (fun h => ?_) (fun h => ?_))
        all_goals
          refine Yb ?_
          (apply Le.headZ (hs := []) [] rfl)
          all_goals (try dsimp only [srcs])
          (case' hfr => (repeat' (first | refine La ?_ ?_ | exact Lc | refine Lo ?_ | refine ⟨⟨_, rfl, ?_⟩, ?_⟩ | refine Lx ?_)))
          all_goals (first | exact Ld | exact trivial | (rfl))
      · cases g
        all_goals
          simp at hq
          obtain ⟨rfl, rfl⟩ := hq
          refine AC.of_body 0 Tryd.func15 rfl (fun l h => absurd rfl h) (fun C hC => ?_)
          have hD : ∀ l, ¬ C.D0 l := fun l h => (hC l).1 h rfl
          simp only [startFr, Tryd.ntmps15, List.length_cons, List.length_nil, Nat.reduceAdd, Nat.reduceSub, List.replicate_succ, List.replicate_zero, List.cons_append, List.nil_append]
          repeat' (first | ((first | apply Ba | (apply Bb; (· rfl); (· rfl)) | (apply Bc; (· exact nxE)) | (apply Bd; (· rfl); (· rfl); (· exact nxE))); (· first | exact Ok.sFrom (a := 61 :: l) (j := 1) rfl rfl rfl rfl (by simp) | exact Kz rfl rfl (hCt) (Ad (Ad An)) | exact Kz rfl rfl (hN) (Ad An) | exact Kz rfl rfl (hP) (Ad An) | exact Kz rfl rfl (hE) (Aa (Ad (Ad (Ad (Ad (Ad (Ad An)))))) An) | exact Ok.seqS rfl rfl rfl | exact Ok.slen rfl rfl | exact Ok.sidx rfl rfl rfl (by decide) rfl | exact Ok.pe)) | ((first | apply Ca | (apply Cb; (· exact nxE))); (· first | exact Ok.e0)) | refine Sx ?_ | (refine Sy (fun h => ?_) (fun h => ?_) <;> try (exfalso; omega; done)) | refine Sz (fun h => ?_) (fun h => ?_))
        all_goals
          refine Yb ?_
          (apply Le.headZ (hs := []) [] rfl)
          all_goals (try dsimp only [srcs])
          (case' hfr => (repeat' (first | refine La ?_ ?_ | exact Lc | refine Lo ?_ | refine ⟨⟨_, rfl, ?_⟩, ?_⟩ | refine Lx ?_)))
          all_goals (first | exact Ld | exact trivial | (rfl))
    have hcc : ¬(c = 43 ∨ c = 61) := by
      rintro (h | h)
      · exact c2 h
      · exact c3 h
    rw [if_neg hcc] at hq
    have g0 : edB ⟨0, n, ⟨0, 0, 0, 0⟩⟩ = false := by
      cases hh : edB ⟨0, n, ⟨0, 0, 0, 0⟩⟩ with
      | false => rfl
      | true => have := (edB_iff.1 hh).1.1; simp at this
    have hE := isEdit_ac ⟨0, n, ⟨0, 0, 0, 0⟩⟩
    rw [g0] at hE hq
    have d1 : ¬ ((c.toNat : Int) = 45) := fun e => c1 (UInt8.toNat_inj.1 (by simpa using (by omega : c.toNat = 45)))
    have d2 : ¬ ((c.toNat : Int) = 43) := fun e => c2 (UInt8.toNat_inj.1 (by simpa using (by omega : c.toNat = 43)))
    have d3 : ¬ ((c.toNat : Int) = 61) := fun e => c3 (UInt8.toNat_inj.1 (by simpa using (by omega : c.toNat = 61)))
    simp at hq
    obtain ⟨rfl, rfl⟩ := hq
    cases b
    all_goals
      refine AC.of_body 0 Tryd.func15 rfl (fun l h => absurd rfl h) (fun C hC => ?_)
      have hD : ∀ l, ¬ C.D0 l := fun l h => (hC l).1 h rfl
      simp only [startFr, Tryd.ntmps15, List.length_cons, List.length_nil, Nat.reduceAdd, Nat.reduceSub, List.replicate_succ, List.replicate_zero, List.cons_append, List.nil_append]
      repeat' (first | ((first | apply Ba | (apply Bb; (· rfl); (· rfl)) | (apply Bc; (· exact nxE)) | (apply Bd; (· rfl); (· rfl); (· exact nxE))); (· first | exact Ok.sFrom (a := c :: l) (j := 1) rfl rfl rfl rfl (by simp) | exact Kz rfl rfl (hCt) (Ad (Ad An)) | exact Kz rfl rfl (hN) (Ad An) | exact Kz rfl rfl (hE) (Aa (Ad (Ad (Ad (Ad (Ad (Ad An)))))) An) | exact Ok.seqS rfl rfl rfl | exact Ok.slen rfl rfl | exact Ok.sidx rfl rfl rfl (by decide) rfl | exact Ok.pe)) | ((first | apply Ca | (apply Cb; (· exact nxE))); (· first | exact Ok.e0)) | refine Sx ?_ | (refine Sy (fun h => ?_) (fun h => ?_) <;> try (exfalso; omega; done)) | refine Sz (fun h => ?_) (fun h => ?_))
    all_goals
      refine Yb ?_
      (apply Le.headZ (hs := []) [] rfl)
      all_goals (try dsimp only [srcs])
      (case' hfr => (repeat' (first | refine La ?_ ?_ | exact Lc | refine Lo ?_ | refine ⟨⟨_, rfl, ?_⟩, ?_⟩ | refine Lx ?_)))
      all_goals (first | exact Ld | exact trivial | (rfl))
end Go.Proofs.YtofakjlamoigcaaDoor
