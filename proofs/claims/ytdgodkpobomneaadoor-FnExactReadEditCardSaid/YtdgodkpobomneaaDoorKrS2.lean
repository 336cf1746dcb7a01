/-
  Walks in the abstract reading: the text of an edit by both sides.
-/
import Derived.Test.YtdgodkpobomneaaDoorKrS1
namespace Go.Proofs.YtdgodkpobomneaaDoor
set_option linter.unusedSimpArgs false
set_option linter.unusedVariables false
open Go Go.RowKit
attribute [local irreducible] AL AD AW OpOk Le AC thenQ blockQ EndQ

theorem l01DecI_ac [Mode] (n : Int) (h0 : 0 ≤ n) (h1 : n ≤ 9223372036854775807) : AC Tryd.prog 33 [I n] H0 (Str (dec n.toNat)) H0 := by
  have := l01Dec_ac n.toNat (by omega)
  rwa [Int.toNat_of_nonneg h0] at this
theorem itoa_pos [Mode] {n : Int} (h : 0 ≤ n) : Lib.itoa n = dec n.toNat := by rw [Lib.itoa, if_neg (by omega)]
/-- The text of a place. -/
def plT (p : Pl) : List UInt8 := dec p.f.toNat ++ [62] ++ dec p.t.toNat ++ [58] ++ dec p.d.toNat ++ [42] ++ dec p.k.toNat
def edOk (e : Ed) : Bool := wi e.kind 1 3 && wi e.idx 0 30 && plB 9 e.pl
/-- The text of an edit. -/
def edT (e : Ed) : List UInt8 :=
  if edOk e = true then (if e.kind = 2 then (if e.pl = ⟨0, 0, 0, 0⟩ then 45 :: dec e.idx.toNat else []) else (if e.kind = 1 then 43 else 61) :: (dec e.idx.toNat ++ [32] ++ plT e.pl)) else []
theorem wi_iff' [Mode] {n lo hi : Int} : wi n lo hi = true ↔ lo ≤ n ∧ n ≤ hi := by simp [wi]
theorem plB_iff [Mode] {p : Pl} : plB 9 p = true ↔ ((0 ≤ p.f ∧ p.f ≤ 9) ∧ (0 ≤ p.t ∧ p.t ≤ 9)) ∧ (0 ≤ p.d ∧ p.d ≤ 1000) ∧ (0 ≤ p.k ∧ p.k ≤ 5) := by
  simp only [plB, Bool.and_eq_true, wi_iff']
  constructor
  · rintro ⟨⟨⟨h1, h2⟩, h3⟩, h4⟩; exact ⟨⟨h1, h2⟩, h3, h4⟩
  · rintro ⟨⟨h1, h2⟩, h3, h4⟩; exact ⟨⟨⟨h1, h2⟩, h3⟩, h4⟩
theorem l29Sign_ac [Mode] (k : Int) (h1 : 1 ≤ k) (h3 : k ≤ 3) : AC Tryd.prog 34 [I k] H0 (Str [if k = 1 then 43 else if k = 2 then 45 else 61]) H0 := by
  have hk : k = 1 ∨ k = 2 ∨ k = 3 := by omega
  rcases hk with rfl | rfl | rfl
  ·
    refine AC.of_body 0 Tryd.func34 rfl (fun l h => absurd rfl h) (fun C hC => ?_)
    have hD : ∀ l, ¬ C.D0 l := fun l h => (hC l).1 h rfl
    simp only [startFr, Tryd.ntmps34, List.length_cons, List.length_nil, Nat.reduceAdd, Nat.reduceSub, List.replicate_succ, List.replicate_zero, List.cons_append, List.nil_append]
    repeat' (first | ((first | apply Ba | (apply Bb; (· rfl); (· rfl)) | (apply Bc; (· exact nxE)) | (apply Bd; (· rfl); (· rfl); (· exact nxE))); (· first | exact Ok.sBoth (a := [43, 45, 61]) (i := 0) (j := 1) rfl rfl rfl rfl rfl rfl (by decide) (by decide) | exact Ok.seqS rfl rfl rfl | exact Ok.sneS rfl rfl rfl | exact Ok.slen rfl rfl | exact Ok.sjoin rfl rfl rfl (by simp only [List.length_append, List.length_cons, List.length_nil]; omega) | exact Ok.pe)) | ((first | apply Ca | (apply Cb; (· exact nxE))); (· first | exact Ok.e0)) | refine Sx ?_ | (refine Sy (fun h => ?_) (fun h => ?_) <;> try (exfalso; omega; done)) | refine Sz (fun h => ?_) (fun h => ?_))
    refine Ya ?_
    (apply Le.headZ (hs := []) [] rfl)
    all_goals (try dsimp only [srcs])
    (case' hfr => (repeat' (first | refine La ?_ ?_ | exact Lc | refine Lo ?_ | refine ⟨⟨_, rfl, ?_⟩, ?_⟩ | refine Lx ?_)))
    all_goals (first | exact Ld | exact trivial | (rfl))
  ·
    refine AC.of_body 0 Tryd.func34 rfl (fun l h => absurd rfl h) (fun C hC => ?_)
    have hD : ∀ l, ¬ C.D0 l := fun l h => (hC l).1 h rfl
    simp only [startFr, Tryd.ntmps34, List.length_cons, List.length_nil, Nat.reduceAdd, Nat.reduceSub, List.replicate_succ, List.replicate_zero, List.cons_append, List.nil_append]
    repeat' (first | ((first | apply Ba | (apply Bb; (· rfl); (· rfl)) | (apply Bc; (· exact nxE)) | (apply Bd; (· rfl); (· rfl); (· exact nxE))); (· first | exact Ok.sBoth (a := [43, 45, 61]) (i := 1) (j := 2) rfl rfl rfl rfl rfl rfl (by decide) (by decide) | exact Ok.seqS rfl rfl rfl | exact Ok.sneS rfl rfl rfl | exact Ok.slen rfl rfl | exact Ok.sjoin rfl rfl rfl (by simp only [List.length_append, List.length_cons, List.length_nil]; omega) | exact Ok.pe)) | ((first | apply Ca | (apply Cb; (· exact nxE))); (· first | exact Ok.e0)) | refine Sx ?_ | (refine Sy (fun h => ?_) (fun h => ?_) <;> try (exfalso; omega; done)) | refine Sz (fun h => ?_) (fun h => ?_))
    refine Ya ?_
    (apply Le.headZ (hs := []) [] rfl)
    all_goals (try dsimp only [srcs])
    (case' hfr => (repeat' (first | refine La ?_ ?_ | exact Lc | refine Lo ?_ | refine ⟨⟨_, rfl, ?_⟩, ?_⟩ | refine Lx ?_)))
    all_goals (first | exact Ld | exact trivial | (rfl))
  ·
    refine AC.of_body 0 Tryd.func34 rfl (fun l h => absurd rfl h) (fun C hC => ?_)
    have hD : ∀ l, ¬ C.D0 l := fun l h => (hC l).1 h rfl
    simp only [startFr, Tryd.ntmps34, List.length_cons, List.length_nil, Nat.reduceAdd, Nat.reduceSub, List.replicate_succ, List.replicate_zero, List.cons_append, List.nil_append]
    repeat' (first | ((first | apply Ba | (apply Bb; (· rfl); (· rfl)) | (apply Bc; (· exact nxE)) | (apply Bd; (· rfl); (· rfl); (· exact nxE))); (· first | exact Ok.sBoth (a := [43, 45, 61]) (i := 2) (j := 3) rfl rfl rfl rfl rfl rfl (by decide) (by decide) | exact Ok.seqS rfl rfl rfl | exact Ok.sneS rfl rfl rfl | exact Ok.slen rfl rfl | exact Ok.sjoin rfl rfl rfl (by simp only [List.length_append, List.length_cons, List.length_nil]; omega) | exact Ok.pe)) | ((first | apply Ca | (apply Cb; (· exact nxE))); (· first | exact Ok.e0)) | refine Sx ?_ | (refine Sy (fun h => ?_) (fun h => ?_) <;> try (exfalso; omega; done)) | refine Sz (fun h => ?_) (fun h => ?_))
    refine Ya ?_
    (apply Le.headZ (hs := []) [] rfl)
    all_goals (try dsimp only [srcs])
    (case' hfr => (repeat' (first | refine La ?_ ?_ | exact Lc | refine Lo ?_ | refine ⟨⟨_, rfl, ?_⟩, ?_⟩ | refine Lx ?_)))
    all_goals (first | exact Ld | exact trivial | (rfl))
/-- An edit that has a text. -/
def edB (e : Ed) : Bool := if wi e.kind 1 3 = true then (if wi e.idx 0 30 = true then (if e.kind = 2 then decide (e.pl = ⟨0, 0, 0, 0⟩) else plB 9 e.pl) else false) else false
theorem edB_ok [Mode] {e : Ed} (h : edB e = true) : edOk e = true := by
  unfold edB at h
  unfold edOk
  split at h
  · rename_i h1
    split at h
    · rename_i h2
      rw [h1, h2]
      split at h
      · have := of_decide_eq_true h
        rw [this]; decide
      · rw [h]; rfl
    · cases h
  · cases h
theorem edT_no [Mode] {e : Ed} (h : edB e = false) : edT e = [] := by
  unfold edT
  split
  · rename_i h1
    unfold edOk at h1
    rw [Bool.and_eq_true, Bool.and_eq_true] at h1
    unfold edB at h
    rw [if_pos h1.1.1, if_pos h1.1.2] at h
    split
    · rename_i h2
      rw [if_pos h2] at h
      rw [if_neg (of_decide_eq_false h)]
    · rename_i h2
      rw [if_neg h2, h1.2] at h
      cases h
  · rfl
theorem edT_yes [Mode] {e : Ed} (h : edB e = true) : edT e = if e.kind = 2 then 45 :: dec e.idx.toNat else (if e.kind = 1 then 43 else 61) :: (dec e.idx.toNat ++ [32] ++ plT e.pl) := by
  unfold edT
  rw [if_pos (edB_ok h)]
  unfold edB at h
  split at h
  · split at h
    · split
      · rename_i h2
        rw [if_pos h2] at h
        rw [if_pos (of_decide_eq_true h)]
      · rfl
    · cases h
  · cases h
set_option maxHeartbeats 2000000 in
theorem isEdit_ac [Mode] (e : Ed) : AC Tryd.prog 36 [e.av] H0 (Bo (edB e)) H0 := by
  obtain ⟨kd, ix, a, b, c, d⟩ := e
  have hw : IntKind.i64.wrap (10 - 1) = 9 := by decide
  have hp := isPlace_ac 10 [] ⟨a, b, c, d⟩
  rw [hw] at hp
  refine AC.of_body 0 Tryd.func36 rfl (fun l h => absurd rfl h) (fun C hC => ?_)
  have hD : ∀ l, ¬ C.D0 l := fun l h => (hC l).1 h rfl
  simp only [startFr, Tryd.ntmps36, List.length_cons, List.length_nil, Nat.reduceAdd, Nat.reduceSub, List.replicate_succ, List.replicate_zero, List.cons_append, List.nil_append]
  repeat' (first | ((first | apply Ba | (apply Bb; (· rfl); (· rfl)) | (apply Bc; (· exact nxE)) | (apply Bd; (· rfl); (· rfl); (· exact nxE))); (· first | exact Kz rfl rfl (within_ac _ _ _) (Ad (Ad (Ad An))) | exact Ez rfl rfl (hp) (Sa (Sd (Su Sn)) (Sa (Sd (Sd (Sd (Sd Sn)))) Sn)) | exact Ok.seqS rfl rfl rfl | exact Ok.sneS rfl rfl rfl | exact Ok.slen rfl rfl | exact Ok.sjoin rfl rfl rfl (by simp only [List.length_append, List.length_cons, List.length_nil]; omega) | exact Ok.pe)) | ((first | apply Ca | (apply Cb; (· exact nxE))); (· first | exact Ok.e0)) | refine Sx ?_ | (refine Sy (fun h => ?_) (fun h => ?_) <;> try (exfalso; omega; done)) | refine Sz (fun h => ?_) (fun h => ?_))
  all_goals
    refine Ya ?_
    (apply Le.headZ (hs := []) [] rfl)
    all_goals (try dsimp only [srcs])
    (case' hfr => (repeat' (first | refine La ?_ ?_ | exact Lc | refine Lo ?_ | refine ⟨⟨_, rfl, ?_⟩, ?_⟩ | refine Lx ?_)))
    all_goals (first | exact Ld | exact trivial | ((simp_all [edB]; done)))
set_option maxHeartbeats 4000000 in
theorem sEditText_ac [Mode] (e : Ed) : AC Tryd.prog 10 [e.av] H0 (Str (edT e)) H0 := by
  have hw : IntKind.i64.wrap (10 - 1) = 9 := by decide
  have hP := l11Place_ac e.pl 10
  rw [hw] at hP
  cases hb : edOk e with
  | false =>
    have hT : edT e = [] := by unfold edT; rw [hb]; rfl
    rw [hT]
    unfold edOk at hb
    obtain ⟨kd, ix, a, b, c, d⟩ := e
    simp only at hb hP
    refine AC.of_body 0 Tryd.func10 rfl (fun l h => absurd rfl h) (fun C hC => ?_)
    have hD : ∀ l, ¬ C.D0 l := fun l h => (hC l).1 h rfl
    simp only [startFr, Tryd.ntmps10, List.length_cons, List.length_nil, Nat.reduceAdd, Nat.reduceSub, List.replicate_succ, List.replicate_zero, List.cons_append, List.nil_append]
    repeat' (first | ((first | apply Ba | (apply Bb; (· rfl); (· rfl)) | (apply Bc; (· exact nxE)) | (apply Bd; (· rfl); (· rfl); (· exact nxE))); (· first | exact Kz rfl rfl (l01In_ac _ _ _) (Ad (Ad (Ad An))) | exact Kz rfl rfl (hP) (Aa (Ad (Ad (Ad (Ad An)))) (Ad An)) | exact Ok.seqS rfl rfl rfl | exact Ok.sneS rfl rfl rfl | exact Ok.slen rfl rfl | exact Ok.sjoin rfl rfl rfl (by simp only [List.length_append, List.length_cons, List.length_nil]; omega) | exact Ok.pe)) | ((first | apply Ca | (apply Cb; (· exact nxE))); (· first | exact Ok.e0)) | refine Sx ?_ | (refine Sy (fun h => ?_) (fun h => ?_) <;> try (exfalso; omega; done)) | refine Sz (fun h => ?_) (fun h => ?_))
    all_goals first
      | (exfalso; simp_all; done)
      | skip
    all_goals
      refine Ya ?_
      (apply Le.headZ (hs := []) [] rfl)
      all_goals (try dsimp only [srcs])
      (case' hfr => (repeat' (first | refine La ?_ ?_ | exact Lc | refine Lo ?_ | refine ⟨⟨_, rfl, ?_⟩, ?_⟩ | refine Lx ?_)))
      all_goals (first | exact Ld | exact trivial | (rfl))
  | true =>
    have hok := hb
    unfold edOk at hok
    rw [Bool.and_eq_true, Bool.and_eq_true] at hok
    have h1 := l01In_ac e.kind 1 3
    rw [hok.1.1] at h1
    have h2 := l01In_ac e.idx 0 30
    rw [hok.1.2] at h2
    rw [hok.2] at hP
    have hS := l29Sign_ac e.kind (wi_iff'.1 hok.1.1).1 (wi_iff'.1 hok.1.1).2
    have hx := l01DecI_ac e.idx (wi_iff'.1 hok.1.2).1 (by have := (wi_iff'.1 hok.1.2).2; omega)
    have lx := dec_len e.idx.toNat (by have := (wi_iff'.1 hok.1.2).2; omega)
    have hT : edT e = if e.kind = 2 then (if e.pl = ⟨0, 0, 0, 0⟩ then 45 :: dec e.idx.toNat else []) else (if e.kind = 1 then 43 else 61) :: (dec e.idx.toNat ++ [32] ++ plT e.pl) := by unfold edT; rw [if_pos hb]
    rw [hT]
    obtain ⟨⟨⟨f0, f1⟩, t0, t1⟩, ⟨d0, d1⟩, k0, k1⟩ := plB_iff.1 hok.2
    have lf := dec_len e.pl.f.toNat (by omega)
    have lt := dec_len e.pl.t.toNat (by omega)
    have ld := dec_len e.pl.d.toNat (by omega)
    have lk := dec_len e.pl.k.toNat (by omega)
    have hf := l01DecI_ac e.pl.f f0 (by omega)
    have ht := l01DecI_ac e.pl.t t0 (by omega)
    have hd := l01DecI_ac e.pl.d d0 (by omega)
    have hk := l01DecI_ac e.pl.k k0 (by omega)
    obtain ⟨kd, ix, a, b, c, d⟩ := e
    simp only at *
    clear hT hok
    refine AC.of_body 0 Tryd.func10 rfl (fun l h => absurd rfl h) (fun C hC => ?_)
    have hD : ∀ l, ¬ C.D0 l := fun l h => (hC l).1 h rfl
    simp only [startFr, Tryd.ntmps10, List.length_cons, List.length_nil, Nat.reduceAdd, Nat.reduceSub, List.replicate_succ, List.replicate_zero, List.cons_append, List.nil_append]
    repeat' (first | ((first | apply Ba | (apply Bb; (· rfl); (· rfl)) | (apply Bc; (· exact nxE)) | (apply Bd; (· rfl); (· rfl); (· exact nxE))); (· first | exact Kz rfl rfl (h1) (Ad (Ad (Ad An))) | exact Kz rfl rfl (h2) (Ad (Ad (Ad An))) | exact Kz rfl rfl (hP) (Aa (Ad (Ad (Ad (Ad An)))) (Ad An)) | exact Kz rfl rfl (hS) (Ad An) | exact Kz rfl rfl (hx) (Ad An) | exact Kz rfl rfl (hf) (Ad An) | exact Kz rfl rfl (ht) (Ad An) | exact Kz rfl rfl (hd) (Ad An) | exact Kz rfl rfl (hk) (Ad An) | exact Ok.seqS rfl rfl rfl | exact Ok.sneS rfl rfl rfl | exact Ok.slen rfl rfl | exact Ok.sjoin rfl rfl rfl (by simp only [List.length_append, List.length_cons, List.length_nil]; omega) | exact Ok.pe)) | ((first | apply Ca | (apply Cb; (· exact nxE))); (· first | exact Ok.e0)) | refine Sx ?_ | (refine Sy (fun h => ?_) (fun h => ?_) <;> try (exfalso; omega; done)) | refine Sz (fun h => ?_) (fun h => ?_))
    all_goals
      refine Ya ?_
      (apply Le.headZ (hs := []) [] rfl)
      all_goals (try dsimp only [srcs])
      (case' hfr => (repeat' (first | refine La ?_ ?_ | exact Lc | refine Lo ?_ | refine ⟨⟨_, rfl, ?_⟩, ?_⟩ | refine Lx ?_)))
      all_goals (first | exact Ld | exact trivial | ((clear h1 h2 hP hS hx hf ht hd hk; simp_all [plT]; done)))
end Go.Proofs.YtdgodkpobomneaaDoor
