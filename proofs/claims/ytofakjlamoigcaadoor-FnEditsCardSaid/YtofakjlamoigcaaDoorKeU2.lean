/-
  Walks in the abstract reading, part 2.
-/
import Derived.Test.YtofakjlamoigcaaDoorKeU1
import Derived.Test.YtofakjlamoigcaaDoorKeA2
import Derived.Test.YtofakjlamoigcaaDoorKeA3
import Derived.ChangeMaps5
import Derived.Test.YtofakjlamoigcaaDoorProg
import Derived.Test.YtofakjlamoigcaaDoorKeA1
import Derived.ProofKit
import Derived.Deep.Slices
section
namespace Go.Proofs.YtofakjlamoigcaaDoor
set_option linter.unusedSimpArgs false
set_option linter.unusedVariables false
open Go Go.RowKit
attribute [local irreducible] AL AD AW OpOk Le AC thenQ blockQ EndQ

theorem l01DecI_ac [Mode] (n : Int) (h0 : 0 ≤ n) (h1 : n ≤ 9223372036854775807) : AC Tryd.prog 48 [I n] H0 (Str (dec n.toNat)) H0 := by
  have := l01Dec_ac n.toNat (by omega)
  rwa [Int.toNat_of_nonneg h0] at this
theorem decimal_ac [Mode] [HasTab] (n : Int) (h0 : -9223372036854775808 ≤ n) (h1 : n ≤ 9223372036854775807) : AC Tryd.prog 35 [I n] H0 (Str (Lib.itoa n)) H0 := by
  refine AC.of_body 0 Tryd.func35 rfl (fun l h => absurd rfl h) (fun C hC => ?_)
  have hD : ∀ l, ¬ C.D0 l := fun l h => (hC l).1 h rfl
  simp only [startFr, Tryd.ntmps35, List.length_cons, List.length_nil, Nat.reduceAdd, Nat.reduceSub, List.replicate_succ, List.replicate_zero, List.cons_append, List.nil_append]
  repeat' (first | ((first | apply Ba | (apply Bb; (· rfl); (· rfl)) | (apply Bc; (· exact nxE)) | (apply Bd; (· rfl); (· rfl); (· exact nxE))); (· first | exact Kz rfl rfl (formatInt_ac n h0 h1) (Ad (Ad An)) | exact Ok.seqS rfl rfl rfl | exact Ok.sneS rfl rfl rfl | exact Ok.slen rfl rfl | exact Ok.sjoin rfl rfl rfl (by simp only [List.length_append, List.length_cons, List.length_nil]; omega) | exact Ok.pe)) | ((first | apply Ca | (apply Cb; (· exact nxE))); (· first | exact Ok.e0)) | refine Sx ?_ | (refine Sy (fun h => ?_) (fun h => ?_) <;> try (exfalso; omega; done)) | refine Sz (fun h => ?_) (fun h => ?_))
  refine Ya ?_
  (apply Le.headZ (hs := []) [] rfl)
  all_goals (try dsimp only [srcs])
  (case' hfr => (repeat' (first | refine La ?_ ?_ | exact Lc | refine Lo ?_ | refine ⟨⟨_, rfl, ?_⟩, ?_⟩ | refine Lx ?_)))
  all_goals (first | exact Ld | exact trivial | (rfl))
theorem itoa_pos [Mode] {n : Int} (h : 0 ≤ n) : Lib.itoa n = dec n.toNat := by rw [Lib.itoa, if_neg (by omega)]
theorem decimalP_ac [Mode] [HasTab] (n : Int) (h0 : 0 ≤ n) (h1 : n ≤ 9223372036854775807) : AC Tryd.prog 35 [I n] H0 (Str (dec n.toNat)) H0 := by
  have := decimal_ac n (by omega) h1
  rwa [itoa_pos h0] at this
/-- The text of a place. -/
def plT (p : Pl) : List UInt8 := dec p.f.toNat ++ [62] ++ dec p.t.toNat ++ [58] ++ dec p.d.toNat ++ [42] ++ dec p.k.toNat
def edOk (e : Ed) : Bool := wi e.kind 1 3 && wi e.idx 0 30 && plB 9 e.pl
/-- The text of an edit. -/
def edT (e : Ed) : List UInt8 :=
  if edOk e = true then (if e.kind = 2 then (if e.pl = ⟨0, 0, 0, 0⟩ then 45 :: dec e.idx.toNat else []) else (if e.kind = 1 then 43 else 61) :: (dec e.idx.toNat ++ [32] ++ plT e.pl)) else []
theorem wi_iff' [Mode] {n lo hi : Int} : wi n lo hi = true ↔ lo ≤ n ∧ n ≤ hi := by simp [wi]
theorem plB_iff [Mode] {p : Pl} : plB 9 p = true ↔ ((0 ≤ p.f ∧ p.f ≤ 9) ∧ (0 ≤ p.t ∧ p.t ≤ 9)) ∧ (0 ≤ p.d ∧ p.d ≤ 1000) ∧ (0 ≤ p.k ∧ p.k ≤ 5) := by
  simp only [plB, Bool.and_eq_true, wi_iff']
  constructor
  · rintro ⟨⟨⟨h1, h2⟩, h3⟩, h4⟩; exact ⟨⟨h1, h2⟩, h3, h4⟩
  · rintro ⟨⟨h1, h2⟩, h3, h4⟩; exact ⟨⟨⟨h1, h2⟩, h3⟩, h4⟩
theorem l29Sign_ac [Mode] (k : Int) (h1 : 1 ≤ k) (h3 : k ≤ 3) : AC Tryd.prog 44 [I k] H0 (Str [if k = 1 then 43 else if k = 2 then 45 else 61]) H0 := by
  have hk : k = 1 ∨ k = 2 ∨ k = 3 := by omega
  rcases hk with rfl | rfl | rfl
  ·
    refine AC.of_body 0 Tryd.func44 rfl (fun l h => absurd rfl h) (fun C hC => ?_)
    have hD : ∀ l, ¬ C.D0 l := fun l h => (hC l).1 h rfl
    simp only [startFr, Tryd.ntmps44, List.length_cons, List.length_nil, Nat.reduceAdd, Nat.reduceSub, List.replicate_succ, List.replicate_zero, List.cons_append, List.nil_append]
    repeat' (first | ((first | apply Ba | (apply Bb; (· rfl); (· rfl)) | (apply Bc; (· exact nxE)) | (apply Bd; (· rfl); (· rfl); (· exact nxE))); (· first | exact Ok.sBoth (a := [43, 45, 61]) (i := 0) (j := 1) rfl rfl rfl rfl rfl rfl (by decide) (by decide) | exact Ok.seqS rfl rfl rfl | exact Ok.sneS rfl rfl rfl | exact Ok.slen rfl rfl | exact Ok.sjoin rfl rfl rfl (by simp only [List.length_append, List.length_cons, List.length_nil]; omega) | exact Ok.pe)) | ((first | apply Ca | (apply Cb; (· exact nxE))); (· first | exact Ok.e0)) | refine Sx ?_ | (refine Sy (fun h => ?_) (fun h => ?_) <;> try (exfalso; omega; done)) | refine Sz (fun h => ?_) (fun h => ?_))
    refine Ya ?_
    (apply Le.headZ (hs := []) [] rfl)
    all_goals (try dsimp only [srcs])
    (case' hfr => (repeat' (first | refine La ?_ ?_ | exact Lc | refine Lo ?_ | refine ⟨⟨_, rfl, ?_⟩, ?_⟩ | refine Lx ?_)))
    all_goals (first | exact Ld | exact trivial | (rfl))
  ·
    refine AC.of_body 0 Tryd.func44 rfl (fun l h => absurd rfl h) (fun C hC => ?_)
    have hD : ∀ l, ¬ C.D0 l := fun l h => (hC l).1 h rfl
    simp only [startFr, Tryd.ntmps44, List.length_cons, List.length_nil, Nat.reduceAdd, Nat.reduceSub, List.replicate_succ, List.replicate_zero, List.cons_append, List.nil_append]
    repeat' (first | ((first | apply Ba | (apply Bb; (· rfl); (· rfl)) | (apply Bc; (· exact nxE)) | (apply Bd; (· rfl); (· rfl); (· exact nxE))); (· first | exact Ok.sBoth (a := [43, 45, 61]) (i := 1) (j := 2) rfl rfl rfl rfl rfl rfl (by decide) (by decide) | exact Ok.seqS rfl rfl rfl | exact Ok.sneS rfl rfl rfl | exact Ok.slen rfl rfl | exact Ok.sjoin rfl rfl rfl (by simp only [List.length_append, List.length_cons, List.length_nil]; omega) | exact Ok.pe)) | ((first | apply Ca | (apply Cb; (· exact nxE))); (· first | exact Ok.e0)) | refine Sx ?_ | (refine Sy (fun h => ?_) (fun h => ?_) <;> try (exfalso; omega; done)) | refine Sz (fun h => ?_) (fun h => ?_))
    refine Ya ?_
    (apply Le.headZ (hs := []) [] rfl)
    all_goals (try dsimp only [srcs])
    (case' hfr => (repeat' (first | refine La ?_ ?_ | exact Lc | refine Lo ?_ | refine ⟨⟨_, rfl, ?_⟩, ?_⟩ | refine Lx ?_)))
    all_goals (first | exact Ld | exact trivial | (rfl))
  ·
    refine AC.of_body 0 Tryd.func44 rfl (fun l h => absurd rfl h) (fun C hC => ?_)
    have hD : ∀ l, ¬ C.D0 l := fun l h => (hC l).1 h rfl
    simp only [startFr, Tryd.ntmps44, List.length_cons, List.length_nil, Nat.reduceAdd, Nat.reduceSub, List.replicate_succ, List.replicate_zero, List.cons_append, List.nil_append]
    repeat' (first | ((first | apply Ba | (apply Bb; (· rfl); (· rfl)) | (apply Bc; (· exact nxE)) | (apply Bd; (· rfl); (· rfl); (· exact nxE))); (· first | exact Ok.sBoth (a := [43, 45, 61]) (i := 2) (j := 3) rfl rfl rfl rfl rfl rfl (by decide) (by decide) | exact Ok.seqS rfl rfl rfl | exact Ok.sneS rfl rfl rfl | exact Ok.slen rfl rfl | exact Ok.sjoin rfl rfl rfl (by simp only [List.length_append, List.length_cons, List.length_nil]; omega) | exact Ok.pe)) | ((first | apply Ca | (apply Cb; (· exact nxE))); (· first | exact Ok.e0)) | refine Sx ?_ | (refine Sy (fun h => ?_) (fun h => ?_) <;> try (exfalso; omega; done)) | refine Sz (fun h => ?_) (fun h => ?_))
    refine Ya ?_
    (apply Le.headZ (hs := []) [] rfl)
    all_goals (try dsimp only [srcs])
    (case' hfr => (repeat' (first | refine La ?_ ?_ | exact Lc | refine Lo ?_ | refine ⟨⟨_, rfl, ?_⟩, ?_⟩ | refine Lx ?_)))
    all_goals (first | exact Ld | exact trivial | (rfl))
set_option maxHeartbeats 2000000 in
theorem placeText_ac [Mode] [HasTab] (p : Pl) (h : plB 9 p = true) : AC Tryd.prog 36 [p.av] H0 (Str (plT p)) H0 := by
  obtain ⟨⟨⟨f0, f1⟩, t0, t1⟩, ⟨d0, d1⟩, k0, k1⟩ := plB_iff.1 h
  have lf := dec_len p.f.toNat (by omega)
  have lt := dec_len p.t.toNat (by omega)
  have ld := dec_len p.d.toNat (by omega)
  have lk := dec_len p.k.toNat (by omega)
  have hf := decimalP_ac p.f f0 (by omega)
  have ht := decimalP_ac p.t t0 (by omega)
  have hd := decimalP_ac p.d d0 (by omega)
  have hk := decimalP_ac p.k k0 (by omega)
  refine AC.of_body 0 Tryd.func36 rfl (fun l h => absurd rfl h) (fun C hC => ?_)
  have hD : ∀ l, ¬ C.D0 l := fun l h => (hC l).1 h rfl
  simp only [startFr, Tryd.ntmps36, List.length_cons, List.length_nil, Nat.reduceAdd, Nat.reduceSub, List.replicate_succ, List.replicate_zero, List.cons_append, List.nil_append]
  repeat' (first | ((first | apply Ba | (apply Bb; (· rfl); (· rfl)) | (apply Bc; (· exact nxE)) | (apply Bd; (· rfl); (· rfl); (· exact nxE))); (· first | exact Kz rfl rfl (hf) (Ad An) | exact Kz rfl rfl (ht) (Ad An) | exact Kz rfl rfl (hd) (Ad An) | exact Kz rfl rfl (hk) (Ad An) | exact Ok.seqS rfl rfl rfl | exact Ok.sneS rfl rfl rfl | exact Ok.slen rfl rfl | exact Ok.sjoin rfl rfl rfl (by simp only [List.length_append, List.length_cons, List.length_nil]; omega) | exact Ok.pe)) | ((first | apply Ca | (apply Cb; (· exact nxE))); (· first | exact Ok.e0)) | refine Sx ?_ | (refine Sy (fun h => ?_) (fun h => ?_) <;> try (exfalso; omega; done)) | refine Sz (fun h => ?_) (fun h => ?_))
  refine Ya ?_
  (apply Le.headZ (hs := []) [] rfl)
  all_goals (try dsimp only [srcs])
  (case' hfr => (repeat' (first | refine La ?_ ?_ | exact Lc | refine Lo ?_ | refine ⟨⟨_, rfl, ?_⟩, ?_⟩ | refine Lx ?_)))
  all_goals (first | exact Ld | exact trivial | (rfl))
theorem plT_len [Mode] {p : Pl} (h : plB 9 p = true) : (plT p).length ≤ 80 := by
  obtain ⟨⟨⟨f0, f1⟩, t0, t1⟩, ⟨d0, d1⟩, k0, k1⟩ := plB_iff.1 h
  have lf := dec_len p.f.toNat (by omega)
  have lt := dec_len p.t.toNat (by omega)
  have ld := dec_len p.d.toNat (by omega)
  have lk := dec_len p.k.toNat (by omega)
  simp only [plT, List.length_append, List.length_cons, List.length_nil]
  omega
/-- An edit that has a text. -/
def edB (e : Ed) : Bool := if wi e.kind 1 3 = true then (if wi e.idx 0 30 = true then (if e.kind = 2 then decide (e.pl = ⟨0, 0, 0, 0⟩) else plB 9 e.pl) else false) else false
theorem edB_ok [Mode] {e : Ed} (h : edB e = true) : edOk e = true := by
  unfold edB at h
  unfold edOk
  split at h
  · rename_i h1
    split at h
    · rename_i h2
      rw [h1, h2]
      split at h
      · have := of_decide_eq_true h
        rw [this]; decide
      · rw [h]; rfl
    · cases h
  · cases h
theorem edT_no [Mode] {e : Ed} (h : edB e = false) : edT e = [] := by
  unfold edT
  split
  · rename_i h1
    unfold edOk at h1
    rw [Bool.and_eq_true, Bool.and_eq_true] at h1
    unfold edB at h
    rw [if_pos h1.1.1, if_pos h1.1.2] at h
    split
    · rename_i h2
      rw [if_pos h2] at h
      rw [if_neg (of_decide_eq_false h)]
    · rename_i h2
      rw [if_neg h2, h1.2] at h
      cases h
  · rfl
theorem edT_yes [Mode] {e : Ed} (h : edB e = true) : edT e = if e.kind = 2 then 45 :: dec e.idx.toNat else (if e.kind = 1 then 43 else 61) :: (dec e.idx.toNat ++ [32] ++ plT e.pl) := by
  unfold edT
  rw [if_pos (edB_ok h)]
  unfold edB at h
  split at h
  · split at h
    · split
      · rename_i h2
        rw [if_pos h2] at h
        rw [if_pos (of_decide_eq_true h)]
      · rfl
    · cases h
  · cases h
set_option maxHeartbeats 2000000 in
theorem isEdit_ac [Mode] (e : Ed) : AC Tryd.prog 34 [e.av] H0 (Bo (edB e)) H0 := by
  obtain ⟨kd, ix, a, b, c, d⟩ := e
  have hw : IntKind.i64.wrap (10 - 1) = 9 := by decide
  have hp := isPlace_ac 10 [] ⟨a, b, c, d⟩
  rw [hw] at hp
  refine AC.of_body 0 Tryd.func34 rfl (fun l h => absurd rfl h) (fun C hC => ?_)
  have hD : ∀ l, ¬ C.D0 l := fun l h => (hC l).1 h rfl
  simp only [startFr, Tryd.ntmps34, List.length_cons, List.length_nil, Nat.reduceAdd, Nat.reduceSub, List.replicate_succ, List.replicate_zero, List.cons_append, List.nil_append]
  repeat' (first | ((first | apply Ba | (apply Bb; (· rfl); (· rfl)) | (apply Bc; (· exact nxE)) | (apply Bd; (· rfl); (· rfl); (· exact nxE))); (· first | exact Kz rfl rfl (within_ac _ _ _) (Ad (Ad (Ad An))) | exact Ez rfl rfl (hp) (Sa (Sd (Su Sn)) (Sa (Sd (Sd (Sd (Sd Sn)))) Sn)) | exact Ok.seqS rfl rfl rfl | exact Ok.sneS rfl rfl rfl | exact Ok.slen rfl rfl | exact Ok.sjoin rfl rfl rfl (by simp only [List.length_append, List.length_cons, List.length_nil]; omega) | exact Ok.pe)) | ((first | apply Ca | (apply Cb; (· exact nxE))); (· first | exact Ok.e0)) | refine Sx ?_ | (refine Sy (fun h => ?_) (fun h => ?_) <;> try (exfalso; omega; done)) | refine Sz (fun h => ?_) (fun h => ?_))
  all_goals
    refine Ya ?_
    (apply Le.headZ (hs := []) [] rfl)
    all_goals (try dsimp only [srcs])
    (case' hfr => (repeat' (first | refine La ?_ ?_ | exact Lc | refine Lo ?_ | refine ⟨⟨_, rfl, ?_⟩, ?_⟩ | refine Lx ?_)))
    all_goals (first | exact Ld | exact trivial | ((simp_all [edB]; done)))
set_option maxHeartbeats 4000000 in
theorem iEditText_ac [Mode] [HasTab] (e : Ed) : AC Tryd.prog 14 [e.av] H0 (Str (edT e)) H0 := by
  have hI := isEdit_ac e
  cases hb : edB e with
  | false =>
    rw [hb] at hI
    rw [edT_no hb]
    obtain ⟨kd, ix, a, b, c, d⟩ := e
    refine AC.of_body 0 Tryd.func14 rfl (fun l h => absurd rfl h) (fun C hC => ?_)
    have hD : ∀ l, ¬ C.D0 l := fun l h => (hC l).1 h rfl
    simp only [startFr, Tryd.ntmps14, List.length_cons, List.length_nil, Nat.reduceAdd, Nat.reduceSub, List.replicate_succ, List.replicate_zero, List.cons_append, List.nil_append]
    repeat' (first | ((first | apply Ba | (apply Bb; (· rfl); (· rfl)) | (apply Bc; (· exact nxE)) | (apply Bd; (· rfl); (· rfl); (· exact nxE))); (· first | exact Kz rfl rfl (hI) (Aa (Ad (Ad (Ad (Ad (Ad (Ad An)))))) An) | exact Ok.seqS rfl rfl rfl | exact Ok.sneS rfl rfl rfl | exact Ok.slen rfl rfl | exact Ok.sjoin rfl rfl rfl (by simp only [List.length_append, List.length_cons, List.length_nil]; omega) | exact Ok.pe)) | ((first | apply Ca | (apply Cb; (· exact nxE))); (· first | exact Ok.e0)) | refine Sx ?_ | (refine Sy (fun h => ?_) (fun h => ?_) <;> try (exfalso; omega; done)) | refine Sz (fun h => ?_) (fun h => ?_))
    refine Ya ?_
    (apply Le.headZ (hs := []) [] rfl)
    all_goals (try dsimp only [srcs])
    (case' hfr => (repeat' (first | refine La ?_ ?_ | exact Lc | refine Lo ?_ | refine ⟨⟨_, rfl, ?_⟩, ?_⟩ | refine Lx ?_)))
    all_goals (first | exact Ld | exact trivial | (rfl))
  | true =>
    rw [hb] at hI
    rw [edT_yes hb]
    have hok := edB_ok hb
    unfold edOk at hok
    rw [Bool.and_eq_true, Bool.and_eq_true] at hok
    have hx := decimalP_ac e.idx (wi_iff'.1 hok.1.2).1 (by have := (wi_iff'.1 hok.1.2).2; omega)
    have hp := placeText_ac e.pl hok.2
    have lp := plT_len hok.2
    have lx := dec_len e.idx.toNat (by have := (wi_iff'.1 hok.1.2).2; omega)
    obtain ⟨kd, ix, a, b, c, d⟩ := e
    simp only at hx hp lp lx ⊢
    refine AC.of_body 0 Tryd.func14 rfl (fun l h => absurd rfl h) (fun C hC => ?_)
    have hD : ∀ l, ¬ C.D0 l := fun l h => (hC l).1 h rfl
    simp only [startFr, Tryd.ntmps14, List.length_cons, List.length_nil, Nat.reduceAdd, Nat.reduceSub, List.replicate_succ, List.replicate_zero, List.cons_append, List.nil_append]
    repeat' (first | ((first | apply Ba | (apply Bb; (· rfl); (· rfl)) | (apply Bc; (· exact nxE)) | (apply Bd; (· rfl); (· rfl); (· exact nxE))); (· first | exact Kz rfl rfl (hI) (Aa (Ad (Ad (Ad (Ad (Ad (Ad An)))))) An) | exact Kz rfl rfl (hx) (Ad An) | exact Kz rfl rfl (hp) (Aa (Ad (Ad (Ad (Ad An)))) An) | exact Ok.seqS rfl rfl rfl | exact Ok.sneS rfl rfl rfl | exact Ok.slen rfl rfl | exact Ok.sjoin rfl rfl rfl (by simp only [List.length_append, List.length_cons, List.length_nil]; omega) | exact Ok.pe)) | ((first | apply Ca | (apply Cb; (· exact nxE))); (· first | exact Ok.e0)) | refine Sx ?_ | (refine Sy (fun h => ?_) (fun h => ?_) <;> try (exfalso; omega; done)) | refine Sz (fun h => ?_) (fun h => ?_))
    all_goals
      refine Ya ?_
      (apply Le.headZ (hs := []) [] rfl)
      all_goals (try dsimp only [srcs])
      (case' hfr => (repeat' (first | refine La ?_ ?_ | exact Lc | refine Lo ?_ | refine ⟨⟨_, rfl, ?_⟩, ?_⟩ | refine Lx ?_)))
      all_goals (first | exact Ld | exact trivial | ((simp [*]; done)))
set_option maxHeartbeats 4000000 in
theorem sEditText_ac [Mode] (e : Ed) : AC Tryd.prog 19 [e.av] H0 (Str (edT e)) H0 := by
  have hw : IntKind.i64.wrap (10 - 1) = 9 := by decide
  have hP := l11Place_ac e.pl 10
  rw [hw] at hP
  cases hb : edOk e with
  | false =>
    have hT : edT e = [] := by unfold edT; rw [hb]; rfl
    rw [hT]
    unfold edOk at hb
    obtain ⟨kd, ix, a, b, c, d⟩ := e
    simp only at hb hP
    refine AC.of_body 0 Tryd.func19 rfl (fun l h => absurd rfl h) (fun C hC => ?_)
    have hD : ∀ l, ¬ C.D0 l := fun l h => (hC l).1 h rfl
    simp only [startFr, Tryd.ntmps19, List.length_cons, List.length_nil, Nat.reduceAdd, Nat.reduceSub, List.replicate_succ, List.replicate_zero, List.cons_append, List.nil_append]
    repeat' (first | ((first | apply Ba | (apply Bb; (· rfl); (· rfl)) | (apply Bc; (· exact nxE)) | (apply Bd; (· rfl); (· rfl); (· exact nxE))); (· first | exact Kz rfl rfl (l01In_ac _ _ _) (Ad (Ad (Ad An))) | exact Kz rfl rfl (hP) (Aa (Ad (Ad (Ad (Ad An)))) (Ad An)) | exact Ok.seqS rfl rfl rfl | exact Ok.sneS rfl rfl rfl | exact Ok.slen rfl rfl | exact Ok.sjoin rfl rfl rfl (by simp only [List.length_append, List.length_cons, List.length_nil]; omega) | exact Ok.pe)) | ((first | apply Ca | (apply Cb; (· exact nxE))); (· first | exact Ok.e0)) | refine Sx ?_ | (refine Sy (fun h => ?_) (fun h => ?_) <;> try (exfalso; omega; done)) | refine Sz (fun h => ?_) (fun h => ?_))
    all_goals first
      | (exfalso; simp_all; done)
      | skip
    all_goals
      refine Ya ?_
      (apply Le.headZ (hs := []) [] rfl)
      all_goals (try dsimp only [srcs])
      (case' hfr => (repeat' (first | refine La ?_ ?_ | exact Lc | refine Lo ?_ | refine ⟨⟨_, rfl, ?_⟩, ?_⟩ | refine Lx ?_)))
      all_goals (first | exact Ld | exact trivial | (rfl))
  | true =>
    have hok := hb
    unfold edOk at hok
    rw [Bool.and_eq_true, Bool.and_eq_true] at hok
    have h1 := l01In_ac e.kind 1 3
    rw [hok.1.1] at h1
    have h2 := l01In_ac e.idx 0 30
    rw [hok.1.2] at h2
    rw [hok.2] at hP
    have hS := l29Sign_ac e.kind (wi_iff'.1 hok.1.1).1 (wi_iff'.1 hok.1.1).2
    have hx := l01DecI_ac e.idx (wi_iff'.1 hok.1.2).1 (by have := (wi_iff'.1 hok.1.2).2; omega)
    have lx := dec_len e.idx.toNat (by have := (wi_iff'.1 hok.1.2).2; omega)
    have hT : edT e = if e.kind = 2 then (if e.pl = ⟨0, 0, 0, 0⟩ then 45 :: dec e.idx.toNat else []) else (if e.kind = 1 then 43 else 61) :: (dec e.idx.toNat ++ [32] ++ plT e.pl) := by unfold edT; rw [if_pos hb]
    rw [hT]
    obtain ⟨⟨⟨f0, f1⟩, t0, t1⟩, ⟨d0, d1⟩, k0, k1⟩ := plB_iff.1 hok.2
    have lf := dec_len e.pl.f.toNat (by omega)
    have lt := dec_len e.pl.t.toNat (by omega)
    have ld := dec_len e.pl.d.toNat (by omega)
    have lk := dec_len e.pl.k.toNat (by omega)
    have hf := l01DecI_ac e.pl.f f0 (by omega)
    have ht := l01DecI_ac e.pl.t t0 (by omega)
    have hd := l01DecI_ac e.pl.d d0 (by omega)
    have hk := l01DecI_ac e.pl.k k0 (by omega)
    obtain ⟨kd, ix, a, b, c, d⟩ := e
    simp only at *
    clear hT hok
    refine AC.of_body 0 Tryd.func19 rfl (fun l h => absurd rfl h) (fun C hC => ?_)
    have hD : ∀ l, ¬ C.D0 l := fun l h => (hC l).1 h rfl
    simp only [startFr, Tryd.ntmps19, List.length_cons, List.length_nil, Nat.reduceAdd, Nat.reduceSub, List.replicate_succ, List.replicate_zero, List.cons_append, List.nil_append]
    repeat' (first | ((first | apply Ba | (apply Bb; (· rfl); (· rfl)) | (apply Bc; (· exact nxE)) | (apply Bd; (· rfl); (· rfl); (· exact nxE))); (· first | exact Kz rfl rfl (h1) (Ad (Ad (Ad An))) | exact Kz rfl rfl (h2) (Ad (Ad (Ad An))) | exact Kz rfl rfl (hP) (Aa (Ad (Ad (Ad (Ad An)))) (Ad An)) | exact Kz rfl rfl (hS) (Ad An) | exact Kz rfl rfl (hx) (Ad An) | exact Kz rfl rfl (hf) (Ad An) | exact Kz rfl rfl (ht) (Ad An) | exact Kz rfl rfl (hd) (Ad An) | exact Kz rfl rfl (hk) (Ad An) | exact Ok.seqS rfl rfl rfl | exact Ok.sneS rfl rfl rfl | exact Ok.slen rfl rfl | exact Ok.sjoin rfl rfl rfl (by simp only [List.length_append, List.length_cons, List.length_nil]; omega) | exact Ok.pe)) | ((first | apply Ca | (apply Cb; (· exact nxE))); (· first | exact Ok.e0)) | refine Sx ?_ | (refine Sy (fun h => ?_) (fun h => ?_) <;> try (exfalso; omega; done)) | refine Sz (fun h => ?_) (fun h => ?_))
    all_goals
      refine Ya ?_
      (apply Le.headZ (hs := []) [] rfl)
      all_goals (try dsimp only [srcs])
      (case' hfr => (repeat' (first | refine La ?_ ?_ | exact Lc | refine Lo ?_ | refine ⟨⟨_, rfl, ?_⟩, ?_⟩ | refine Lx ?_)))
      all_goals (first | exact Ld | exact trivial | ((clear h1 h2 hP hS hx hf ht hd hk; simp_all [plT]; done)))
end Go.Proofs.YtofakjlamoigcaaDoor
end

section
namespace Go.Proofs.YtofakjlamoigcaaDoor
open Go Go.RowKit
set_option linter.unusedSimpArgs false
set_option linter.unusedVariables false
attribute [local irreducible] AL AD AW OpOk Le AC thenQ blockQ EndQ

abbrev own1 (k n : Nat) : AV := .own k ⟨0, []⟩ 0 n
abbrev hp1 (o : AObj) : Heap := upd H0 ⟨0, []⟩ (some o)
end Go.Proofs.YtofakjlamoigcaaDoor
end

section
namespace Go.Proofs.YtofakjlamoigcaaDoor
set_option linter.unusedSimpArgs false
set_option linter.unusedVariables false

abbrev BOT : Int := -1000000000000000
def tryAll {α : Type} (f : Nat → List α) : List Nat → List α
  | [] => []
  | v :: r => if f v ≠ [] then f v else tryAll f r
theorem tryAll_ne {α : Type} {f : Nat → List α} : ∀ {l : List Nat}, tryAll f l ≠ [] ↔ ∃ v ∈ l, f v ≠ []
  | [] => by simp [tryAll]
  | v :: r => by
    unfold tryAll
    split
    · rename_i h; exact ⟨fun _ => ⟨v, by simp, h⟩, fun _ => h⟩
    · rename_i h
      rw [tryAll_ne]
      constructor
      · rintro ⟨u, hu, h2⟩; exact ⟨u, by simp [hu], h2⟩
      · rintro ⟨u, hu, h2⟩
        rcases List.mem_cons.1 hu with rfl | hu
        · exact absurd h2 h
        · exact ⟨u, hu, h2⟩
def hdN (p : List Nat) : Nat := p.headD 0
def lsN (p : List Nat) : Nat := p.getLastD 0
/-- Each node has an arc to the next one. -/
def pathP (a : Nat → Nat → Int) (c : List Nat) : Prop := ∀ i, i + 1 < c.length → a (c.getD (i + 1) 0) (c.getD i 0) ≠ BOT
structure Cyc (a : Nat → Nat → Int) (n : Nat) (c : List Nat) : Prop where
  ne : c ≠ []
  lt : ∀ v ∈ c, v < n
  path : pathP a c
  close : a (hdN c) (lsN c) ≠ BOT
theorem hdN_app {p q : List Nat} (h : p ≠ []) : hdN (p ++ q) = hdN p := by cases p with | nil => exact absurd rfl h | cons => rfl
end Go.Proofs.YtofakjlamoigcaaDoor
end

section
namespace Go.Proofs.YtofakjlamoigcaaDoor
set_option linter.unusedSimpArgs false
set_option linter.unusedVariables false

theorem nodup_le : ∀ (n : Nat) (l : List Nat), l.Nodup → (∀ x ∈ l, x < n) → l.length ≤ n
  | 0, l, _, h => by
    cases l with
    | nil => simp
    | cons x r => have := h x (by simp); omega
  | n + 1, l, hn, h => by
    by_cases hm : n ∈ l
    · have h1 := nodup_le n (l.erase n) (hn.erase n) (fun x hx => by
        have h2 := (hn.mem_erase_iff).1 hx
        have := h x h2.2
        omega)
      have := List.length_erase_of_mem hm
      omega
    · have := nodup_le n l hn (fun x hx => by
        have h1 := h x hx
        have : x ≠ n := fun e => hm (e ▸ hx)
        omega)
      omega
def iter (f : Nat → Nat) : Nat → Nat → Nat
  | 0, x => x
  | k + 1, x => f (iter f k x)
theorem iter_add (f : Nat → Nat) : ∀ (i j x : Nat), iter f (i + j) x = iter f i (iter f j x)
  | 0, j, x => by simp [iter]
  | i + 1, j, x => by rw [show i + 1 + j = (i + j) + 1 by omega]; simp only [iter]; rw [iter_add f i j x]
theorem exists_min (p : Nat → Prop) : ∀ (m : Nat), p m → ∃ k, p k ∧ ∀ j, p j → k ≤ j := by
  intro m
  induction m using Nat.strongRecOn with
  | _ m ih =>
    intro hm
    by_cases h : ∃ j, j < m ∧ p j
    · obtain ⟨j, hj, hp⟩ := h; exact ih j hj hp
    · exact ⟨m, hm, fun j hp => by
        apply Classical.byContradiction
        intro hlt
        exact h ⟨j, by omega, hp⟩⟩
/-! ### Firing orders -/
/-- The least node that is not yet there and waits for none that is not there. -/
def nextE (w : Nat → Nat → Bool) (n : Nat) (ord : List Nat) : Option Nat := (List.range n).find? fun e => !ord.contains e && (List.range n).all fun u => !w e u || ord.contains u
structure OrdOk (w : Nat → Nat → Bool) (n : Nat) (ord : List Nat) : Prop where
  nd : ord.Nodup
  lt : ∀ x ∈ ord, x < n
  wait : ∀ i, i < ord.length → ∀ u, u < n → w (ord.getD i 0) u = true → u ∈ ord.take i
theorem OrdOk.nil {w : Nat → Nat → Bool} {n : Nat} : OrdOk w n [] := ⟨List.nodup_nil, fun x h => (by cases h), fun i h => (by simp at h)⟩
theorem nextE_some {w : Nat → Nat → Bool} {n : Nat} {ord : List Nat} {e : Nat} (h : nextE w n ord = some e) : e < n ∧ e ∉ ord ∧ ∀ u, u < n → w e u = true → u ∈ ord := by
  have h1 := List.mem_of_find?_eq_some h
  have h2 := List.find?_some h
  simp at h1 h2
  refine ⟨h1, h2.1, fun u hu hw => ?_⟩
  rcases h2.2 u hu with h3 | h3
  · rw [h3] at hw; cases hw
  · exact h3
theorem OrdOk.snoc {w : Nat → Nat → Bool} {n : Nat} {ord : List Nat} {e : Nat} (h : OrdOk w n ord) (hx : nextE w n ord = some e) : OrdOk w n (ord ++ [e]) := by
  obtain ⟨h1, h2, h3⟩ := nextE_some hx
  refine ⟨?_, fun x hx => ?_, fun i hi u hu hw => ?_⟩
  · rw [List.nodup_append]
    exact ⟨h.nd, by simp, fun a ha b hb => by simp at hb; subst hb; intro e2; subst e2; exact h2 ha⟩
  · rcases List.mem_append.1 hx with hx | hx
    · exact h.lt x hx
    · simp at hx; omega
  · by_cases hil : i < ord.length
    · have := h.wait i hil u hu (by simpa [List.getD_eq_getElem?_getD, List.getElem?_append_left hil] using hw)
      rwa [List.take_append_of_le_length (by omega)]
    · simp at hi
      have hie : i = ord.length := by omega
      subst hie
      have hw' : w e u = true := by simpa [List.getD_eq_getElem?_getD] using hw
      rw [List.take_append_of_le_length (Nat.le_refl _), List.take_length]
      exact h3 u hu hw'
end Go.Proofs.YtofakjlamoigcaaDoor
end

section
namespace Go.Proofs.YtofakjlamoigcaaDoor
set_option linter.unusedSimpArgs false
set_option linter.unusedVariables false
open Go Go.RowKit
attribute [local irreducible] AL AD AW OpOk Le AC thenQ blockQ EndQ

abbrev IR (xs : List Int) : List (List D) := xs.map fun n => [DI n]
theorem IR_len [Mode] {xs : List Int} : (IR xs).length = xs.length := by simp [IR]
theorem IR_app [Mode] {xs ys : List Int} : IR (xs ++ ys) = IR xs ++ IR ys := by simp [IR]
abbrev IL (xs : List Int) : AV := .d (.sl 1 (IR xs))
abbrev IO (xs : List Int) : AObj := dobj 1 (IR xs)
abbrev TR (t : List (List Int)) : List (List (List D)) := t.map IR
theorem TR_len [Mode] {t : List (List Int)} : (TR t).length = t.length := by simp [TR]
end Go.Proofs.YtofakjlamoigcaaDoor
end

section
namespace Go.Proofs.YtofakjlamoigcaaDoor
set_option linter.unusedSimpArgs false
set_option linter.unusedVariables false
open Go Go.RowKit
attribute [local irreducible] AL AD AW OpOk Le AC thenQ blockQ EndQ

/-- A firing. -/
structure Fi where
  e : Int
  n : Int
  t : Int
  deriving DecidableEq
def Fi.row (f : Fi) : List D := [DI f.e, DI f.n, DI f.t]
abbrev Fi.av (f : Fi) : AV := .agg [I f.e, I f.n, I f.t]
/-- A firing that can be written. -/
def wrF (f : Fi) : Bool := wi f.e 0 9 && wi f.t 0 1000000
/-- The chain after a firing. -/
def nxI (c : Int) (f : Fi) : Int := (31 * c + 7 * f.e + f.t).tmod 9973
/-- The line of a firing. -/
def trL (c : Int) (f : Fi) : List UInt8 := dec f.e.toNat ++ [32] ++ dec f.t.toNat ++ [32] ++ dec (nxI c f).toNat
def trN (c : Int) (f : Fi) : List UInt8 := trL c f ++ [10]
/-- The chain after all firings, and their text. -/
def chA : Int → List Fi → Int
  | c, [] => c
  | c, f :: fs => chA (nxI c f) fs
def trT : Int → List Fi → List UInt8
  | _, [] => []
  | c, f :: fs => trN c f ++ trT (nxI c f) fs
end Go.Proofs.YtofakjlamoigcaaDoor
end

section
namespace Go.Proofs.YtofakjlamoigcaaDoor
set_option linter.unusedSimpArgs false
set_option linter.unusedVariables false
open Go Go.RowKit

/-- A contract of the reading, used in the machine's terms. -/
theorem AC.at [Mode] {P : Program} {f : FuncId} {args : List AV} {res : AV} {w : World} {vs : List Value} (h : AC P f args H0 res H0) (hg : Glb (fun b => b < w.heap.size) w) (hv : VRs (fun _ => none) (fun b => b < w.heap.size) w args vs) :
    Calls P f vs.toArray w fun e w' => ∃ v ι F, e = .returned v ∧ VR ι F w' res v ∧ Below w.heap.size w w' := by
  refine (h (fun _ => none) (fun b => b < w.heap.size) w vs ⟨fun l o h => (by cases h), fun l l' b s s' h => absurd rfl h, fun l b s h => absurd rfl h, fun b h => h, hg⟩ (fun _ _ => rfl) hv).mono ?_
  rintro e w' ⟨v, ι', F', rfl, hr, _, hst, _⟩
  exact ⟨v, ι', F', rfl, hr, hst.os, hst.tape, hst.output, hst.size, fun b hb => hst.block b hb fun ⟨l, hl, _⟩ => absurd rfl hl⟩
def Fi.enc (f : Fi) : List Value := [.int .i64 f.e, .int .i64 f.n, .int .i64 f.t]
end Go.Proofs.YtofakjlamoigcaaDoor
end

section
namespace Go.Proofs.YtofakjlamoigcaaDoor
set_option linter.unusedSimpArgs false
set_option linter.unusedVariables false
open Go Go.RowKit Go.ChangeShapes Go.WideShapes Go.Deep Go.ChangeMaps

instance : Inhabited Fi := ⟨⟨0, 0, 0⟩⟩
section
variable {H : Type} {enc : TypeId × Value → H} {w : World} {base : Nat} {spare : Nat → Bool} {held : Bool}
end
end Go.Proofs.YtofakjlamoigcaaDoor
end

section
namespace Go.Proofs.YtofakjlamoigcaaDoor
set_option linter.unusedSimpArgs false
set_option linter.unusedVariables false
open Go.RowKit Go.ChangeShapes Go.WideShapes Go.Deep

def RdRow (w : World) (r : List D) (cs : List Value) : Prop := r.length = cs.length ∧ ∀ (j : Nat) c v, r[j]? = some c → cs[j]? = some v → DR (fun b => b < w.heap.size) w c v
theorem cell_lt2 {w : World} {a : Addr} {v : Value} (h : w.cell? a = some v) : a.block < w.heap.size := by
  unfold World.cell? at h
  split at h
  · rename_i e; exact (Array.getElem?_eq_some_iff.1 e).1
  · cases h
theorem RdRow.v {w : World} (v : Value) : RdRow w [.v v] [v] := ⟨rfl, fun j c u hc hu => by
  cases j with
  | zero => simp at hc hu; subst hc; subst hu; exact .v _
  | succ j => simp at hc⟩
theorem RdRow.one {w : World} {x : D} {v : Value} (h : DR (fun b => b < w.heap.size) w x v) : RdRow w [x] [v] := ⟨rfl, fun j c u hc hu => by
  cases j with
  | zero => simp at hc hu; subst hc; subst hu; exact h
  | succ j => simp at hc⟩
theorem RdRow.nil {w : World} : RdRow w [] [] := ⟨rfl, fun j c u hc hu => by simp at hc⟩
theorem RdRow.app {w : World} {r r' : List D} {cs cs' : List Value} (h : RdRow w r cs) (h' : RdRow w r' cs') : RdRow w (r ++ r') (cs ++ cs') := by
  refine ⟨by simp [h.1, h'.1], fun j c u hc hu => ?_⟩
  by_cases hj : j < r.length
  · rw [List.getElem?_append_left hj] at hc
    rw [List.getElem?_append_left (by rw [← h.1]; exact hj)] at hu
    exact h.2 j c u hc hu
  · rw [List.getElem?_append_right (by omega)] at hc
    rw [List.getElem?_append_right (by rw [← h.1]; omega), ← h.1] at hu
    exact h'.2 _ c u hc hu
/-- A struct's first field, and the rest. -/
theorem RdRow.cut {w : World} {r r' : List D} {cs : List Value} {n : Nat} (h : RdRow w r ((cs.drop 0).take n)) (h' : RdRow w r' (cs.drop n)) : RdRow w (r ++ r') cs := by
  have := h.app h'
  rwa [List.drop_zero, List.take_append_drop] at this
theorem RdRow.agg {ι : Iota} {w : World} {r : List D} {cs : List Value} (h : RdRow w r cs) : VR ι (fun b => b < w.heap.size) w (.agg (r.map .d)) (.agg cs.toArray) := by
  refine .agg _ cs (by simp [h.1]) fun i c v hc hv => ?_
  simp only [List.getElem?_map, Option.map_eq_some_iff] at hc
  obtain ⟨x, hx, rfl⟩ := hc
  exact .d (h.2 i x v hx hv)
theorem RdRow.cell {ι : Iota} {w : World} {x : D} {v : Value} (h : RdRow w [x] [v]) : VR ι (fun b => b < w.heap.size) w (.d x) v := .d (h.2 0 x v rfl rfl)

section
variable {H : Type} {enc : TypeId × Value → H} {w : World} {base : Nat} {spare : Nat → Bool} {held : Bool}
abbrev Rd (enc : TypeId × Value → H) (w : World) (base : Nat) (spare : Nat → Bool) (held : Bool) (t : TypeId) (S : List D → Prop) : Prop :=
  ∀ {fuel : Nat} {cs : List Value} {x : DataW H × List MemPlace}, DataW.trod enc Tryd.prog w base spare held fuel t cs = some x → ∃ r, S r ∧ RdRow w r cs
def i64 (n : Int) : Prop := -9223372036854775808 ≤ n ∧ n ≤ 9223372036854775807
theorem rdc_slice {k : Nat} {t e : TypeId} {S : List D → Prop} (ht : Tryd.prog.underlying t = some (.slice e)) (hk : Tryd.prog.cellsOf e = k) (hk0 : 0 < k) (hrd : Rd enc w base spare held e (fun r => S r ∧ r.length = k)) :
    Rd enc w base spare held t (fun r => ∃ rows, rows.length ≤ maxLen ∧ (∀ r ∈ rows, S r) ∧ r = [.sl k rows]) := fun {fuel cs x} h => by
  rcases open_slice ht h with ⟨hc, _⟩ | ⟨a, len, cap, m, n, DD, Q, hc, _, hl, hm, hmm, _, hi⟩
  · subst hc
    exact ⟨_, ⟨[], Nat.zero_le _, fun _ h => by simp at h, rfl⟩, .one (.sl k [] none 0 (fun _ _ => undef) (Nat.le_refl _) (fun i r j c h => by simp at h) (fun i r j c h => by simp at h))⟩
  · have hlm : len ≤ m := by rw [hmm]; split <;> omega
    rw [hk] at hi
    obtain ⟨f, hf⟩ := choose_lt (α := List Value × List D) (p := fun i p => w.cells? base (a.add (i * k)) k = some p.1 ∧ S p.2 ∧ p.2.length = k ∧ RdRow w p.2 p.1) (n := len) (fun i hi' => by
      obtain ⟨cs', h1, h2⟩ := hi i (by omega)
      obtain ⟨r, ⟨hs, hl⟩, hr⟩ := hrd h2
      exact ⟨(cs', r), h1, hs, hl, hr⟩)
    subst hc
    refine ⟨_, ⟨(List.range len).map fun i => (f i).2, by simp; omega, fun r hr => ?_, rfl⟩, ?_⟩
    · obtain ⟨i, hi', rfl⟩ := List.mem_map.1 hr
      exact (hf i (List.mem_range.1 hi')).2.1
    · refine .one ?_
      have hget : ∀ (i : Nat) r, ((List.range len).map fun i => (f i).2)[i]? = some r → i < len ∧ r = (f i).2 := fun i r hr => by
        simp only [List.getElem?_map, Option.map_eq_some_iff] at hr
        obtain ⟨i', hi', rfl⟩ := hr
        obtain ⟨hlt, e1⟩ := List.getElem?_eq_some_iff.1 hi'
        simp at hlt e1
        subst e1
        exact ⟨hlt, rfl⟩
      have key : ∀ (i : Nat) r j c, ((List.range len).map fun i => (f i).2)[i]? = some r → r[j]? = some c → i < len ∧ j < k ∧ (f i).2[j]? = some c ∧ ∃ v, (f i).1[j]? = some v := fun i r j c hr hc => by
        obtain ⟨hlt, rfl⟩ := hget i r hr
        obtain ⟨h1, h2, h3, h4⟩ := hf i hlt
        have hj : j < k := by rw [← h3]; exact (List.getElem?_eq_some_iff.1 hc).1
        exact ⟨hlt, hj, hc, (f i).1[j]'(by rw [← h4.1, h3]; exact hj), List.getElem?_eq_getElem _⟩
      have hlen : ((List.range len).map fun i => (f i).2).length = len := by simp
      rw [show (Value.slice (some a) len cap) = .slice (some a) ((List.range len).map fun i => (f i).2).length cap by rw [hlen]]
      refine .sl k _ (some a) cap (fun i j => ((f i).1[j]?).getD undef) (by rw [hlen]; exact hl) (fun i r j c hr hc => ?_) (fun i r j c hr hc => ?_)
      · obtain ⟨hlt, hj, hc', v, hv⟩ := key i r j c hr hc
        obtain ⟨_, _, hcell⟩ := World.cells?_some (hf i hlt).1
        have hsp : a.spot = none := by
          obtain ⟨_, hl0, hc0⟩ := World.cells?_some (hf 0 (by omega)).1
          have h0 := hc0 0 hk0
          rw [List.getElem?_eq_getElem (by rw [hl0]; exact hk0)] at h0
          cases hs : a.spot with
          | none => rfl
          | some s =>
            exfalso
            simp [Addr.add, World.cell?, hs] at h0
            split at h0 <;> simp at h0
        obtain ⟨b, off, sp⟩ := a
        simp only at hsp
        subst hsp
        have h1 := hcell j hj
        rw [hv] at h1
        have e : (Addr.add (Addr.add ⟨b, off, none⟩ (i * k)) j) = ⟨b, off + i * k + j, none⟩ := by
          simp only [Addr.add]
          by_cases h1 : i * k = 0 <;> by_cases h2 : j = 0 <;> simp [h1, h2]
        rw [e] at h1
        exact ⟨b, off, rfl, cell_lt2 h1, by rw [hv]; exact h1⟩
      · obtain ⟨hlt, hj, hc', v, hv⟩ := key i r j c hr hc
        simp only [hv, Option.getD_some]
        exact (hf i hlt).2.2.2.2 j c v hc' hv
theorem Rd.mono {t : TypeId} {S S' : List D → Prop} (h : Rd enc w base spare held t S) (hs : ∀ r, S r → S' r) : Rd enc w base spare held t S' := fun h' => by
  obtain ⟨r, h1, h2⟩ := h h'
  exact ⟨r, hs _ h1, h2⟩
/-- Rows that are all told by something are told by a list of such. -/
theorem rows_of {α : Type} {row : α → List D} {Q : α → Prop} : ∀ {rows : List (List D)}, (∀ r ∈ rows, ∃ x, Q x ∧ r = row x) → ∃ xs : List α, (∀ x ∈ xs, Q x) ∧ rows = xs.map row
  | [], _ => ⟨[], fun _ h => by simp at h, rfl⟩
  | r :: rows, h => by
    obtain ⟨x, hx, rfl⟩ := h r (by simp)
    obtain ⟨xs, hxs, rfl⟩ := rows_of (rows := rows) (fun r hr => h r (by simp [hr]))
    exact ⟨x :: xs, fun y hy => by
      rcases List.mem_cons.1 hy with rfl | hy
      · exact hx
      · exact hxs y hy, rfl⟩
/-- A slice of records. -/
theorem rdc_recs {α : Type} {k : Nat} {t e : TypeId} {row : α → List D} {Q : α → Prop} (ht : Tryd.prog.underlying t = some (.slice e)) (hk : Tryd.prog.cellsOf e = k) (hk0 : 0 < k) (hl : ∀ x, (row x).length = k) (hrd : Rd enc w base spare held e (fun r => ∃ x, Q x ∧ r = row x)) :
    Rd enc w base spare held t (fun r => ∃ xs : List α, xs.length ≤ maxLen ∧ (∀ x ∈ xs, Q x) ∧ r = [.sl k (xs.map row)]) :=
  Rd.mono (rdc_slice (S := fun r => ∃ x, Q x ∧ r = row x) ht hk hk0 (Rd.mono hrd (by rintro r ⟨x, hx, e⟩; exact ⟨⟨x, hx, e⟩, by rw [e, hl]⟩))) (by
    rintro r ⟨rows, h1, h2, h3⟩
    obtain ⟨xs, h4, rfl⟩ := rows_of h2
    exact ⟨xs, by simpa using h1, h4, h3⟩)
set_option maxRecDepth 100000 in
/-- Top: an argument of one cell. -/
theorem rdt_slice {t e : TypeId} {S : List D → Prop} {r : Reach} {b0 : Nat} {v : Value} {d : DataW H} {p : List MemPlace} (ht : Tryd.prog.underlying t = some (.slice e)) (hv : Value.okWide Tryd.prog w r b0 t v) (h : DataW.Trod enc Tryd.prog w base spare held t v d p) (hrd : Rd enc w base spare held t S) : ∃ r, S r ∧ RdRow w r [v] := by
  obtain ⟨a, len, cap, rfl⟩ := okWide_slice ht hv
  obtain ⟨fuel, hf⟩ := h
  exact hrd hf
end
end Go.Proofs.YtofakjlamoigcaaDoor
end

section
namespace Go.Proofs.YtofakjlamoigcaaDoor
set_option linter.unusedSimpArgs false
set_option linter.unusedVariables false
open Go.RowKit Go.ChangeShapes Go.WideShapes Go.Deep

section
variable {H : Type} {enc : TypeId × Value → H} {w : World} {base : Nat} {spare : Nat → Bool} {held : Bool}
theorem rdc_u8 : Rd enc w base spare held 5 (fun r => ∃ n, (0 ≤ n ∧ n ≤ 255) ∧ r = [D.v (.int .u8 n)]) := fun h => by
  obtain ⟨n, e, _, hw⟩ := DataW.trod_int Tryd.underlying5 h
  subst e
  refine ⟨_, ⟨n, ?_, rfl⟩, .v _⟩
  simp only [Lit.wf, Bool.and_eq_true, decide_eq_true_eq] at hw
  exact hw
theorem rdc_bytes : Rd enc w base spare held 23 (fun r => ∃ xs : List Int, xs.length ≤ maxLen ∧ (∀ x ∈ xs, 0 ≤ x ∧ x ≤ 255) ∧ r = [.sl 1 (xs.map (fun n : Int => [D.v (.int .u8 n)]))]) :=
  rdc_recs (row := (fun n : Int => [D.v (.int .u8 n)])) (k := 1) (by kernel_rfl) (by kernel_rfl) (by decide) (fun _ => rfl) (Rd.mono rdc_u8 (by rintro r ⟨n, hn, rfl⟩; exact ⟨n, hn, rfl⟩))
end
end Go.Proofs.YtofakjlamoigcaaDoor
end

section
namespace Go.Proofs.YtofakjlamoigcaaDoor
open Go Go.RowKit
set_option linter.unusedSimpArgs false
set_option linter.unusedVariables false
attribute [local irreducible] AL AD AW OpOk Le AC thenQ blockQ EndQ

end Go.Proofs.YtofakjlamoigcaaDoor
end

section
namespace Go.Proofs.YtofakjlamoigcaaDoor
open Go Go.RowKit
set_option linter.unusedSimpArgs false
set_option linter.unusedVariables false
attribute [local irreducible] AL AD AW OpOk Le AC thenQ blockQ EndQ

theorem rowPl_len [Mode] {xs : List Pl} : ∀ r ∈ xs.map Pl.row, r.length = 4 := fun r hr => by obtain ⟨p, _, rfl⟩ := List.mem_map.1 hr; rfl
theorem rowPl_one [Mode] {xs : List Pl} : ∀ r ∈ xs.map Pl.row, (r.map AV.d).all AV.one = true := fun r hr => by obtain ⟨p, _, rfl⟩ := List.mem_map.1 hr; rfl
theorem rowPl_ne [Mode] {xs : List Pl} : ∀ r ∈ xs.map Pl.row, r ≠ [] := fun r hr => by obtain ⟨p, _, rfl⟩ := List.mem_map.1 hr; simp [Pl.row]
theorem clonePl_ac [Mode] (xs : List Pl) (hn : xs.length ≤ 1048576) : AC Tryd.prog 71 [PL xs] H0 (own1 4 xs.length) (hp1 (dobj 4 (xs.map Pl.row))) := by
  refine AC.of_body 0 Tryd.func71 rfl (fun l h => absurd rfl h) (fun C hC => ?_)
  have hD : ∀ l, ¬ C.D0 l := fun l h => (hC l).1 h rfl
  simp only [startFr, Tryd.ntmps71, List.length_cons, List.length_nil, Nat.reduceAdd, Nat.reduceSub, List.replicate_succ, List.replicate_zero, List.cons_append, List.nil_append]
  repeat' (first | refine AL.nil ?_ | ((first | apply AL.st | (apply AL.on; (· rfl); (· rfl)) | (apply AD.st; (· exact nxE)) | (apply AD.on; (· rfl); (· rfl); (· exact nxE))); (· first | exact Ok.pe); (· exact setE); (· first | exact updsE | exact rfl); (· exact nxE)) | ((first | apply AL.st0 | (apply AD.st0; (· exact nxE))); (· first | exact Ok.e0); (· exact rfl); (· exact nxE)) | ((first | apply AL.off | apply AD.off); (· rfl); (· rfl); (· rfl); (· exact setE); (· exact nxE)) | ((first | refine AL.gsplit rfl rfl (fun h => ?_) (fun h => ?_) | refine AD.gsplit rfl rfl (fun h => ?_) (fun h => ?_)) <;> try (exfalso; omega; done)) | (first | refine AL.gsplitB rfl rfl (fun h => ?_) (fun h => ?_) | refine AD.gsplitB rfl rfl (fun h => ?_) (fun h => ?_)) | refine AD.fin (by simp only [List.length_cons, List.length_nil, Nat.reduceAdd]; rfl) rfl (by kernel_rfl) ?_ | refine thenN ?_ | refine AW.seq ?_ | refine AW.reg ?_ | refine AW.dr mixedA (by kernel_rfl) ?_ | refine AW.block ?_ | refine AW.condT rfl ?_ | refine AW.condF rfl ?_ | (refine AW.ite rfl (fun h => ?_) (fun h => ?_) <;> try (exfalso; omega; done)) | refine AW.cond _ rfl (fun h => ?_) (fun h => ?_) | refine AW.ret ?_ | refine AW.exit ?_ | refine AW.skip ?_ | refine thenR ?_ | refine thenX ?_ | refine blockN ?_ | refine blockR ?_ | refine blockX ?_ | refine blockY (by decide) ?_)
  refine AL.stAny (OpAny.eqNilD rfl rfl rfl rowPl_ne) rfl (fun b hb => ?_)
  cases b
  · simp only [List.set_cons_succ, List.set_cons_zero]
    repeat' (first | refine AL.nil ?_ | ((first | apply AL.st | (apply AL.on; (· rfl); (· rfl)) | (apply AD.st; (· exact nxE)) | (apply AD.on; (· rfl); (· rfl); (· exact nxE))); (· first | exact Ok.appendD (rows := []) rfl rfl (by decide) rfl rfl rfl rfl (List.length_map ..) rowPl_len rowPl_one (by omega) (by omega) | exact Ok.pe); (· exact setE); (· first | exact updsE | exact rfl); (· exact nxE)) | ((first | apply AL.st0 | (apply AD.st0; (· exact nxE))); (· first | exact Ok.appendD (rows := []) rfl rfl (by decide) rfl rfl rfl rfl (List.length_map ..) rowPl_len rowPl_one (by omega) (by omega) | exact Ok.e0); (· exact rfl); (· exact nxE)) | ((first | apply AL.off | apply AD.off); (· rfl); (· rfl); (· rfl); (· exact setE); (· exact nxE)) | ((first | refine AL.gsplit rfl rfl (fun h => ?_) (fun h => ?_) | refine AD.gsplit rfl rfl (fun h => ?_) (fun h => ?_)) <;> try (exfalso; omega; done)) | (first | refine AL.gsplitB rfl rfl (fun h => ?_) (fun h => ?_) | refine AD.gsplitB rfl rfl (fun h => ?_) (fun h => ?_)) | refine AD.fin (by simp only [List.length_cons, List.length_nil, Nat.reduceAdd]; rfl) rfl (by kernel_rfl) ?_ | refine thenN ?_ | refine AW.seq ?_ | refine AW.reg ?_ | refine AW.dr mixedA (by kernel_rfl) ?_ | refine AW.block ?_ | refine AW.condT rfl ?_ | refine AW.condF rfl ?_ | (refine AW.ite rfl (fun h => ?_) (fun h => ?_) <;> try (exfalso; omega; done)) | refine AW.cond _ rfl (fun h => ?_) (fun h => ?_) | refine AW.ret ?_ | refine AW.exit ?_ | refine AW.skip ?_ | refine thenR ?_ | refine thenX ?_ | refine blockN ?_ | refine blockR ?_ | refine blockX ?_ | refine blockY (by decide) ?_)
    (refine end1 (res' := .own 4 ⟨5, []⟩ 0 xs.length) (by first | exact .inl rfl | exact .inr rfl) rfl (by first | exact rT rfl | exact rCA rfl rfl rfl rfl (by simp) | exact rCC rfl rfl rfl rfl rfl) ?_ (Le.head ([(⟨0, []⟩, ⟨5, []⟩, dobj 4 (xs.map Pl.row))]) (by first | exact fun l h => absurd h (hD l) | (intro l h; rcases hD l h with rfl; simp [tauL]) | (intro l h; rcases hD l h with rfl | rfl <;> simp [tauL]; done) | (intro l h; rcases hD l h with rfl | rfl | rfl <;> simp [tauL])) ?_ ?_ (by simp) (by simp) (by simp [AllP]) (n' := 1000)); (· simp)) <;> (repeat' (first | exact trivial | exact ARs.nil | refine ARs.cons ?_ ?_ | exact AR.dead _ | exact AR.dd _ | exact AR.i (by (try dsimp only); omega) | exact AR.ptr _ _ _ _ (by simp [heapL, upd]) | exact AR.own _ _ _ _ (by simp [heapL, upd]) | refine AR.ownE _ _ _ ?_ (by simp [heapL, upd]) | refine ⟨⟨_, rfl, ?_⟩, ?_⟩ | exact ObA.data | refine ObA.box ?_ | refine ObA.frE ?_ | refine ObA.dataE ?_ | refine ARs.agg ?_ | refine ARs.tup ?_ | exact AR.clo' ARs.nil ARs.nil | exact AR.clo' ARs.nil (hca _ _)))
  · have h0 : xs = [] := by simpa using hb rfl
    subst h0
    simp only [List.set_cons_succ, List.set_cons_zero]
    repeat' (first | refine AL.nil ?_ | ((first | apply AL.st | (apply AL.on; (· rfl); (· rfl)) | (apply AD.st; (· exact nxE)) | (apply AD.on; (· rfl); (· rfl); (· exact nxE))); (· first | exact Ok.pe); (· exact setE); (· first | exact updsE | exact rfl); (· exact nxE)) | ((first | apply AL.st0 | (apply AD.st0; (· exact nxE))); (· first | exact Ok.e0); (· exact rfl); (· exact nxE)) | ((first | apply AL.off | apply AD.off); (· rfl); (· rfl); (· rfl); (· exact setE); (· exact nxE)) | ((first | refine AL.gsplit rfl rfl (fun h => ?_) (fun h => ?_) | refine AD.gsplit rfl rfl (fun h => ?_) (fun h => ?_)) <;> try (exfalso; omega; done)) | (first | refine AL.gsplitB rfl rfl (fun h => ?_) (fun h => ?_) | refine AD.gsplitB rfl rfl (fun h => ?_) (fun h => ?_)) | refine AD.fin (by simp only [List.length_cons, List.length_nil, Nat.reduceAdd]; rfl) rfl (by kernel_rfl) ?_ | refine thenN ?_ | refine AW.seq ?_ | refine AW.reg ?_ | refine AW.dr mixedA (by kernel_rfl) ?_ | refine AW.block ?_ | refine AW.condT rfl ?_ | refine AW.condF rfl ?_ | (refine AW.ite rfl (fun h => ?_) (fun h => ?_) <;> try (exfalso; omega; done)) | refine AW.cond _ rfl (fun h => ?_) (fun h => ?_) | refine AW.ret ?_ | refine AW.exit ?_ | refine AW.skip ?_ | refine thenR ?_ | refine thenX ?_ | refine blockN ?_ | refine blockR ?_ | refine blockX ?_ | refine blockY (by decide) ?_)
    exact end1nil (.inl rfl) rfl (rT rfl) hD
theorem cloneGraph_ac [Mode] (ev : Int) (xs : List Pl) (hn : xs.length ≤ 1048576) : AC Tryd.prog 57 [grD ev xs] H0 (.agg [I ev, own1 4 xs.length]) (hp1 (dobj 4 (xs.map Pl.row))) := by
  refine AC.of_body 0 Tryd.func57 rfl (fun l h => absurd rfl h) (fun C hC => ?_)
  have hD : ∀ l, ¬ C.D0 l := fun l h => (hC l).1 h rfl
  simp only [startFr, Tryd.ntmps57, List.length_cons, List.length_nil, Nat.reduceAdd, Nat.reduceSub, List.replicate_succ, List.replicate_zero, List.cons_append, List.nil_append]
  repeat' (first | refine AL.nil ?_ | ((first | apply AL.st | (apply AL.on; (· rfl); (· rfl)) | (apply AD.st; (· exact nxE)) | (apply AD.on; (· rfl); (· rfl); (· exact nxE))); (· first | exact OpOk.call1n [] rfl rfl (clonePl_ac xs hn) (.inl rfl) (fun _ => by simp [rnO_dobj]) (ARs.cons (AR.dd _) ARs.nil) (by simp only [rn, List.map_cons, List.map_nil]; exact rfl) | exact Ok.pe); (· exact setE); (· first | exact updsE | exact rfl); (· exact nxE)) | ((first | apply AL.st0 | (apply AD.st0; (· exact nxE))); (· first | exact OpOk.call1n [] rfl rfl (clonePl_ac xs hn) (.inl rfl) (fun _ => by simp [rnO_dobj]) (ARs.cons (AR.dd _) ARs.nil) (by simp only [rn, List.map_cons, List.map_nil]; exact rfl) | exact Ok.e0); (· exact rfl); (· exact nxE)) | ((first | apply AL.off | apply AD.off); (· rfl); (· rfl); (· rfl); (· exact setE); (· exact nxE)) | ((first | refine AL.gsplit rfl rfl (fun h => ?_) (fun h => ?_) | refine AD.gsplit rfl rfl (fun h => ?_) (fun h => ?_)) <;> try (exfalso; omega; done)) | (first | refine AL.gsplitB rfl rfl (fun h => ?_) (fun h => ?_) | refine AD.gsplitB rfl rfl (fun h => ?_) (fun h => ?_)) | refine AD.fin (by simp only [List.length_cons, List.length_nil, Nat.reduceAdd]; rfl) rfl (by kernel_rfl) ?_ | refine thenN ?_ | refine AW.seq ?_ | refine AW.reg ?_ | refine AW.dr mixedA (by kernel_rfl) ?_ | refine AW.block ?_ | refine AW.condT rfl ?_ | refine AW.condF rfl ?_ | (refine AW.ite rfl (fun h => ?_) (fun h => ?_) <;> try (exfalso; omega; done)) | refine AW.cond _ rfl (fun h => ?_) (fun h => ?_) | refine AW.ret ?_ | refine AW.exit ?_ | refine AW.skip ?_ | refine thenR ?_ | refine thenX ?_ | refine blockN ?_ | refine blockR ?_ | refine blockX ?_ | refine blockY (by decide) ?_)
  (refine end1 (res' := .agg [I ev, .own 4 ⟨6, [0]⟩ 0 xs.length]) (by first | exact .inl rfl | exact .inr rfl) rfl (by first | exact rT rfl | exact rCA rfl rfl rfl rfl (by simp) | exact rCC rfl rfl rfl rfl rfl) ?_ (Le.head ([(⟨0, []⟩, ⟨6, [0]⟩, dobj 4 (xs.map Pl.row))]) (by first | exact fun l h => absurd h (hD l) | (intro l h; rcases hD l h with rfl; simp [tauL]) | (intro l h; rcases hD l h with rfl | rfl <;> simp [tauL]; done) | (intro l h; rcases hD l h with rfl | rfl | rfl <;> simp [tauL])) ?_ ?_ (by simp) (by simp) (by simp [AllP]) (n' := 1000)); (· rfl)) <;> (repeat' (first | exact trivial | exact ARs.nil | refine ARs.cons ?_ ?_ | exact AR.dead _ | exact AR.dd _ | exact AR.i (by (try dsimp only); omega) | exact AR.ptr _ _ _ _ (by simp [heapL, upd]) | exact AR.own _ _ _ _ (by simp [heapL, upd]) | refine AR.ownE _ _ _ ?_ (by simp [heapL, upd]) | refine ⟨⟨_, rfl, ?_⟩, ?_⟩ | exact ObA.data | refine ObA.box ?_ | refine ObA.frE ?_ | refine ObA.dataE ?_ | refine ARs.agg ?_ | refine ARs.tup ?_ | exact AR.clo' ARs.nil ARs.nil | exact AR.clo' ARs.nil (hca _ _)))
end Go.Proofs.YtofakjlamoigcaaDoor
end

section
namespace Go.Proofs.YtofakjlamoigcaaDoor
open Go Go.RowKit
set_option linter.unusedSimpArgs false
set_option linter.unusedVariables false
attribute [local irreducible] AL AD AW OpOk Le AC thenQ blockQ EndQ

theorem canEd_k [Mode] {ev : Int} {xs : List Pl} {e : Ed} : canEd ev xs e = if e.kind = 1 then wi e.idx 0 xs.length && plB (ev - 1) e.pl && decide (xs.length < 30) else if e.kind = 2 then wi e.idx 0 ((xs.length : Int) - 1) && decide (e.pl = plZ) else if e.kind = 3 then wi e.idx 0 ((xs.length : Int) - 1) && plB (ev - 1) e.pl else false := by
  unfold canEd
  have : e.pl.eq plZ = decide (e.pl = plZ) := by
    by_cases h : e.pl = plZ
    · rw [decide_eq_true h, (Pl.eq_iff _ _).2 h]
    · rw [decide_eq_false h]; exact Bool.eq_false_iff.2 fun h' => h ((Pl.eq_iff _ _).1 h')
  rw [this]
set_option maxHeartbeats 1000000 in
theorem sCanEdit_ac [Mode] (ev : Int) (xs : List Pl) (e : Ed) (hn : xs.length ≤ 1048576) : AC Tryd.prog 61 [grD ev xs, e.av] H0 (Bo (isEG ev xs && canEd ev xs e)) H0 := by
  have hw : isEG ev xs = true → IntKind.i64.wrap (ev - 1) = ev - 1 := fun h => by
    have h1 : wi ev 1 10 = true := by unfold isEG at h; simp only [Bool.and_eq_true] at h; exact h.1.1
    have h' := wi_iff.1 h1
    exact wrap_in (by omega) (by omega)
  obtain ⟨kd, ix, a, b, c, d⟩ := e
  refine AC.of_body 0 Tryd.func61 rfl (fun l h => absurd rfl h) (fun C hC => ?_)
  have hD : ∀ l, ¬ C.D0 l := fun l h => (hC l).1 h rfl
  simp only [startFr, Tryd.ntmps61, List.length_cons, List.length_nil, Nat.reduceAdd, Nat.reduceSub, List.replicate_succ, List.replicate_zero, List.cons_append, List.nil_append]
  repeat' (first | refine AL.nil ?_ | ((first | apply AL.st | (apply AL.on; (· rfl); (· rfl)) | (apply AD.st; (· exact nxE)) | (apply AD.on; (· rfl); (· rfl); (· exact nxE))); (· first | exact OpOk.call0 [] rfl rfl (sIsEventGraph_ac _ _ (by omega)) (.inl rfl) (fun _ => by simp [rn]) (ARs.cons (ARs.agg (ARs.cons (AR.dd _) (ARs.cons (AR.dd _) ARs.nil))) ARs.nil) | exact OpOk.call0 [] rfl rfl (l01In_ac _ _ _) (.inl rfl) (fun _ => by simp [rn]) (ARs.cons (AR.dd _) (ARs.cons (AR.dd _) (ARs.cons (AR.dd _) ARs.nil))) | exact OpOk.call0 [] rfl rfl (l11Place_ac ⟨_, _, _, _⟩ _) (.inl rfl) (fun _ => by simp [rn]) (ARs.cons (ARs.agg (ARs.cons (AR.dd _) (ARs.cons (AR.dd _) (ARs.cons (AR.dd _) (ARs.cons (AR.dd _) ARs.nil))))) (ARs.cons (AR.dd _) ARs.nil)) | exact Ok.pe); (· exact setE); (· first | exact updsE | exact rfl); (· exact nxE)) | ((first | apply AL.st0 | (apply AD.st0; (· exact nxE))); (· first | exact Ok.e0); (· exact rfl); (· exact nxE)) | ((first | apply AL.off | apply AD.off); (· rfl); (· rfl); (· rfl); (· exact setE); (· exact nxE)) | ((first | refine AL.gsplit rfl rfl (fun h => ?_) (fun h => ?_) | refine AD.gsplit rfl rfl (fun h => ?_) (fun h => ?_)) <;> try (exfalso; omega; done)) | (first | refine AL.gsplitB rfl rfl (fun h => ?_) (fun h => ?_) | refine AD.gsplitB rfl rfl (fun h => ?_) (fun h => ?_)) | refine AD.fin (by simp only [List.length_cons, List.length_nil, Nat.reduceAdd]; rfl) rfl (by kernel_rfl) ?_ | refine thenN ?_ | refine AW.seq ?_ | refine AW.reg ?_ | refine AW.dr mixedA (by kernel_rfl) ?_ | refine AW.block ?_ | refine AW.condT rfl ?_ | refine AW.condF rfl ?_ | (refine AW.ite rfl (fun h => ?_) (fun h => ?_) <;> try (exfalso; omega; done)) | refine AW.cond _ rfl (fun h => ?_) (fun h => ?_) | refine AW.ret ?_ | refine AW.exit ?_ | refine AW.skip ?_ | refine thenR ?_ | refine thenX ?_ | refine blockN ?_ | refine blockR ?_ | refine blockX ?_ | refine blockY (by decide) ?_)
  all_goals
    (refine end1p (by first | exact .inl rfl | exact .inr rfl) rfl (by first | exact rT rfl | exact rCA rfl rfl rfl rfl (by simp) | exact rCC rfl rfl rfl rfl rfl) ?_ (Le.head ([]) (by first | exact fun l h => absurd h (hD l) | (intro l h; rcases hD l h with rfl; simp [tauL]) | (intro l h; rcases hD l h with rfl | rfl <;> simp [tauL]; done) | (intro l h; rcases hD l h with rfl | rfl | rfl <;> simp [tauL])) ?_ ?_ (by simp) (by simp) (by simp [AllP]) (n' := 1000)); (· exact congrArg Bo (by rw [canEd_k]; by_cases hg : isEG ev xs = true <;> simp_all [plZ] <;> omega))) <;> (repeat' (first | exact trivial | exact ARs.nil | refine ARs.cons ?_ ?_ | exact AR.dead _ | exact AR.dd _ | exact AR.i (by (try dsimp only); omega) | exact AR.ptr _ _ _ _ (by simp [heapL, upd]) | exact AR.own _ _ _ _ (by simp [heapL, upd]) | refine AR.ownE _ _ _ ?_ (by simp [heapL, upd]) | refine ⟨⟨_, rfl, ?_⟩, ?_⟩ | exact ObA.data | refine ObA.box ?_ | refine ObA.frE ?_ | refine ObA.dataE ?_ | refine ARs.agg ?_ | refine ARs.tup ?_ | exact AR.clo' ARs.nil ARs.nil | exact AR.clo' ARs.nil (hca _ _)))
def cdA (ev : Int) (xs : List Pl) (e : Ed) : Int := if isEG ev xs = true then (if canEd ev xs e = true then 0 else 5) else 1
theorem sCode_ac [Mode] (ev : Int) (xs : List Pl) (e : Ed) (hn : xs.length ≤ 1048576) : AC Tryd.prog 27 [grD ev xs, e.av] H0 (I (cdA ev xs e)) H0 := by
  have hc := sCanEdit_ac ev xs e hn
  refine AC.of_body 0 Tryd.func27 rfl (fun l h => absurd rfl h) (fun C hC => ?_)
  have hD : ∀ l, ¬ C.D0 l := fun l h => (hC l).1 h rfl
  simp only [startFr, Tryd.ntmps27, List.length_cons, List.length_nil, Nat.reduceAdd, Nat.reduceSub, List.replicate_succ, List.replicate_zero, List.cons_append, List.nil_append]
  repeat' (first | refine AL.nil ?_ | ((first | apply AL.st | (apply AL.on; (· rfl); (· rfl)) | (apply AD.st; (· exact nxE)) | (apply AD.on; (· rfl); (· rfl); (· exact nxE))); (· first | exact OpOk.call0 [] rfl rfl (sIsEventGraph_ac _ _ (by omega)) (.inl rfl) (fun _ => by simp [rn]) (ARs.cons (ARs.agg (ARs.cons (AR.dd _) (ARs.cons (AR.dd _) ARs.nil))) ARs.nil) | exact OpOk.call0 [] rfl rfl (hc) (.inl rfl) (fun _ => by simp [rn]) (ARs.cons (ARs.agg (ARs.cons (AR.dd _) (ARs.cons (AR.dd _) ARs.nil))) (ARs.cons (ARs.agg (ARs.cons (AR.dd _) (ARs.cons (AR.dd _) (ARs.cons (AR.dd _) (ARs.cons (AR.dd _) (ARs.cons (AR.dd _) (ARs.cons (AR.dd _) ARs.nil))))))) ARs.nil)) | exact Ok.pe); (· exact setE); (· first | exact updsE | exact rfl); (· exact nxE)) | ((first | apply AL.st0 | (apply AD.st0; (· exact nxE))); (· first | exact Ok.e0); (· exact rfl); (· exact nxE)) | ((first | apply AL.off | apply AD.off); (· rfl); (· rfl); (· rfl); (· exact setE); (· exact nxE)) | ((first | refine AL.gsplit rfl rfl (fun h => ?_) (fun h => ?_) | refine AD.gsplit rfl rfl (fun h => ?_) (fun h => ?_)) <;> try (exfalso; omega; done)) | (first | refine AL.gsplitB rfl rfl (fun h => ?_) (fun h => ?_) | refine AD.gsplitB rfl rfl (fun h => ?_) (fun h => ?_)) | refine AD.fin (by simp only [List.length_cons, List.length_nil, Nat.reduceAdd]; rfl) rfl (by kernel_rfl) ?_ | refine thenN ?_ | refine AW.seq ?_ | refine AW.reg ?_ | refine AW.dr mixedA (by kernel_rfl) ?_ | refine AW.block ?_ | refine AW.condT rfl ?_ | refine AW.condF rfl ?_ | (refine AW.ite rfl (fun h => ?_) (fun h => ?_) <;> try (exfalso; omega; done)) | refine AW.cond _ rfl (fun h => ?_) (fun h => ?_) | refine AW.ret ?_ | refine AW.exit ?_ | refine AW.skip ?_ | refine thenR ?_ | refine thenX ?_ | refine blockN ?_ | refine blockR ?_ | refine blockX ?_ | refine blockY (by decide) ?_)
  all_goals
    (refine end1p (by first | exact .inl rfl | exact .inr rfl) rfl (by first | exact rT rfl | exact rCA rfl rfl rfl rfl (by simp) | exact rCC rfl rfl rfl rfl rfl) ?_ (Le.head ([]) (by first | exact fun l h => absurd h (hD l) | (intro l h; rcases hD l h with rfl; simp [tauL]) | (intro l h; rcases hD l h with rfl | rfl <;> simp [tauL]; done) | (intro l h; rcases hD l h with rfl | rfl | rfl <;> simp [tauL])) ?_ ?_ (by simp) (by simp) (by simp [AllP]) (n' := 1000)); (· exact congrArg I (by unfold cdA; simp_all))) <;> (repeat' (first | exact trivial | exact ARs.nil | refine ARs.cons ?_ ?_ | exact AR.dead _ | exact AR.dd _ | exact AR.i (by (try dsimp only); omega) | exact AR.ptr _ _ _ _ (by simp [heapL, upd]) | exact AR.own _ _ _ _ (by simp [heapL, upd]) | refine AR.ownE _ _ _ ?_ (by simp [heapL, upd]) | refine ⟨⟨_, rfl, ?_⟩, ?_⟩ | exact ObA.data | refine ObA.box ?_ | refine ObA.frE ?_ | refine ObA.dataE ?_ | refine ARs.agg ?_ | refine ARs.tup ?_ | exact AR.clo' ARs.nil ARs.nil | exact AR.clo' ARs.nil (hca _ _)))
/-- The places behind an edit that is possible. -/
def edL (xs : List Pl) (e : Ed) : List Pl :=
  let i := e.idx.toNat
  if e.kind = 1 then xs.take i ++ [e.pl] ++ xs.drop i else if e.kind = 2 then xs.take i ++ xs.drop (i + 1) else xs.take i ++ [e.pl] ++ xs.drop (i + 1)
end Go.Proofs.YtofakjlamoigcaaDoor
end
