/-
  Walks in the abstract reading, part 14.
-/
import Derived.Test.YtpgcmpbamlnkkaaGreatKcU13
import Derived.Test.YtpgcmpbamlnkkaaGreatKcA3
section
namespace Go.Proofs.YtpgcmpbamlnkkaaGreat
set_option linter.unusedSimpArgs false
set_option linter.unusedVariables false
open Go Go.RowKit
attribute [local irreducible] AL AD AW OpOk Le AC thenQ blockQ EndQ

set_option maxRecDepth 100000 in
set_option maxHeartbeats 16000000 in
theorem ctWalkA (code : List Int) (hbig : ¬ 4096 < (code.length : Int)) (ev : Int) (xs : List Pl) (r1 r2 : Int) (ew : Int) (ys : List Pl) (q1 q2 : Int) (y : List Int) (z : Bool) (x : List Int) (c : Int) (t1 t2 : Int) (l : List Int) (b : Int) (hb : b ≠ 0) (hc : c = 0)
    (hBig : AC Tryz.prog 7 [.d (BD code)] H0 (Bo (decide (4096 < (code.length : Int)))) H0)
    (hG : AC Tryz.prog 8 [.d (BD code)] H0 (.tup [grD ev xs, .agg [I r1, I r2]]) H0)
    (hG2 : AC Tryz.prog 11 [.d (BD code)] H0 (.tup [grD ew ys, .agg [I q1, I q2], IL y]) H0)
    (hI : AC Tryz.prog 9 [grD ev xs, .agg [I r1, I r2]] H0 (.tup [IL x, I c]) H0)
    (hS : AC Tryz.prog 10 [grD ev xs, .agg [I r1, I r2]] H0 (.tup [IL x, I c]) H0)
    (hI2 : AC Tryz.prog 17 [grD ew ys, .agg [I q1, I q2], IL y] H0 (Bo z) H0)
    (hS2 : AC Tryz.prog 18 [grD ew ys, .agg [I q1, I q2], IL y] H0 (Bo z) H0)
    (hB : AC Tryz.prog 12 [grD ev xs] H0 (.tup [IL l, I b]) H0)
    (hSB : AC Tryz.prog 13 [grD ev xs] H0 (.tup [IL l, I b]) H0)
    (hT : AC Tryz.prog 14 [grD ev xs] H0 (.tup [.agg [I t1, I t2], I b]) H0)
    (hST : AC Tryz.prog 15 [grD ev xs] H0 (.tup [.agg [I t1, I t2], I b]) H0)
    (hL1 : AC Tryz.prog 16 [IL x, IL x] H0 (Bo true) H0)
    (hL2 : AC Tryz.prog 16 [IL l, IL l] H0 (Bo true) H0)
    (hI3 : AC Tryz.prog 17 [grD ev xs, .agg [I r1, I r2], IL x] H0 (Bo true) H0) : AC Tryz.prog 3 [.d (BD code)] H0 (Bo true) H0 := by
  subst hc
  refine AC.of_body 0 Tryz.func3 rfl (fun l h => absurd rfl h) (fun C hC => ?_)
  have hD : ∀ l, ¬ C.D0 l := fun l h => (hC l).1 h rfl
  simp only [startFr, Tryz.ntmps3, List.length_cons, List.length_nil, Nat.reduceAdd, Nat.reduceSub, List.replicate_succ, List.replicate_zero, List.cons_append, List.nil_append]
  repeat' (first | ((first | apply Ba | (apply Bb; (· rfl); (· rfl)) | (apply Bc; (· exact nxE)) | (apply Bd; (· rfl); (· rfl); (· exact nxE))); (· first | exact Kz rfl rfl (hBig) (Ad An) | exact Kz rfl rfl (hG) (Ad An) | exact Kz rfl rfl (hG2) (Ad An) | exact Kz rfl rfl (hI) (Aa (Ad (Ad An)) (Aa (Ad (Ad An)) An)) | exact Kz rfl rfl (hS) (Aa (Ad (Ad An)) (Aa (Ad (Ad An)) An)) | exact Kz rfl rfl (hI2) (Aa (Ad (Ad An)) (Aa (Ad (Ad An)) (Ad An))) | exact Kz rfl rfl (hS2) (Aa (Ad (Ad An)) (Aa (Ad (Ad An)) (Ad An))) | exact Kz rfl rfl (hB) (Aa (Ad (Ad An)) An) | exact Kz rfl rfl (hSB) (Aa (Ad (Ad An)) An) | exact Kz rfl rfl (hT) (Aa (Ad (Ad An)) An) | exact Kz rfl rfl (hST) (Aa (Ad (Ad An)) An) | exact Kz rfl rfl (hL1) (Ad (Ad An)) | exact Kz rfl rfl (hL2) (Ad (Ad An)) | exact Kz rfl rfl (hI3) (Aa (Ad (Ad An)) (Aa (Ad (Ad An)) (Ad An))) | exact Ok.neqRtS rfl rfl rfl | exact Ok.bneS rfl rfl rfl (by kernel_rfl) | exact Ok.pe)) | ((first | apply Ca | (apply Cb; (· exact nxE))); (· first | exact Ok.e0)) | refine Sx ?_ | (refine Sy (fun h => ?_) (fun h => ?_) <;> try (exfalso; omega; done)) | refine Sz (fun h => ?_) (fun h => ?_))
  all_goals
    refine Ya ?_
    (apply Le.headZ (hs := []) [] rfl)
    all_goals (try dsimp only [srcs])
    (case' hfr => (repeat' (first | refine La ?_ ?_ | exact Lc | refine Lo ?_ | refine ⟨⟨_, rfl, ?_⟩, ?_⟩ | refine Lx ?_)))
    all_goals (first | exact Ld | exact trivial | (first | rfl | exact (decide_eq_true (by omega)).symm))
end Go.Proofs.YtpgcmpbamlnkkaaGreat
end

section
namespace Go.Proofs.YtpgcmpbamlnkkaaGreat
set_option linter.unusedSimpArgs false
set_option linter.unusedVariables false
open Go Go.RowKit
attribute [local irreducible] AL AD AW OpOk Le AC thenQ blockQ EndQ

set_option maxRecDepth 100000 in
set_option maxHeartbeats 16000000 in
theorem ctWalkB (code : List Int) (hbig : ¬ 4096 < (code.length : Int)) (ev : Int) (xs : List Pl) (r1 r2 : Int) (ew : Int) (ys : List Pl) (q1 q2 : Int) (y : List Int) (z : Bool) (x : List Int) (c : Int) (t1 t2 : Int) (l : List Int) (b : Int) (hb : b ≠ 0) (hc : c ≠ 0)
    (hBig : AC Tryz.prog 7 [.d (BD code)] H0 (Bo (decide (4096 < (code.length : Int)))) H0)
    (hG : AC Tryz.prog 8 [.d (BD code)] H0 (.tup [grD ev xs, .agg [I r1, I r2]]) H0)
    (hG2 : AC Tryz.prog 11 [.d (BD code)] H0 (.tup [grD ew ys, .agg [I q1, I q2], IL y]) H0)
    (hI : AC Tryz.prog 9 [grD ev xs, .agg [I r1, I r2]] H0 (.tup [IL x, I c]) H0)
    (hS : AC Tryz.prog 10 [grD ev xs, .agg [I r1, I r2]] H0 (.tup [IL x, I c]) H0)
    (hI2 : AC Tryz.prog 17 [grD ew ys, .agg [I q1, I q2], IL y] H0 (Bo z) H0)
    (hS2 : AC Tryz.prog 18 [grD ew ys, .agg [I q1, I q2], IL y] H0 (Bo z) H0)
    (hB : AC Tryz.prog 12 [grD ev xs] H0 (.tup [IL l, I b]) H0)
    (hSB : AC Tryz.prog 13 [grD ev xs] H0 (.tup [IL l, I b]) H0)
    (hT : AC Tryz.prog 14 [grD ev xs] H0 (.tup [.agg [I t1, I t2], I b]) H0)
    (hST : AC Tryz.prog 15 [grD ev xs] H0 (.tup [.agg [I t1, I t2], I b]) H0)
    (hL1 : AC Tryz.prog 16 [IL x, IL x] H0 (Bo true) H0)
    (hL2 : AC Tryz.prog 16 [IL l, IL l] H0 (Bo true) H0) : AC Tryz.prog 3 [.d (BD code)] H0 (Bo true) H0 := by
  refine AC.of_body 0 Tryz.func3 rfl (fun l h => absurd rfl h) (fun C hC => ?_)
  have hD : ∀ l, ¬ C.D0 l := fun l h => (hC l).1 h rfl
  simp only [startFr, Tryz.ntmps3, List.length_cons, List.length_nil, Nat.reduceAdd, Nat.reduceSub, List.replicate_succ, List.replicate_zero, List.cons_append, List.nil_append]
  repeat' (first | ((first | apply Ba | (apply Bb; (· rfl); (· rfl)) | (apply Bc; (· exact nxE)) | (apply Bd; (· rfl); (· rfl); (· exact nxE))); (· first | exact Kz rfl rfl (hBig) (Ad An) | exact Kz rfl rfl (hG) (Ad An) | exact Kz rfl rfl (hG2) (Ad An) | exact Kz rfl rfl (hI) (Aa (Ad (Ad An)) (Aa (Ad (Ad An)) An)) | exact Kz rfl rfl (hS) (Aa (Ad (Ad An)) (Aa (Ad (Ad An)) An)) | exact Kz rfl rfl (hI2) (Aa (Ad (Ad An)) (Aa (Ad (Ad An)) (Ad An))) | exact Kz rfl rfl (hS2) (Aa (Ad (Ad An)) (Aa (Ad (Ad An)) (Ad An))) | exact Kz rfl rfl (hB) (Aa (Ad (Ad An)) An) | exact Kz rfl rfl (hSB) (Aa (Ad (Ad An)) An) | exact Kz rfl rfl (hT) (Aa (Ad (Ad An)) An) | exact Kz rfl rfl (hST) (Aa (Ad (Ad An)) An) | exact Kz rfl rfl (hL1) (Ad (Ad An)) | exact Kz rfl rfl (hL2) (Ad (Ad An)) | exact Ok.neqRtS rfl rfl rfl | exact Ok.bneS rfl rfl rfl (by kernel_rfl) | exact Ok.pe)) | ((first | apply Ca | (apply Cb; (· exact nxE))); (· first | exact Ok.e0)) | refine Sx ?_ | (refine Sy (fun h => ?_) (fun h => ?_) <;> try (exfalso; omega; done)) | refine Sz (fun h => ?_) (fun h => ?_))
  all_goals
    refine Ya ?_
    (apply Le.headZ (hs := []) [] rfl)
    all_goals (try dsimp only [srcs])
    (case' hfr => (repeat' (first | refine La ?_ ?_ | exact Lc | refine Lo ?_ | refine ⟨⟨_, rfl, ?_⟩, ?_⟩ | refine Lx ?_)))
    all_goals (first | exact Ld | exact trivial | (first | rfl | exact (decide_eq_true (by omega)).symm))
end Go.Proofs.YtpgcmpbamlnkkaaGreat
end

section
namespace Go.Proofs.YtpgcmpbamlnkkaaGreat
set_option linter.unusedSimpArgs false
set_option linter.unusedVariables false
open Go Go.RowKit
attribute [local irreducible] AL AD AW OpOk Le AC thenQ blockQ EndQ

set_option maxRecDepth 100000 in
set_option maxHeartbeats 16000000 in
theorem ctWalkC (code : List Int) (hbig : ¬ 4096 < (code.length : Int)) (ev : Int) (xs : List Pl) (r1 r2 : Int) (ew : Int) (ys : List Pl) (q1 q2 : Int) (y : List Int) (z : Bool) (x : List Int) (c : Int) (t1 t2 : Int) (l : List Int) (b : Int) (hb : b = 0) (hc : c = 1)
    (hBig : AC Tryz.prog 7 [.d (BD code)] H0 (Bo (decide (4096 < (code.length : Int)))) H0)
    (hG : AC Tryz.prog 8 [.d (BD code)] H0 (.tup [grD ev xs, .agg [I r1, I r2]]) H0)
    (hG2 : AC Tryz.prog 11 [.d (BD code)] H0 (.tup [grD ew ys, .agg [I q1, I q2], IL y]) H0)
    (hI : AC Tryz.prog 9 [grD ev xs, .agg [I r1, I r2]] H0 (.tup [IL x, I c]) H0)
    (hS : AC Tryz.prog 10 [grD ev xs, .agg [I r1, I r2]] H0 (.tup [IL x, I c]) H0)
    (hI2 : AC Tryz.prog 17 [grD ew ys, .agg [I q1, I q2], IL y] H0 (Bo z) H0)
    (hS2 : AC Tryz.prog 18 [grD ew ys, .agg [I q1, I q2], IL y] H0 (Bo z) H0)
    (hB : AC Tryz.prog 12 [grD ev xs] H0 (.tup [IL l, I b]) H0)
    (hSB : AC Tryz.prog 13 [grD ev xs] H0 (.tup [IL l, I b]) H0)
    (hT : AC Tryz.prog 14 [grD ev xs] H0 (.tup [.agg [I t1, I t2], I b]) H0)
    (hST : AC Tryz.prog 15 [grD ev xs] H0 (.tup [.agg [I t1, I t2], I b]) H0)
    (hL1 : AC Tryz.prog 16 [IL x, IL x] H0 (Bo true) H0)
    (hL2 : AC Tryz.prog 16 [IL l, IL l] H0 (Bo true) H0) : AC Tryz.prog 3 [.d (BD code)] H0 (Bo true) H0 := by
  subst hb hc
  refine AC.of_body 0 Tryz.func3 rfl (fun l h => absurd rfl h) (fun C hC => ?_)
  have hD : ∀ l, ¬ C.D0 l := fun l h => (hC l).1 h rfl
  simp only [startFr, Tryz.ntmps3, List.length_cons, List.length_nil, Nat.reduceAdd, Nat.reduceSub, List.replicate_succ, List.replicate_zero, List.cons_append, List.nil_append]
  repeat' (first | ((first | apply Ba | (apply Bb; (· rfl); (· rfl)) | (apply Bc; (· exact nxE)) | (apply Bd; (· rfl); (· rfl); (· exact nxE))); (· first | exact Kz rfl rfl (hBig) (Ad An) | exact Kz rfl rfl (hG) (Ad An) | exact Kz rfl rfl (hG2) (Ad An) | exact Kz rfl rfl (hI) (Aa (Ad (Ad An)) (Aa (Ad (Ad An)) An)) | exact Kz rfl rfl (hS) (Aa (Ad (Ad An)) (Aa (Ad (Ad An)) An)) | exact Kz rfl rfl (hI2) (Aa (Ad (Ad An)) (Aa (Ad (Ad An)) (Ad An))) | exact Kz rfl rfl (hS2) (Aa (Ad (Ad An)) (Aa (Ad (Ad An)) (Ad An))) | exact Kz rfl rfl (hB) (Aa (Ad (Ad An)) An) | exact Kz rfl rfl (hSB) (Aa (Ad (Ad An)) An) | exact Kz rfl rfl (hT) (Aa (Ad (Ad An)) An) | exact Kz rfl rfl (hST) (Aa (Ad (Ad An)) An) | exact Kz rfl rfl (hL1) (Ad (Ad An)) | exact Kz rfl rfl (hL2) (Ad (Ad An)) | exact Ok.neqRtS rfl rfl rfl | exact Ok.bneS rfl rfl rfl (by kernel_rfl) | exact Ok.pe)) | ((first | apply Ca | (apply Cb; (· exact nxE))); (· first | exact Ok.e0)) | refine Sx ?_ | (refine Sy (fun h => ?_) (fun h => ?_) <;> try (exfalso; omega; done)) | refine Sz (fun h => ?_) (fun h => ?_))
  all_goals
    refine Ya ?_
    (apply Le.headZ (hs := []) [] rfl)
    all_goals (try dsimp only [srcs])
    (case' hfr => (repeat' (first | refine La ?_ ?_ | exact Lc | refine Lo ?_ | refine ⟨⟨_, rfl, ?_⟩, ?_⟩ | refine Lx ?_)))
    all_goals (first | exact Ld | exact trivial | (first | rfl | exact (decide_eq_true (by omega)).symm))
end Go.Proofs.YtpgcmpbamlnkkaaGreat
end

section
namespace Go.Proofs.YtpgcmpbamlnkkaaGreat
set_option linter.unusedSimpArgs false
set_option linter.unusedVariables false
open Go Go.RowKit
attribute [local irreducible] AL AD AW OpOk Le AC thenQ blockQ EndQ

set_option maxRecDepth 100000 in
set_option maxHeartbeats 16000000 in
theorem ctWalkD (code : List Int) (hbig : ¬ 4096 < (code.length : Int)) (ev : Int) (xs : List Pl) (r1 r2 : Int) (ew : Int) (ys : List Pl) (q1 q2 : Int) (y : List Int) (z : Bool) (x : List Int) (c : Int) (t1 t2 : Int) (l : List Int) (b : Int) (k1 : Int) (hb : b = 0) (hc : c = 0) (hk : k1 ≤ 0)
    (hBig : AC Tryz.prog 7 [.d (BD code)] H0 (Bo (decide (4096 < (code.length : Int)))) H0)
    (hG : AC Tryz.prog 8 [.d (BD code)] H0 (.tup [grD ev xs, .agg [I r1, I r2]]) H0)
    (hG2 : AC Tryz.prog 11 [.d (BD code)] H0 (.tup [grD ew ys, .agg [I q1, I q2], IL y]) H0)
    (hI : AC Tryz.prog 9 [grD ev xs, .agg [I r1, I r2]] H0 (.tup [IL x, I c]) H0)
    (hS : AC Tryz.prog 10 [grD ev xs, .agg [I r1, I r2]] H0 (.tup [IL x, I c]) H0)
    (hI2 : AC Tryz.prog 17 [grD ew ys, .agg [I q1, I q2], IL y] H0 (Bo z) H0)
    (hS2 : AC Tryz.prog 18 [grD ew ys, .agg [I q1, I q2], IL y] H0 (Bo z) H0)
    (hB : AC Tryz.prog 12 [grD ev xs] H0 (.tup [IL l, I b]) H0)
    (hSB : AC Tryz.prog 13 [grD ev xs] H0 (.tup [IL l, I b]) H0)
    (hT : AC Tryz.prog 14 [grD ev xs] H0 (.tup [.agg [I t1, I t2], I b]) H0)
    (hST : AC Tryz.prog 15 [grD ev xs] H0 (.tup [.agg [I t1, I t2], I b]) H0)
    (hL1 : AC Tryz.prog 16 [IL x, IL x] H0 (Bo true) H0)
    (hL2 : AC Tryz.prog 16 [IL l, IL l] H0 (Bo true) H0)
    (hI3 : AC Tryz.prog 17 [grD ev xs, .agg [I r1, I r2], IL x] H0 (Bo true) H0)
    (hK : AC Tryz.prog 19 [.agg [I t1, I t2], .agg [I r1, I r2]] H0 (.tup [I k1, I 0]) H0)
    (hCR : AC Tryz.prog 20 [grD ev xs, IL l] H0 (.tup [.agg [I t1, I t2], I 0]) H0) : AC Tryz.prog 3 [.d (BD code)] H0 (Bo true) H0 := by
  subst hb hc
  refine AC.of_body 0 Tryz.func3 rfl (fun l h => absurd rfl h) (fun C hC => ?_)
  have hD : ∀ l, ¬ C.D0 l := fun l h => (hC l).1 h rfl
  simp only [startFr, Tryz.ntmps3, List.length_cons, List.length_nil, Nat.reduceAdd, Nat.reduceSub, List.replicate_succ, List.replicate_zero, List.cons_append, List.nil_append]
  repeat' (first | ((first | apply Ba | (apply Bb; (· rfl); (· rfl)) | (apply Bc; (· exact nxE)) | (apply Bd; (· rfl); (· rfl); (· exact nxE))); (· first | exact Kz rfl rfl (hBig) (Ad An) | exact Kz rfl rfl (hG) (Ad An) | exact Kz rfl rfl (hG2) (Ad An) | exact Kz rfl rfl (hI) (Aa (Ad (Ad An)) (Aa (Ad (Ad An)) An)) | exact Kz rfl rfl (hS) (Aa (Ad (Ad An)) (Aa (Ad (Ad An)) An)) | exact Kz rfl rfl (hI2) (Aa (Ad (Ad An)) (Aa (Ad (Ad An)) (Ad An))) | exact Kz rfl rfl (hS2) (Aa (Ad (Ad An)) (Aa (Ad (Ad An)) (Ad An))) | exact Kz rfl rfl (hB) (Aa (Ad (Ad An)) An) | exact Kz rfl rfl (hSB) (Aa (Ad (Ad An)) An) | exact Kz rfl rfl (hT) (Aa (Ad (Ad An)) An) | exact Kz rfl rfl (hST) (Aa (Ad (Ad An)) An) | exact Kz rfl rfl (hL1) (Ad (Ad An)) | exact Kz rfl rfl (hL2) (Ad (Ad An)) | exact Kz rfl rfl (hI3) (Aa (Ad (Ad An)) (Aa (Ad (Ad An)) (Ad An))) | exact Kz rfl rfl (hK) (Aa (Ad (Ad An)) (Aa (Ad (Ad An)) An)) | exact Kz rfl rfl (hCR) (Aa (Ad (Ad An)) (Ad An)) | exact Ok.neqRtS rfl rfl rfl | exact Ok.bneS rfl rfl rfl (by kernel_rfl) | exact Ok.eqRtS rfl rfl rfl | exact Ok.beqS rfl rfl rfl (by kernel_rfl) | exact Ok.pe)) | ((first | apply Ca | (apply Cb; (· exact nxE))); (· first | exact Ok.e0)) | refine Sx ?_ | (refine Sy (fun h => ?_) (fun h => ?_) <;> try (exfalso; omega; done)) | refine Sz (fun h => ?_) (fun h => ?_))
  all_goals
    refine Ya ?_
    (apply Le.headZ (hs := []) [] rfl)
    all_goals (try dsimp only [srcs])
    (case' hfr => (repeat' (first | refine La ?_ ?_ | exact Lc | refine Lo ?_ | refine ⟨⟨_, rfl, ?_⟩, ?_⟩ | refine Lx ?_)))
    all_goals (first | exact Ld | exact trivial | (first | rfl | exact (decide_eq_true (by omega)).symm | (exfalso; rename_i h; exact h (by first | (rw [decide_eq_false (by omega : ¬ (0 : Int) < k1)]; rfl) | (rw [decide_eq_true (by omega : (0 : Int) < k1)]; rfl))) | (exfalso; exact (‹¬ _ = decide ((0 : Int) < k1)›) (by first | (rw [decide_eq_false (by omega : ¬ (0 : Int) < k1)]; rfl) | (rw [decide_eq_true (by omega : (0 : Int) < k1)]; rfl)))))
end Go.Proofs.YtpgcmpbamlnkkaaGreat
end

section
namespace Go.Proofs.YtpgcmpbamlnkkaaGreat
set_option linter.unusedSimpArgs false
set_option linter.unusedVariables false
open Go Go.RowKit
attribute [local irreducible] AL AD AW OpOk Le AC thenQ blockQ EndQ

set_option maxRecDepth 100000 in
set_option maxHeartbeats 16000000 in
theorem ctWalkE (code : List Int) (hbig : ¬ 4096 < (code.length : Int)) (ev : Int) (xs : List Pl) (r1 r2 : Int) (ew : Int) (ys : List Pl) (q1 q2 : Int) (y : List Int) (z : Bool) (x : List Int) (c : Int) (t1 t2 : Int) (l : List Int) (b : Int) (k1 : Int) (hb : b = 0) (hc : c = 5) (hk : 0 < k1)
    (hBig : AC Tryz.prog 7 [.d (BD code)] H0 (Bo (decide (4096 < (code.length : Int)))) H0)
    (hG : AC Tryz.prog 8 [.d (BD code)] H0 (.tup [grD ev xs, .agg [I r1, I r2]]) H0)
    (hG2 : AC Tryz.prog 11 [.d (BD code)] H0 (.tup [grD ew ys, .agg [I q1, I q2], IL y]) H0)
    (hI : AC Tryz.prog 9 [grD ev xs, .agg [I r1, I r2]] H0 (.tup [IL x, I c]) H0)
    (hS : AC Tryz.prog 10 [grD ev xs, .agg [I r1, I r2]] H0 (.tup [IL x, I c]) H0)
    (hI2 : AC Tryz.prog 17 [grD ew ys, .agg [I q1, I q2], IL y] H0 (Bo z) H0)
    (hS2 : AC Tryz.prog 18 [grD ew ys, .agg [I q1, I q2], IL y] H0 (Bo z) H0)
    (hB : AC Tryz.prog 12 [grD ev xs] H0 (.tup [IL l, I b]) H0)
    (hSB : AC Tryz.prog 13 [grD ev xs] H0 (.tup [IL l, I b]) H0)
    (hT : AC Tryz.prog 14 [grD ev xs] H0 (.tup [.agg [I t1, I t2], I b]) H0)
    (hST : AC Tryz.prog 15 [grD ev xs] H0 (.tup [.agg [I t1, I t2], I b]) H0)
    (hL1 : AC Tryz.prog 16 [IL x, IL x] H0 (Bo true) H0)
    (hL2 : AC Tryz.prog 16 [IL l, IL l] H0 (Bo true) H0)
    (hK : AC Tryz.prog 19 [.agg [I t1, I t2], .agg [I r1, I r2]] H0 (.tup [I k1, I 0]) H0)
    (hCR : AC Tryz.prog 20 [grD ev xs, IL l] H0 (.tup [.agg [I t1, I t2], I 0]) H0) : AC Tryz.prog 3 [.d (BD code)] H0 (Bo true) H0 := by
  subst hb hc
  refine AC.of_body 0 Tryz.func3 rfl (fun l h => absurd rfl h) (fun C hC => ?_)
  have hD : ∀ l, ¬ C.D0 l := fun l h => (hC l).1 h rfl
  simp only [startFr, Tryz.ntmps3, List.length_cons, List.length_nil, Nat.reduceAdd, Nat.reduceSub, List.replicate_succ, List.replicate_zero, List.cons_append, List.nil_append]
  repeat' (first | ((first | apply Ba | (apply Bb; (· rfl); (· rfl)) | (apply Bc; (· exact nxE)) | (apply Bd; (· rfl); (· rfl); (· exact nxE))); (· first | exact Kz rfl rfl (hBig) (Ad An) | exact Kz rfl rfl (hG) (Ad An) | exact Kz rfl rfl (hG2) (Ad An) | exact Kz rfl rfl (hI) (Aa (Ad (Ad An)) (Aa (Ad (Ad An)) An)) | exact Kz rfl rfl (hS) (Aa (Ad (Ad An)) (Aa (Ad (Ad An)) An)) | exact Kz rfl rfl (hI2) (Aa (Ad (Ad An)) (Aa (Ad (Ad An)) (Ad An))) | exact Kz rfl rfl (hS2) (Aa (Ad (Ad An)) (Aa (Ad (Ad An)) (Ad An))) | exact Kz rfl rfl (hB) (Aa (Ad (Ad An)) An) | exact Kz rfl rfl (hSB) (Aa (Ad (Ad An)) An) | exact Kz rfl rfl (hT) (Aa (Ad (Ad An)) An) | exact Kz rfl rfl (hST) (Aa (Ad (Ad An)) An) | exact Kz rfl rfl (hL1) (Ad (Ad An)) | exact Kz rfl rfl (hL2) (Ad (Ad An)) | exact Kz rfl rfl (hK) (Aa (Ad (Ad An)) (Aa (Ad (Ad An)) An)) | exact Kz rfl rfl (hCR) (Aa (Ad (Ad An)) (Ad An)) | exact Ok.neqRtS rfl rfl rfl | exact Ok.bneS rfl rfl rfl (by kernel_rfl) | exact Ok.eqRtS rfl rfl rfl | exact Ok.beqS rfl rfl rfl (by kernel_rfl) | exact Ok.pe)) | ((first | apply Ca | (apply Cb; (· exact nxE))); (· first | exact Ok.e0)) | refine Sx ?_ | (refine Sy (fun h => ?_) (fun h => ?_) <;> try (exfalso; omega; done)) | refine Sz (fun h => ?_) (fun h => ?_))
  all_goals
    refine Ya ?_
    (apply Le.headZ (hs := []) [] rfl)
    all_goals (try dsimp only [srcs])
    (case' hfr => (repeat' (first | refine La ?_ ?_ | exact Lc | refine Lo ?_ | refine ⟨⟨_, rfl, ?_⟩, ?_⟩ | refine Lx ?_)))
    all_goals (first | exact Ld | exact trivial | (first | rfl | exact (decide_eq_true (by omega)).symm | (exfalso; rename_i h; exact h (by first | (rw [decide_eq_false (by omega : ¬ (0 : Int) < k1)]; rfl) | (rw [decide_eq_true (by omega : (0 : Int) < k1)]; rfl))) | (exfalso; exact (‹¬ _ = decide ((0 : Int) < k1)›) (by first | (rw [decide_eq_false (by omega : ¬ (0 : Int) < k1)]; rfl) | (rw [decide_eq_true (by omega : (0 : Int) < k1)]; rfl)))))
end Go.Proofs.YtpgcmpbamlnkkaaGreat
end

section
namespace Go.Proofs.YtpgcmpbamlnkkaaGreat
set_option linter.unusedSimpArgs false
set_option linter.unusedVariables false
open Go Go.RowKit
attribute [local irreducible] AL AD AW OpOk Le AC thenQ blockQ EndQ

set_option maxRecDepth 100000 in
set_option maxHeartbeats 16000000 in
theorem ctWalkF (code : List Int) (hbig : ¬ 4096 < (code.length : Int)) (ev : Int) (xs : List Pl) (r1 r2 : Int) (ew : Int) (ys : List Pl) (q1 q2 : Int) (y : List Int) (z : Bool) (x : List Int) (c : Int) (t1 t2 : Int) (l : List Int) (b : Int) (k1 : Int) (hb : b = 0) (hc : c = 3) (hk : k1 ≤ 0)
    (hBig : AC Tryz.prog 7 [.d (BD code)] H0 (Bo (decide (4096 < (code.length : Int)))) H0)
    (hG : AC Tryz.prog 8 [.d (BD code)] H0 (.tup [grD ev xs, .agg [I r1, I r2]]) H0)
    (hG2 : AC Tryz.prog 11 [.d (BD code)] H0 (.tup [grD ew ys, .agg [I q1, I q2], IL y]) H0)
    (hI : AC Tryz.prog 9 [grD ev xs, .agg [I r1, I r2]] H0 (.tup [IL x, I c]) H0)
    (hS : AC Tryz.prog 10 [grD ev xs, .agg [I r1, I r2]] H0 (.tup [IL x, I c]) H0)
    (hI2 : AC Tryz.prog 17 [grD ew ys, .agg [I q1, I q2], IL y] H0 (Bo z) H0)
    (hS2 : AC Tryz.prog 18 [grD ew ys, .agg [I q1, I q2], IL y] H0 (Bo z) H0)
    (hB : AC Tryz.prog 12 [grD ev xs] H0 (.tup [IL l, I b]) H0)
    (hSB : AC Tryz.prog 13 [grD ev xs] H0 (.tup [IL l, I b]) H0)
    (hT : AC Tryz.prog 14 [grD ev xs] H0 (.tup [.agg [I t1, I t2], I b]) H0)
    (hST : AC Tryz.prog 15 [grD ev xs] H0 (.tup [.agg [I t1, I t2], I b]) H0)
    (hL1 : AC Tryz.prog 16 [IL x, IL x] H0 (Bo true) H0)
    (hL2 : AC Tryz.prog 16 [IL l, IL l] H0 (Bo true) H0)
    (hK : AC Tryz.prog 19 [.agg [I t1, I t2], .agg [I r1, I r2]] H0 (.tup [I k1, I 0]) H0)
    (hCR : AC Tryz.prog 20 [grD ev xs, IL l] H0 (.tup [.agg [I t1, I t2], I 0]) H0) : AC Tryz.prog 3 [.d (BD code)] H0 (Bo true) H0 := by
  subst hb hc
  refine AC.of_body 0 Tryz.func3 rfl (fun l h => absurd rfl h) (fun C hC => ?_)
  have hD : ∀ l, ¬ C.D0 l := fun l h => (hC l).1 h rfl
  simp only [startFr, Tryz.ntmps3, List.length_cons, List.length_nil, Nat.reduceAdd, Nat.reduceSub, List.replicate_succ, List.replicate_zero, List.cons_append, List.nil_append]
  repeat' (first | ((first | apply Ba | (apply Bb; (· rfl); (· rfl)) | (apply Bc; (· exact nxE)) | (apply Bd; (· rfl); (· rfl); (· exact nxE))); (· first | exact Kz rfl rfl (hBig) (Ad An) | exact Kz rfl rfl (hG) (Ad An) | exact Kz rfl rfl (hG2) (Ad An) | exact Kz rfl rfl (hI) (Aa (Ad (Ad An)) (Aa (Ad (Ad An)) An)) | exact Kz rfl rfl (hS) (Aa (Ad (Ad An)) (Aa (Ad (Ad An)) An)) | exact Kz rfl rfl (hI2) (Aa (Ad (Ad An)) (Aa (Ad (Ad An)) (Ad An))) | exact Kz rfl rfl (hS2) (Aa (Ad (Ad An)) (Aa (Ad (Ad An)) (Ad An))) | exact Kz rfl rfl (hB) (Aa (Ad (Ad An)) An) | exact Kz rfl rfl (hSB) (Aa (Ad (Ad An)) An) | exact Kz rfl rfl (hT) (Aa (Ad (Ad An)) An) | exact Kz rfl rfl (hST) (Aa (Ad (Ad An)) An) | exact Kz rfl rfl (hL1) (Ad (Ad An)) | exact Kz rfl rfl (hL2) (Ad (Ad An)) | exact Kz rfl rfl (hK) (Aa (Ad (Ad An)) (Aa (Ad (Ad An)) An)) | exact Kz rfl rfl (hCR) (Aa (Ad (Ad An)) (Ad An)) | exact Ok.neqRtS rfl rfl rfl | exact Ok.bneS rfl rfl rfl (by kernel_rfl) | exact Ok.eqRtS rfl rfl rfl | exact Ok.beqS rfl rfl rfl (by kernel_rfl) | exact Ok.pe)) | ((first | apply Ca | (apply Cb; (· exact nxE))); (· first | exact Ok.e0)) | refine Sx ?_ | (refine Sy (fun h => ?_) (fun h => ?_) <;> try (exfalso; omega; done)) | refine Sz (fun h => ?_) (fun h => ?_))
  all_goals
    refine Ya ?_
    (apply Le.headZ (hs := []) [] rfl)
    all_goals (try dsimp only [srcs])
    (case' hfr => (repeat' (first | refine La ?_ ?_ | exact Lc | refine Lo ?_ | refine ⟨⟨_, rfl, ?_⟩, ?_⟩ | refine Lx ?_)))
    all_goals (first | exact Ld | exact trivial | (first | rfl | exact (decide_eq_true (by omega)).symm | (exfalso; rename_i h; exact h (by first | (rw [decide_eq_false (by omega : ¬ (0 : Int) < k1)]; rfl) | (rw [decide_eq_true (by omega : (0 : Int) < k1)]; rfl))) | (exfalso; exact (‹¬ _ = decide ((0 : Int) < k1)›) (by first | (rw [decide_eq_false (by omega : ¬ (0 : Int) < k1)]; rfl) | (rw [decide_eq_true (by omega : (0 : Int) < k1)]; rfl)))))
end Go.Proofs.YtpgcmpbamlnkkaaGreat
end

section
namespace Go.Proofs.YtpgcmpbamlnkkaaGreat
set_option linter.unusedSimpArgs false
set_option linter.unusedVariables false
open Go Go.RowKit
attribute [local irreducible] AL AD AW OpOk Le AC thenQ blockQ EndQ

set_option maxRecDepth 100000 in
set_option maxHeartbeats 16000000 in
theorem lawFnCycleTimes_ac (code : List Int) (hl : code.length ≤ 9223372036854775807) (hb : ∀ b ∈ code, 0 ≤ b ∧ b ≤ 255) : AC Tryz.prog 3 [.d (BD code)] H0 (Bo true) H0 := by
  have hBig := big_ac code hl
  by_cases hbig : 4096 < (code.length : Int)
  ·
    refine AC.of_body 0 Tryz.func3 rfl (fun l h => absurd rfl h) (fun C hC => ?_)
    have hD : ∀ l, ¬ C.D0 l := fun l h => (hC l).1 h rfl
    simp only [startFr, Tryz.ntmps3, List.length_cons, List.length_nil, Nat.reduceAdd, Nat.reduceSub, List.replicate_succ, List.replicate_zero, List.cons_append, List.nil_append]
    repeat' (first | ((first | apply Ba | (apply Bb; (· rfl); (· rfl)) | (apply Bc; (· exact nxE)) | (apply Bd; (· rfl); (· rfl); (· exact nxE))); (· first | exact Kz rfl rfl (hBig) (Ad An) | exact Ok.pe)) | ((first | apply Ca | (apply Cb; (· exact nxE))); (· first | exact Ok.e0)) | refine Sx ?_ | (refine Sy (fun h => ?_) (fun h => ?_) <;> try (exfalso; omega; done)) | refine Sz (fun h => ?_) (fun h => ?_))
    refine Ya ?_
    (apply Le.headZ (hs := []) [] rfl)
    all_goals (try dsimp only [srcs])
    (case' hfr => (repeat' (first | refine La ?_ ?_ | exact Lc | refine Lo ?_ | refine ⟨⟨_, rfl, ?_⟩, ?_⟩ | refine Lx ?_)))
    all_goals (first | exact Ld | exact trivial | (rfl))
  have hc : CodeOk code := ⟨by omega, hb⟩
  obtain ⟨ev, xs, r, hev, hx, hr, hG⟩ := drawTimePotential_ex code hc
  obtain ⟨ew, ys, q, y, hew, hy, hq, hyl, hG2⟩ := drawIsTimePotential_ex code hc
  have hI := iTimePotential_ac ev xs r (by omega) hr
  have hS := sTimePotential_ac ev xs r (by omega) hr
  have hI2 := iIsTimePotential_ac ew ys q y (by omega) hq (by omega)
  have hS2 := sIsTimePotential_ac ew ys q y (by omega) hq (by omega)
  have hB := frzV2 (iBestCircuit_ac ev xs (by omega)) (by simp [cN])
  have hSB := BestCircuit_ac ev xs (by omega)
  have hT := iCycleTime_ac ev xs (by omega)
  have hST := sCycleTime_ac ev xs (by omega)
  have hxl : (tpX ev xs r).length ≤ 1000 := by
    rcases sTimePotential_cs ev xs r (by omega) hr with ⟨h, _⟩ | ⟨h, n, _, _, _, h5, _⟩
    · unfold tpX; rw [if_neg h]; simp
    · omega
  have hL1 := likeInts_refl (tpX ev xs r) (by omega)
  have hL2 := likeInts_refl (cN (bcL ev xs)) (by have := bcL_len (ev := ev) (xs := xs); simp only [cN, List.length_map]; omega)
  have hI3 : tpC ev xs r = 0 → AC Tryz.prog 17 [grD ev xs, .agg [I r.1, I r.2], IL (tpX ev xs r)] H0 (Bo true) H0 := fun h0 => by
    have := iIsTimePotential_ac ev xs r (tpX ev xs r) (by omega) hr (by omega)
    rwa [tp_law h0] at this
  have hK : tpC ev xs r ≠ 1 → bcC ev xs = 0 → AC Tryz.prog 19 [.agg [I (ctR ev xs).1, I (ctR ev xs).2], .agg [I r.1, I r.2]] H0 (.tup [I (crI (ctR ev xs) r), I 0]) H0 := fun h1 h2 => by
    obtain ⟨_, _, _, _, _, _, _, hq, _⟩ := tp_facts h1
    exact iCompareRatiosG_ac _ _ (isRtG_rat (ctR_rat h2)) hq
  have hC : bcC ev xs = 0 → AC Tryz.prog 20 [grD ev xs, IL (cN (bcL ev xs))] H0 (.tup [.agg [I (ctR ev xs).1, I (ctR ev xs).2], I 0]) H0 := fun h2 => by
    obtain ⟨n, rfl, e1, e2, e3, e4, e5⟩ := bc_circ h2
    have := iCircuitRatio_ac n xs (bcL n xs) e1 e2 e3 e4
    rwa [e5] at this
  have hlaw := ct_law (ev := ev) (xs := xs) (r := r)
  have hcs : tpC ev xs r = 0 ∨ tpC ev xs r = 1 ∨ tpC ev xs r = 3 ∨ tpC ev xs r = 5 := by
    unfold tpC
    (repeat' split) <;> simp
  have hCR := hC
  clear hC
  generalize tbB ew ys q y = z at *
  generalize crI (ctR ev xs) r = k1 at *
  generalize tpX ev xs r = x at *
  generalize tpC ev xs r = c at *
  generalize ctR ev xs = t at *
  generalize cN (bcL ev xs) = l at *
  generalize bcC ev xs = b at *
  obtain ⟨r1, r2⟩ := r
  obtain ⟨t1, t2⟩ := t
  obtain ⟨q1, q2⟩ := q
  simp only at hG hG2 hI hS hI2 hS2 hT hST hI3 hK hCR
  by_cases hb0 : b = 0
  case neg =>
    by_cases hc0 : c = 0
    · exact ctWalkA code hbig ev xs r1 r2 ew ys q1 q2 y z x c t1 t2 l b hb0 hc0 hBig hG hG2 hI hS hI2 hS2 hB hSB hT hST hL1 hL2 (hI3 hc0)
    · exact ctWalkB code hbig ev xs r1 r2 ew ys q1 q2 y z x c t1 t2 l b hb0 hc0 hBig hG hG2 hI hS hI2 hS2 hB hSB hT hST hL1 hL2
  by_cases hc1 : c = 1
  · exact ctWalkC code hbig ev xs r1 r2 ew ys q1 q2 y z x c t1 t2 l b hb0 hc1 hBig hG hG2 hI hS hI2 hS2 hB hSB hT hST hL1 hL2
  have hK := hK hc1 hb0
  have hCR := hCR hb0
  have hlaw := hlaw hc1 hb0
  by_cases hc0 : c = 0
  · exact ctWalkD code hbig ev xs r1 r2 ew ys q1 q2 y z x c t1 t2 l b k1 hb0 hc0 (by omega) hBig hG hG2 hI hS hI2 hS2 hB hSB hT hST hL1 hL2 (hI3 hc0) hK hCR
  by_cases hc5 : c = 5
  · exact ctWalkE code hbig ev xs r1 r2 ew ys q1 q2 y z x c t1 t2 l b k1 hb0 hc5 (by omega) hBig hG hG2 hI hS hI2 hS2 hB hSB hT hST hL1 hL2 hK hCR
  · exact ctWalkF code hbig ev xs r1 r2 ew ys q1 q2 y z x c t1 t2 l b k1 hb0 (by omega) (by omega) hBig hG hG2 hI hS hI2 hS2 hB hSB hT hST hL1 hL2 hK hCR
end Go.Proofs.YtpgcmpbamlnkkaaGreat
end
