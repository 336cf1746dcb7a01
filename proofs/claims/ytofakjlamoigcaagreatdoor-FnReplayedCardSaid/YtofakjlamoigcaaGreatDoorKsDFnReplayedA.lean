/-
  The law FnReplayed, in the abstract reading: one case in two.
-/
import Derived.Test.YtofakjlamoigcaaGreatDoorKsU9
import Derived.Test.YtofakjlamoigcaaGreatDoorKsS16
import Derived.Test.YtofakjlamoigcaaGreatDoorKsU10
namespace Go.Proofs.YtofakjlamoigcaaGreatDoor
set_option linter.unusedSimpArgs false
set_option linter.unusedVariables false
open Go Go.RowKit
attribute [local irreducible] AL AD AW OpOk Le AC thenQ blockQ EndQ

set_option maxRecDepth 100000 in
set_option maxHeartbeats 16000000 in
theorem replayed_A0 [Mode] [HasTab] [HasErr] [HasLen] (code : List Int) (s t tr u v : List UInt8) (f : Fi) (ev : Int) (xs : List Pl) (m : List Int) (b c2 d c3 : Int) (hb : b ≠ 0)
    (hBig : AC Tryz.prog 6 [.d (BD code)] H0 (Bo false) H0)
    (hG1 : AC Tryz.prog 27 [.d (BD code)] H0 (.tup [Str s, f.av]) H0)
    (hI1 : AC Tryz.prog 28 [Str s, f.av] H0 (.tup [Str t, I b]) H0)
    (hS1 : AC Tryz.prog 29 [Str s, f.av] H0 (.tup [Str t, I b]) H0)
    (hG2 : AC Tryz.prog 30 [.d (BD code)] H0 (.tup [grD ev xs, Str tr]) H0)
    (hI2 : AC Tryz.prog 21 [grD ev xs, Str tr] H0 (.tup [IL m, I c2]) H0)
    (hS2 : AC Tryz.prog 19 [grD ev xs, Str tr] H0 (.tup [IL m, I c2]) H0)
    (hG3 : AC Tryz.prog 31 [.d (BD code)] H0 (.tup [Str u, Str v]) H0)
    (hI3 : AC Tryz.prog 32 [Str u, Str v] H0 (.tup [I d, I c3]) H0)
    (hS3 : AC Tryz.prog 33 [Str u, Str v] H0 (.tup [I d, I c3]) H0)
    (hI4 : AC Tryz.prog 32 [Str v, Str u] H0 (.tup [I d, I c3]) H0)
    (hI5 : AC Tryz.prog 32 [Str u, Str u] H0 (.tup [I (-1), I 0]) H0)
    (hL : AC Tryz.prog 34 [IL m, IL m] H0 (Bo true) H0) :
    AC Tryz.prog 5 [.d (BD code)] H0 (Bo true) H0 := by
  obtain ⟨fe, fn, ft⟩ := f
  refine AC.of_body 0 Tryz.func5 rfl (fun l h => absurd rfl h) (fun C hC => ?_)
  have hD : ∀ l, ¬ C.D0 l := fun l h => (hC l).1 h rfl
  simp only [startFr, Tryz.ntmps5, List.length_cons, List.length_nil, Nat.reduceAdd, Nat.reduceSub, List.replicate_succ, List.replicate_zero, List.cons_append, List.nil_append]
  repeat' (first | ((first | apply Ba | (apply Bb; (· rfl); (· rfl)) | (apply Bc; (· exact nxE)) | (apply Bd; (· rfl); (· rfl); (· exact nxE))); (· first | exact Kz rfl rfl (hBig) (Ad An) | exact Kz rfl rfl (hG1) (Ad An) | exact Kz rfl rfl (hG2) (Ad An) | exact Kz rfl rfl (hG3) (Ad An) | exact Kz rfl rfl (hI1) (Ad (Aa (Ad (Ad (Ad An))) An)) | exact Kz rfl rfl (hS1) (Ad (Aa (Ad (Ad (Ad An))) An)) | exact Kz rfl rfl (hI2) (Aa (Ad (Ad An)) (Ad An)) | exact Kz rfl rfl (hS2) (Aa (Ad (Ad An)) (Ad An)) | exact Kz rfl rfl (hI3) (Ad (Ad An)) | exact Kz rfl rfl (hS3) (Ad (Ad An)) | exact Kz rfl rfl (hI4) (Ad (Ad An)) | exact Kz rfl rfl (hI5) (Ad (Ad An)) | exact Kz rfl rfl (hL) (Ad (Ad An)) | exact Ok.slen rfl rfl | exact Ok.sneSame rfl rfl rfl | exact Ok.pe)) | ((first | apply Ca | (apply Cb; (· exact nxE))); (· first | exact Ok.e0)) | refine Sx ?_ | (refine Sy (fun h => ?_) (fun h => ?_) <;> try (exfalso; omega; done)) | refine Sz (fun h => ?_) (fun h => ?_))
  all_goals
    refine Ya ?_
    (apply Le.headZ (hs := []) [] rfl)
    all_goals (try dsimp only [srcs])
    (case' hfr => (repeat' (first | refine La ?_ ?_ | exact Lc | refine Lo ?_ | refine ⟨⟨_, rfl, ?_⟩, ?_⟩ | refine Lx ?_)))
    all_goals (first | exact Ld | exact trivial | (rfl))
set_option maxRecDepth 100000 in
set_option maxHeartbeats 16000000 in
theorem replayed_A1 [Mode] [HasTab] [HasErr] [HasLen] (code : List Int) (s t tr u v : List UInt8) (f : Fi) (ev : Int) (xs : List Pl) (m : List Int) (b c2 d c3 o c6 : Int) (hb : b ≠ 0) (h6 : c6 ≠ 0)
    (hBig : AC Tryz.prog 6 [.d (BD code)] H0 (Bo false) H0)
    (hG1 : AC Tryz.prog 27 [.d (BD code)] H0 (.tup [Str s, f.av]) H0)
    (hI1 : AC Tryz.prog 28 [Str s, f.av] H0 (.tup [Str t, I b]) H0)
    (hS1 : AC Tryz.prog 29 [Str s, f.av] H0 (.tup [Str t, I b]) H0)
    (hG2 : AC Tryz.prog 30 [.d (BD code)] H0 (.tup [grD ev xs, Str tr]) H0)
    (hI2 : AC Tryz.prog 21 [grD ev xs, Str tr] H0 (.tup [IL m, I c2]) H0)
    (hS2 : AC Tryz.prog 19 [grD ev xs, Str tr] H0 (.tup [IL m, I c2]) H0)
    (hG3 : AC Tryz.prog 31 [.d (BD code)] H0 (.tup [Str u, Str v]) H0)
    (hI3 : AC Tryz.prog 32 [Str u, Str v] H0 (.tup [I d, I c3]) H0)
    (hS3 : AC Tryz.prog 33 [Str u, Str v] H0 (.tup [I d, I c3]) H0)
    (hI4 : AC Tryz.prog 32 [Str v, Str u] H0 (.tup [I d, I c3]) H0)
    (hI5 : AC Tryz.prog 32 [Str u, Str u] H0 (.tup [I o, I c6]) H0)
    (hL : AC Tryz.prog 34 [IL m, IL m] H0 (Bo true) H0) :
    AC Tryz.prog 5 [.d (BD code)] H0 (Bo true) H0 := by
  obtain ⟨fe, fn, ft⟩ := f
  refine AC.of_body 0 Tryz.func5 rfl (fun l h => absurd rfl h) (fun C hC => ?_)
  have hD : ∀ l, ¬ C.D0 l := fun l h => (hC l).1 h rfl
  simp only [startFr, Tryz.ntmps5, List.length_cons, List.length_nil, Nat.reduceAdd, Nat.reduceSub, List.replicate_succ, List.replicate_zero, List.cons_append, List.nil_append]
  repeat' (first | ((first | apply Ba | (apply Bb; (· rfl); (· rfl)) | (apply Bc; (· exact nxE)) | (apply Bd; (· rfl); (· rfl); (· exact nxE))); (· first | exact Kz rfl rfl (hBig) (Ad An) | exact Kz rfl rfl (hG1) (Ad An) | exact Kz rfl rfl (hG2) (Ad An) | exact Kz rfl rfl (hG3) (Ad An) | exact Kz rfl rfl (hI1) (Ad (Aa (Ad (Ad (Ad An))) An)) | exact Kz rfl rfl (hS1) (Ad (Aa (Ad (Ad (Ad An))) An)) | exact Kz rfl rfl (hI2) (Aa (Ad (Ad An)) (Ad An)) | exact Kz rfl rfl (hS2) (Aa (Ad (Ad An)) (Ad An)) | exact Kz rfl rfl (hI3) (Ad (Ad An)) | exact Kz rfl rfl (hS3) (Ad (Ad An)) | exact Kz rfl rfl (hI4) (Ad (Ad An)) | exact Kz rfl rfl (hI5) (Ad (Ad An)) | exact Kz rfl rfl (hL) (Ad (Ad An)) | exact Ok.slen rfl rfl | exact Ok.sneSame rfl rfl rfl | exact Ok.pe)) | ((first | apply Ca | (apply Cb; (· exact nxE))); (· first | exact Ok.e0)) | refine Sx ?_ | (refine Sy (fun h => ?_) (fun h => ?_) <;> try (exfalso; omega; done)) | refine Sz (fun h => ?_) (fun h => ?_))
  all_goals
    refine Ya ?_
    (apply Le.headZ (hs := []) [] rfl)
    all_goals (try dsimp only [srcs])
    (case' hfr => (repeat' (first | refine La ?_ ?_ | exact Lc | refine Lo ?_ | refine ⟨⟨_, rfl, ?_⟩, ?_⟩ | refine Lx ?_)))
    all_goals (first | exact Ld | exact trivial | (rfl))
end Go.Proofs.YtofakjlamoigcaaGreatDoor
