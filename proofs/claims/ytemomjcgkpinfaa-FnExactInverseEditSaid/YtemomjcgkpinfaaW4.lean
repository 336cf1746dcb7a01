/-
  Walks: can an edit be made.
-/
import Derived.Test.YtemomjcgkpinfaaProg
import Derived.Test.YtemomjcgkpinfaaBase
import Derived.Test.YtemomjcgkpinfaaW1
import Derived.Test.YtemomjcgkpinfaaW3
import Derived.Laws.StructEq
namespace Go.Proofs.Ytemomjcgkpinfaa
open Go.RowKit

def eq4 (a b c d a' b' c' d' : Int) : Bool := a == a' && b == b' && c == c' && d == d'
theorem eqPl_bin (a b c d a' b' c' d' : Int) (w : World) : (binOp .eql 35 (.agg #[.int .i64 a, .int .i64 b, .int .i64 c, .int .i64 d]) (.agg #[.int .i64 a', .int .i64 b', .int .i64 c', .int .i64 d'])).run Try.prog w = .ok (.bool (eq4 a b c d a' b' c' d')) w := by
  have u := Try.underlying2
  have hS : Try.prog.underlying 35 = some (.struct (Try.prog.fieldsOf 35)) := by kernel_rfl
  have hp : Try.prog.stoodInHeld 35 = false := by kernel_rfl
  rw [run_eql_struct, show (10000 : Nat) = 9999 + 1 from rfl, run_equalIn_agg w 9999 35 _ _ hS hp]
  simp only [Program.fieldsOf, Try.underlying35]
  go_simp
  unfold eq4
  by_cases h1 : a = a' <;> by_cases h2 : b = b' <;> by_cases h3 : c = c' <;> by_cases h4 : d = d' <;> simp [h1, h2, h3, h4]
theorem eqPl_guard (op : BinOp) (x y : Operand) (a b c d a' b' c' d' : Int) (w : World) : (eqGuard op 35 x y (.agg #[.int .i64 a, .int .i64 b, .int .i64 c, .int .i64 d]) (.agg #[.int .i64 a', .int .i64 b', .int .i64 c', .int .i64 d'])).run Try.prog w = .ok () w :=
  run_eqGuard_agg w op _ x y _ _ (by kernel_rfl)

set_option maxHeartbeats 800000 in
theorem canEdit_any (ev : Int) (a : Option Addr) (xs : List Pl) (cap : Nat) (e : Ed) (h1 : 1 ≤ ev) (h2 : ev ≤ 10) (hx : xs.length ≤ 10000000) (w : World) :
    Calls Try.prog 57 #[.agg #[.int .i64 ev, .slice a xs.length cap], .agg #[.int .i64 e.kind, .int .i64 e.idx, .int .i64 e.pl.f, .int .i64 e.pl.t, .int .i64 e.pl.d, .int .i64 e.pl.k]] w fun r w' => r = .returned (.bool (canEd ev xs e)) ∧ Below w.heap.size w w' := by
  have hq := eqPl_bin
  have hg := eqPl_guard
  go_enter Try.func57, Try.ntmps57
  go_wp2_with (first | (go_at_call 74; refine (within_any _ _ _ _).mono ?_; rintro e w' ⟨rfl, rfl⟩) | (go_at_call 77; refine (isPlace_any ev e.pl a xs.length cap (by omega) (by omega) _).mono ?_; rintro e w' ⟨rfl, hb⟩; (try have hb := below_trans' (by assumption) hb); obtain ⟨hc, hf⟩ := bcell hb; have hz := (hb).size; (try simp only [World.size_alloc, World.size_setCell] at hz)))
  all_goals go_ret
  all_goals clear hq hg
  all_goals refine ⟨ret_bool (by grind [canEd, eq4, Pl.eq, plZ]), ?_⟩
  repeat' (first | with_reducible exact Below.refl _ _ | with_reducible refine Below.setCell ?_ ?_ _ | with_reducible refine Below.alloc ?_ ?_ _ | with_reducible refine Below.drew ?_ | with_reducible refine Below.trans ?_ (Below.mono (by assumption) ?_))
  all_goals (first | omega | (simp; done) | (simp; omega))

set_option maxHeartbeats 800000 in
theorem sCanEdit_any (ev : Int) (a : Option Addr) (xs : List Pl) (cap : Nat) (e : Ed) (hx : xs.length ≤ 10000000) (w : World) (rx : SlR w 4 Pl.enc a xs) :
    Calls Try.prog 13 #[.agg #[.int .i64 ev, .slice a xs.length cap], .agg #[.int .i64 e.kind, .int .i64 e.idx, .int .i64 e.pl.f, .int .i64 e.pl.t, .int .i64 e.pl.d, .int .i64 e.pl.k]] w fun r w' => r = .returned (.bool (isEG ev xs && canEd ev xs e)) ∧ Below w.heap.size w w' := by
  cases hev : isEG ev xs
  · go_enter Try.func13, Try.ntmps13
    go_wp2_with (go_at_call 51; refine (sIsEventGraph_any ev a xs cap hx _ (by repeat' (first | with_reducible exact rx | with_reducible refine SlR.alloc ?_ _ | with_reducible refine SlR.drew ?_))).mono ?_; rintro e w' ⟨rfl, hb⟩; (try have hb := below_trans' (by assumption) hb); obtain ⟨hc, hf⟩ := bcell hb; have hz := (hb).size; (try simp only [World.size_alloc, World.size_setCell] at hz))
    go_ret
    refine ⟨ret_bool (by simp), ?_⟩
    clear hc hf
    repeat' (first | with_reducible exact Below.refl _ _ | with_reducible refine Below.setCell ?_ ?_ _ | with_reducible refine Below.alloc ?_ ?_ _ | with_reducible refine Below.drew ?_ | with_reducible refine Below.trans ?_ (Below.mono (by assumption) ?_))
    all_goals (first | omega | (simp; done) | (simp; omega))
  · have hev2 : 1 ≤ ev ∧ ev ≤ 10 := by
      have h := hev
      simp only [isEG, Bool.and_eq_true] at h
      exact wi_iff.1 h.1.1
    have hw := IntWalk.wrap64_in (ev - 1) ⟨by omega, by omega⟩
    have hq := eqPl_bin
    have hg := eqPl_guard
    go_enter Try.func13, Try.ntmps13
    go_wp2_with (first | (go_at_call 51; refine (sIsEventGraph_any ev a xs cap hx _ (by repeat' (first | with_reducible exact rx | with_reducible refine SlR.alloc ?_ _ | with_reducible refine SlR.drew ?_))).mono ?_; rintro e w' ⟨rfl, hb⟩; (try have hb := below_trans' (by assumption) hb); obtain ⟨hc, hf⟩ := bcell hb; have hz := (hb).size; (try simp only [World.size_alloc, World.size_setCell] at hz)) | (go_at_call 52; refine (l01In_any _ _ _ _).mono ?_; rintro e w' ⟨rfl, rfl⟩) | (go_at_call 53; refine (l11Place_any ev e.pl _).mono ?_; rintro e w' ⟨rfl, hb⟩; (try have hb := below_trans' (by assumption) hb); obtain ⟨hc, hf⟩ := bcell hb; have hz := (hb).size; (try simp only [World.size_alloc, World.size_setCell] at hz)))
    all_goals go_ret
    all_goals clear hq hg hc hf
    all_goals refine ⟨ret_bool (by grind [canEd, eq4, Pl.eq, plZ]), ?_⟩
    repeat' (first | with_reducible exact Below.refl _ _ | with_reducible refine Below.setCell ?_ ?_ _ | with_reducible refine Below.alloc ?_ ?_ _ | with_reducible refine Below.drew ?_ | with_reducible refine Below.trans ?_ (Below.mono (by assumption) ?_))
    all_goals (first | omega | (simp; done) | (simp; omega))

set_option maxHeartbeats 800000 in
theorem iCanEdit_any (ev : Int) (a : Option Addr) (xs : List Pl) (cap : Nat) (e : Ed) (hx : xs.length ≤ 10000000) (w : World) (rx : SlR w 4 Pl.enc a xs) :
    Calls Try.prog 16 #[.agg #[.int .i64 ev, .slice a xs.length cap], .agg #[.int .i64 e.kind, .int .i64 e.idx, .int .i64 e.pl.f, .int .i64 e.pl.t, .int .i64 e.pl.d, .int .i64 e.pl.k]] w fun r w' => r = .returned (.bool (isEG ev xs && canEd ev xs e)) ∧ Below w.heap.size w w' := by
  cases hev : isEG ev xs
  · go_enter Try.func16, Try.ntmps16
    go_wp2_with (go_at_call 56; refine (iIsEventGraph_any ev xs a cap hx _ (by repeat' (first | with_reducible exact rx | with_reducible refine SlR.alloc ?_ _ | with_reducible refine SlR.drew ?_))).mono ?_; rintro e w' ⟨rfl, hb⟩; (try have hb := below_trans' (by assumption) hb); obtain ⟨hc, hf⟩ := bcell hb; have hz := (hb).size; (try simp only [World.size_alloc, World.size_setCell] at hz))
    go_ret
    refine ⟨ret_bool (by simp), ?_⟩
    clear hc hf
    repeat' (first | with_reducible exact Below.refl _ _ | with_reducible refine Below.setCell ?_ ?_ _ | with_reducible refine Below.alloc ?_ ?_ _ | with_reducible refine Below.drew ?_ | with_reducible refine Below.trans ?_ (Below.mono (by assumption) ?_))
    all_goals (first | omega | (simp; done) | (simp; omega))
  · have hev2 : 1 ≤ ev ∧ ev ≤ 10 := by
      have h := hev
      simp only [isEG, Bool.and_eq_true] at h
      exact wi_iff.1 h.1.1
    go_enter Try.func16, Try.ntmps16
    go_wp2_with (first | (go_at_call 56; refine (iIsEventGraph_any ev xs a cap hx _ (by repeat' (first | with_reducible exact rx | with_reducible refine SlR.alloc ?_ _ | with_reducible refine SlR.drew ?_))).mono ?_; rintro e w' ⟨rfl, hb⟩; (try have hb := below_trans' (by assumption) hb); obtain ⟨hc, hf⟩ := bcell hb; have hz := (hb).size; (try simp only [World.size_alloc, World.size_setCell] at hz)) | (go_at_call 57; refine (canEdit_any ev a xs cap e hev2.1 hev2.2 hx _).mono ?_; rintro e w' ⟨rfl, hb⟩; (try have hb := below_trans' (by assumption) hb); obtain ⟨hc, hf⟩ := bcell hb; have hz := (hb).size; (try simp only [World.size_alloc, World.size_setCell] at hz)))
    go_ret
    refine ⟨ret_bool (by simp), ?_⟩
    clear hc hf
    repeat' (first | with_reducible exact Below.refl _ _ | with_reducible refine Below.setCell ?_ ?_ _ | with_reducible refine Below.alloc ?_ ?_ _ | with_reducible refine Below.drew ?_ | with_reducible refine Below.trans ?_ (Below.mono (by assumption) ?_))
    all_goals (first | omega | (simp; done) | (simp; omega))
end Go.Proofs.Ytemomjcgkpinfaa
