/-
  Walks: the laws' own helpers over places and graphs.
-/
import Derived.Test.YtemomjcgkpinfaaProg
import Derived.Test.YtemomjcgkpinfaaBase
namespace Go.Proofs.Ytemomjcgkpinfaa
open Go.RowKit

set_option maxHeartbeats 400000 in
theorem within_any (n lo hi : Int) (w : World) :
    Calls Try.prog 74 #[.int .i64 n, .int .i64 lo, .int .i64 hi] w fun e w' => e = .returned (.bool (wi n lo hi)) ∧ w = w' := by
  go_enter Try.func74, Try.ntmps74
  go_wp2
  all_goals go_ret
  all_goals (refine ⟨ret_bool ?_, rfl⟩; grind [wi])

set_option maxHeartbeats 400000 in
theorem l01In_any (n lo hi : Int) (w : World) :
    Calls Try.prog 52 #[.int .i64 n, .int .i64 lo, .int .i64 hi] w fun e w' => e = .returned (.bool (wi n lo hi)) ∧ w = w' := by
  go_enter Try.func52, Try.ntmps52
  go_wp2
  all_goals go_ret
  all_goals (refine ⟨ret_bool ?_, rfl⟩; grind [wi])

set_option maxHeartbeats 400000 in
theorem eqPlace_any (p q : Pl) (w : World) :
    Calls Try.prog 63 #[.agg #[.int .i64 p.f, .int .i64 p.t, .int .i64 p.d, .int .i64 p.k], .agg #[.int .i64 q.f, .int .i64 q.t, .int .i64 q.d, .int .i64 q.k]] w fun e w' => e = .returned (.bool (p.eq q)) ∧ Below w.heap.size w w' := by
  go_enter Try.func63, Try.ntmps63
  go_wp2
  all_goals go_ret
  all_goals (refine ⟨ret_bool ?_, ((Below.refl _ _).alloc (Nat.le_refl _) _).alloc (by simp) _⟩)
  all_goals grind [Pl.eq]

set_option maxHeartbeats 400000 in
theorem eqPlaceS_any (a a' : Option Addr) (xs ys : List Pl) (cap cap' : Nat) (hx : xs.length ≤ 10000000) (hy : ys.length ≤ 10000000) (w : World) (rx : SlR w 4 Pl.enc a xs) (ry : SlR w 4 Pl.enc a' ys) :
    Calls Try.prog 58 #[.slice a xs.length cap, .slice a' ys.length cap'] w fun e w' => e = .returned (.bool (eqPls xs ys)) ∧ Below w.heap.size w w' := by
  by_cases hl : xs.length = ys.length
  case neg =>
    go_enter Try.func58, Try.ntmps58
    go_wp2
    go_ret
    exact ⟨ret_bool (eqPls_len hl).symm, Below.refl _ _⟩
  case pos =>
    go_enter Try.func58, Try.ntmps58
    go_wp2
    go_loopw [5] (fun i wr => ∃ k : Nat, k ≤ xs.length ∧ i = .int .i64 k ∧ Below w.heap.size w wr ∧ eqPls xs ys = eqPls (xs.drop k) (ys.drop k)) (fun i _ => xs.length - (intOf i).toNat)
    case atStart => exact ⟨0, Nat.zero_le _, rfl, Below.refl _ _, rfl⟩
    case round =>
      obtain ⟨k, hk, rfl, hb, he⟩ := hrel
      by_cases hlt : k < xs.length
      · obtain ⟨p, hp⟩ : ∃ p, xs[k]? = some p := ⟨xs[k], by simp⟩
        obtain ⟨q, hq⟩ : ∃ q, ys[k]? = some q := ⟨ys[k]'(by omega), by simp⟩
        have Hd := Lib.hid (he.trans (eqPls_drop hp hq)); clear he
        have hz := hb.size
        obtain ⟨b, off, rfl, c0, c1, c2, c3⟩ := rdPl rx hp
        obtain ⟨b', off', rfl, d0, d1, d2, d3⟩ := rdPl ry hq
        clear rx ry hp hq
        have lx := fun x : Later wr.heap.size wr => (hb.trans (x.le.mono hz))
        have c0 := fun x => stay (lx x) (Nat.le_refl _) c0
        have c1 := fun x => stay (lx x) (Nat.le_refl _) c1
        have c2 := fun x => stay (lx x) (Nat.le_refl _) c2
        have c3 := fun x => stay (lx x) (Nat.le_refl _) c3
        have d0 := fun x => stay (lx x) (Nat.le_refl _) d0
        have d1 := fun x => stay (lx x) (Nat.le_refl _) d1
        have d2 := fun x => stay (lx x) (Nat.le_refl _) d2
        have d3 := fun x => stay (lx x) (Nat.le_refl _) d3
        clear lx
        go_wp2_with fail
        refine wp_region_later wr.heap.size (by kernel_rfl) (by kernel_rfl) ?_
        repeat (go_big_quiet_step (refine later_call (Nat.le_refl _) (eqPlace_any _ _ _)))
        refine wpQuiet_nil ?_
        rintro _ ⟨x, rfl⟩
        have hb' := hb.trans (x.le.mono hz)
        clear c0 c1 c2 c3 d0 d1 d2 d3
        cases hpq : p.eq q
        · go_wp2
          go_ret
          exact ⟨ret_bool (by rw [Hd.out, hpq]; rfl), hb'⟩
        · go_wp2
          go_roundw
          case rel => exact ⟨k + 1, by omega, by go_num, hb', by rw [Hd.out, hpq]; rfl⟩
          case measure => simp [intOf]; omega
      · go_wp2
        go_ret
        exact ⟨ret_bool (by rw [he, eqPls_end (by omega) (by omega)]), hb⟩

def eqGr (ev ev' : Int) (xs ys : List Pl) : Bool := ev == ev' && eqPls xs ys
theorem eqGr_rfl (ev : Int) (xs : List Pl) : eqGr ev ev xs xs = true := by simp [eqGr, eqPls_iff]
set_option maxHeartbeats 800000 in
theorem eqEventGraph_any (ev ev' : Int) (a a' : Option Addr) (xs ys : List Pl) (cap cap' : Nat) (hx : xs.length ≤ 10000000) (hy : ys.length ≤ 10000000) (w : World) (rx : SlR w 4 Pl.enc a xs) (ry : SlR w 4 Pl.enc a' ys) :
    Calls Try.prog 17 #[.agg #[.int .i64 ev, .slice a xs.length cap], .agg #[.int .i64 ev', .slice a' ys.length cap']] w fun e w' => e = .returned (.bool (eqGr ev ev' xs ys)) ∧ Below w.heap.size w w' := by
  go_enter Try.func17, Try.ntmps17
  go_wp2_with (go_at_call 58; refine (eqPlaceS_any a a' xs ys cap cap' hx hy _ (by repeat' (first | with_reducible exact rx | with_reducible refine SlR.alloc ?_ _ | with_reducible refine SlR.drew ?_)) (by repeat' (first | with_reducible exact ry | with_reducible refine SlR.alloc ?_ _ | with_reducible refine SlR.drew ?_))).mono ?_; rintro e w' ⟨rfl, hb⟩)
  all_goals go_ret
  all_goals refine ⟨ret_bool (by grind [eqGr]), ?_⟩
  repeat' (first | with_reducible exact Below.refl _ _ | with_reducible refine Below.setCell ?_ ?_ _ | with_reducible refine Below.alloc ?_ ?_ _ | with_reducible refine Below.drew ?_ | with_reducible refine Below.trans ?_ (Below.mono (by assumption) ?_))
  all_goals (first | omega | (simp; done) | (simp; omega))

end Go.Proofs.Ytemomjcgkpinfaa
