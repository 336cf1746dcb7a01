/-
  Walks: the laws' helpers over edits and desks.
-/
import Derived.Test.YtemomjcgkpinfaaProg
import Derived.Test.YtemomjcgkpinfaaBase2
import Derived.Test.YtemomjcgkpinfaaW1
import Derived.Test.YtemomjcgkpinfaaM1
namespace Go.Proofs.Ytemomjcgkpinfaa
open Go.RowKit

set_option maxHeartbeats 800000 in
theorem eqEdit_any (p q : Ed) (w : World) :
    Calls Try.prog 25 #[.agg #[.int .i64 p.kind, .int .i64 p.idx, .int .i64 p.pl.f, .int .i64 p.pl.t, .int .i64 p.pl.d, .int .i64 p.pl.k], .agg #[.int .i64 q.kind, .int .i64 q.idx, .int .i64 q.pl.f, .int .i64 q.pl.t, .int .i64 q.pl.d, .int .i64 q.pl.k]] w fun e w' => e = .returned (.bool (p.eq q)) ∧ Below w.heap.size w w' := by
  go_enter Try.func25, Try.ntmps25
  go_wp2_with (go_at_call 63; refine (eqPlace_any p.pl q.pl _).mono ?_; rintro e w' ⟨rfl, hb⟩)
  all_goals go_ret
  all_goals refine ⟨ret_bool (by grind [Ed.eq]), ?_⟩
  repeat' (first | with_reducible exact Below.refl _ _ | with_reducible refine Below.setCell ?_ ?_ _ | with_reducible refine Below.alloc ?_ ?_ _ | with_reducible refine Below.drew ?_ | with_reducible refine Below.trans ?_ (Below.mono (by assumption) ?_))
  all_goals (first | omega | (simp; done) | (simp; omega))


set_option maxHeartbeats 1600000 in
theorem eqEditS_any (a a' : Option Addr) (xs ys : List Ed) (cap cap' : Nat) (hx : xs.length ≤ 10000000) (hy : ys.length ≤ 10000000) (w : World) (rx : SlR w 6 Ed.enc a xs) (ry : SlR w 6 Ed.enc a' ys) :
    Calls Try.prog 28 #[.slice a xs.length cap, .slice a' ys.length cap'] w fun e w' => e = .returned (.bool (eqLs Ed.eq xs ys)) ∧ Below w.heap.size w w' := by
  by_cases hl : xs.length = ys.length
  case neg =>
    go_enter Try.func28, Try.ntmps28
    go_wp2
    go_ret
    exact ⟨ret_bool (eqLs_len hl).symm, Below.refl _ _⟩
  case pos =>
    go_enter Try.func28, Try.ntmps28
    go_wp2
    go_loopw [5] (fun i wr => ∃ k : Nat, k ≤ xs.length ∧ i = .int .i64 k ∧ Below w.heap.size w wr ∧ eqLs Ed.eq xs ys = eqLs Ed.eq (xs.drop k) (ys.drop k)) (fun i _ => xs.length - (intOf i).toNat)
    case atStart => exact ⟨0, Nat.zero_le _, rfl, Below.refl _ _, rfl⟩
    case round =>
      obtain ⟨k, hk, rfl, hb, he⟩ := hrel
      by_cases hlt : k < xs.length
      · obtain ⟨p, hp⟩ : ∃ p, xs[k]? = some p := ⟨xs[k], by simp⟩
        obtain ⟨q, hq⟩ : ∃ q, ys[k]? = some q := ⟨ys[k]'(by omega), by simp⟩
        have Hd := Lib.hid (he.trans (eqLs_drop hp hq)); clear he
        have hz := hb.size
        obtain ⟨b, off, rfl, c0, c1, c2, c3, c4, c5⟩ := rdEd rx hp
        obtain ⟨b', off', rfl, d0, d1, d2, d3, d4, d5⟩ := rdEd ry hq
        clear rx ry hp hq
        have lx := fun x : Later wr.heap.size wr => (hb.trans (x.le.mono hz))
        have c0 := fun x => stay (lx x) (Nat.le_refl _) c0
        have d0 := fun x => stay (lx x) (Nat.le_refl _) d0
        have c1 := fun x => stay (lx x) (Nat.le_refl _) c1
        have d1 := fun x => stay (lx x) (Nat.le_refl _) d1
        have c2 := fun x => stay (lx x) (Nat.le_refl _) c2
        have d2 := fun x => stay (lx x) (Nat.le_refl _) d2
        have c3 := fun x => stay (lx x) (Nat.le_refl _) c3
        have d3 := fun x => stay (lx x) (Nat.le_refl _) d3
        have c4 := fun x => stay (lx x) (Nat.le_refl _) c4
        have d4 := fun x => stay (lx x) (Nat.le_refl _) d4
        have c5 := fun x => stay (lx x) (Nat.le_refl _) c5
        have d5 := fun x => stay (lx x) (Nat.le_refl _) d5
        clear lx
        go_wp2_with fail
        refine wp_region_later wr.heap.size (by kernel_rfl) (by kernel_rfl) ?_
        repeat (go_big_quiet_step (refine later_call (Nat.le_refl _) (eqEdit_any _ _ _)))
        refine wpQuiet_nil ?_
        rintro _ ⟨x, rfl⟩
        have hb' := hb.trans (x.le.mono hz)
        clear c0 c1 c2 c3 c4 c5 d0 d1 d2 d3 d4 d5
        cases hpq : p.eq q
        · go_wp2
          go_ret
          exact ⟨ret_bool (by rw [Hd.out, hpq]; rfl), hb'⟩
        · go_wp2
          go_roundw
          case rel => exact ⟨k + 1, by omega, by go_num, hb', by rw [Hd.out, hpq]; rfl⟩
          case measure => simp [intOf]; omega
      · go_wp2
        go_ret
        exact ⟨ret_bool (by rw [he, eqLs_end (by omega) (by omega)]), hb⟩


set_option maxHeartbeats 800000 in
theorem markEventGraph_any (ev : Int) (ad : Option Addr) (n cap : Nat) (cs : List Value) (k : Int) (B : Nat) (hn : n ≤ 10000000) (h0 : 0 ≤ k) (h1 : k ≤ 10000000000) (w : World) (own : w.ownsRow B 35 4 (.slice ad n cap) n cs) :
    Calls Try.prog 29 #[.agg #[.int .i64 ev, .slice ad n cap], .int .i64 k] w fun e w' => e = .returned (.int .i64 (k + (n * 4 : Nat))) ∧ w'.ownsRow B 35 4 (.slice ad n cap) n (marks k (n * 4)) ∧ w.grownBy w' (Value.slice ad n cap).ownBlock := by
  go_enter Try.func29, Try.ntmps29
  go_wp2_with (go_at_call 64; refine (markPlaceS_any ad n cap cs k B hn h0 h1 _ (own.alloc _)).mono ?_; rintro e w1 ⟨rfl, hown, hg⟩)
  go_ret
  exact ⟨rfl, hown, grown_trans (grown_below ((Below.refl _ _).alloc (Nat.le_refl _) _) _) hg⟩

set_option maxHeartbeats 800000 in
theorem heldEventGraph_any (ev : Int) (ad : Option Addr) (n cap : Nat) (k : Int) (hn : n ≤ 10000000) (h0 : 0 ≤ k) (h1 : k ≤ 10000000000) (w : World) (hr : FlR w ad (marks k (n * 4))) :
    Calls Try.prog 34 #[.agg #[.int .i64 ev, .slice ad n cap], .int .i64 k] w fun e w' => e = .returned (.int .i64 (k + (n * 4 : Nat))) ∧ Below w.heap.size w w' := by
  have hb : 0 ≤ k + ((n * 4 : Nat) : Int) := by omega
  go_enter Try.func34, Try.ntmps34
  go_wp2_with (go_at_call 67; refine (heldPlaceS_any ad n cap k hn h0 h1 _ (hr.alloc _)).mono ?_; rintro e w' ⟨rfl, rfl⟩)
  go_ret
  exact ⟨rfl, (Below.refl _ _).alloc (Nat.le_refl _) _⟩


end Go.Proofs.Ytemomjcgkpinfaa
