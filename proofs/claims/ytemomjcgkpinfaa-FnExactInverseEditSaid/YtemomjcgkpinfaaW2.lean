/-
  Walks: the laws' own helpers that copy places, edits and graphs, and that weigh them.
-/
import Derived.Test.YtemomjcgkpinfaaProg
import Derived.Test.YtemomjcgkpinfaaBase
namespace Go.Proofs.Ytemomjcgkpinfaa
open Go.RowKit

set_option maxHeartbeats 400000 in
theorem szPlaceS_any (a : Option Addr) (len cap : Nat) (left : Int) (hl : left ≤ 1048576) (hl0 : 0 ≤ left) (hlen : len ≤ 9223372036854775807) (w : World) :
    Calls Try.prog 50 #[.slice a len cap, .int .i64 left] w fun e w' => e = .returned (.int .i64 (if left < len then -1 else left - len)) ∧ w = w' := by
  go_enter Try.func50, Try.ntmps50
  go_wp2
  all_goals go_ret
  all_goals (refine ⟨ret_int ?_, rfl⟩; grind)

set_option maxHeartbeats 400000 in
theorem szEventGraph_any (ev : Int) (a : Option Addr) (len cap : Nat) (left : Int) (hl : left ≤ 1048576) (hl0 : 0 ≤ left) (hlen : len ≤ 9223372036854775807) (w : World) :
    Calls Try.prog 12 #[.agg #[.int .i64 ev, .slice a len cap], .int .i64 left] w fun e w' => e = .returned (.int .i64 (if left < len then -1 else left - len)) ∧ Below w.heap.size w w' := by
  go_enter Try.func12, Try.ntmps12
  go_wp2_with (go_at_call 50; refine (szPlaceS_any _ _ _ _ hl hl0 hlen _).mono ?_; rintro e w' ⟨rfl, rfl⟩)
  all_goals go_ret
  all_goals (refine ⟨ret_int ?_, (Below.refl _ _).alloc (Nat.le_refl _) _⟩; grind)

set_option maxHeartbeats 400000 in
theorem toPlace_any (p : Pl) (w : World) :
    Calls Try.prog 55 #[.agg #[.int .i64 p.f, .int .i64 p.t, .int .i64 p.d, .int .i64 p.k]] w fun e w' => e = .returned (.agg #[.int .i64 p.f, .int .i64 p.t, .int .i64 p.d, .int .i64 p.k]) ∧ Below w.heap.size w w' := by
  go_enter Try.func55, Try.ntmps55
  go_wp2
  refine bodyPost_ret (v := .agg #[.int .i64 p.f, .int .i64 p.t, .int .i64 p.d, .int .i64 p.k]) (by simp [results, Try.results55, go_sem]) rfl ⟨rfl, ?_⟩
  repeat (first | exact Below.refl _ _ | (refine Below.alloc ?_ (by simp <;> omega) _))

set_option maxHeartbeats 400000 in
theorem toEdit_any (e : Ed) (w : World) :
    Calls Try.prog 15 #[.agg #[.int .i64 e.kind, .int .i64 e.idx, .int .i64 e.pl.f, .int .i64 e.pl.t, .int .i64 e.pl.d, .int .i64 e.pl.k]] w fun r w' => r = .returned (.agg #[.int .i64 e.kind, .int .i64 e.idx, .int .i64 e.pl.f, .int .i64 e.pl.t, .int .i64 e.pl.d, .int .i64 e.pl.k]) ∧ Below w.heap.size w w' := by
  go_enter Try.func15, Try.ntmps15
  go_wp2_with (go_at_call 55; refine (toPlace_any e.pl _).mono ?_; rintro r w1 ⟨rfl, hb⟩; obtain ⟨hc, hf⟩ := bcell hb; have hz := hb.size; simp only [World.size_alloc] at hz)
  refine bodyPost_ret (v := .agg #[.int .i64 e.kind, .int .i64 e.idx, .int .i64 e.pl.f, .int .i64 e.pl.t, .int .i64 e.pl.d, .int .i64 e.pl.k]) (by simp [results, Try.results15, go_sem, hc, hz]) rfl ⟨rfl, ?_⟩
  repeat' (first | with_reducible exact Below.refl _ _ | with_reducible refine Below.setCell ?_ ?_ _ | with_reducible refine Below.alloc ?_ ?_ _ | with_reducible refine Below.drew ?_ | with_reducible refine Below.trans ?_ (Below.mono hb ?_))
  all_goals (first | omega | (simp; done) | (simp; omega))

theorem infoPlace : (Try.prog.info? 35).map (fun i => (i.zero, i.size, i.bytes)) = some (some (.agg #[.int .i64 0, .int .i64 0, .int .i64 0, .int .i64 0]), 4, 32) := by kernel_rfl

set_option maxHeartbeats 800000 in
theorem toPlaceS_any (a : Option Addr) (xs : List Pl) (cap : Nat) (hx : xs.length ≤ 10000000) (w : World) (rx : SlR w 4 Pl.enc a xs) :
    Calls Try.prog 54 #[.slice a xs.length cap] w fun e w' => ∃ g : Nat, e = .returned (.slice (some ⟨g, 0, none⟩) xs.length xs.length) ∧ w'.ownsRow w.heap.size 35 4 (.slice (some ⟨g, 0, none⟩) xs.length xs.length) xs.length (xs.flatMap Pl.enc) ∧ Below w.heap.size w w' := by
  obtain ⟨i0, hi, hz0, hz1, hz2⟩ := info_parts infoPlace
  go_enter Try.func54, Try.ntmps54
  go_wp2_with (at_make; refine wpList_make_full _ rfl (.tmp 6) (.tmp 6) 31 rfl w.heap.size 35 i0 _ 4 Try.underlying31 hi hz0 hz1 _ _ _ _ xs.length rfl rfl rfl rfl (by rw [hz2]; omega) (by unfold maxLen; omega) (Nat.le_refl _) ?_; intro w1 hown hgrow)
  have hb1 := below_grown hgrow
  rw [show (madeCells (Value.agg #[.int .i64 0, .int .i64 0, .int .i64 0, .int .i64 0]).cells (xs.length * 4)).toList = fill Pl.enc Pl.zs xs 0 by
    rw [show (Value.agg #[.int .i64 0, .int .i64 0, .int .i64 0, .int .i64 0]).cells = Pl.zs.toArray from rfl, made_flat (k := 4) rfl (by omega)]; simp [fill]] at hown
  clear hgrow hi hz0 hz1 hz2
  go_loopw [4] (fun i wr => ∃ k : Nat, k ≤ xs.length ∧ i = .int .i64 k ∧ Below w.heap.size w wr ∧ wr.ownsRow w.heap.size 35 4 (.slice (some ⟨w.heap.size, 0, none⟩) xs.length xs.length) xs.length (fill Pl.enc Pl.zs xs k)) (fun i _ => xs.length - (intOf i).toNat)
  case atStart => exact ⟨0, Nat.zero_le _, rfl, hb1, hown⟩
  case round =>
    clear hown hb1 w1
    obtain ⟨k, hk, rfl, hb, hown⟩ := hrel
    by_cases hlt : k < xs.length
    · obtain ⟨p, hp⟩ : ∃ p, xs[k]? = some p := ⟨xs[k], by simp⟩
      obtain ⟨b, off, rfl, c0, c1, c2, c3⟩ := rdPl (rx.stay hb) hp
      have hgz := (own_lt hown).2
      obtain ⟨v0, e0⟩ := own_some hown (j := k * 4) (by omega)
      obtain ⟨v1, e1⟩ := own_some hown (j := k * 4 + 1) (by omega)
      obtain ⟨v2, e2⟩ := own_some hown (j := k * 4 + 2) (by omega)
      obtain ⟨v3, e3⟩ := own_some hown (j := k * 4 + 3) (by omega)
      have hfz := hown.frozenAt
      have Hown := Lib.hid hown; clear hown
      have Hp := Lib.hid hp; clear hp rx
      go_wp2_with (go_at_call 55; refine (toPlace_any p _).mono ?_; rintro r w1 ⟨rfl, hb1⟩; obtain ⟨hc, hf⟩ := bcell hb1; have f0 := stay hb1 (Nat.le_refl _) e0; have f1 := stay hb1 (Nat.le_refl _) e1; have f2 := stay hb1 (Nat.le_refl _) e2; have f3 := stay hb1 (Nat.le_refl _) e3)
      go_roundw
      case rel =>
        refine ⟨k + 1, by omega, by go_num, ?_, ?_⟩
        · clear hc hf
          repeat' (first | with_reducible exact Below.refl _ _ | with_reducible refine Below.setCell ?_ ?_ _ | with_reducible refine Below.alloc ?_ ?_ _ | with_reducible refine Below.drew ?_ | with_reducible refine Below.trans ?_ (Below.mono hb1 ?_) | with_reducible refine Below.trans ?_ (Below.mono hb ?_))
          all_goals (first | omega | (simp; done) | (simp; omega))
        · rw [← fill4 Hp.out]
          exact own_set4 (own_below Hown.out hb1) _ _ _ _ _
      case measure => simp [intOf]; omega
    · obtain rfl : k = xs.length := by omega
      clear rx
      go_wp2
      go_ret
      refine ⟨w.heap.size, rfl, ?_, hb⟩
      rw [← fill_end (z := Pl.zs)]
      exact hown

set_option maxHeartbeats 400000 in
theorem toEventGraph_any (ev : Int) (a : Option Addr) (xs : List Pl) (cap : Nat) (hx : xs.length ≤ 10000000) (w : World) (rx : SlR w 4 Pl.enc a xs) :
    Calls Try.prog 14 #[.agg #[.int .i64 ev, .slice a xs.length cap]] w fun e w' => ∃ g : Nat, e = .returned (.agg #[.int .i64 ev, .slice (some ⟨g, 0, none⟩) xs.length xs.length]) ∧ w'.ownsRow w.heap.size 35 4 (.slice (some ⟨g, 0, none⟩) xs.length xs.length) xs.length (xs.flatMap Pl.enc) ∧ Below w.heap.size w w' := by
  go_enter Try.func14, Try.ntmps14
  go_wp2_with (go_at_call 54; refine (toPlaceS_any a xs cap hx _ (by repeat' (first | with_reducible exact rx | with_reducible refine SlR.alloc ?_ _ | with_reducible refine SlR.drew ?_))).mono ?_; rintro r w1 ⟨g, rfl, hown, hb⟩; obtain ⟨hc, hf⟩ := bcell hb; have hz := hb.size; simp only [World.size_alloc] at hz)
  refine bodyPost_ret (v := .agg #[.int .i64 ev, .slice (some ⟨g, 0, none⟩) xs.length xs.length]) (by simp [results, Try.results14, go_sem, hc, hz]) rfl ⟨g, rfl, ?_, ?_⟩
  · clear hc hf
    have hg := own_lt hown
    simp only [World.size_alloc] at hg
    repeat' (first | with_reducible refine own_mono hown ?_ | with_reducible refine own_set ?_ ?_ | with_reducible refine World.ownsRow.alloc ?_ _ | with_reducible refine own_drew ?_)
    all_goals (first | omega | (simp; done) | (simp; omega))
  · clear hc hf hown
    repeat' (first | with_reducible exact Below.refl _ _ | with_reducible refine Below.setCell ?_ ?_ _ | with_reducible refine Below.alloc ?_ ?_ _ | with_reducible refine Below.drew ?_ | with_reducible refine Below.trans ?_ (Below.mono hb ?_))
    all_goals (first | omega | (simp; done) | (simp; omega))
end Go.Proofs.Ytemomjcgkpinfaa
