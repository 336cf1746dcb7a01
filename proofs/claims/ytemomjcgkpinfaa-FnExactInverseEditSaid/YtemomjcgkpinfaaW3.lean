/-
  Walks: what is a place, what is a graph.
-/
import Derived.Test.YtemomjcgkpinfaaProg
import Derived.Test.YtemomjcgkpinfaaBase
import Derived.Test.YtemomjcgkpinfaaW1
namespace Go.Proofs.Ytemomjcgkpinfaa
open Go.RowKit

set_option maxHeartbeats 400000 in
theorem isEvent_any (ev x : Int) (sl : Value) (h1 : -1000000 ≤ ev) (h2 : ev ≤ 1000000) (w : World) :
    Calls Try.prog 85 #[.agg #[.int .i64 ev, sl], .int .i64 x] w fun e w' => e = .returned (.bool (wi x 0 (ev - 1))) ∧ Below w.heap.size w w' := by
  go_enter Try.func85, Try.ntmps85
  go_wp2_with (go_at_call 74; refine (within_any _ _ _ _).mono ?_; rintro e w' ⟨rfl, rfl⟩)
  go_ret
  exact ⟨rfl, (Below.refl _ _).alloc (Nat.le_refl _) _⟩

set_option maxHeartbeats 800000 in
theorem isPlace_any (ev : Int) (p : Pl) (a : Option Addr) (n cap : Nat) (h1 : -1000000 ≤ ev) (h2 : ev ≤ 1000000) (w : World) :
    Calls Try.prog 77 #[.agg #[.int .i64 ev, .slice a n cap], .agg #[.int .i64 p.f, .int .i64 p.t, .int .i64 p.d, .int .i64 p.k]] w fun e w' => e = .returned (.bool (plB (ev - 1) p)) ∧ Below w.heap.size w w' := by
  go_enter Try.func77, Try.ntmps77
  go_wp2_with (first | (go_at_call 85; refine (isEvent_any _ _ _ h1 h2 _).mono ?_; rintro e w' ⟨rfl, hb⟩; (try have hb := below_trans' (by assumption) hb); obtain ⟨hc, hf⟩ := bcell hb; have hz := (hb).size; (try simp only [World.size_alloc, World.size_setCell] at hz)) | (go_at_call 74; refine (within_any _ _ _ _).mono ?_; rintro e w' ⟨rfl, rfl⟩))
  all_goals go_ret
  all_goals refine ⟨ret_bool (by simp [plB, *]), ?_⟩
  all_goals clear hc hf
  repeat' (first | with_reducible exact Below.refl _ _ | with_reducible refine Below.setCell ?_ ?_ _ | with_reducible refine Below.alloc ?_ ?_ _ | with_reducible refine Below.drew ?_ | with_reducible refine Below.trans ?_ (Below.mono (by assumption) ?_))
  all_goals (first | omega | (simp; done) | (simp; omega))

set_option maxHeartbeats 800000 in
theorem l11Place_any (ev : Int) (p : Pl) (w : World) :
    Calls Try.prog 53 #[.agg #[.int .i64 p.f, .int .i64 p.t, .int .i64 p.d, .int .i64 p.k], .int .i64 ev] w fun e w' => e = .returned (.bool (plB (wrap64 (ev - 1)) p)) ∧ Below w.heap.size w w' := by
  go_enter Try.func53, Try.ntmps53
  go_wp2_with (go_at_call 52; refine (l01In_any _ _ _ _).mono ?_; rintro e w' ⟨rfl, rfl⟩)
  all_goals go_ret
  all_goals exact ⟨ret_bool (by simp [plB, *]), (Below.refl _ _).alloc (Nat.le_refl _) _⟩

set_option maxHeartbeats 800000 in
theorem sIsEventGraph_any (ev : Int) (a : Option Addr) (xs : List Pl) (cap : Nat) (hx : xs.length ≤ 10000000) (w : World) (rx : SlR w 4 Pl.enc a xs) :
    Calls Try.prog 51 #[.agg #[.int .i64 ev, .slice a xs.length cap]] w fun e w' => e = .returned (.bool (isEG ev xs)) ∧ Below w.heap.size w w' := by
  rw [← isEG_w]
  go_enter Try.func51, Try.ntmps51
  go_wp2
  go_loopw [3] (fun i wr => ∃ k : Nat, k ≤ xs.length ∧ i = .int .i64 k ∧ Below (w.heap.size + 1) (w.alloc (.cells #[.int .i64 ev, .slice a xs.length cap] 33)) wr ∧ xs.all (plB (wrap64 (ev - 1))) = (xs.drop k).all (plB (wrap64 (ev - 1)))) (fun i _ => xs.length - (intOf i).toNat)
  case atStart => exact ⟨0, Nat.zero_le _, rfl, Below.refl _ _, rfl⟩
  case round =>
    obtain ⟨k, hk, rfl, hb, he⟩ := hrel
    have hz := hb.size
    have g0 := stay hb (by simp) (a := ⟨w.heap.size, 0, none⟩) (v := .int .i64 ev) (by simp)
    have g1 := stay hb (by simp) (a := ⟨w.heap.size, 1, none⟩) (v := .slice a xs.length cap) (by simp)
    have hb0 : Below w.heap.size w wr := ((Below.refl _ _).alloc (Nat.le_refl _) _).trans (hb.mono (by omega))
    by_cases hlt : k < xs.length
    · obtain ⟨p, hp⟩ : ∃ p, xs[k]? = some p := ⟨xs[k], by simp⟩
      obtain ⟨b, off, rfl, c0, c1, c2, c3⟩ := rdPl (rx.stay hb0) hp
      have lx := fun x : Later wr.heap.size wr => x.le
      have g0 := fun x => stay (lx x) (Nat.le_refl _) g0
      have g1 := fun x => stay (lx x) (Nat.le_refl _) g1
      have c0 := fun x => stay (lx x) (Nat.le_refl _) c0
      have c1 := fun x => stay (lx x) (Nat.le_refl _) c1
      have c2 := fun x => stay (lx x) (Nat.le_refl _) c2
      have c3 := fun x => stay (lx x) (Nat.le_refl _) c3
      have Hp := Lib.hid hp
      have He := Lib.hid he
      clear hp rx lx he
      go_wp2_with fail
      refine wp_region_later wr.heap.size (by kernel_rfl) (by kernel_rfl) ?_
      repeat (go_big_quiet_step (refine later_call (Nat.le_refl _) (l11Place_any _ _ _)))
      refine wpQuiet_nil ?_
      rintro _ ⟨x, rfl⟩
      clear g0 g1 c0 c1 c2 c3
      cases hpq : plB (wrap64 (ev - 1)) p
      · go_wp2
        go_ret
        exact ⟨ret_bool (by rw [all_no Hp.out hpq]; rfl), hb0.trans (x.le.mono hb0.size)⟩
      · go_wp2
        go_roundw
        case rel => exact ⟨k + 1, by omega, by go_num, hb.trans (x.le.mono (by simpa using hz)), all_step Hp.out He.out hpq⟩
        case measure => simp [intOf]; omega
    · obtain rfl : k = xs.length := by omega
      have Hd := Lib.hid (all_end he); clear he rx
      go_wp2_with (go_at_call 52; refine (l01In_any _ _ _ _).mono ?_; rintro e w' ⟨rfl, rfl⟩)
      all_goals go_ret
      all_goals exact ⟨ret_bool (by rw [Hd.out]; simp [*] <;> omega), hb0⟩

/-- 'isPlace' handed to the library: 'func(p Place) bool { return !isPlace(g, p) }', g in a box. -/
theorem notPlace_any (ev : Int) (p : Pl) (a : Option Addr) (n cap B : Nat) (h1 : -1000000 ≤ ev) (h2 : ev ≤ 1000000) (w : World) (g0 : w.cell? ⟨B, 0, none⟩ = some (.int .i64 ev)) (g1 : w.cell? ⟨B, 1, none⟩ = some (.slice a n cap)) :
    Calls Try.prog 76 #[.agg #[.int .i64 p.f, .int .i64 p.t, .int .i64 p.d, .int .i64 p.k], .pointer (some ⟨B, 0, none⟩)] w fun e w' => e = .returned (.bool (!plB (ev - 1) p)) ∧ Below w.heap.size w w' := by
  have hB := World.block_lt_of_cell? _ _ g0
  have e0 := fun o => (World.cell?_alloc_lt (a := ⟨B, 0, none⟩) w o hB).trans g0
  have e1 := fun o => (World.cell?_alloc_lt (a := ⟨B, 1, none⟩) w o hB).trans g1
  go_enter Try.func76, Try.ntmps76
  go_wp2_with (go_at_call 77; refine (isPlace_any ev p a n cap h1 h2 _).mono ?_; rintro e w' ⟨rfl, hb⟩)
  go_ret
  refine ⟨rfl, ?_⟩
  clear e0 e1
  repeat' (first | with_reducible exact Below.refl _ _ | with_reducible refine Below.setCell ?_ ?_ _ | with_reducible refine Below.alloc ?_ ?_ _ | with_reducible refine Below.drew ?_ | with_reducible refine Below.trans ?_ (Below.mono (by assumption) ?_))
  all_goals (first | omega | (simp; done) | (simp; omega))

/-- The first place in a slice of which f holds. -/
def idxPl (f : Pl → Bool) (xs : List Pl) : Int := match xs.findIdx? f with | some i => i | none => -1
set_option maxHeartbeats 800000 in
theorem idxNotPlace_any (ev : Int) (xs : List Pl) (a : Option Addr) (cap n cap' B : Nat) (a' : Option Addr) (h1 : -1000000 ≤ ev) (h2 : ev ≤ 1000000) (hx : xs.length ≤ 10000000) (w : World) (rx : SlR w 4 Pl.enc a xs)
    (g0 : w.cell? ⟨B, 0, none⟩ = some (.int .i64 ev)) (g1 : w.cell? ⟨B, 1, none⟩ = some (.slice a' n cap')) :
    Calls Try.prog 84 #[.slice a xs.length cap, .func (.func 76) #[] #[.pointer (some ⟨B, 0, none⟩)]] w fun e w' => (∃ i : Int, e = .returned (.int .i64 i) ∧ (0 ≤ i ↔ xs.all (plB (ev - 1)) = false)) ∧ Below w.heap.size w w' := by
  go_enter Try.func84, Try.ntmps84
  go_wp2
  go_loopw [8] (fun i wr => ∃ k : Nat, k ≤ xs.length ∧ i = .int .i64 k ∧ Below w.heap.size w wr ∧ xs.all (plB (ev - 1)) = (xs.drop k).all (plB (ev - 1))) (fun i _ => xs.length - (intOf i).toNat)
  case atStart => exact ⟨0, Nat.zero_le _, rfl, Below.refl _ _, rfl⟩
  case round =>
    obtain ⟨k, hk, rfl, hb, he⟩ := hrel
    by_cases hlt : k < xs.length
    · obtain ⟨p, hp⟩ : ∃ p, xs[k]? = some p := ⟨xs[k], by simp⟩
      obtain ⟨b, off, rfl, c0, c1, c2, c3⟩ := rdPl (rx.stay hb) hp
      have G0 := Lib.hid (stay hb (Nat.le_refl _) g0)
      have G1 := Lib.hid (stay hb (Nat.le_refl _) g1)
      have Hp := Lib.hid hp
      have He := Lib.hid he
      clear hp rx he g0 g1
      cases hpq : plB (ev - 1) p
      · go_wp2_with (go_at_call 76; refine (notPlace_any ev p a' n cap' B h1 h2 _ G0.out G1.out).mono ?_; rintro e w' ⟨rfl, hb'⟩)
        go_ret
        exact ⟨⟨k, rfl, by rw [all_no Hp.out hpq]; simp⟩, below_trans' hb hb'⟩
      · go_wp2_with (go_at_call 76; refine (notPlace_any ev p a' n cap' B h1 h2 _ G0.out G1.out).mono ?_; rintro e w' ⟨rfl, hb'⟩)
        go_roundw
        case rel => exact ⟨k + 1, by omega, by go_num, below_trans' hb hb', all_step Hp.out He.out hpq⟩
        case measure => simp [intOf]; omega
    · obtain rfl : k = xs.length := by omega
      have Hd := Lib.hid (all_end he); clear he rx g0 g1
      go_wp2
      go_ret
      exact ⟨⟨-1, rfl, by rw [Hd.out]; simp⟩, hb⟩

set_option maxHeartbeats 800000 in
theorem hasNotPlace_any (ev : Int) (xs : List Pl) (a : Option Addr) (cap n cap' B : Nat) (a' : Option Addr) (h1 : -1000000 ≤ ev) (h2 : ev ≤ 1000000) (hx : xs.length ≤ 10000000) (w : World) (rx : SlR w 4 Pl.enc a xs)
    (g0 : w.cell? ⟨B, 0, none⟩ = some (.int .i64 ev)) (g1 : w.cell? ⟨B, 1, none⟩ = some (.slice a' n cap')) :
    Calls Try.prog 75 #[.slice a xs.length cap, .func (.func 76) #[] #[.pointer (some ⟨B, 0, none⟩)]] w fun e w' => e = .returned (.bool (!xs.all (plB (ev - 1)))) ∧ Below w.heap.size w w' := by
  go_enter Try.func75, Try.ntmps75
  go_wp2_with (go_at_call 84; refine (idxNotPlace_any ev xs a cap n cap' B a' h1 h2 hx _ rx g0 g1).mono ?_; rintro e w' ⟨⟨i, rfl, hi⟩, hb⟩; have Hi := Lib.hid hi; clear hi)
  go_ret
  refine ⟨ret_bool ?_, hb⟩
  have := Hi.out
  by_cases h : 0 ≤ i
  · rw [this.1 h]; simpa using h
  · cases hh : xs.all (plB (ev - 1))
    · exact absurd (this.2 hh) h
    · simpa using h

set_option maxHeartbeats 800000 in
theorem iIsEventGraph_any (ev : Int) (xs : List Pl) (a : Option Addr) (cap : Nat) (hx : xs.length ≤ 10000000) (w : World) (rx : SlR w 4 Pl.enc a xs) :
    Calls Try.prog 56 #[.agg #[.int .i64 ev, .slice a xs.length cap]] w fun e w' => e = .returned (.bool (isEG ev xs)) ∧ Below w.heap.size w w' := by
  have hmf : ∀ (fn : Fn) (first cap : Array Value) (w : World), (Instr.makeFunc fn first cap).run Try.prog w = .ok (.func fn first cap) w := fun _ _ _ _ => rfl
  cases hev : wi ev 1 10
  · go_enter Try.func56, Try.ntmps56
    go_wp2_with (go_at_call 74; refine (within_any _ _ _ _).mono ?_; rintro e w' ⟨rfl, rfl⟩)
    go_ret
    refine ⟨ret_bool (by simp [isEG, hev]), ?_⟩
    repeat' (first | with_reducible exact Below.refl _ _ | with_reducible refine Below.setCell ?_ ?_ _ | with_reducible refine Below.alloc ?_ ?_ _ | with_reducible refine Below.drew ?_ | with_reducible refine Below.trans ?_ (Below.mono (by assumption) ?_))
    all_goals (first | omega | (simp; done) | (simp; omega))
  · have hb2 := wi_iff.1 hev
    go_enter Try.func56, Try.ntmps56
    go_wp2_with (first | (go_at_call 74; refine (within_any _ _ _ _).mono ?_; rintro e w' ⟨rfl, rfl⟩) | (go_at_call 75; refine (hasNotPlace_any ev xs a cap xs.length cap w.heap.size a (by omega) (by omega) hx _ (by repeat' (first | with_reducible exact rx | with_reducible refine SlR.alloc ?_ _ | with_reducible refine SlR.drew ?_)) (by simp) (by simp)).mono ?_; rintro e w' ⟨rfl, hb⟩))
    all_goals go_ret
    all_goals refine ⟨ret_bool (by simp [isEG, *] <;> grind), ?_⟩
    repeat' (first | with_reducible exact Below.refl _ _ | with_reducible refine Below.setCell ?_ ?_ _ | with_reducible refine Below.alloc ?_ ?_ _ | with_reducible refine Below.drew ?_ | with_reducible refine Below.trans ?_ (Below.mono (by assumption) ?_))
    all_goals (first | omega | (simp; done) | (simp; omega))

end Go.Proofs.Ytemomjcgkpinfaa
