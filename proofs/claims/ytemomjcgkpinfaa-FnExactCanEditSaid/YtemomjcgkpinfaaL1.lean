/-
  The law on CanEdit: its walk.
-/
import Derived.Test.YtemomjcgkpinfaaProg
import Derived.Test.YtemomjcgkpinfaaBase
import Derived.Test.YtemomjcgkpinfaaW1
import Derived.Test.YtemomjcgkpinfaaW2
import Derived.Test.YtemomjcgkpinfaaW3
import Derived.Test.YtemomjcgkpinfaaW4
import Derived.Deep.RegionHeld3
namespace Go.Proofs.Ytemomjcgkpinfaa
open Go.RowKit

set_option maxHeartbeats 1600000 in
theorem lawCanEdit (ev : Int) (a : Option Addr) (xs : List Pl) (cap : Nat) (e : Ed) (hn : xs.length ≤ 9223372036854775807) (w : World) (rx : SlR w 4 Pl.enc a xs) :
    Calls Try.prog 3 #[.agg #[.int .i64 ev, .slice a xs.length cap], .agg #[.int .i64 e.kind, .int .i64 e.idx, .int .i64 e.pl.f, .int .i64 e.pl.t, .int .i64 e.pl.d, .int .i64 e.pl.k]] w fun r w' => r = .returned (.bool true) ∧ Below w.heap.size w w' := by
  by_cases hlt : (1048576 : Int) < xs.length
  · go_enter Try.func3, Try.ntmps3
    go_wp2_with (go_at_call 12; refine (szEventGraph_any ev a _ cap _ (by omega) (by omega) hn _).mono ?_; rintro r w1 ⟨rfl, hb⟩; (try have hb := below_trans' (by assumption) hb); obtain ⟨hc, hf⟩ := bcell hb; have hz := (hb).size; (try simp only [World.size_alloc, World.size_setCell] at hz))
    go_ret
    refine ⟨rfl, ?_⟩
    clear hc hf
    repeat' (first | with_reducible exact Below.refl _ _ | with_reducible refine Below.setCell ?_ ?_ _ | with_reducible refine Below.alloc ?_ ?_ _ | with_reducible refine Below.drew ?_ | with_reducible refine Below.trans ?_ (Below.mono (by assumption) ?_))
    all_goals (first | omega | (simp; done) | (simp; omega))
  · have hx : xs.length ≤ 10000000 := by omega
    go_enter Try.func3, Try.ntmps3
    go_wp2_with (go_at_call 12; refine (szEventGraph_any ev a _ cap _ (by omega) (by omega) hn _).mono ?_; rintro r w1 ⟨rfl, hb1⟩; have hz := hb1.size; simp only [World.size_alloc] at hz)
    have g0 := stay hb1 (Nat.le_refl _) (a := ⟨w.heap.size, 0, none⟩) (v := .int .i64 ev) (by simp)
    have g1 := stay hb1 (Nat.le_refl _) (a := ⟨w.heap.size, 1, none⟩) (v := .slice a xs.length cap) (by simp)
    have e0 := stay hb1 (Nat.le_refl _) (a := ⟨w.heap.size + 1, 0, none⟩) (v := .int .i64 e.kind) (by simp)
    have e1 := stay hb1 (Nat.le_refl _) (a := ⟨w.heap.size + 1, 1, none⟩) (v := .int .i64 e.idx) (by simp)
    have e2 := stay hb1 (Nat.le_refl _) (a := ⟨w.heap.size + 1, 2, none⟩) (v := .int .i64 e.pl.f) (by simp)
    have e3 := stay hb1 (Nat.le_refl _) (a := ⟨w.heap.size + 1, 3, none⟩) (v := .int .i64 e.pl.t) (by simp)
    have e4 := stay hb1 (Nat.le_refl _) (a := ⟨w.heap.size + 1, 4, none⟩) (v := .int .i64 e.pl.d) (by simp)
    have e5 := stay hb1 (Nat.le_refl _) (a := ⟨w.heap.size + 1, 5, none⟩) (v := .int .i64 e.pl.k) (by simp)
    have rx1 : SlR w1 4 Pl.enc a xs := SlR.stay (by repeat' (first | with_reducible exact rx | with_reducible refine SlR.alloc ?_ _ | with_reducible refine SlR.drew ?_)) hb1
    have hS : ∀ x, Below w1.heap.size w1 x → Below w1.heap.size w1 x ∧ SlR x 4 Pl.enc a xs ∧ x.cell? ⟨w.heap.size, 0, none⟩ = some (.int .i64 ev) ∧ x.cell? ⟨w.heap.size, 1, none⟩ = some (.slice a xs.length cap) ∧
        x.cell? ⟨w.heap.size + 1, 0, none⟩ = some (.int .i64 e.kind) ∧ x.cell? ⟨w.heap.size + 1, 1, none⟩ = some (.int .i64 e.idx) ∧ x.cell? ⟨w.heap.size + 1, 2, none⟩ = some (.int .i64 e.pl.f) ∧
        x.cell? ⟨w.heap.size + 1, 3, none⟩ = some (.int .i64 e.pl.t) ∧ x.cell? ⟨w.heap.size + 1, 4, none⟩ = some (.int .i64 e.pl.d) ∧ x.cell? ⟨w.heap.size + 1, 5, none⟩ = some (.int .i64 e.pl.k) :=
      fun x hx => ⟨hx, rx1.stay hx, stay hx (Nat.le_refl _) g0, stay hx (Nat.le_refl _) g1, stay hx (Nat.le_refl _) e0, stay hx (Nat.le_refl _) e1, stay hx (Nat.le_refl _) e2, stay hx (Nat.le_refl _) e3, stay hx (Nat.le_refl _) e4, stay hx (Nat.le_refl _) e5⟩
    clear g0 g1 e0 e1 e2 e3 e4 e5
    go_wp2_with fail
    go_region_held3 (fun x => Below w1.heap.size w1 x ∧ SlR x 4 Pl.enc a xs ∧ x.cell? ⟨w.heap.size, 0, none⟩ = some (.int .i64 ev) ∧ x.cell? ⟨w.heap.size, 1, none⟩ = some (.slice a xs.length cap) ∧
        x.cell? ⟨w.heap.size + 1, 0, none⟩ = some (.int .i64 e.kind) ∧ x.cell? ⟨w.heap.size + 1, 1, none⟩ = some (.int .i64 e.idx) ∧ x.cell? ⟨w.heap.size + 1, 2, none⟩ = some (.int .i64 e.pl.f) ∧
        x.cell? ⟨w.heap.size + 1, 3, none⟩ = some (.int .i64 e.pl.t) ∧ x.cell? ⟨w.heap.size + 1, 4, none⟩ = some (.int .i64 e.pl.d) ∧ x.cell? ⟨w.heap.size + 1, 5, none⟩ = some (.int .i64 e.pl.k))
      (first | exact hS _ (Below.refl _ _).drew | exact hS _ (below_trans' (And.left (by assumption)) (by assumption)))
      (first
        | (go_at_call 14; obtain ⟨_, hR, _⟩ := ‹Below w1.heap.size w1 _ ∧ _›; refine (toEventGraph_any ev a xs cap hx _ hR).mono ?_; rintro r w2 ⟨g, rfl, hown, hb2⟩)
        | (go_at_call 15; refine (toEdit_any e _).mono ?_; rintro r w3 ⟨rfl, hb3⟩)
        | (go_at_call 13; refine (sCanEdit_any ev _ xs _ e hx _ (own_slr Pl.enc_len (own_below hown hb3))).mono ?_; rintro r w4 ⟨rfl, hb4⟩))
    obtain ⟨hB4, hR4, f0, f1, -⟩ := ‹Below w1.heap.size w1 w4 ∧ _›
    go_wp2_with (go_at_call 14; refine (toEventGraph_any ev a xs cap hx _ hR4).mono ?_; rintro r w5 ⟨g5, rfl, hown5, hb5⟩)
    have hB5 := below_trans' hB4 hb5
    have hB7 := hB5.alloc hB5.size (.cells #[.int .i64 ev, .slice (some ⟨g5, 0, none⟩) xs.length xs.length] 33)
    have r5 : SlR (w5.alloc (.cells #[.int .i64 ev, .slice (some ⟨g5, 0, none⟩) xs.length xs.length] 33)) 4 Pl.enc (some ⟨g5, 0, none⟩) xs := (own_slr Pl.enc_len hown5).alloc _
    have hz5 := hB5.size
    have F := fun x : Later (w5.heap.size + 1) (w5.alloc (.cells #[.int .i64 ev, .slice (some ⟨g5, 0, none⟩) xs.length xs.length] 33)) => hS x.W (hB7.trans (x.le.mono (by omega)))
    have G0 := fun x : Later (w5.heap.size + 1) (w5.alloc (.cells #[.int .i64 ev, .slice (some ⟨g5, 0, none⟩) xs.length xs.length] 33)) => stay x.le (by simp) (a := ⟨w5.heap.size, 0, none⟩) (v := .int .i64 ev) (by simp)
    have G1 := fun x : Later (w5.heap.size + 1) (w5.alloc (.cells #[.int .i64 ev, .slice (some ⟨g5, 0, none⟩) xs.length xs.length] 33)) => stay x.le (by simp) (a := ⟨w5.heap.size, 1, none⟩) (v := .slice (some ⟨g5, 0, none⟩) xs.length xs.length) (by simp)
    clear f0 f1 hown hb2 hb3 hb4 hB4 hR4 hb5 hown5
    refine wp_region_later (w5.heap.size + 1) (by kernel_rfl) (by kernel_rfl) ?_
    repeat (go_big_quiet_step (first | refine later_call (by simp) (toEdit_any e _) | refine later_call (by simp) (iCanEdit_any ev _ xs _ e hx _ (r5.stay (Below.mono (Later.le _) (by simp))))))
    refine wpQuiet_nil ?_
    rintro _ ⟨x, rfl⟩
    have hB8 := hB7.trans (x.le.mono (by omega))
    have r8 := r5.stay (x.le.mono (by simp))
    obtain ⟨-, hR8, f0, f1, -⟩ := F x
    have g0 := G0 x
    have g1 := G1 x
    clear F G0 G1 r5 hB7 rx1
    have hz8 := x.le.size
    simp only [World.size_alloc] at hz8
    obtain ⟨W, hW⟩ : ∃ W, W = x.W := ⟨_, rfl⟩
    rw [← hW] at hB8 r8 hR8 f0 f1 g0 g1 hz8 ⊢
    clear hW
    have hS : ∀ x, Below W.heap.size W x → Below W.heap.size W x ∧ SlR x 4 Pl.enc a xs ∧ SlR x 4 Pl.enc (some ⟨g5, 0, none⟩) xs ∧ x.cell? ⟨w.heap.size, 0, none⟩ = some (.int .i64 ev) ∧ x.cell? ⟨w.heap.size, 1, none⟩ = some (.slice a xs.length cap) ∧
        x.cell? ⟨w5.heap.size, 0, none⟩ = some (.int .i64 ev) ∧ x.cell? ⟨w5.heap.size, 1, none⟩ = some (.slice (some ⟨g5, 0, none⟩) xs.length xs.length) :=
      fun x hx => ⟨hx, hR8.stay hx, r8.stay hx, stay hx (Nat.le_refl _) f0, stay hx (Nat.le_refl _) f1, stay hx (Nat.le_refl _) g0, stay hx (Nat.le_refl _) g1⟩
    clear f0 f1 g0 g1 r8 hR8
    go_wp2_with fail
    go_region_held3 (fun x => Below W.heap.size W x ∧ SlR x 4 Pl.enc a xs ∧ SlR x 4 Pl.enc (some ⟨g5, 0, none⟩) xs ∧ x.cell? ⟨w.heap.size, 0, none⟩ = some (.int .i64 ev) ∧ x.cell? ⟨w.heap.size, 1, none⟩ = some (.slice a xs.length cap) ∧
        x.cell? ⟨w5.heap.size, 0, none⟩ = some (.int .i64 ev) ∧ x.cell? ⟨w5.heap.size, 1, none⟩ = some (.slice (some ⟨g5, 0, none⟩) xs.length xs.length))
      (first | exact hS _ (Below.refl _ _).drew | exact hS _ (below_trans' (And.left (by assumption)) (by assumption)))
      (first
        | (go_at_call 14; obtain ⟨_, hR, hR', _⟩ := ‹Below W.heap.size W _ ∧ _›; refine (toEventGraph_any ev a xs cap hx _ hR).mono ?_; rintro r w2 ⟨g, rfl, hown, hb2⟩; have hR2 := hR'.stay hb2)
        | (go_at_call 17; refine (eqEventGraph_any ev ev _ _ xs xs _ _ hx hx _ hR2 (own_slr Pl.enc_len hown)).mono ?_; rintro r w4 ⟨rfl, hb4⟩; rw [eqGr_rfl]))
    obtain ⟨hB10, -⟩ := ‹Below W.heap.size W w4 ∧ _›
    go_wp2
    go_ret
    refine ⟨rfl, ?_⟩
    have hB := below_trans' hB8 hB10
    clear hS hB8 hB10 hB5
    repeat' (first | with_reducible exact Below.refl _ _ | with_reducible refine Below.setCell ?_ ?_ _ | with_reducible refine Below.alloc ?_ ?_ _ | with_reducible refine Below.drew ?_ | with_reducible refine Below.trans ?_ (Below.mono hB ?_) | with_reducible refine Below.trans ?_ (Below.mono hb1 ?_))
    all_goals (first | omega | (simp; done) | (simp; omega))

end Go.Proofs.Ytemomjcgkpinfaa
