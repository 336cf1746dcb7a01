/-
  Walks: the inverse of an edit.
-/
import Derived.Test.YtemomjcgkpinfaaProg
import Derived.Test.YtemomjcgkpinfaaBase2
import Derived.Test.YtemomjcgkpinfaaW3
import Derived.Test.YtemomjcgkpinfaaW4
import Derived.Deep.RegionHeld3
import Derived.StillTailTactics
namespace Go.Proofs.Ytemomjcgkpinfaa
open Go.RowKit

/-- The inverse of an edit. -/
def invEd (xs : List Pl) (e : Ed) : Ed :=
  if e.kind = 1 then ⟨2, e.idx, plZ⟩ else ⟨if e.kind = 2 then 1 else 3, e.idx, xs.getD e.idx.toNat plZ⟩
def edZ : Ed := ⟨0, 0, plZ⟩
def edCode (ev : Int) (xs : List Pl) (e : Ed) : Int := if isEG ev xs then (if canEd ev xs e then 0 else 5) else 1
/-- An edit's index lies in the list, where it needs to. -/
theorem canEd_idx {ev : Int} {xs : List Pl} {e : Ed} (h : canEd ev xs e = true) (hk : e.kind ≠ 1) : 0 ≤ e.idx ∧ e.idx < xs.length := by
  unfold canEd at h
  rw [if_neg hk] at h
  split at h
  · simp only [Bool.and_eq_true] at h; have := wi_iff.1 h.1; omega
  · split at h
    · simp only [Bool.and_eq_true] at h; have := wi_iff.1 h.1; omega
    · cases h

set_option maxHeartbeats 1600000 in
theorem inverseEdit_any (ev : Int) (a : Option Addr) (xs : List Pl) (cap : Nat) (e : Ed) (hx : xs.length ≤ 10000000) (hi : e.kind ≠ 1 → 0 ≤ e.idx ∧ e.idx < xs.length) (w : World) (rx : SlR w 4 Pl.enc a xs) :
    Calls Try.prog 62 #[.agg #[.int .i64 ev, .slice a xs.length cap], .agg #[.int .i64 e.kind, .int .i64 e.idx, .int .i64 e.pl.f, .int .i64 e.pl.t, .int .i64 e.pl.d, .int .i64 e.pl.k]] w fun r w' => r = .returned (invEd xs e).val ∧ Below w.heap.size w w' := by
  by_cases h1 : e.kind = 1
  · have hb : (e.kind == 1) = true := by simp [h1]
    have H1 := Lib.hid h1; clear h1 hi
    go_enter Try.func62, Try.ntmps62
    go_wp2
    refine bodyPost_ret (v := (invEd xs e).val) (by simp [results, Try.results62, go_sem, invEd, Ed.val, plZ, H1.out]) rfl ⟨rfl, ?_⟩
    repeat' (first | with_reducible exact Below.refl _ _ | with_reducible refine Below.setCell ?_ ?_ _ | with_reducible refine Below.alloc ?_ ?_ _ | with_reducible refine Below.drew ?_ | with_reducible refine Below.trans ?_ (Below.mono (by assumption) ?_))
    all_goals (first | omega | (simp; done) | (simp; omega))
  · obtain ⟨h0, hlt⟩ := hi h1
    obtain ⟨i, hi'⟩ : ∃ i : Nat, e.idx = i := ⟨e.idx.toNat, by omega⟩
    obtain ⟨p, hp⟩ : ∃ p, xs[i]? = some p := ⟨xs[i]'(by omega), by simp⟩
    obtain ⟨b, off, rfl, c0, c1, c2, c3⟩ := rdPl rx hp
    have hget : invEd xs e = ⟨if e.kind = 2 then 1 else 3, i, p⟩ := by
      rw [invEd, if_neg h1, hi', show ((i : Int)).toNat = i by omega, List.getD_eq_getElem?_getD, hp]; rfl
    have hb : (e.kind == 1) = false := by simp [h1]
    have Hget := Lib.hid hget
    have hilt : i < xs.length := by omega
    have hbw : b < w.heap.size := World.block_lt_of_cell? _ _ c0
    clear hget hi rx hp h0 hlt
    have d0 := stay (((Below.refl w.heap.size w).alloc (Nat.le_refl _) (.cells #[.int .i64 ev, .slice (some ⟨b, off, none⟩) xs.length cap] 33)).alloc (by simp) (.cells #[.int .i64 e.kind, .int .i64 i, .int .i64 e.pl.f, .int .i64 e.pl.t, .int .i64 e.pl.d, .int .i64 e.pl.k] 37)) (Nat.le_refl _) c0
    have d1 := stay (((Below.refl w.heap.size w).alloc (Nat.le_refl _) (.cells #[.int .i64 ev, .slice (some ⟨b, off, none⟩) xs.length cap] 33)).alloc (by simp) (.cells #[.int .i64 e.kind, .int .i64 i, .int .i64 e.pl.f, .int .i64 e.pl.t, .int .i64 e.pl.d, .int .i64 e.pl.k] 37)) (Nat.le_refl _) c1
    have d2 := stay (((Below.refl w.heap.size w).alloc (Nat.le_refl _) (.cells #[.int .i64 ev, .slice (some ⟨b, off, none⟩) xs.length cap] 33)).alloc (by simp) (.cells #[.int .i64 e.kind, .int .i64 i, .int .i64 e.pl.f, .int .i64 e.pl.t, .int .i64 e.pl.d, .int .i64 e.pl.k] 37)) (Nat.le_refl _) c2
    have d3 := stay (((Below.refl w.heap.size w).alloc (Nat.le_refl _) (.cells #[.int .i64 ev, .slice (some ⟨b, off, none⟩) xs.length cap] 33)).alloc (by simp) (.cells #[.int .i64 e.kind, .int .i64 i, .int .i64 e.pl.f, .int .i64 e.pl.t, .int .i64 e.pl.d, .int .i64 e.pl.k] 37)) (Nat.le_refl _) c3
    have n0 : ¬ w.heap.size + 1 + 1 = b := by omega
    have n1 : ¬ b = w.heap.size + 1 + 1 := by omega
    by_cases h2 : e.kind = 2
    · have hb2 : (e.kind == 2) = true := by simp [h2]
      have H2 := Lib.hid h2; clear h2 h1
      rw [hi'] at *
      go_enter Try.func62, Try.ntmps62
      go_wp2_with fail
      go_region_held3 (fun x => x.cell? ⟨w.heap.size, 1, none⟩ = some (.slice (some ⟨b, off, none⟩) xs.length cap) ∧ x.cell? ⟨w.heap.size + 1, 1, none⟩ = some (.int .i64 i) ∧ x.cell? ⟨b, off + i * 4, none⟩ = some (.int .i64 p.f) ∧ x.cell? ⟨b, off + i * 4 + 1, none⟩ = some (.int .i64 p.t) ∧
        x.cell? ⟨b, off + i * 4 + 2, none⟩ = some (.int .i64 p.d) ∧ x.cell? ⟨b, off + i * 4 + 3, none⟩ = some (.int .i64 p.k)) (go_keep) (fail)
      go_wp2
      refine bodyPost_ret (v := (invEd xs e).val) (by rw [Hget.out]; simp [results, Try.results62, go_sem, Ed.val, H2.out]) rfl ⟨rfl, ?_⟩
      repeat' (first | with_reducible exact Below.refl _ _ | with_reducible refine Below.setCell ?_ ?_ _ | with_reducible refine Below.alloc ?_ ?_ _ | with_reducible refine Below.drew ?_ | with_reducible refine Below.trans ?_ (Below.mono (by assumption) ?_))
      all_goals (first | omega | (simp; done) | (simp; omega))
    · have hb2 : (e.kind == 2) = false := by simp [h2]
      have H2 := Lib.hid h2; clear h2 h1
      rw [hi'] at *
      go_enter Try.func62, Try.ntmps62
      go_wp2_with fail
      go_region_held3 (fun x => x.cell? ⟨w.heap.size, 1, none⟩ = some (.slice (some ⟨b, off, none⟩) xs.length cap) ∧ x.cell? ⟨w.heap.size + 1, 1, none⟩ = some (.int .i64 i) ∧ x.cell? ⟨b, off + i * 4, none⟩ = some (.int .i64 p.f) ∧ x.cell? ⟨b, off + i * 4 + 1, none⟩ = some (.int .i64 p.t) ∧
        x.cell? ⟨b, off + i * 4 + 2, none⟩ = some (.int .i64 p.d) ∧ x.cell? ⟨b, off + i * 4 + 3, none⟩ = some (.int .i64 p.k)) (go_keep) (fail)
      go_wp2
      refine bodyPost_ret (v := (invEd xs e).val) (by rw [Hget.out]; simp [results, Try.results62, go_sem, Ed.val, H2.out]) rfl ⟨rfl, ?_⟩
      repeat' (first | with_reducible exact Below.refl _ _ | with_reducible refine Below.setCell ?_ ?_ _ | with_reducible refine Below.alloc ?_ ?_ _ | with_reducible refine Below.drew ?_ | with_reducible refine Below.trans ?_ (Below.mono (by assumption) ?_))
      all_goals (first | omega | (simp; done) | (simp; omega))

set_option maxHeartbeats 1600000 in
theorem l29Inverse_any (ev : Int) (a : Option Addr) (xs : List Pl) (cap : Nat) (e : Ed) (hx : xs.length ≤ 10000000) (hi : e.kind ≠ 1 → 0 ≤ e.idx ∧ e.idx < xs.length) (w : World) (rx : SlR w 4 Pl.enc a xs) :
    Calls Try.prog 61 #[.agg #[.int .i64 ev, .slice a xs.length cap], .agg #[.int .i64 e.kind, .int .i64 e.idx, .int .i64 e.pl.f, .int .i64 e.pl.t, .int .i64 e.pl.d, .int .i64 e.pl.k]] w fun r w' => r = .returned (invEd xs e).val ∧ Below w.heap.size w w' := by
  by_cases h1 : e.kind = 1
  · have hb : (e.kind == 1) = true := by simp [h1]
    have H1 := Lib.hid h1; clear h1 hi
    go_enter Try.func61, Try.ntmps61
    go_wp2
    refine bodyPost_ret (v := (invEd xs e).val) (by simp [results, Try.results61, go_sem, invEd, Ed.val, plZ, H1.out]) rfl ⟨rfl, ?_⟩
    repeat' (first | with_reducible exact Below.refl _ _ | with_reducible refine Below.setCell ?_ ?_ _ | with_reducible refine Below.alloc ?_ ?_ _ | with_reducible refine Below.drew ?_ | with_reducible refine Below.trans ?_ (Below.mono (by assumption) ?_))
    all_goals (first | omega | (simp; done) | (simp; omega))
  · obtain ⟨h0, hlt⟩ := hi h1
    obtain ⟨i, hi'⟩ : ∃ i : Nat, e.idx = i := ⟨e.idx.toNat, by omega⟩
    obtain ⟨p, hp⟩ : ∃ p, xs[i]? = some p := ⟨xs[i]'(by omega), by simp⟩
    obtain ⟨b, off, rfl, c0, c1, c2, c3⟩ := rdPl rx hp
    have hget : invEd xs e = ⟨if e.kind = 2 then 1 else 3, i, p⟩ := by
      rw [invEd, if_neg h1, hi', show ((i : Int)).toNat = i by omega, List.getD_eq_getElem?_getD, hp]; rfl
    have hb : (e.kind == 1) = false := by simp [h1]
    have Hget := Lib.hid hget
    have hilt : i < xs.length := by omega
    have hbw : b < w.heap.size := World.block_lt_of_cell? _ _ c0
    clear hget hi rx hp h0 hlt
    have d0 := stay (((Below.refl w.heap.size w).alloc (Nat.le_refl _) (.cells #[.int .i64 ev, .slice (some ⟨b, off, none⟩) xs.length cap] 33)).alloc (by simp) (.cells #[.int .i64 e.kind, .int .i64 i, .int .i64 e.pl.f, .int .i64 e.pl.t, .int .i64 e.pl.d, .int .i64 e.pl.k] 37)) (Nat.le_refl _) c0
    have d1 := stay (((Below.refl w.heap.size w).alloc (Nat.le_refl _) (.cells #[.int .i64 ev, .slice (some ⟨b, off, none⟩) xs.length cap] 33)).alloc (by simp) (.cells #[.int .i64 e.kind, .int .i64 i, .int .i64 e.pl.f, .int .i64 e.pl.t, .int .i64 e.pl.d, .int .i64 e.pl.k] 37)) (Nat.le_refl _) c1
    have d2 := stay (((Below.refl w.heap.size w).alloc (Nat.le_refl _) (.cells #[.int .i64 ev, .slice (some ⟨b, off, none⟩) xs.length cap] 33)).alloc (by simp) (.cells #[.int .i64 e.kind, .int .i64 i, .int .i64 e.pl.f, .int .i64 e.pl.t, .int .i64 e.pl.d, .int .i64 e.pl.k] 37)) (Nat.le_refl _) c2
    have d3 := stay (((Below.refl w.heap.size w).alloc (Nat.le_refl _) (.cells #[.int .i64 ev, .slice (some ⟨b, off, none⟩) xs.length cap] 33)).alloc (by simp) (.cells #[.int .i64 e.kind, .int .i64 i, .int .i64 e.pl.f, .int .i64 e.pl.t, .int .i64 e.pl.d, .int .i64 e.pl.k] 37)) (Nat.le_refl _) c3
    have n0 : ¬ w.heap.size + 1 + 1 = b := by omega
    have n1 : ¬ b = w.heap.size + 1 + 1 := by omega
    by_cases h2 : e.kind = 2
    · have hb2 : (e.kind == 2) = true := by simp [h2]
      have H2 := Lib.hid h2; clear h2 h1
      rw [hi'] at *
      go_enter Try.func61, Try.ntmps61
      go_wp2_with fail
      go_region_held3 (fun x => x.cell? ⟨w.heap.size, 1, none⟩ = some (.slice (some ⟨b, off, none⟩) xs.length cap) ∧ x.cell? ⟨w.heap.size + 1, 1, none⟩ = some (.int .i64 i) ∧ x.cell? ⟨b, off + i * 4, none⟩ = some (.int .i64 p.f) ∧ x.cell? ⟨b, off + i * 4 + 1, none⟩ = some (.int .i64 p.t) ∧
        x.cell? ⟨b, off + i * 4 + 2, none⟩ = some (.int .i64 p.d) ∧ x.cell? ⟨b, off + i * 4 + 3, none⟩ = some (.int .i64 p.k)) (go_keep) (fail)
      go_wp2
      refine bodyPost_ret (v := (invEd xs e).val) (by rw [Hget.out]; simp [results, Try.results61, go_sem, Ed.val, H2.out]) rfl ⟨rfl, ?_⟩
      repeat' (first | with_reducible exact Below.refl _ _ | with_reducible refine Below.setCell ?_ ?_ _ | with_reducible refine Below.alloc ?_ ?_ _ | with_reducible refine Below.drew ?_ | with_reducible refine Below.trans ?_ (Below.mono (by assumption) ?_))
      all_goals (first | omega | (simp; done) | (simp; omega))
    · have hb2 : (e.kind == 2) = false := by simp [h2]
      have H2 := Lib.hid h2; clear h2 h1
      rw [hi'] at *
      go_enter Try.func61, Try.ntmps61
      go_wp2_with fail
      go_region_held3 (fun x => x.cell? ⟨w.heap.size, 1, none⟩ = some (.slice (some ⟨b, off, none⟩) xs.length cap) ∧ x.cell? ⟨w.heap.size + 1, 1, none⟩ = some (.int .i64 i) ∧ x.cell? ⟨b, off + i * 4, none⟩ = some (.int .i64 p.f) ∧ x.cell? ⟨b, off + i * 4 + 1, none⟩ = some (.int .i64 p.t) ∧
        x.cell? ⟨b, off + i * 4 + 2, none⟩ = some (.int .i64 p.d) ∧ x.cell? ⟨b, off + i * 4 + 3, none⟩ = some (.int .i64 p.k)) (go_keep) (fail)
      go_wp2
      refine bodyPost_ret (v := (invEd xs e).val) (by rw [Hget.out]; simp [results, Try.results61, go_sem, Ed.val, H2.out]) rfl ⟨rfl, ?_⟩
      repeat' (first | with_reducible exact Below.refl _ _ | with_reducible refine Below.setCell ?_ ?_ _ | with_reducible refine Below.alloc ?_ ?_ _ | with_reducible refine Below.drew ?_ | with_reducible refine Below.trans ?_ (Below.mono (by assumption) ?_))
      all_goals (first | omega | (simp; done) | (simp; omega))

set_option maxHeartbeats 800000 in
theorem l29Code_any (ev : Int) (a : Option Addr) (xs : List Pl) (cap : Nat) (e : Ed) (hx : xs.length ≤ 10000000) (w : World) (rx : SlR w 4 Pl.enc a xs) :
    Calls Try.prog 60 #[.agg #[.int .i64 ev, .slice a xs.length cap], .agg #[.int .i64 e.kind, .int .i64 e.idx, .int .i64 e.pl.f, .int .i64 e.pl.t, .int .i64 e.pl.d, .int .i64 e.pl.k]] w fun r w' => r = .returned (.int .i64 (edCode ev xs e)) ∧ Below w.heap.size w w' := by
  cases hev : isEG ev xs
  · go_enter Try.func60, Try.ntmps60
    go_wp2_with (go_at_call 51; refine (sIsEventGraph_any ev a xs cap hx _ (by repeat' (first | with_reducible exact rx | with_reducible refine SlR.alloc ?_ _ | with_reducible refine SlR.drew ?_))).mono ?_; rintro r w1 ⟨rfl, hb1⟩)
    go_ret
    refine ⟨ret_int (by simp [edCode, hev]), ?_⟩
    repeat' (first | with_reducible exact Below.refl _ _ | with_reducible refine Below.setCell ?_ ?_ _ | with_reducible refine Below.alloc ?_ ?_ _ | with_reducible refine Below.drew ?_ | with_reducible refine Below.trans ?_ (Below.mono (by assumption) ?_))
    all_goals (first | omega | (simp; done) | (simp; omega))
  · go_enter Try.func60, Try.ntmps60
    go_wp2_with (first | (go_at_call 51; refine (sIsEventGraph_any ev a xs cap hx _ (by repeat' (first | with_reducible exact rx | with_reducible refine SlR.alloc ?_ _ | with_reducible refine SlR.drew ?_))).mono ?_; rintro r w1 ⟨rfl, hb⟩; (try have hb := below_trans' (by assumption) hb); obtain ⟨hc, hf⟩ := bcell hb; have hz := (hb).size; (try simp only [World.size_alloc, World.size_setCell] at hz); have rx1 : SlR w1 4 Pl.enc a xs := SlR.stay (by repeat' (first | with_reducible exact rx | with_reducible refine SlR.alloc ?_ _ | with_reducible refine SlR.drew ?_)) hb) | (go_at_call 13; refine (sCanEdit_any ev a xs cap e hx _ (by assumption)).mono ?_; rintro r w2 ⟨rfl, hb2⟩))
    all_goals go_ret
    all_goals refine ⟨ret_int (by simp only [edCode, hev]; grind), ?_⟩
    all_goals clear hc hf rx1
    repeat' (first | with_reducible exact Below.refl _ _ | with_reducible refine Below.setCell ?_ ?_ _ | with_reducible refine Below.alloc ?_ ?_ _ | with_reducible refine Below.drew ?_ | with_reducible refine Below.trans ?_ (Below.mono (by assumption) ?_))
    all_goals (first | omega | (simp; done) | (simp; omega))
/-- What both return. -/
def invRes (ev : Int) (xs : List Pl) (e : Ed) : Ed := if edCode ev xs e = 0 then invEd xs e else edZ
theorem edCode_0 {ev : Int} {xs : List Pl} {e : Ed} : edCode ev xs e = 0 ↔ (isEG ev xs = true ∧ canEd ev xs e = true) := by
  unfold edCode
  cases isEG ev xs <;> cases canEd ev xs e <;> simp
set_option maxHeartbeats 800000 in
theorem sInverseEdit_any (ev : Int) (a : Option Addr) (xs : List Pl) (cap : Nat) (e : Ed) (hx : xs.length ≤ 10000000) (w : World) (rx : SlR w 4 Pl.enc a xs) :
    Calls Try.prog 23 #[.agg #[.int .i64 ev, .slice a xs.length cap], .agg #[.int .i64 e.kind, .int .i64 e.idx, .int .i64 e.pl.f, .int .i64 e.pl.t, .int .i64 e.pl.d, .int .i64 e.pl.k]] w fun r w' => r = .returned (.tuple #[(invRes ev xs e).val, .int .i64 (edCode ev xs e)]) ∧ Below w.heap.size w w' := by
  by_cases h0 : edCode ev xs e = 0
  · have hcd : (edCode ev xs e != 0) = false := by simp [h0]
    have hce := (edCode_0.1 h0).2
    have H0 := Lib.hid h0; clear h0
    go_enter Try.func23, Try.ntmps23
    go_wp2_with (first | (go_at_call 60; refine (l29Code_any ev a xs cap e hx _ (by repeat' (first | with_reducible exact rx | with_reducible refine SlR.alloc ?_ _ | with_reducible refine SlR.drew ?_))).mono ?_; rintro r w1 ⟨rfl, hb⟩; (try have hb := below_trans' (by assumption) hb); obtain ⟨hc, hf⟩ := bcell hb; have hz := (hb).size; (try simp only [World.size_alloc, World.size_setCell] at hz); have rx1 : SlR w1 4 Pl.enc a xs := SlR.stay (by repeat' (first | with_reducible exact rx | with_reducible refine SlR.alloc ?_ _ | with_reducible refine SlR.drew ?_)) hb) | (go_at_call 61; refine (l29Inverse_any ev a xs cap e hx (canEd_idx hce) _ (by assumption)).mono ?_; unfold Ed.val; rintro r w2 ⟨rfl, hb⟩; (try have hb := below_trans' (by assumption) hb); obtain ⟨hc, hf⟩ := bcell hb; have hz := (hb).size; (try simp only [World.size_alloc, World.size_setCell] at hz)))
    refine bodyPost_ret (v := .tuple #[(invRes ev xs e).val, .int .i64 (edCode ev xs e)]) (by simp [results, Try.results23, go_sem, hc, hz, invRes, H0.out, Ed.val]) rfl ⟨rfl, ?_⟩
    clear hc hf rx1
    repeat' (first | with_reducible exact Below.refl _ _ | with_reducible refine Below.setCell ?_ ?_ _ | with_reducible refine Below.alloc ?_ ?_ _ | with_reducible refine Below.drew ?_ | with_reducible refine Below.trans ?_ (Below.mono (by assumption) ?_))
    all_goals (first | omega | (simp; done) | (simp; omega))
  · have hcd : (edCode ev xs e != 0) = true := by simp [h0]
    have H0 := Lib.hid h0; clear h0
    go_enter Try.func23, Try.ntmps23
    go_wp2_with (go_at_call 60; refine (l29Code_any ev a xs cap e hx _ (by repeat' (first | with_reducible exact rx | with_reducible refine SlR.alloc ?_ _ | with_reducible refine SlR.drew ?_))).mono ?_; rintro r w1 ⟨rfl, hb⟩; (try have hb := below_trans' (by assumption) hb); obtain ⟨hc, hf⟩ := bcell hb; have hz := (hb).size; (try simp only [World.size_alloc, World.size_setCell] at hz))
    refine bodyPost_ret (v := .tuple #[(invRes ev xs e).val, .int .i64 (edCode ev xs e)]) (by simp [results, Try.results23, go_sem, hc, hz, invRes, H0.out, Ed.val, edZ, plZ]) rfl ⟨rfl, ?_⟩
    clear hc hf
    repeat' (first | with_reducible exact Below.refl _ _ | with_reducible refine Below.setCell ?_ ?_ _ | with_reducible refine Below.alloc ?_ ?_ _ | with_reducible refine Below.drew ?_ | with_reducible refine Below.trans ?_ (Below.mono (by assumption) ?_))
    all_goals (first | omega | (simp; done) | (simp; omega))
set_option maxHeartbeats 800000 in
theorem iInverseEdit_any (ev : Int) (a : Option Addr) (xs : List Pl) (cap : Nat) (e : Ed) (hx : xs.length ≤ 10000000) (w : World) (rx : SlR w 4 Pl.enc a xs) :
    Calls Try.prog 24 #[.agg #[.int .i64 ev, .slice a xs.length cap], .agg #[.int .i64 e.kind, .int .i64 e.idx, .int .i64 e.pl.f, .int .i64 e.pl.t, .int .i64 e.pl.d, .int .i64 e.pl.k]] w fun r w' => r = .returned (.tuple #[(invRes ev xs e).val, .int .i64 (edCode ev xs e)]) ∧ Below w.heap.size w w' := by
  cases hev : isEG ev xs
  · have hcd : edCode ev xs e = 1 := by simp [edCode, hev]
    have Hcd := Lib.hid hcd; clear hcd
    go_enter Try.func24, Try.ntmps24
    go_wp2_with (go_at_call 56; refine (iIsEventGraph_any ev xs a cap hx _ (by repeat' (first | with_reducible exact rx | with_reducible refine SlR.alloc ?_ _ | with_reducible refine SlR.drew ?_))).mono ?_; rintro r w1 ⟨rfl, hb⟩; (try have hb := below_trans' (by assumption) hb); obtain ⟨hc, hf⟩ := bcell hb; have hz := (hb).size; (try simp only [World.size_alloc, World.size_setCell] at hz))
    refine bodyPost_ret (v := .tuple #[(invRes ev xs e).val, .int .i64 (edCode ev xs e)]) (by simp [results, Try.results24, go_sem, hc, hz, invRes, Hcd.out, Ed.val, edZ, plZ]) rfl ⟨rfl, ?_⟩
    clear hc hf
    repeat' (first | with_reducible exact Below.refl _ _ | with_reducible refine Below.setCell ?_ ?_ _ | with_reducible refine Below.alloc ?_ ?_ _ | with_reducible refine Below.drew ?_ | with_reducible refine Below.trans ?_ (Below.mono (by assumption) ?_))
    all_goals (first | omega | (simp; done) | (simp; omega))
  · have hev2 : 1 ≤ ev ∧ ev ≤ 10 := by
      have h := hev
      simp only [isEG, Bool.and_eq_true] at h
      exact wi_iff.1 h.1.1
    cases hce : canEd ev xs e
    · have hcd : edCode ev xs e = 5 := by simp [edCode, hev, hce]
      have Hcd := Lib.hid hcd; clear hcd
      go_enter Try.func24, Try.ntmps24
      go_wp2_with (first | (go_at_call 56; refine (iIsEventGraph_any ev xs a cap hx _ (by repeat' (first | with_reducible exact rx | with_reducible refine SlR.alloc ?_ _ | with_reducible refine SlR.drew ?_))).mono ?_; rintro r w1 ⟨rfl, hb⟩; (try have hb := below_trans' (by assumption) hb); obtain ⟨hc, hf⟩ := bcell hb; have hz := (hb).size; (try simp only [World.size_alloc, World.size_setCell] at hz)) | (go_at_call 57; refine (canEdit_any ev a xs cap e hev2.1 hev2.2 hx _).mono ?_; rintro r w2 ⟨rfl, hb⟩; (try have hb := below_trans' (by assumption) hb); obtain ⟨hc, hf⟩ := bcell hb; have hz := (hb).size; (try simp only [World.size_alloc, World.size_setCell] at hz)))
      refine bodyPost_ret (v := .tuple #[(invRes ev xs e).val, .int .i64 (edCode ev xs e)]) (by simp [results, Try.results24, go_sem, hc, hz, invRes, Hcd.out, Ed.val, edZ, plZ]) rfl ⟨rfl, ?_⟩
      clear hc hf
      repeat' (first | with_reducible exact Below.refl _ _ | with_reducible refine Below.setCell ?_ ?_ _ | with_reducible refine Below.alloc ?_ ?_ _ | with_reducible refine Below.drew ?_ | with_reducible refine Below.trans ?_ (Below.mono (by assumption) ?_))
      all_goals (first | omega | (simp; done) | (simp; omega))
    · have hcd : edCode ev xs e = 0 := by simp [edCode, hev, hce]
      have Hcd := Lib.hid hcd; clear hcd
      have hci := canEd_idx hce
      go_enter Try.func24, Try.ntmps24
      go_wp2_with (first | (go_at_call 56; refine (iIsEventGraph_any ev xs a cap hx _ (by repeat' (first | with_reducible exact rx | with_reducible refine SlR.alloc ?_ _ | with_reducible refine SlR.drew ?_))).mono ?_; rintro r w1 ⟨rfl, hb⟩; (try have hb := below_trans' (by assumption) hb); obtain ⟨hc, hf⟩ := bcell hb; have hz := (hb).size; (try simp only [World.size_alloc, World.size_setCell] at hz); have rx1 : SlR w1 4 Pl.enc a xs := SlR.stay (by repeat' (first | with_reducible exact rx | with_reducible refine SlR.alloc ?_ _ | with_reducible refine SlR.drew ?_)) hb) | (go_at_call 57; refine (canEdit_any ev a xs cap e hev2.1 hev2.2 hx _).mono ?_; rintro r w2 ⟨rfl, hb2⟩; have rx2 := rx1.stay hb2; have hb := hb2; (try have hb := below_trans' (by assumption) hb); obtain ⟨hc, hf⟩ := bcell hb; have hz := (hb).size; (try simp only [World.size_alloc, World.size_setCell] at hz)) | (go_at_call 62; refine (inverseEdit_any ev a xs cap e hx hci _ rx2).mono ?_; unfold Ed.val; rintro r w3 ⟨rfl, hb⟩; (try have hb := below_trans' (by assumption) hb); obtain ⟨hc, hf⟩ := bcell hb; have hz := (hb).size; (try simp only [World.size_alloc, World.size_setCell] at hz)))
      refine bodyPost_ret (v := .tuple #[(invRes ev xs e).val, .int .i64 (edCode ev xs e)]) (by simp [results, Try.results24, go_sem, hc, hz, invRes, Hcd.out, Ed.val]) rfl ⟨rfl, ?_⟩
      clear hc hf rx1 rx2
      repeat' (first | with_reducible exact Below.refl _ _ | with_reducible refine Below.setCell ?_ ?_ _ | with_reducible refine Below.alloc ?_ ?_ _ | with_reducible refine Below.drew ?_ | with_reducible refine Below.trans ?_ (Below.mono (by assumption) ?_))
      all_goals (first | omega | (simp; done) | (simp; omega))
end Go.Proofs.Ytemomjcgkpinfaa
