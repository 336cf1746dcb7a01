/-
  The law on InverseEdit: its walk.
-/
import Derived.Test.YtemomjcgkpinfaaProg
import Derived.Test.YtemomjcgkpinfaaRegion
import Derived.Test.YtemomjcgkpinfaaW1
import Derived.Test.YtemomjcgkpinfaaW2
import Derived.Test.YtemomjcgkpinfaaW5
import Derived.Test.YtemomjcgkpinfaaW6
import Derived.Deep.DeepCutAuto
namespace Go.Proofs.Ytemomjcgkpinfaa
open Go.RowKit

set_option maxRecDepth 8000 in
set_option maxHeartbeats 800000 in
theorem lawInverseEdit (ev : Int) (a : Option Addr) (xs : List Pl) (cap : Nat) (e : Ed) (hn : xs.length ≤ 9223372036854775807) (w : World) (rx : SlR w 4 Pl.enc a xs) :
    Calls Try.prog 5 #[.agg #[.int .i64 ev, .slice a xs.length cap], .agg #[.int .i64 e.kind, .int .i64 e.idx, .int .i64 e.pl.f, .int .i64 e.pl.t, .int .i64 e.pl.d, .int .i64 e.pl.k]] w fun r w' => r = .returned (.bool true) ∧ Below w.heap.size w w' := by
  by_cases hlt : (1048576 : Int) < xs.length
  · go_enter Try.func5, Try.ntmps5
    go_wp2_with (go_at_call 12; refine (szEventGraph_any ev a _ cap _ (by omega) (by omega) hn _).mono ?_; rintro r w1 ⟨rfl, hb⟩; (try have hb := below_trans' (by assumption) hb); obtain ⟨hc, hf⟩ := bcell hb; have hz := (hb).size; (try simp only [World.size_alloc, World.size_setCell] at hz))
    go_ret
    refine ⟨rfl, ?_⟩
    clear hc hf
    repeat' (first | with_reducible exact Below.refl _ _ | with_reducible refine Below.setCell ?_ ?_ _ | with_reducible refine Below.alloc ?_ ?_ _ | with_reducible refine Below.drew ?_ | with_reducible refine Below.trans ?_ (Below.mono (by assumption) ?_))
    all_goals (first | omega | (simp only [World.size_alloc, World.size_setCell, World.size_drew] at *; omega) | (simp; done) | (simp; omega))
  · have hx0 : xs.length ≤ 10000000 := by omega
    go_enter Try.func5, Try.ntmps5
    go_wp2_with (go_at_call 12; refine (szEventGraph_any ev a _ cap _ (by omega) (by omega) hn _).mono ?_; rintro r w1 ⟨rfl, hb1⟩; have hz := hb1.size; simp only [World.size_alloc] at hz)
    have b0 : Box w1 w.heap.size 24 [.int .i64 ev, .slice a xs.length cap] := ((Box.new w _ _).alloc _).stay hb1
    have b1 : Box w1 (w.heap.size + 1) 28 e.enc := by simpa using (Box.new (w.alloc (.cells #[.int .i64 ev, .slice a xs.length cap] 24)) _ e.enc).stay hb1
    have rx1 : SlR w1 4 Pl.enc a xs := SlR.stay (by repeat' (first | with_reducible exact rx | with_reducible refine SlR.alloc ?_ _ | with_reducible refine SlR.drew ?_)) hb1
    have hB1 : Below w.heap.size w w1 := by
      repeat' (first | with_reducible exact Below.refl _ _ | with_reducible refine Below.setCell ?_ ?_ _ | with_reducible refine Below.alloc ?_ ?_ _ | with_reducible refine Below.drew ?_ | with_reducible refine Below.trans ?_ (Below.mono (by assumption) ?_))
      all_goals (first | omega | (simp only [World.size_alloc, World.size_setCell, World.size_drew] at *; omega) | (simp; done) | (simp; omega))
    go_wp2_with fail
    refine wp_region_ext (w := w1) 10 37 (fun k => match k with
      | 1 => some (Told.own _ _ (fun ad cap => .agg #[.int .i64 ev, .slice ad xs.length cap]) w1.heap.size 35 4 xs.length (xs.flatMap Pl.enc) (by decide))
      | 3 => some (Told.is _ _ (.agg #[.int .i64 e.kind, .int .i64 e.idx, .int .i64 e.pl.f, .int .i64 e.pl.t, .int .i64 e.pl.d, .int .i64 e.pl.k]))
      | 4 => some (Told.is _ _ (.tuple #[.agg #[.int .i64 (invRes ev xs e).kind, .int .i64 (invRes ev xs e).idx, .int .i64 (invRes ev xs e).pl.f, .int .i64 (invRes ev xs e).pl.t, .int .i64 (invRes ev xs e).pl.d, .int .i64 (invRes ev xs e).pl.k], .int .i64 (edCode ev xs e)]))
      | 8 => some (Told.box _ _ 6)
      | _ => none) 9 (stored 37 8 (invRes ev xs e).enc) (by kernel_rfl) (by kernel_rfl) (fun fs v x x' hb h g e => (h g e).stay hb) ?_
    simp only [List.take_succ_cons, List.take_zero, List.drop_succ_cons, List.drop_zero]
    have c0 := fun x : Later w1.heap.size w1 => (b0.stay x.le).cell 0 rfl
    have c1 := fun x : Later w1.heap.size w1 => (b0.stay x.le).cell 1 rfl
    have d0 := fun x : Later w1.heap.size w1 => (b1.stay x.le).cell 0 rfl
    have d1 := fun x : Later w1.heap.size w1 => (b1.stay x.le).cell 1 rfl
    have d2 := fun x : Later w1.heap.size w1 => (b1.stay x.le).cell 2 rfl
    have d3 := fun x : Later w1.heap.size w1 => (b1.stay x.le).cell 3 rfl
    have d4 := fun x : Later w1.heap.size w1 => (b1.stay x.le).cell 4 rfl
    have d5 := fun x : Later w1.heap.size w1 => (b1.stay x.le).cell 5 rfl
    refine lexR_ex rfl rfl rfl (fun K hK => ?_)
    go_big_quiet_op
    refine hK _ ?_
    clear hK K
    refine lexR_rel _ rfl rfl ⟨_, none, 0, rfl, by simp⟩ (fun x hx hd => ?_) ?_
    · go_simp
      refine (toEventGraph_any ev a xs cap hx0 _ (rx1.stay hx)).mono ?_
      rintro _ w2 ⟨g, rfl, hown, hb⟩
      exact ⟨_, rfl, hb, ⟨_, _, rfl, fun b hb' => by cases hb'; exact Nat.le_trans hx.size (own_lt hown).1⟩, _, _, rfl, own_mono hown hx.size⟩
    · rintro _ ⟨ad, gcap, rfl, hlow⟩ K hK
      go_simp
      refine hK _ ?_
      clear hK K
      refine lexR_ex rfl rfl rfl (fun K hK => ?_)
      go_big_quiet_op
      refine hK _ ?_
      clear hK K
      refine lexR_rel _ rfl rfl ⟨_, rfl⟩ (fun x hx hd => ?_) ?_
      · go_simp
        refine (toEdit_any e _).mono ?_
        rintro _ w2 ⟨rfl, hb⟩
        exact ⟨_, rfl, hb, rfl, trivial⟩
      · rintro _ rfl K hK
        go_simp
        refine hK _ ?_
        clear hK K
        refine lexR_rel _ rfl rfl ⟨_, rfl⟩ (fun x hx hd => ?_) ?_
        · obtain ⟨ad', cap', hE, hown⟩ := hd.at 1 (by kernel_rfl) rfl rfl
          have hE' : Value.agg #[.int .i64 ev, .slice ad xs.length gcap] = .agg #[.int .i64 ev, .slice ad' xs.length cap'] := hE
          simp only [Value.agg.injEq, Array.mk.injEq, List.cons.injEq, Value.slice.injEq, and_true, true_and] at hE'
          obtain ⟨rfl, rfl⟩ := hE'
          clear hE hd
          go_simp
          refine (sInverseEdit_any ev ad xs gcap e hx0 _ (own_slr Pl.enc_len hown)).mono ?_
          rintro _ w2 ⟨rfl, hb⟩
          exact ⟨_, rfl, hb, rfl, trivial⟩
        · rintro _ rfl K hK
          go_simp
          refine hK _ ?_
          clear hK K
          repeat (refine lexR_ex rfl rfl rfl (fun K hK => ?_); go_big_quiet_op; refine hK _ ?_; clear hK K)
          refine lexR_rel _ rfl rfl ⟨_, w1.heap.size, rfl, Nat.le_refl _⟩ (fun x hx hd => ?_) ?_
          · go_simp
            have hA : Ext x (x.alloc (.cells #[.int .i64 0, .int .i64 0, .int .i64 0, .int .i64 0, .int .i64 0, .int .i64 0] 37)) := (Below.refl _ _).alloc (Nat.le_refl _) _
            have hBx : Box (x.alloc (.cells #[.int .i64 0, .int .i64 0, .int .i64 0, .int .i64 0, .int .i64 0, .int .i64 0] 37)) x.heap.size 37 [.int .i64 0, .int .i64 0, .int .i64 0, .int .i64 0, .int .i64 0, .int .i64 0] := Box.new x _ _
            refine ⟨?_, ?_, ?_⟩
            · unfold stepOf; rw [if_neg (by decide)]; exact hA
            · exact ⟨x.heap.size, rfl, hx.size⟩
            · exact ⟨x.heap.size, rfl, hx.size, [.int .i64 0, .int .i64 0, .int .i64 0, .int .i64 0, .int .i64 0, .int .i64 0], rfl, hBx⟩
          · rintro _ ⟨g, rfl, hg⟩ K hK
            go_simp
            refine hK _ ?_
            clear hK K
            refine lexR_rel _ rfl rfl ⟨_, rfl⟩ (fun x hx hd => ?_) ?_
            · have h8 : ∃ g' : Nat, Value.pointer (some ⟨g, 0, none⟩) = .pointer (some ⟨g', 0, none⟩) ∧ w1.heap.size ≤ g' ∧ ∃ cs : List Value, cs.length = 6 ∧ Box x g' 37 cs := hd.at 8 (by kernel_rfl) rfl rfl
              clear hd
              obtain ⟨g', hE, hle, cs, hcs, hbox⟩ := h8
              simp only [Value.pointer.injEq, Option.some.injEq, Addr.mk.injEq, and_true] at hE
              subst hE
              obtain ⟨v0, v1, v2, v3, v4, v5, rfl⟩ : ∃ v0 v1 v2 v3 v4 v5, cs = [v0, v1, v2, v3, v4, v5] := by
                match cs, hcs with
                | [v0, v1, v2, v3, v4, v5], _ => exact ⟨_, _, _, _, _, _, rfl⟩
              have q0 := hbox.cell 0 rfl
              have q1 := hbox.cell 1 rfl
              have q2 := hbox.cell 2 rfl
              have q3 := hbox.cell 3 rfl
              have q4 := hbox.cell 4 rfl
              have q5 := hbox.cell 5 rfl
              have f0 := hbox.free 0
              have f1 := hbox.free 1
              have f2 := hbox.free 2
              have f3 := hbox.free 3
              have f4 := hbox.free 4
              have f5 := hbox.free 5
              go_simp
              refine ⟨?_, rfl, ?_⟩
              · unfold stepOf; rw [if_pos rfl]
                exact ((((((StoreIn.refl _ _ _).set hg hbox).set hg (hbox.set _ _)).set hg ((hbox.set _ _).set _ _)).set hg (((hbox.set _ _).set _ _).set _ _)).set hg ((((hbox.set _ _).set _ _).set _ _).set _ _)).set hg (((((hbox.set _ _).set _ _).set _ _).set _ _).set _ _)
              · intro g' hE
                have hE' : Value.pointer (some ⟨g, 0, none⟩) = .pointer (some ⟨g', 0, none⟩) := by rw [← hE]; unfold mask; rw [if_pos (by kernel_rfl)]; rfl
                simp only [Value.pointer.injEq, Option.some.injEq, Addr.mk.injEq, and_true] at hE'
                subst hE'
                exact (((((hbox.set 0 _).set 1 _).set 2 _).set 3 _).set 4 _).set 5 _
            · rintro _ rfl K hK
              go_simp
              refine hK _ ?_
              clear hK K
              refine lexR_nil (fun x hx hfs => ?_)
              have h9 := hfs 9 _ _ (by decide) rfl rfl g (by unfold mask; rw [if_pos (by kernel_rfl)]; rfl)
              clear hfs
              have b0 := b0.stay hx
              have b1 := b1.stay hx
              have rx1 := rx1.stay hx
              have hB1 := below_trans' hB1 hx
              clear c0 c1 d0 d1 d2 d3 d4 d5
              have c0 := b0.cell 0 rfl
              have c1 := b0.cell 1 rfl
              go_wp2_with (go_at_call 14; refine (toEventGraph_any ev a xs cap hx0 _ rx1).mono ?_; rintro r w5 ⟨g5, rfl, hown5, hb5⟩; have b0 := b0.stay hb5; have b1 := b1.stay hb5; have bg := h9.stay hb5; have rx1 := rx1.stay hb5; have hB5 := below_trans' hB1 hb5; have r5 := own_slr Pl.enc_len hown5; have hz5 := hB5.size)
              have bi : Box (w5.alloc (.cells #[.int .i64 ev, .slice (some ⟨g5, 0, none⟩) xs.length xs.length] 33)) w5.heap.size 33 [.int .i64 ev, .slice (some ⟨g5, 0, none⟩) xs.length xs.length] := Box.new w5 _ _
              have b0 := b0.alloc (.cells #[.int .i64 ev, .slice (some ⟨g5, 0, none⟩) xs.length xs.length] 33)
              have b1 := b1.alloc (.cells #[.int .i64 ev, .slice (some ⟨g5, 0, none⟩) xs.length xs.length] 33)
              have bg := bg.alloc (.cells #[.int .i64 ev, .slice (some ⟨g5, 0, none⟩) xs.length xs.length] 33)
              have rx1 := rx1.alloc (.cells #[.int .i64 ev, .slice (some ⟨g5, 0, none⟩) xs.length xs.length] 33)
              have r5 := r5.alloc (.cells #[.int .i64 ev, .slice (some ⟨g5, 0, none⟩) xs.length xs.length] 33)
              have hB5 := hB5.alloc hB5.size (.cells #[.int .i64 ev, .slice (some ⟨g5, 0, none⟩) xs.length xs.length] 33)
              generalize w5.heap.size = gi at bi ⊢
              generalize (w5.alloc (.cells #[.int .i64 ev, .slice (some ⟨g5, 0, none⟩) xs.length xs.length] 33)) = w6 at bi b0 b1 bg rx1 r5 hB5 ⊢
              refine wp_region_ext (w := w6) 9 37 (fun k => match k with
                | 2 => some (Told.is _ _ (.agg #[.int .i64 e.kind, .int .i64 e.idx, .int .i64 e.pl.f, .int .i64 e.pl.t, .int .i64 e.pl.d, .int .i64 e.pl.k]))
                | 3 => some (Told.is _ _ (.tuple #[.agg #[.int .i64 (invRes ev xs e).kind, .int .i64 (invRes ev xs e).idx, .int .i64 (invRes ev xs e).pl.f, .int .i64 (invRes ev xs e).pl.t, .int .i64 (invRes ev xs e).pl.d, .int .i64 (invRes ev xs e).pl.k], .int .i64 (edCode ev xs e)]))
                | 7 => some (Told.box _ _ 6)
                | _ => none) 8 (stored 37 7 (invRes ev xs e).enc) (by kernel_rfl) (by kernel_rfl) (fun fs v x x' hb h g e => (h g e).stay hb) ?_
              simp only [List.take_succ_cons, List.take_zero, List.drop_succ_cons, List.drop_zero]
              have c0 := fun x : Later w6.heap.size w6 => (bi.stay x.le).cell 0 rfl
              have c1 := fun x : Later w6.heap.size w6 => (bi.stay x.le).cell 1 rfl
              have d0 := fun x : Later w6.heap.size w6 => (b1.stay x.le).cell 0 rfl
              have d1 := fun x : Later w6.heap.size w6 => (b1.stay x.le).cell 1 rfl
              have d2 := fun x : Later w6.heap.size w6 => (b1.stay x.le).cell 2 rfl
              have d3 := fun x : Later w6.heap.size w6 => (b1.stay x.le).cell 3 rfl
              have d4 := fun x : Later w6.heap.size w6 => (b1.stay x.le).cell 4 rfl
              have d5 := fun x : Later w6.heap.size w6 => (b1.stay x.le).cell 5 rfl
              refine lexR_ex rfl rfl rfl (fun K hK => ?_)
              go_big_quiet_op
              refine hK _ ?_
              clear hK K
              refine lexR_ex rfl rfl rfl (fun K hK => ?_)
              go_big_quiet_op
              refine hK _ ?_
              clear hK K
              refine lexR_rel _ rfl rfl ⟨_, rfl⟩ (fun x hx hd => ?_) ?_
              · go_simp
                refine (toEdit_any e _).mono ?_
                rintro _ w2 ⟨rfl, hb⟩
                exact ⟨_, rfl, hb, rfl, trivial⟩
              rintro _ rfl K hK
              go_simp
              refine hK _ ?_
              clear hK K
              refine lexR_rel _ rfl rfl ⟨_, rfl⟩ (fun x hx hd => ?_) ?_
              · go_simp
                refine (iInverseEdit_any ev _ xs _ e hx0 _ (r5.stay hx)).mono ?_
                rintro _ w2 ⟨rfl, hb⟩
                exact ⟨_, rfl, hb, rfl, trivial⟩
              rintro _ rfl K hK
              go_simp
              refine hK _ ?_
              clear hK K
              repeat (refine lexR_ex rfl rfl rfl (fun K hK => ?_); go_big_quiet_op; refine hK _ ?_; clear hK K)
              refine lexR_rel _ rfl rfl ⟨_, w6.heap.size, rfl, Nat.le_refl _⟩ (fun x hx hd => ?_) ?_
              · go_simp
                have hA : Ext x (x.alloc (.cells #[.int .i64 0, .int .i64 0, .int .i64 0, .int .i64 0, .int .i64 0, .int .i64 0] 37)) := (Below.refl _ _).alloc (Nat.le_refl _) _
                have hBx : Box (x.alloc (.cells #[.int .i64 0, .int .i64 0, .int .i64 0, .int .i64 0, .int .i64 0, .int .i64 0] 37)) x.heap.size 37 [.int .i64 0, .int .i64 0, .int .i64 0, .int .i64 0, .int .i64 0, .int .i64 0] := Box.new x _ _
                refine ⟨?_, ?_, ?_⟩
                · unfold stepOf; rw [if_neg (by decide)]; exact hA
                · exact ⟨x.heap.size, rfl, hx.size⟩
                · exact ⟨x.heap.size, rfl, hx.size, [.int .i64 0, .int .i64 0, .int .i64 0, .int .i64 0, .int .i64 0, .int .i64 0], rfl, hBx⟩
              rintro _ ⟨gj, rfl, hgj⟩ K hK
              go_simp
              refine hK _ ?_
              clear hK K
              refine lexR_rel _ rfl rfl ⟨_, rfl⟩ (fun x hx hd => ?_) ?_
              · have h8 : ∃ g' : Nat, Value.pointer (some ⟨gj, 0, none⟩) = .pointer (some ⟨g', 0, none⟩) ∧ w6.heap.size ≤ g' ∧ ∃ cs : List Value, cs.length = 6 ∧ Box x g' 37 cs := hd.at 7 (by kernel_rfl) rfl rfl
                clear hd
                obtain ⟨g', hE, hle, cs, hcs, hbox⟩ := h8
                simp only [Value.pointer.injEq, Option.some.injEq, Addr.mk.injEq, and_true] at hE
                subst hE
                obtain ⟨v0, v1, v2, v3, v4, v5, rfl⟩ : ∃ v0 v1 v2 v3 v4 v5, cs = [v0, v1, v2, v3, v4, v5] := by
                  match cs, hcs with
                  | [v0, v1, v2, v3, v4, v5], _ => exact ⟨_, _, _, _, _, _, rfl⟩
                have q0 := hbox.cell 0 rfl
                have q1 := hbox.cell 1 rfl
                have q2 := hbox.cell 2 rfl
                have q3 := hbox.cell 3 rfl
                have q4 := hbox.cell 4 rfl
                have q5 := hbox.cell 5 rfl
                have f0 := hbox.free 0
                have f1 := hbox.free 1
                have f2 := hbox.free 2
                have f3 := hbox.free 3
                have f4 := hbox.free 4
                have f5 := hbox.free 5
                go_simp
                refine ⟨?_, rfl, ?_⟩
                · unfold stepOf; rw [if_pos rfl]
                  exact ((((((StoreIn.refl _ _ _).set hgj hbox).set hgj (hbox.set _ _)).set hgj ((hbox.set _ _).set _ _)).set hgj (((hbox.set _ _).set _ _).set _ _)).set hgj ((((hbox.set _ _).set _ _).set _ _).set _ _)).set hgj (((((hbox.set _ _).set _ _).set _ _).set _ _).set _ _)
                · intro g' hE
                  have hE' : Value.pointer (some ⟨gj, 0, none⟩) = .pointer (some ⟨g', 0, none⟩) := by rw [← hE]; unfold mask; rw [if_pos (by kernel_rfl)]; rfl
                  simp only [Value.pointer.injEq, Option.some.injEq, Addr.mk.injEq, and_true] at hE'
                  subst hE'
                  exact (((((hbox.set 0 _).set 1 _).set 2 _).set 3 _).set 4 _).set 5 _
              rintro _ rfl K hK
              go_simp
              refine hK _ ?_
              clear hK K
              refine lexR_nil (fun x hx hfs => ?_)
              have hj := hfs 8 _ _ (by decide) rfl rfl gj (by unfold mask; rw [if_pos (by kernel_rfl)]; rfl)
              clear hfs
              have b0 := b0.stay hx
              have bg := bg.stay hx
              have bi := bi.stay hx
              have rx1 := rx1.stay hx
              have r5 := r5.stay hx
              have hB6 := below_trans' hB5 hx
              clear c0 c1 d0 d1 d2 d3 d4 d5 b1
              have c0 := b0.cell 0 rfl
              have c1 := b0.cell 1 rfl
              have i0 := bi.cell 0 rfl
              have i1 := bi.cell 1 rfl
              have j0 := hj.cell 0 rfl
              have j1 := hj.cell 1 rfl
              have j2 := hj.cell 2 rfl
              have j3 := hj.cell 3 rfl
              have j4 := hj.cell 4 rfl
              have j5 := hj.cell 5 rfl
              have k0 := bg.cell 0 rfl
              have k1 := bg.cell 1 rfl
              have k2 := bg.cell 2 rfl
              have k3 := bg.cell 3 rfl
              have k4 := bg.cell 4 rfl
              have k5 := bg.cell 5 rfl
              have b0l := b0.lt
              have bil := bi.lt
              have rb : (invRes ev xs e).eq (invRes ev xs e) = true := (Ed.eq_iff _ _).2 rfl
              go_wp2_with (go_at_call 25; refine (eqEdit_any (invRes ev xs e) (invRes ev xs e) _).mono ?_; rintro r W ⟨rfl, hW⟩; rw [rb]; clear c0 c1 i0 i1 j0 j1 j2 j3 j4 j5 k0 k1 k2 k3 k4 k5)
              have hB7 := below_trans' hB6 hW
              have hR := rx1.stay hW
              have hR5 := r5.stay hW
              have f0 := (b0.stay hW).cell 0 rfl
              have f1 := (b0.stay hW).cell 1 rfl
              have g0 := (bi.stay hW).cell 0 rfl
              have g1 := (bi.stay hW).cell 1 rfl
              have hS : ∀ x, Below W.heap.size W x → Below W.heap.size W x ∧ SlR x 4 Pl.enc a xs ∧ SlR x 4 Pl.enc (some ⟨g5, 0, none⟩) xs ∧ x.cell? ⟨w.heap.size, 0, none⟩ = some (.int .i64 ev) ∧ x.cell? ⟨w.heap.size, 1, none⟩ = some (.slice a xs.length cap) ∧
                  x.cell? ⟨gi, 0, none⟩ = some (.int .i64 ev) ∧ x.cell? ⟨gi, 1, none⟩ = some (.slice (some ⟨g5, 0, none⟩) xs.length xs.length) :=
                fun x hx => ⟨hx, hR.stay hx, hR5.stay hx, stay hx (Nat.le_refl _) f0, stay hx (Nat.le_refl _) f1, stay hx (Nat.le_refl _) g0, stay hx (Nat.le_refl _) g1⟩
              clear f0 f1 g0 g1 hR hR5
              go_wp2_with fail
              go_region_held3 (fun x => Below W.heap.size W x ∧ SlR x 4 Pl.enc a xs ∧ SlR x 4 Pl.enc (some ⟨g5, 0, none⟩) xs ∧ x.cell? ⟨w.heap.size, 0, none⟩ = some (.int .i64 ev) ∧ x.cell? ⟨w.heap.size, 1, none⟩ = some (.slice a xs.length cap) ∧
                  x.cell? ⟨gi, 0, none⟩ = some (.int .i64 ev) ∧ x.cell? ⟨gi, 1, none⟩ = some (.slice (some ⟨g5, 0, none⟩) xs.length xs.length))
                (first | exact hS _ (Below.refl _ _).drew | exact hS _ (below_trans' (And.left (by assumption)) (by assumption)))
                (first
                  | (go_at_call 14; obtain ⟨_, hR, hR', _⟩ := ‹Below W.heap.size W _ ∧ _›; refine (toEventGraph_any ev a xs cap hx0 _ hR).mono ?_; rintro r w2 ⟨g, rfl, hown, hb2⟩; have hR2 := hR'.stay hb2)
                  | (go_at_call 17; refine (eqEventGraph_any ev ev _ _ xs xs _ _ hx0 hx0 _ hR2 (own_slr Pl.enc_len hown)).mono ?_; rintro r w4 ⟨rfl, hb4⟩; rw [eqGr_rfl]))
              obtain ⟨hB10, -⟩ := ‹Below W.heap.size W w4 ∧ _›
              go_wp2
              go_ret
              refine ⟨rfl, ?_⟩
              have hB := below_trans' hB7 hB10
              clear hS hB7 hB10 hB6 hW
              exact hB
end Go.Proofs.Ytemomjcgkpinfaa
