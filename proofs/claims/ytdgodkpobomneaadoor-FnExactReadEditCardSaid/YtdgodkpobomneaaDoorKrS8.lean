/-
  The library in the reading: a text split; a number read by the program (walked in the machine's own terms).
-/
import Derived.Test.YtdgodkpobomneaaDoorKrS3
import Derived.Test.YtdgodkpobomneaaDoorKrS6
import Derived.Lib.ParseIntBTie
import Derived.Lib.SplitLaws
namespace Go.Proofs.YtdgodkpobomneaaDoor
set_option linter.unusedSimpArgs false
set_option linter.unusedVariables false
open Go Go.RowKit

theorem var_below [Mode] {w w' : World} {P : Program} {name : String} {cs : Array Value} (h : w.var? P name = some cs) (hb : Below w.heap.size w w') : w'.var? P name = some cs := by
  unfold World.var? at h ⊢
  rw [Option.bind_eq_some_iff] at h ⊢
  obtain ⟨g, h1, h2⟩ := h
  refine ⟨g, h1, ?_⟩
  have hlt : g < w.heap.size := by
    refine Nat.lt_of_not_le fun hn => ?_
    have hb : w.heap[g]? = none := by simp [hn]
    simp [hb] at h2
  rw [hb.block _ hlt]; exact h2
theorem decimal_calls [Mode] (n : Int) (h0 : -9223372036854775808 ≤ n) (h1 : n ≤ 9223372036854775807) (w : World) (ht : Lib.TabIs Tryd.prog w "internal/strconv.uint64pow10" .u64 Lib.pow10Tab) :
    Calls Tryd.prog 37 #[.int .i64 n] w fun e w' => e = .returned (.string ⟨(Lib.itoa n).toArray⟩) ∧ Below w.heap.size w w' := by
  go_enter Tryd.func37, Tryd.ntmps37
  go_wp2_with (go_at_call 59; refine (Tryd.strconv_FormatInt_10 n h0 h1 w ht).mono ?_; rintro e w' ⟨rfl, k, os, rfl⟩)
  go_ret
  exact ⟨rfl, Lib.below_grow _ _ (Nat.le_refl _) _ _⟩
set_option maxRecDepth 8000 in
set_option maxHeartbeats 1600000 in
theorem readNumber_calls [Mode] (l : List UInt8) (hl : l.length ≤ 100000000) (w : World) (ht : Lib.TabIs Tryd.prog w "internal/strconv.uint64pow10" .u64 Lib.pow10Tab)
    (e1 : ∃ t p, w.var? Tryd.prog "strconv.ErrSyntax" = some #[.iface t p]) (e2 : ∃ t p, w.var? Tryd.prog "strconv.ErrRange" = some #[.iface t p]) :
    Calls Tryd.prog 50 #[.string ⟨l.toArray⟩] w fun e w' => e = .returned (.tuple #[.int .i64 (rdN l).1, .bool (rdN l).2]) ∧ Below w.heap.size w w' := by
  have hsz := size_mk l
  cases h : Lib.parseIntB 64 l with
  | ok v =>
    have hbd := Lib.parseIntB_bounds (B := 64) (l := l) (v := v) h
    have h' : Lib.parseIntB 64 (ByteArray.mk l.toArray).data.toList = .ok v := by simpa using h
    by_cases hq : Lib.itoa v = l
    · have hr : rdN l = (v, true) := by unfold rdN; rw [h]; simp [hq]
      rw [hr]
      go_enter Tryd.func50, Tryd.ntmps50
      go_wp2_with (first
        | (go_at_call 68; refine (Tryd.strconv_ParseInt_10_at64_ok ⟨l.toArray⟩ (by rw [hsz]; omega) v h' w).mono ?_; rintro e w1 ⟨rfl, hw1⟩; have hb1 : Below w.heap.size w w1 := (by rcases hw1 with rfl | ⟨t, rfl⟩; (· exact Below.refl _ _); (· exact Lib.bytesWorld_below _ _ _)); clear hw1)
        | (go_at_call 37; refine (decimal_calls v (by omega) (by omega) _ (var_below ht hb1)).mono ?_; rintro e w2 ⟨rfl, hb2⟩))
      go_ret2
      exact ⟨rfl, hb1.trans (hb2.mono hb1.size)⟩
    · have hr : rdN l = (0, false) := by unfold rdN; rw [h]; simp [hq]
      rw [hr]
      have hq2 : (Lib.itoa v == l) = false := by simp [hq]
      go_enter Tryd.func50, Tryd.ntmps50
      go_wp2_with (first
        | (go_at_call 68; refine (Tryd.strconv_ParseInt_10_at64_ok ⟨l.toArray⟩ (by rw [hsz]; omega) v h' w).mono ?_; rintro e w1 ⟨rfl, hw1⟩; have hb1 : Below w.heap.size w w1 := (by rcases hw1 with rfl | ⟨t, rfl⟩; (· exact Below.refl _ _); (· exact Lib.bytesWorld_below _ _ _)); clear hw1)
        | (go_at_call 37; refine (decimal_calls v (by omega) (by omega) _ (var_below ht hb1)).mono ?_; rintro e w2 ⟨rfl, hb2⟩))
      go_ret2
      exact ⟨rfl, hb1.trans (hb2.mono hb1.size)⟩
  | «syntax» =>
    obtain ⟨tp, p, hv⟩ := e1
    have hr : rdN l = (0, false) := by unfold rdN; rw [h]
    rw [hr]
    have h' : Lib.parseIntB 64 (ByteArray.mk l.toArray).data.toList = .«syntax» := by simpa using h
    have hcell : w.cell? ⟨2, 0, none⟩ = some (.iface tp p) := by
      refine (World.var?_cell ?h hv 0).trans ?t
      case h => kernel_rfl
      case t => simp
    go_enter Tryd.func50, Tryd.ntmps50
    go_wp2_with (go_at_call 68; refine (Tryd.strconv_ParseInt_10_at64_syntax ⟨l.toArray⟩ (by rw [hsz]; omega) h' _ w hcell (.inr ⟨_, _, rfl⟩)).mono ?_; rintro e w1 ⟨N, rfl, _, _, hb1⟩)
    go_ret2
    exact ⟨rfl, hb1⟩
  | range =>
    obtain ⟨tp, p, hv⟩ := e2
    have hr : rdN l = (0, false) := by unfold rdN; rw [h]
    rw [hr]
    have h' : Lib.parseIntB 64 (ByteArray.mk l.toArray).data.toList = .range := by simpa using h
    have hcell : w.cell? ⟨3, 0, none⟩ = some (.iface tp p) := by
      refine (World.var?_cell ?h hv 0).trans ?t
      case h => kernel_rfl
      case t => simp
    go_enter Tryd.func50, Tryd.ntmps50
    go_wp2_with (go_at_call 68; refine (Tryd.strconv_ParseInt_10_at64_range ⟨l.toArray⟩ (by rw [hsz]; omega) h' _ w hcell (.inr ⟨_, _, rfl⟩)).mono ?_; rintro e w1 ⟨N, rfl, _, _, hb1⟩)
    go_ret2
    exact ⟨rfl, hb1⟩
theorem readNumber_ac [Mode] [HasTab] [HasErr] (l : List UInt8) (hl : l.length ≤ 100000000) : AC Tryd.prog 50 [Str l] H0 (.tup [I (rdN l).1, Bo (rdN l).2]) H0 := AC.ofCalls fun ι F w vs hs hv => by
  obtain ⟨hvl, hvv⟩ := hv
  match vs, hvl with
  | [v], _ =>
    have := (hvv 0 _ v rfl rfl).v_inv
    subst this
    obtain ⟨w0, hg, _, hvar⟩ := hs.gl.held
    obtain ⟨⟨t1, p1, k1⟩, t2, p2, k2⟩ := HasErr.err w0 hg
    refine (readNumber_calls l hl w (hvar _ _ _ (HasTab.tab w0 hg)) ⟨t1, p1, hvar _ _ _ k1⟩ ⟨t2, p2, hvar _ _ _ k2⟩).mono ?_
    rintro e w' ⟨rfl, hb⟩
    exact ⟨_, rfl, fun _ _ => VRs.tup (.cons (.d (.v _)) (.cons (.d (.v _)) .nil)), hb⟩
end Go.Proofs.YtdgodkpobomneaaDoor
