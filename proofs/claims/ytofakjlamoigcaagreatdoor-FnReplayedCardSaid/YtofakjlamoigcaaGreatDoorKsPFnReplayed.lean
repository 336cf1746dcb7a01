/-
  PROVED: 'laws.FnReplayed': WHATEVER THE INPUT: true; the input reads as it did. No condition but the card's own: the library's listed variables hold what the program's text lays.
-/
import Derived.Test.YtofakjlamoigcaaGreatDoorRows
import Derived.Test.YtofakjlamoigcaaGreatDoorCards
import Derived.Test.YtofakjlamoigcaaGreatDoorTie
import Derived.Test.YtofakjlamoigcaaGreatDoorKsU2
import Derived.Test.YtofakjlamoigcaaGreatDoorKsU3
import Derived.Test.YtofakjlamoigcaaGreatDoorKsDFnReplayed
import Derived.ProofKit
import Derived.LaidMore
import Derived.OpenShut
import Derived.Stop.Joined
import Derived.Stop.LaidErr
import Derived.Lib.LaidTab
import Derived.SevenTiedAt
import Derived.Lay
import Derived.Test.YtofakjlamoigcaaGreatDoorKsU9
namespace Go.Proofs.YtofakjlamoigcaaGreatDoor.FnReplayed
set_option linter.unusedSimpArgs false
set_option linter.unusedVariables false
open Go Go.ChangeShapes Go.WideShapes Go.ChangeAt Go.RowKit

theorem own : ownKnob Tryz.prog.godebug = none := by kernel_rfl
theorem laidOut : laidOutB Tryz.prog = true := by kernel_rfl
/-- What is asked of the world at the beginning. -/
abbrev mode : Mode := ⟨fun w => Lib.TabIs Tryz.prog w "internal/strconv.uint64pow10" .u64 Lib.pow10Tab ∧ ((∃ t p, w.var? Tryz.prog "strconv.ErrSyntax" = some #[.iface t p]) ∧ ∃ t p, w.var? Tryz.prog "strconv.ErrRange" = some #[.iface t p]) ∧ ∃ m, w.var? Tryz.prog "internal/bytealg.MaxLen" = some #[.int .i64 m]⟩
theorem mode_tab : @HasTab mode := @HasTab.mk mode fun _ h => h.1
theorem mode_err : @HasErr mode := @HasErr.mk mode fun _ h => h.2.1
theorem mode_len : @HasLen mode := @HasLen.mk mode fun _ h => h.2.2
theorem pow10_data : Rows.laid_internal_strconv_uint64pow10 (H := Unit) = Lib.tabData .u64 Lib.pow10Tab := by kernel_rfl
theorem good {W : World} (h : laidMetH Tryz.prog Rows.fnReplayedRow.laid W) (hsh : W.ShapedOpen Tryz.prog) : mode.good W := by
  rw [MakeChecks.laidMetH_plain _ _ _ (by kernel_rfl)] at h
  have h2 : laidMet Tryz.prog (("internal/strconv.uint64pow10", Rows.laid_internal_strconv_uint64pow10) :: Rows.fnReplayedRow.laid.drop 3) W := h.tail.tail
  rw [pow10_data] at h2
  refine ⟨?_, ⟨?_, ?_⟩, ?_⟩
  · exact Lib.tabIs_of_head (g := 3) (t := 170) (n := 20) (e := 36) (by kernel_rfl) (by kernel_rfl) Tryz.underlying170 Tryz.underlying36 (by kernel_rfl) (by kernel_rfl) h2
  · obtain ⟨a, s, hv, _⟩ := sentinel_syntax (r := Rows.fnReplayedRow.laid.drop 6) h.tail.tail.tail.tail.tail
    exact ⟨_, _, hv⟩
  · obtain ⟨a, s, hv, _⟩ := sentinel_range (r := Rows.fnReplayedRow.laid.drop 5) h.tail.tail.tail.tail
    exact ⟨_, _, hv⟩
  · exact var_maxLen hsh

set_option maxRecDepth 100000 in
theorem lifted (os : Os) (started : os.Started) (H : Type) (enc : TypeId × Value → H) :
    ReturnsInHanded {} Tryz.checked os 5 .any (fun w args => (Rows.fnReplayedSpec.pre enc Tryz.prog Tryz.f5 [] false w args ∧ laidMetH Tryz.prog Rows.fnReplayedRow.laid w) ∧ sizedMet enc Tryz.prog Tryz.f5 (OpenSpec.ofChange Rows.fnReplayedSpec) false w args)
      (Rows.fnReplayedSpec.post enc Tryz.prog Tryz.f5 false true false false) := by
  refine handed_shaped (C := Tryz.checked) (X := fun w _ => laidMetH Tryz.prog Rows.fnReplayedRow.laid w) (fun _ _ _ hh h => h.of_heap hh) own started (by kernel_rfl) Tryz.func5
    (ChangeSpec.witness_shaped (enc := enc) (C := Tryz.checked) (os := os) (X := fun w _ => laidMetH Tryz.prog Rows.fnReplayedRow.laid w) false (World.laidAll Tryz.prog os Rows.fnReplayedRow.laid) #[.slice none 0 0] 8 (World.laidAll_os _ _ _) (World.shaped_of_ZipB (by kernel_rfl) (by kernel_rfl)) (by kernel_rfl) (by kernel_rfl) (by kernel_rfl) (by rw [MakeChecks.laidMetH_plain _ _ _ (by kernel_rfl)]; exact laidMet_laidAll _ (by kernel_rfl) (by kernel_rfl))) ?_
  intro W base args ds gs before hval0 hW _ _ hL _ hsh
  have hval : ∀ (j : Nat) t v, Tryz.f5.params[j]? = some t → args[j]? = some v → Value.okWide Tryz.prog W .any base t v := hval0
  have hW' := hW
  obtain ⟨p, q, hA0, hV, rfl, _, _⟩ := hW
  have hA : DataW.TrodAll enc Tryz.prog W 0 (fun _ => true) true Tryz.f5.params.toList args.toList ds p := hA0
  rw [Tryz.params5] at hA hval
  obtain ⟨v0, d0, rfl, rfl, h0⟩ := trodAll_one hA
  obtain ⟨rfl, rfl⟩ := trodVars_none hV
  clear hA0 hval0
  simp only [List.append_nil] at hW'
  have hlt : ∀ x ∈ p, x.block < W.heap.size := fun x hx => by simpa using hW'.lt x hx
  have k0 : ∀ (W' : World), Below W.heap.size W W' → DataW.Trod enc Tryz.prog W' 0 (fun b => decide (b < W.heap.size)) true 22 v0 d0 p :=
    fun W' hn => Below.trod laidOut (by kernel_rfl) (of_decide_eq_true (by kernel_rfl)) h0 hn (fun x hx => hlt x (hx))
  obtain ⟨r0, ⟨t0, hm0, ht0, rfl⟩, rr0⟩ := rdt_slice Tryz.underlying22 (hval 0 22 v0 rfl rfl) h0 rdc_bytes
  letI := mode
  haveI := mode_tab
  haveI := mode_err
  haveI := mode_len
  refine (AC.below (lawFnReplayed_ac t0 hm0 ht0) (.cons rr0.cell .nil) (good hL hsh)).mono fun r W' ⟨he, hb⟩ => ?_
  subst he
  exact ⟨_, rfl, _, _, _, [], p, [], hW', trodAll_mk1 (shut_bool Tryz.underlying4 true), trodAll_mk1 (k0 _ hb), rfl, hb.frame _, fun h => by cases h⟩
theorem row_holds : Rows.FnReplayedSaid :=
  OpenClaim.holds_of_wide 5 Tryz.f5 rfl rfl rfl rfl rfl rfl rfl ⟨rfl, rfl, rfl, rfl, rfl⟩ rfl rfl rfl rfl rfl (by kernel_rfl) Tryz.func5 (by kernel_rfl)
    (of_decide_eq_true (by kernel_rfl)) (by unfold Func.isWrapper; first | (rw [if_pos (by decide +kernel)]; kernel_rfl) | (rw [if_neg (by decide +kernel)]; exact ⟨rfl, rfl⟩))
    (fun os started H enc _ => lifted os started H enc)
theorem holds : Rows.FnReplayedCardSaid :=
  Claim7.holds_tied_plain_at .later [] _ true _ true
    row_holds (fun _ h => by cases h) (by kernel_rfl) (fun _ h => by cases h) fnReplayed_row_tie rfl ⟨rfl, rfl⟩ (by kernel_rfl) rfl
    (fun f fn hf hfn => by
      obtain rfl : f = 5 := Option.some.inj ((show Tryz.prog.funcNamed "loop.example/g00941/laws.FnReplayed" = some 5 by kernel_rfl).symm.trans hf) |>.symm
      obtain rfl : fn = Tryz.f5 := (Option.some.inj (Tryz.func5.symm.trans hfn)).symm
      exact ⟨by kernel_rfl, fun j t ht => by
        rw [Tryz.params5] at ht
        have hm : t ∈ [22] := by simpa using Array.mem_of_getElem? ht
        have hall : ([22].all fun u => !Tryz.prog.wantsStandIn u) = true := by kernel_rfl
        exact (show Tryz.prog.wantsStandIn t = false by simpa using List.all_eq_true.1 hall t hm)⟩)
    (by kernel_rfl)

end Go.Proofs.YtofakjlamoigcaaGreatDoor.FnReplayed
