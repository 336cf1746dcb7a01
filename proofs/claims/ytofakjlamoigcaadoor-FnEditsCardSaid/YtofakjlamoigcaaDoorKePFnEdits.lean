/-
  PROVED: 'laws.FnEdits': WHATEVER THE INPUT: true; the input reads as it did. No condition but the card's own: the library's listed variables hold what the program's text lays.
-/
import Derived.Test.YtofakjlamoigcaaDoorRows
import Derived.Test.YtofakjlamoigcaaDoorCards
import Derived.Test.YtofakjlamoigcaaDoorTie
import Derived.Test.YtofakjlamoigcaaDoorKeU2
import Derived.Test.YtofakjlamoigcaaDoorKeU11
import Derived.ProofKit
import Derived.LaidMore
import Derived.OpenShut
import Derived.Stop.Joined
import Derived.Stop.LaidErr
import Derived.Lib.LaidTab
import Derived.SevenTiedAt
import Derived.Lay
import Derived.Test.YtofakjlamoigcaaDoorKeOp5
namespace Go.Proofs.YtofakjlamoigcaaDoor.FnEdits
set_option linter.unusedSimpArgs false
set_option linter.unusedVariables false
open Go Go.ChangeShapes Go.WideShapes Go.ChangeAt Go.RowKit

theorem own : ownKnob Tryd.prog.godebug = none := by kernel_rfl
theorem laidOut : laidOutB Tryd.prog = true := by kernel_rfl
/-- What is asked of the world at the beginning. -/
abbrev mode : Mode := ⟨fun w => Lib.TabIs Tryd.prog w "internal/strconv.uint64pow10" .u64 Lib.pow10Tab ∧ ((∃ t p, w.var? Tryd.prog "strconv.ErrSyntax" = some #[.iface t p]) ∧ ∃ t p, w.var? Tryd.prog "strconv.ErrRange" = some #[.iface t p]) ∧ ∃ m, w.var? Tryd.prog "internal/bytealg.MaxLen" = some #[.int .i64 m]⟩
theorem mode_tab : @HasTab mode := @HasTab.mk mode fun _ h => h.1
theorem mode_err : @HasErr mode := @HasErr.mk mode fun _ h => h.2.1
theorem mode_len : @HasLen mode := @HasLen.mk mode fun _ h => h.2.2
theorem pow10_data : Rows.laid_internal_strconv_uint64pow10 (H := Unit) = Lib.tabData .u64 Lib.pow10Tab := by kernel_rfl
theorem good {W : World} (h : laidMetH Tryd.prog Rows.fnEditsRow.laid W) (hsh : W.ShapedOpen Tryd.prog) : mode.good W := by
  rw [MakeChecks.laidMetH_plain _ _ _ (by kernel_rfl)] at h
  have h2 : laidMet Tryd.prog (("internal/strconv.uint64pow10", Rows.laid_internal_strconv_uint64pow10) :: Rows.fnEditsRow.laid.drop 3) W := h.tail.tail
  rw [pow10_data] at h2
  refine ⟨?_, ⟨?_, ?_⟩, ?_⟩
  · exact Lib.tabIs_of_head (g := 1) (t := 124) (n := 20) (e := 106) (by kernel_rfl) (by kernel_rfl) Tryd.underlying124 Tryd.underlying106 (by kernel_rfl) (by kernel_rfl) h2
  · obtain ⟨a, s, hv, _⟩ := sentinel_syntax (r := Rows.fnEditsRow.laid.drop 5) h.tail.tail.tail.tail
    exact ⟨_, _, hv⟩
  · obtain ⟨a, s, hv, _⟩ := sentinel_range (r := Rows.fnEditsRow.laid.drop 4) h.tail.tail.tail
    exact ⟨_, _, hv⟩
  · exact var_maxLen hsh

set_option maxRecDepth 100000 in
theorem lifted (os : Os) (started : os.Started) (H : Type) (enc : TypeId × Value → H) :
    ReturnsInHanded {} Tryd.checked os 4 .any (fun w args => (Rows.fnEditsSpec.pre enc Tryd.prog Tryd.f4 [] false w args ∧ laidMetH Tryd.prog Rows.fnEditsRow.laid w) ∧ sizedMet enc Tryd.prog Tryd.f4 (OpenSpec.ofChange Rows.fnEditsSpec) false w args)
      (Rows.fnEditsSpec.post enc Tryd.prog Tryd.f4 false true false false) := by
  refine handed_shaped (C := Tryd.checked) (X := fun w _ => laidMetH Tryd.prog Rows.fnEditsRow.laid w) (fun _ _ _ hh h => h.of_heap hh) own started (by kernel_rfl) Tryd.func4
    (ChangeSpec.witness_shaped (enc := enc) (C := Tryd.checked) (os := os) (X := fun w _ => laidMetH Tryd.prog Rows.fnEditsRow.laid w) false (World.laidAll Tryd.prog os Rows.fnEditsRow.laid) #[.slice none 0 0] 8 (World.laidAll_os _ _ _) (World.shaped_of_ZipB (by kernel_rfl) (by kernel_rfl)) (by kernel_rfl) (by kernel_rfl) (by kernel_rfl) (by rw [MakeChecks.laidMetH_plain _ _ _ (by kernel_rfl)]; exact laidMet_laidAll _ (by kernel_rfl) (by kernel_rfl))) ?_
  intro W base args ds gs before hval0 hW _ _ hL _ hsh
  have hval : ∀ (j : Nat) t v, Tryd.f4.params[j]? = some t → args[j]? = some v → Value.okWide Tryd.prog W .any base t v := hval0
  have hW' := hW
  obtain ⟨p, q, hA0, hV, rfl, _, _⟩ := hW
  have hA : DataW.TrodAll enc Tryd.prog W 0 (fun _ => true) true Tryd.f4.params.toList args.toList ds p := hA0
  rw [Tryd.params4] at hA hval
  obtain ⟨v0, d0, rfl, rfl, h0⟩ := trodAll_one hA
  obtain ⟨rfl, rfl⟩ := trodVars_none hV
  clear hA0 hval0
  simp only [List.append_nil] at hW'
  have hlt : ∀ x ∈ p, x.block < W.heap.size := fun x hx => by simpa using hW'.lt x hx
  have k0 : ∀ (W' : World), Below W.heap.size W W' → DataW.Trod enc Tryd.prog W' 0 (fun b => decide (b < W.heap.size)) true 23 v0 d0 p :=
    fun W' hn => Below.trod laidOut (by kernel_rfl) (of_decide_eq_true (by kernel_rfl)) h0 hn (fun x hx => hlt x (hx))
  obtain ⟨r0, ⟨t0, hm0, ht0, rfl⟩, rr0⟩ := rdt_slice Tryd.underlying23 (hval 0 23 v0 rfl rfl) h0 rdc_bytes
  letI := mode
  haveI := mode_tab
  haveI := mode_err
  haveI := mode_len
  refine (AC.below (lawFnEdits_ac t0 hm0 ht0) (.cons rr0.cell .nil) (good hL hsh)).mono fun r W' ⟨he, hb⟩ => ?_
  subst he
  exact ⟨_, rfl, _, _, _, [], p, [], hW', trodAll_mk1 (shut_bool Tryd.underlying4 true), trodAll_mk1 (k0 _ hb), rfl, hb.frame _, fun h => by cases h⟩
theorem row_holds : Rows.FnEditsSaid :=
  OpenClaim.holds_of_wide 4 Tryd.f4 rfl rfl rfl rfl rfl rfl rfl ⟨rfl, rfl, rfl, rfl, rfl⟩ rfl rfl rfl rfl rfl (by kernel_rfl) Tryd.func4 (by kernel_rfl)
    (of_decide_eq_true (by kernel_rfl)) (by unfold Func.isWrapper; first | (rw [if_pos (by decide +kernel)]; kernel_rfl) | (rw [if_neg (by decide +kernel)]; exact ⟨rfl, rfl⟩))
    (fun os started H enc _ => lifted os started H enc)
theorem holds : Rows.FnEditsCardSaid :=
  Claim7.holds_tied_plain_at .later [] _ true _ true
    row_holds (fun _ h => by cases h) (by kernel_rfl) (fun _ h => by cases h) fnEdits_row_tie rfl ⟨rfl, rfl⟩ (by kernel_rfl) rfl
    (fun f fn hf hfn => by
      obtain rfl : f = 4 := Option.some.inj ((show Tryd.prog.funcNamed "loop.example/g00941/laws.FnEdits" = some 4 by kernel_rfl).symm.trans hf) |>.symm
      obtain rfl : fn = Tryd.f4 := (Option.some.inj (Tryd.func4.symm.trans hfn)).symm
      exact ⟨by kernel_rfl, fun j t ht => by
        rw [Tryd.params4] at ht
        have hm : t ∈ [23] := by simpa using Array.mem_of_getElem? ht
        have hall : ([23].all fun u => !Tryd.prog.wantsStandIn u) = true := by kernel_rfl
        exact (show Tryd.prog.wantsStandIn t = false by simpa using List.all_eq_true.1 hall t hm)⟩)
    (by kernel_rfl)

end Go.Proofs.YtofakjlamoigcaaDoor.FnEdits
