/-
  PROVED: 'laws.FnExactFirstDifference': WHATEVER THE INPUT: true; the inputs read as they did. No condition but the card's own: the library's listed variables hold what the program's text lays.
-/
import Derived.Test.YtdgodkpobomneaaDoorRows
import Derived.Test.YtdgodkpobomneaaDoorCards
import Derived.Test.YtdgodkpobomneaaDoorTie
import Derived.Test.YtdgodkpobomneaaDoorKcU2
import Derived.Test.YtdgodkpobomneaaDoorKcDFirstDifference
import Derived.ProofKit
import Derived.LaidMore
import Derived.OpenShut
import Derived.Stop.Joined
import Derived.Stop.LaidErr
import Derived.Lib.LaidTab
import Derived.SevenTiedAt
import Derived.Lay
import Derived.Test.YtdgodkpobomneaaDoorKcU4
namespace Go.Proofs.YtdgodkpobomneaaDoor.FirstDifference
set_option linter.unusedSimpArgs false
set_option linter.unusedVariables false
open Go Go.ChangeShapes Go.WideShapes Go.ChangeAt Go.RowKit

theorem own : ownKnob Tryd.prog.godebug = none := by kernel_rfl
theorem laidOut : laidOutB Tryd.prog = true := by kernel_rfl
/-- What is asked of the world at the beginning. -/
abbrev mode : Mode := ⟨fun w => Lib.TabIs Tryd.prog w "internal/strconv.uint64pow10" .u64 Lib.pow10Tab ∧ ((∃ t p, w.var? Tryd.prog "strconv.ErrSyntax" = some #[.iface t p]) ∧ ∃ t p, w.var? Tryd.prog "strconv.ErrRange" = some #[.iface t p]) ∧ ∃ m, w.var? Tryd.prog "internal/bytealg.MaxLen" = some #[.int .i64 m]⟩
theorem mode_tab : @HasTab mode := @HasTab.mk mode fun _ h => h.1
theorem mode_err : @HasErr mode := @HasErr.mk mode fun _ h => h.2.1
theorem mode_len : @HasLen mode := @HasLen.mk mode fun _ h => h.2.2
theorem pow10_data : Rows.laid_internal_strconv_uint64pow10 (H := Unit) = Lib.tabData .u64 Lib.pow10Tab := by kernel_rfl
theorem good {W : World} (h : laidMetH Tryd.prog Rows.fnExactFirstDifferenceRow.laid W) (hsh : W.ShapedOpen Tryd.prog) : mode.good W := by
  rw [MakeChecks.laidMetH_plain _ _ _ (by kernel_rfl)] at h
  have h2 : laidMet Tryd.prog (("internal/strconv.uint64pow10", Rows.laid_internal_strconv_uint64pow10) :: Rows.fnExactFirstDifferenceRow.laid.drop 3) W := h.tail.tail
  rw [pow10_data] at h2
  refine ⟨?_, ⟨?_, ?_⟩, ?_⟩
  · exact Lib.tabIs_of_head (g := 1) (t := 134) (n := 20) (e := 116) (by kernel_rfl) (by kernel_rfl) Tryd.underlying134 Tryd.underlying116 (by kernel_rfl) (by kernel_rfl) h2
  · obtain ⟨a, s, hv, _⟩ := sentinel_syntax (r := Rows.fnExactFirstDifferenceRow.laid.drop 6) h.tail.tail.tail.tail.tail
    exact ⟨_, _, hv⟩
  · obtain ⟨a, s, hv, _⟩ := sentinel_range (r := Rows.fnExactFirstDifferenceRow.laid.drop 5) h.tail.tail.tail.tail
    exact ⟨_, _, hv⟩
  · exact var_maxLen hsh

set_option maxRecDepth 100000 in
theorem lifted (os : Os) (started : os.Started) (H : Type) (enc : TypeId × Value → H) :
    ReturnsInHanded {} Tryd.checked os 8 .any (fun w args => (Rows.fnExactFirstDifferenceSpec.pre enc Tryd.prog Tryd.f8 [] false w args ∧ laidMetH Tryd.prog Rows.fnExactFirstDifferenceRow.laid w) ∧ sizedMet enc Tryd.prog Tryd.f8 (OpenSpec.ofChange Rows.fnExactFirstDifferenceSpec) false w args)
      (Rows.fnExactFirstDifferenceSpec.post enc Tryd.prog Tryd.f8 false true false false) := by
  refine handed_shaped (C := Tryd.checked) (X := fun w _ => laidMetH Tryd.prog Rows.fnExactFirstDifferenceRow.laid w) (fun _ _ _ hh h => h.of_heap hh) own started (by kernel_rfl) Tryd.func8
    (ChangeSpec.witness_shaped (enc := enc) (C := Tryd.checked) (os := os) (X := fun w _ => laidMetH Tryd.prog Rows.fnExactFirstDifferenceRow.laid w) false (World.laidAll Tryd.prog os Rows.fnExactFirstDifferenceRow.laid) #[.string ⟨#[]⟩, .string ⟨#[]⟩] 8 (World.laidAll_os _ _ _) (World.shaped_of_ZipB (by kernel_rfl) (by kernel_rfl)) (by kernel_rfl) (by kernel_rfl) (by kernel_rfl) (by rw [MakeChecks.laidMetH_plain _ _ _ (by kernel_rfl)]; exact laidMet_laidAll _ (by kernel_rfl) (by kernel_rfl))) ?_
  intro W base args ds gs before hval0 hW _ _ hL _ hsh
  have hval : ∀ (j : Nat) t v, Tryd.f8.params[j]? = some t → args[j]? = some v → Value.okWide Tryd.prog W .any base t v := hval0
  have hW' := hW
  obtain ⟨p, q, hA0, hV, rfl, _, _⟩ := hW
  have hA : DataW.TrodAll enc Tryd.prog W 0 (fun _ => true) true Tryd.f8.params.toList args.toList ds p := hA0
  rw [Tryd.params8] at hA hval
  obtain ⟨v0, v1, d0, d1, p0, p1, rfl, rfl, rfl, h0, h1⟩ := trodAll_two hA
  obtain ⟨rfl, rfl⟩ := trodVars_none hV
  clear hA0 hval0
  simp only [List.append_nil] at hW'
  have hlt : ∀ x ∈ p0 ++ p1, x.block < W.heap.size := fun x hx => by simpa using hW'.lt x hx
  have k0 : ∀ (W' : World), Below W.heap.size W W' → DataW.Trod enc Tryd.prog W' 0 (fun b => decide (b < W.heap.size)) true 9 v0 d0 p0 :=
    fun W' hn => Below.trod laidOut (by kernel_rfl) (of_decide_eq_true (by kernel_rfl)) h0 hn (fun x hx => hlt x (by simp [hx]))
  have k1 : ∀ (W' : World), Below W.heap.size W W' → DataW.Trod enc Tryd.prog W' 0 (fun b => decide (b < W.heap.size)) true 9 v1 d1 p1 :=
    fun W' hn => Below.trod laidOut (by kernel_rfl) (of_decide_eq_true (by kernel_rfl)) h1 hn (fun x hx => hlt x (by simp [hx]))
  obtain ⟨l0, rfl, hm0⟩ := rdt_text (hval 0 9 v0 rfl rfl) h0
  unfold maxLen at hm0
  obtain ⟨l1, rfl, hm1⟩ := rdt_text (hval 1 9 v1 rfl rfl) h1
  unfold maxLen at hm1
  letI := mode
  haveI := mode_tab
  haveI := mode_err
  haveI := mode_len
  refine (AC.below (lawFirstDifference_ac _ _ hm0 hm1) (.cons (.d (.v _)) (.cons (.d (.v _)) .nil)) (good hL hsh)).mono fun r W' ⟨he, hb⟩ => ?_
  subst he
  exact ⟨_, rfl, _, _, _, [], p0 ++ p1, [], hW', trodAll_mk1 (shut_bool Tryd.underlying4 true), trodAll_mk2 (k0 _ hb) (k1 _ hb), rfl, hb.frame _, fun h => by cases h⟩
theorem row_holds : Rows.FnExactFirstDifferenceSaid :=
  OpenClaim.holds_of_wide 8 Tryd.f8 rfl rfl rfl rfl rfl rfl rfl ⟨rfl, rfl, rfl, rfl, rfl⟩ rfl rfl rfl rfl rfl (by kernel_rfl) Tryd.func8 (by kernel_rfl)
    (of_decide_eq_true (by kernel_rfl)) (by unfold Func.isWrapper; first | (rw [if_pos (by decide +kernel)]; kernel_rfl) | (rw [if_neg (by decide +kernel)]; exact ⟨rfl, rfl⟩))
    (fun os started H enc _ => lifted os started H enc)
theorem holds : Rows.FnExactFirstDifferenceCardSaid :=
  Claim7.holds_tied_plain_at .later [] _ true _ true
    row_holds (fun _ h => by cases h) (by kernel_rfl) (fun _ h => by cases h) fnExactFirstDifference_row_tie rfl ⟨rfl, rfl⟩ (by kernel_rfl) rfl
    (fun f fn hf hfn => by
      obtain rfl : f = 8 := Option.some.inj ((show Tryd.prog.funcNamed "loop.example/g00941/laws.FnExactFirstDifference" = some 8 by kernel_rfl).symm.trans hf) |>.symm
      obtain rfl : fn = Tryd.f8 := (Option.some.inj (Tryd.func8.symm.trans hfn)).symm
      exact ⟨by kernel_rfl, fun j t ht => by
        rw [Tryd.params8] at ht
        have hm : t ∈ [9, 9] := by simpa using Array.mem_of_getElem? ht
        have hall : ([9, 9].all fun u => !Tryd.prog.wantsStandIn u) = true := by kernel_rfl
        exact (show Tryd.prog.wantsStandIn t = false by simpa using List.all_eq_true.1 hall t hm)⟩)
    (by kernel_rfl)

end Go.Proofs.YtdgodkpobomneaaDoor.FirstDifference
