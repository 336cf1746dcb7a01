/-
  The library in the reading: a text split; a number read by the program (walked in the machine's own terms).
-/
import Derived.Test.YtofakjlamoigcaaDoorKdS3
import Derived.Test.YtofakjlamoigcaaDoorKdS6
import Derived.Lib.ParseIntBTie
import Derived.Lib.SplitLaws
namespace Go.Proofs.YtofakjlamoigcaaDoor
set_option linter.unusedSimpArgs false
set_option linter.unusedVariables false
open Go Go.RowKit

theorem var_below [Mode] {w w' : World} {P : Program} {name : String} {cs : Array Value} (h : w.var? P name = some cs) (hb : Below w.heap.size w w') : w'.var? P name = some cs := by
  unfold World.var? at h ⊢
  rw [Option.bind_eq_some_iff] at h ⊢
  obtain ⟨g, h1, h2⟩ := h
  refine ⟨g, h1, ?_⟩
  have hlt : g < w.heap.size := by
    refine Nat.lt_of_not_le fun hn => ?_
    have hb : w.heap[g]? = none := by simp [hn]
    simp [hb] at h2
  rw [hb.block _ hlt]; exact h2
theorem decimal_calls [Mode] (n : Int) (h0 : -9223372036854775808 ≤ n) (h1 : n ≤ 9223372036854775807) (w : World) (ht : Lib.TabIs Tryd.prog w "internal/strconv.uint64pow10" .u64 Lib.pow10Tab) :
    Calls Tryd.prog 35 #[.int .i64 n] w fun e w' => e = .returned (.string ⟨(Lib.itoa n).toArray⟩) ∧ Below w.heap.size w w' := by
  go_enter Tryd.func35, Tryd.ntmps35
  go_wp2_with (go_at_call 63; refine (Tryd.strconv_FormatInt_10 n h0 h1 w ht).mono ?_; rintro e w' ⟨rfl, k, os, rfl⟩)
  go_ret
  exact ⟨rfl, Lib.below_grow _ _ (Nat.le_refl _) _ _⟩
set_option maxRecDepth 8000 in
set_option maxHeartbeats 1600000 in
theorem readNumber_calls [Mode] (l : List UInt8) (hl : l.length ≤ 100000000) (w : World) (ht : Lib.TabIs Tryd.prog w "internal/strconv.uint64pow10" .u64 Lib.pow10Tab)
    (e1 : ∃ t p, w.var? Tryd.prog "strconv.ErrSyntax" = some #[.iface t p]) (e2 : ∃ t p, w.var? Tryd.prog "strconv.ErrRange" = some #[.iface t p]) :
    Calls Tryd.prog 38 #[.string ⟨l.toArray⟩] w fun e w' => e = .returned (.tuple #[.int .i64 (rdN l).1, .bool (rdN l).2]) ∧ Below w.heap.size w w' := by
  have hsz := size_mk l
  cases h : Lib.parseIntB 64 l with
  | ok v =>
    have hbd := Lib.parseIntB_bounds (B := 64) (l := l) (v := v) h
    have h' : Lib.parseIntB 64 (ByteArray.mk l.toArray).data.toList = .ok v := by simpa using h
    by_cases hq : Lib.itoa v = l
    · have hr : rdN l = (v, true) := by unfold rdN; rw [h]; simp [hq]
      rw [hr]
      go_enter Tryd.func38, Tryd.ntmps38
      go_wp2_with (first
        | (go_at_call 65; refine (Tryd.strconv_ParseInt_10_at64_ok ⟨l.toArray⟩ (by rw [hsz]; omega) v h' w).mono ?_; rintro e w1 ⟨rfl, hw1⟩; have hb1 : Below w.heap.size w w1 := (by rcases hw1 with rfl | ⟨t, rfl⟩; (· exact Below.refl _ _); (· exact Lib.bytesWorld_below _ _ _)); clear hw1)
        | (go_at_call 35; refine (decimal_calls v (by omega) (by omega) _ (var_below ht hb1)).mono ?_; rintro e w2 ⟨rfl, hb2⟩))
      go_ret2
      exact ⟨rfl, hb1.trans (hb2.mono hb1.size)⟩
    · have hr : rdN l = (0, false) := by unfold rdN; rw [h]; simp [hq]
      rw [hr]
      have hq2 : (Lib.itoa v == l) = false := by simp [hq]
      go_enter Tryd.func38, Tryd.ntmps38
      go_wp2_with (first
        | (go_at_call 65; refine (Tryd.strconv_ParseInt_10_at64_ok ⟨l.toArray⟩ (by rw [hsz]; omega) v h' w).mono ?_; rintro e w1 ⟨rfl, hw1⟩; have hb1 : Below w.heap.size w w1 := (by rcases hw1 with rfl | ⟨t, rfl⟩; (· exact Below.refl _ _); (· exact Lib.bytesWorld_below _ _ _)); clear hw1)
        | (go_at_call 35; refine (decimal_calls v (by omega) (by omega) _ (var_below ht hb1)).mono ?_; rintro e w2 ⟨rfl, hb2⟩))
      go_ret2
      exact ⟨rfl, hb1.trans (hb2.mono hb1.size)⟩
  | «syntax» =>
    obtain ⟨tp, p, hv⟩ := e1
    have hr : rdN l = (0, false) := by unfold rdN; rw [h]
    rw [hr]
    have h' : Lib.parseIntB 64 (ByteArray.mk l.toArray).data.toList = .«syntax» := by simpa using h
    have hcell : w.cell? ⟨2, 0, none⟩ = some (.iface tp p) := by
      refine (World.var?_cell ?h hv 0).trans ?t
      case h => kernel_rfl
      case t => simp
    go_enter Tryd.func38, Tryd.ntmps38
    go_wp2_with (go_at_call 65; refine (Tryd.strconv_ParseInt_10_at64_syntax ⟨l.toArray⟩ (by rw [hsz]; omega) h' _ w hcell (.inr ⟨_, _, rfl⟩)).mono ?_; rintro e w1 ⟨N, rfl, _, _, hb1⟩)
    go_ret2
    exact ⟨rfl, hb1⟩
  | range =>
    obtain ⟨tp, p, hv⟩ := e2
    have hr : rdN l = (0, false) := by unfold rdN; rw [h]
    rw [hr]
    have h' : Lib.parseIntB 64 (ByteArray.mk l.toArray).data.toList = .range := by simpa using h
    have hcell : w.cell? ⟨3, 0, none⟩ = some (.iface tp p) := by
      refine (World.var?_cell ?h hv 0).trans ?t
      case h => kernel_rfl
      case t => simp
    go_enter Tryd.func38, Tryd.ntmps38
    go_wp2_with (go_at_call 65; refine (Tryd.strconv_ParseInt_10_at64_range ⟨l.toArray⟩ (by rw [hsz]; omega) h' _ w hcell (.inr ⟨_, _, rfl⟩)).mono ?_; rintro e w1 ⟨N, rfl, _, _, hb1⟩)
    go_ret2
    exact ⟨rfl, hb1⟩
theorem readNumber_ac [Mode] [HasTab] [HasErr] (l : List UInt8) (hl : l.length ≤ 100000000) : AC Tryd.prog 38 [Str l] H0 (.tup [I (rdN l).1, Bo (rdN l).2]) H0 := AC.ofCalls fun ι F w vs hs hv => by
  obtain ⟨hvl, hvv⟩ := hv
  match vs, hvl with
  | [v], _ =>
    have := (hvv 0 _ v rfl rfl).v_inv
    subst this
    obtain ⟨w0, hg, _, hvar⟩ := hs.gl.held
    obtain ⟨⟨t1, p1, k1⟩, t2, p2, k2⟩ := HasErr.err w0 hg
    refine (readNumber_calls l hl w (hvar _ _ _ (HasTab.tab w0 hg)) ⟨t1, p1, hvar _ _ _ k1⟩ ⟨t2, p2, hvar _ _ _ k2⟩).mono ?_
    rintro e w' ⟨rfl, hb⟩
    exact ⟨_, rfl, fun _ _ => VRs.tup (.cons (.d (.v _)) (.cons (.d (.v _)) .nil)), hb⟩
/-- A contract of a function that lays one new row and hands it back. -/
theorem AC.ofRow [Mode] {P : Program} {f : FuncId} {args : List AV} {rows : List (List D)} {k : Nat}
    (h : ∀ (ι : Iota) (F : Nat → Prop) (w : World) (vs : List Value), Sim ι F H0 w → VRs ι F w args vs → Calls P f vs.toArray w fun e w' => ∃ (cs : List Value) (T : TypeId) (cap : Nat), e = .returned (.slice (some ⟨w.heap.size, 0, none⟩) rows.length cap) ∧ w' = w.alloc (.cells cs.toArray T) ∧ rows.length ≤ cap ∧ cap * k ≤ cs.length ∧
      ∀ (i : Nat) r, rows[i]? = some r → r.length = k ∧ ∀ (j : Nat) c, r[j]? = some c → ∃ v, cs[i * k + j]? = some v ∧ DR F w c v) : AC P f args H0 (own1 k rows.length) (hp1 (dobj k rows)) := by
  intro ι F w vs hs hdom hv
  refine (h ι F w vs hs hv).mono ?_
  rintro e w' ⟨cs, T, cap, rfl, rfl, hcap, hlen, hrows⟩
  have hp := Post.alloc hs (new := 0) (fun k => hdom _ rfl) cs T (dobj k rows) (by simp only [dobj, List.length_map]; exact Nat.le_trans (Nat.mul_le_mul_right _ hcap) hlen) (fun i r hr => by
    simp only [dobj, List.getElem?_map, Option.map_eq_some_iff] at hr
    obtain ⟨r', hr', rfl⟩ := hr
    obtain ⟨h1, h2⟩ := hrows i r' hr'
    refine ⟨by show (r'.map AV.d).length = k; rw [List.length_map]; exact h1, fun j c hc => ?_⟩
    simp only [List.getElem?_map, Option.map_eq_some_iff] at hc
    obtain ⟨c', hc', rfl⟩ := hc
    obtain ⟨v, h3, h4⟩ := h2 j c' hc'
    exact ⟨v, h3, .d h4⟩) []
  refine ⟨_, _, _, rfl, ?_, hp.sim, hp.step.mono fun b ⟨l, hl, _⟩ => absurd hl Cov.nil, hp.sub, fun b hb => ?_, fun b ⟨l, h1, s, e1⟩ => ?_, fun l x h1 => absurd rfl h1⟩
  · have := VR.own (ι := updι ι ⟨0, []⟩ (some (w.heap.size, cs.length))) (F := F) (w := w.alloc (.cells cs.toArray T)) k ⟨0, []⟩ 0 rows.length w.heap.size cs.length cap (by simp [updι]) hcap (by simpa using hlen)
    simpa using this
  · rcases hp.sup b hb with h1 | ⟨l, hl, _⟩ | h1
    · exact .inl h1
    · exact absurd hl Cov.nil
    · exact .inr (.inr h1)
  · rcases hp.own l b s h1 e1 with ⟨l0, h2, _⟩ | h2
    · exact absurd rfl h2
    · exact .inr h2
theorem split_lists [Mode] (l : List UInt8) (c : UInt8) : ∃ ss : List ByteArray, Lib.splitB ⟨#[c]⟩ 0 (Lib.countB ⟨l.toArray⟩ ⟨#[c]⟩) ⟨l.toArray⟩ = ss ∧ ss.map (·.data.toList) = spl c l ∧ Lib.countB ⟨l.toArray⟩ ⟨#[c]⟩ + 1 = (spl c l).length := by
  refine ⟨_, rfl, ?_, ?_⟩
  · rw [Lib.splitB_data]
    have := split_spl c l
    exact this
  · have h1 := Lib.splitB_all ⟨#[c]⟩ (show 1 ≤ 1 from Nat.le_refl 1) 0 _ ⟨l.toArray⟩ rfl
    rw [← h1, ← split_spl c l]
    have h2 := Lib.splitB_data ⟨#[c]⟩ 0 (Lib.countB ⟨l.toArray⟩ ⟨#[c]⟩) ⟨l.toArray⟩
    have h3 := congrArg List.length h2
    rw [List.length_map] at h3
    exact h3
theorem iSplit_ac [Mode] [HasLen] (l : List UInt8) (c : UInt8) (hl : l.length ≤ 100000000) : AC Tryd.prog 55 [Str l, Str [c]] H0 (own1 1 (spl c l).length) (hp1 (SO (spl c l))) := by
  have hrl : (stR (spl c l)).length = (spl c l).length := stR_len _
  rw [← hrl]
  refine AC.ofRow fun ι F w vs hs hv => ?_
  have := hv.inv2; subst this
  obtain ⟨w0, hg, _, hvar⟩ := hs.gl.held
  obtain ⟨m, hm⟩ := HasLen.len w0 hg
  have hm' := hvar _ _ _ hm
  obtain ⟨ss, e1, e2, e3⟩ := split_lists l c
  refine (Tryd.strings_Split ⟨l.toArray⟩ ⟨[c].toArray⟩ m w (by rw [size_mk]; omega) (by refine (World.var?_cell ?h hm' 0).trans ?t; (· kernel_rfl); (· simp)) (show 1 ≤ 1 from Nat.le_refl 1)).mono ?_
  rintro e w' ⟨rfl, rfl⟩
  have hsl : ss.length = (spl c l).length := by rw [← e2, List.length_map]
  refine ⟨ss.map Value.string, 9, (spl c l).length, by rw [hrl]; exact congrArg Ending.returned (by rw [show ([c].toArray : Array UInt8) = #[c] from rfl, e3]), by rw [show ([c].toArray : Array UInt8) = #[c] from rfl, e1], by rw [hrl]; exact Nat.le_refl _, by simp [hsl], fun i r hr => ?_⟩
  simp only [stR, List.getElem?_map, Option.map_eq_some_iff] at hr
  obtain ⟨p, hp, rfl⟩ := hr
  rw [← e2, List.getElem?_map, Option.map_eq_some_iff] at hp
  obtain ⟨s, hs', rfl⟩ := hp
  refine ⟨rfl, fun j c' hc' => ?_⟩
  cases j with
  | succ j => simp at hc'
  | zero =>
    simp only [List.getElem?_cons_zero, Option.some.injEq] at hc'
    subst hc'
    refine ⟨.string s, by simp [hs'], ?_⟩
    have e : Value.string s = Value.string ⟨s.data.toList.toArray⟩ := congrArg Value.string (mk_eta s)
    rw [e]
    exact .v _
end Go.Proofs.YtofakjlamoigcaaDoor
