/-
  Walks in the abstract reading: a command read by both sides. (Printed by wip/gen/g_s27.py.)
-/
import Derived.Test.YtofakjlamoigcaaDoorKdS28
import Derived.Test.YtofakjlamoigcaaDoorKdS20
namespace Go.Proofs.YtofakjlamoigcaaDoor
set_option linter.unusedSimpArgs false
set_option linter.unusedVariables false
open Go Go.RowKit
/-- The first word of a line, what follows it, and whether there is a blank. -/
abbrev cutW (s : List UInt8) : List UInt8 × List UInt8 × Bool := Lib.cut s [32]
/-- Whether a line is a command. -/
def okC (s : List UInt8) : Bool :=
  if cfN (cutW s).1 = -2 then false else if cfN (cutW s).1 = -1 then (cutW s).2.2 else if cfN (cutW s).1 = 0 then !(cutW s).2.2
  else (spl 32 (cutW s).2.1).all (fun w => (sgN w).2) && decide (((spl 32 (cutW s).2.1).length : Int) = cfN (cutW s).1)
theorem words_num [Mode] (ws : List (List UInt8)) (hw : ws.length ≤ 2000000) (hl : ∀ w ∈ ws, w.length ≤ 100000000) : ∃ ns, ns.length ≤ ws.length ∧ (ws.all (fun w => (sgN w).2) = true → ns = ws.map fun w => (sgN w).1) ∧ AC Tryd.prog 53 [SL ws] H0 (.tup [IL ns, Bo (ws.all fun w => (sgN w).2)]) H0 := by
  rcases words_or ws with h | ⟨j, v, hj1, hj2, hj3⟩
  · have h2 : ws.all (fun w => (sgN w).2) = true := List.all_eq_true.2 h
    rw [h2]
    exact ⟨_, by simp, fun _ => rfl, numbers_frz hw hl h rfl⟩
  · have h2 : ws.all (fun w => (sgN w).2) = false := by
      rw [List.all_eq_false]
      exact ⟨v, List.mem_of_getElem? hj1, by rw [hj2]; decide⟩
    rw [h2]
    exact ⟨[], by simp, (fun h => by cases h), (l01Numbers_no ws j v hw hl hj1 hj2 hj3).frz (ARs.tup (.cons (.d (DRel.nil _)) (.cons (.dd _) .nil)))⟩
theorem spl_bound [Mode] (r : List UInt8) (hr : r.length ≤ 1999998) : (spl 32 r).length ≤ 2000000 ∧ ∀ w ∈ spl 32 r, w.length ≤ 100000000 := by
  have h2 := stS_len 32 r (r.length + 1)
  rw [stS_end] at h2
  exact ⟨by omega, fun u hu => by have := spl_mem_len hu; omega⟩
theorem cfN_graph [Mode] : cfN [103, 114, 97, 112, 104] = -1 := by decide
theorem cfN_lines [Mode] : cfN [108, 105, 110, 101, 115] = -1 := by decide
theorem cfN_edit [Mode] : cfN [101, 100, 105, 116] = -1 := by decide
theorem cfN_mean [Mode] : cfN [109, 101, 97, 110] = -1 := by decide
theorem cfN_undo [Mode] : cfN [117, 110, 100, 111] = 0 := by decide
theorem cfN_text [Mode] : cfN [116, 101, 120, 116] = 0 := by decide
theorem cfN_live [Mode] : cfN [108, 105, 118, 101] = 0 := by decide
theorem cfN_time [Mode] : cfN [116, 105, 109, 101] = 0 := by decide
theorem cfN_circuit [Mode] : cfN [99, 105, 114, 99, 117, 105, 116] = 0 := by decide
theorem cfN_period [Mode] : cfN [112, 101, 114, 105, 111, 100] = 0 := by decide
theorem cfN_margins [Mode] : cfN [109, 97, 114, 103, 105, 110, 115] = 0 := by decide
theorem cfN_run [Mode] : cfN [114, 117, 110] = 1 := by decide
theorem cfN_start [Mode] : cfN [115, 116, 97, 114, 116] = 1 := by decide
theorem cfN_fire [Mode] : cfN [102, 105, 114, 101] = 2 := by decide
theorem cfN_room [Mode] : cfN [114, 111, 111, 109] = 3 := by decide
theorem cfN_none [Mode] (a : List UInt8) (h0 : a ≠ [103, 114, 97, 112, 104]) (h1 : a ≠ [108, 105, 110, 101, 115]) (h2 : a ≠ [101, 100, 105, 116]) (h3 : a ≠ [109, 101, 97, 110]) (h4 : a ≠ [117, 110, 100, 111]) (h5 : a ≠ [116, 101, 120, 116]) (h6 : a ≠ [108, 105, 118, 101]) (h7 : a ≠ [116, 105, 109, 101]) (h8 : a ≠ [99, 105, 114, 99, 117, 105, 116]) (h9 : a ≠ [112, 101, 114, 105, 111, 100]) (h10 : a ≠ [109, 97, 114, 103, 105, 110, 115]) (h11 : a ≠ [114, 117, 110]) (h12 : a ≠ [115, 116, 97, 114, 116]) (h13 : a ≠ [102, 105, 114, 101]) (h14 : a ≠ [114, 111, 111, 109]) : cfN a = -2 := by
  unfold cfN
  simp [h0, h1, h2, h3, h4, h5, h6, h7, h8, h9, h10, h11, h12, h13, h14]
/-- What the reference answers to a line. -/
theorem parse_ac [Mode] (s : List UInt8) (hs : s.length ≤ 1999999) : ∃ w t ns, AC Tryd.prog 22 [Str s] H0 (.tup [Str w, Str t, IL ns, Bo (okC s)]) H0 := by
  rcases first_byte 32 s with ha | ⟨a, r, rfl, ha⟩
  · have hc : cutW s = (s, [], false) := cut_no ha
    unfold okC
    rw [hc]
    simp only
    have hrl : ([] : List UInt8).length ≤ 1999998 := by decide
    obtain ⟨hb1, hb2⟩ := spl_bound [] hrl
    obtain ⟨ns, hns, hall, hN⟩ := words_num (spl 32 []) hb1 hb2
    by_cases h0 : s = [103, 114, 97, 112, 104]
    · have hv : cfN s = -1 := by rw [h0]; exact cfN_graph
      rw [hv]
      exact ⟨_, _, _, parse_graph_n s ha (by omega) h0⟩
    by_cases h1 : s = [108, 105, 110, 101, 115]
    · have hv : cfN s = -1 := by rw [h1]; exact cfN_lines
      rw [hv]
      exact ⟨_, _, _, parse_lines_n s ha (by omega) h1⟩
    by_cases h2 : s = [101, 100, 105, 116]
    · have hv : cfN s = -1 := by rw [h2]; exact cfN_edit
      rw [hv]
      exact ⟨_, _, _, parse_edit_n s ha (by omega) h2⟩
    by_cases h3 : s = [109, 101, 97, 110]
    · have hv : cfN s = -1 := by rw [h3]; exact cfN_mean
      rw [hv]
      exact ⟨_, _, _, parse_mean_n s ha (by omega) h3⟩
    by_cases h4 : s = [117, 110, 100, 111]
    · have hv : cfN s = 0 := by rw [h4]; exact cfN_undo
      rw [hv]
      exact ⟨_, _, _, parse_undo_n s ha (by omega) h4⟩
    by_cases h5 : s = [116, 101, 120, 116]
    · have hv : cfN s = 0 := by rw [h5]; exact cfN_text
      rw [hv]
      exact ⟨_, _, _, parse_text_n s ha (by omega) h5⟩
    by_cases h6 : s = [108, 105, 118, 101]
    · have hv : cfN s = 0 := by rw [h6]; exact cfN_live
      rw [hv]
      exact ⟨_, _, _, parse_live_n s ha (by omega) h6⟩
    by_cases h7 : s = [116, 105, 109, 101]
    · have hv : cfN s = 0 := by rw [h7]; exact cfN_time
      rw [hv]
      exact ⟨_, _, _, parse_time_n s ha (by omega) h7⟩
    by_cases h8 : s = [99, 105, 114, 99, 117, 105, 116]
    · have hv : cfN s = 0 := by rw [h8]; exact cfN_circuit
      rw [hv]
      exact ⟨_, _, _, parse_circuit_n s ha (by omega) h8⟩
    by_cases h9 : s = [112, 101, 114, 105, 111, 100]
    · have hv : cfN s = 0 := by rw [h9]; exact cfN_period
      rw [hv]
      exact ⟨_, _, _, parse_period_n s ha (by omega) h9⟩
    by_cases h10 : s = [109, 97, 114, 103, 105, 110, 115]
    · have hv : cfN s = 0 := by rw [h10]; exact cfN_margins
      rw [hv]
      exact ⟨_, _, _, parse_margins_n s ha (by omega) h10⟩
    by_cases h11 : s = [114, 117, 110]
    · have hv : cfN s = 1 := by rw [h11]; exact cfN_run
      rw [hv]
      have h := parse_run_n s ha (by omega) h11 ns (by omega) _ hN
      cases hq : (spl 32 []).all (fun w => (sgN w).2) with
      | false => rw [hq] at h; exact ⟨_, _, _, h⟩
      | true => rw [hq] at h; rw [hall hq, List.length_map] at h; exact ⟨_, _, _, h⟩
    by_cases h12 : s = [115, 116, 97, 114, 116]
    · have hv : cfN s = 1 := by rw [h12]; exact cfN_start
      rw [hv]
      have h := parse_start_n s ha (by omega) h12 ns (by omega) _ hN
      cases hq : (spl 32 []).all (fun w => (sgN w).2) with
      | false => rw [hq] at h; exact ⟨_, _, _, h⟩
      | true => rw [hq] at h; rw [hall hq, List.length_map] at h; exact ⟨_, _, _, h⟩
    by_cases h13 : s = [102, 105, 114, 101]
    · have hv : cfN s = 2 := by rw [h13]; exact cfN_fire
      rw [hv]
      have h := parse_fire_n s ha (by omega) h13 ns (by omega) _ hN
      cases hq : (spl 32 []).all (fun w => (sgN w).2) with
      | false => rw [hq] at h; exact ⟨_, _, _, h⟩
      | true => rw [hq] at h; rw [hall hq, List.length_map] at h; exact ⟨_, _, _, h⟩
    by_cases h14 : s = [114, 111, 111, 109]
    · have hv : cfN s = 3 := by rw [h14]; exact cfN_room
      rw [hv]
      have h := parse_room_n s ha (by omega) h14 ns (by omega) _ hN
      cases hq : (spl 32 []).all (fun w => (sgN w).2) with
      | false => rw [hq] at h; exact ⟨_, _, _, h⟩
      | true => rw [hq] at h; rw [hall hq, List.length_map] at h; exact ⟨_, _, _, h⟩
    have hv : cfN s = -2 := cfN_none s h0 h1 h2 h3 h4 h5 h6 h7 h8 h9 h10 h11 h12 h13 h14
    rw [hv]
    exact ⟨_, _, _, parse_none_n s ha (by omega) h0 h1 h2 h3 h4 h5 h6 h7 h8 h9 h10 h11 h12 h13 h14 ns _ hN⟩
  · have hc : cutW (a ++ 32 :: r) = (a, r, true) := cut_at ha
    unfold okC
    rw [hc]
    simp only
    have hrl : (r : List UInt8).length ≤ 1999998 := by rw [List.length_append, List.length_cons] at hs; omega
    obtain ⟨hb1, hb2⟩ := spl_bound r hrl
    obtain ⟨ns, hns, hall, hN⟩ := words_num (spl 32 r) hb1 hb2
    by_cases h0 : a = [103, 114, 97, 112, 104]
    · have hv : cfN a = -1 := by rw [h0]; exact cfN_graph
      rw [hv]
      exact ⟨_, _, _, parse_graph_y a r ha (by omega) h0⟩
    by_cases h1 : a = [108, 105, 110, 101, 115]
    · have hv : cfN a = -1 := by rw [h1]; exact cfN_lines
      rw [hv]
      exact ⟨_, _, _, parse_lines_y a r ha (by omega) h1⟩
    by_cases h2 : a = [101, 100, 105, 116]
    · have hv : cfN a = -1 := by rw [h2]; exact cfN_edit
      rw [hv]
      exact ⟨_, _, _, parse_edit_y a r ha (by omega) h2⟩
    by_cases h3 : a = [109, 101, 97, 110]
    · have hv : cfN a = -1 := by rw [h3]; exact cfN_mean
      rw [hv]
      exact ⟨_, _, _, parse_mean_y a r ha (by omega) h3⟩
    by_cases h4 : a = [117, 110, 100, 111]
    · have hv : cfN a = 0 := by rw [h4]; exact cfN_undo
      rw [hv]
      exact ⟨_, _, _, parse_undo_y a r ha (by omega) h4⟩
    by_cases h5 : a = [116, 101, 120, 116]
    · have hv : cfN a = 0 := by rw [h5]; exact cfN_text
      rw [hv]
      exact ⟨_, _, _, parse_text_y a r ha (by omega) h5⟩
    by_cases h6 : a = [108, 105, 118, 101]
    · have hv : cfN a = 0 := by rw [h6]; exact cfN_live
      rw [hv]
      exact ⟨_, _, _, parse_live_y a r ha (by omega) h6⟩
    by_cases h7 : a = [116, 105, 109, 101]
    · have hv : cfN a = 0 := by rw [h7]; exact cfN_time
      rw [hv]
      exact ⟨_, _, _, parse_time_y a r ha (by omega) h7⟩
    by_cases h8 : a = [99, 105, 114, 99, 117, 105, 116]
    · have hv : cfN a = 0 := by rw [h8]; exact cfN_circuit
      rw [hv]
      exact ⟨_, _, _, parse_circuit_y a r ha (by omega) h8⟩
    by_cases h9 : a = [112, 101, 114, 105, 111, 100]
    · have hv : cfN a = 0 := by rw [h9]; exact cfN_period
      rw [hv]
      exact ⟨_, _, _, parse_period_y a r ha (by omega) h9⟩
    by_cases h10 : a = [109, 97, 114, 103, 105, 110, 115]
    · have hv : cfN a = 0 := by rw [h10]; exact cfN_margins
      rw [hv]
      exact ⟨_, _, _, parse_margins_y a r ha (by omega) h10⟩
    by_cases h11 : a = [114, 117, 110]
    · have hv : cfN a = 1 := by rw [h11]; exact cfN_run
      rw [hv]
      have h := parse_run_y a r ha (by omega) h11 ns (by omega) _ hN
      cases hq : (spl 32 r).all (fun w => (sgN w).2) with
      | false => rw [hq] at h; exact ⟨_, _, _, h⟩
      | true => rw [hq] at h; rw [hall hq, List.length_map] at h; exact ⟨_, _, _, h⟩
    by_cases h12 : a = [115, 116, 97, 114, 116]
    · have hv : cfN a = 1 := by rw [h12]; exact cfN_start
      rw [hv]
      have h := parse_start_y a r ha (by omega) h12 ns (by omega) _ hN
      cases hq : (spl 32 r).all (fun w => (sgN w).2) with
      | false => rw [hq] at h; exact ⟨_, _, _, h⟩
      | true => rw [hq] at h; rw [hall hq, List.length_map] at h; exact ⟨_, _, _, h⟩
    by_cases h13 : a = [102, 105, 114, 101]
    · have hv : cfN a = 2 := by rw [h13]; exact cfN_fire
      rw [hv]
      have h := parse_fire_y a r ha (by omega) h13 ns (by omega) _ hN
      cases hq : (spl 32 r).all (fun w => (sgN w).2) with
      | false => rw [hq] at h; exact ⟨_, _, _, h⟩
      | true => rw [hq] at h; rw [hall hq, List.length_map] at h; exact ⟨_, _, _, h⟩
    by_cases h14 : a = [114, 111, 111, 109]
    · have hv : cfN a = 3 := by rw [h14]; exact cfN_room
      rw [hv]
      have h := parse_room_y a r ha (by omega) h14 ns (by omega) _ hN
      cases hq : (spl 32 r).all (fun w => (sgN w).2) with
      | false => rw [hq] at h; exact ⟨_, _, _, h⟩
      | true => rw [hq] at h; rw [hall hq, List.length_map] at h; exact ⟨_, _, _, h⟩
    have hv : cfN a = -2 := cfN_none a h0 h1 h2 h3 h4 h5 h6 h7 h8 h9 h10 h11 h12 h13 h14
    rw [hv]
    exact ⟨_, _, _, parse_none_y a r ha (by omega) h0 h1 h2 h3 h4 h5 h6 h7 h8 h9 h10 h11 h12 h13 h14 ns _ hN⟩
theorem numbers_or [Mode] (ws : List (List UInt8)) : (∀ (i : Nat) u, ws[i]? = some u → (rdN u).2 = true ∧ (trm u).length ≤ 10) ∨ ∃ j v, ws[j]? = some v ∧ ¬((rdN v).2 = true ∧ (trm v).length ≤ 10) ∧ ∀ (i : Nat) w, i < j → ws[i]? = some w → (rdN w).2 = true ∧ (trm w).length ≤ 10 := by
  rcases words_or ws with h | ⟨j, v, h1, h2, h3⟩
  · refine .inl fun i u hu => ?_
    have := h u (List.mem_of_getElem? hu)
    rw [sgN_iff, Bool.and_eq_true, decide_eq_true_eq] at this
    exact this
  · refine .inr ⟨j, v, h1, fun h => ?_, fun i w hi hw => ?_⟩
    · rw [sgN_iff, Bool.and_eq_false_iff] at h2
      rcases h2 with h2 | h2
      · rw [h.1] at h2; cases h2
      · exact (of_decide_eq_false h2) h.2
    · have := h3 i w hi hw
      rw [sgN_iff, Bool.and_eq_true, decide_eq_true_eq] at this
      exact this
theorem form_ac [Mode] (w : List UInt8) : AC Tryd.prog 54 [Str w] H0 (I (cfN w)) H0 := by
  by_cases h0 : w = [103, 114, 97, 112, 104]
  · subst h0; rw [cfN_graph]; exact form_graph
  by_cases h1 : w = [108, 105, 110, 101, 115]
  · subst h1; rw [cfN_lines]; exact form_lines
  by_cases h2 : w = [101, 100, 105, 116]
  · subst h2; rw [cfN_edit]; exact form_edit
  by_cases h3 : w = [109, 101, 97, 110]
  · subst h3; rw [cfN_mean]; exact form_mean
  by_cases h4 : w = [117, 110, 100, 111]
  · subst h4; rw [cfN_undo]; exact form_undo
  by_cases h5 : w = [116, 101, 120, 116]
  · subst h5; rw [cfN_text]; exact form_text
  by_cases h6 : w = [108, 105, 118, 101]
  · subst h6; rw [cfN_live]; exact form_live
  by_cases h7 : w = [116, 105, 109, 101]
  · subst h7; rw [cfN_time]; exact form_time
  by_cases h8 : w = [99, 105, 114, 99, 117, 105, 116]
  · subst h8; rw [cfN_circuit]; exact form_circuit
  by_cases h9 : w = [112, 101, 114, 105, 111, 100]
  · subst h9; rw [cfN_period]; exact form_period
  by_cases h10 : w = [109, 97, 114, 103, 105, 110, 115]
  · subst h10; rw [cfN_margins]; exact form_margins
  by_cases h11 : w = [114, 117, 110]
  · subst h11; rw [cfN_run]; exact form_run
  by_cases h12 : w = [115, 116, 97, 114, 116]
  · subst h12; rw [cfN_start]; exact form_start
  by_cases h13 : w = [102, 105, 114, 101]
  · subst h13; rw [cfN_fire]; exact form_fire
  by_cases h14 : w = [114, 111, 111, 109]
  · subst h14; rw [cfN_room]; exact form_room
  rw [cfN_none w h0 h1 h2 h3 h4 h5 h6 h7 h8 h9 h10 h11 h12 h13 h14]
  exact form_none w h0 h1 h2 h3 h4 h5 h6 h7 h8 h9 h10 h11 h12 h13 h14
theorem cfN_range [Mode] (w : List UInt8) : cfN w = -2 ∨ cfN w = -1 ∨ cfN w = 0 ∨ (1 ≤ cfN w ∧ cfN w ≤ 3) := by
  unfold cfN
  repeat' split
  all_goals omega
/-- What the program answers to a line. -/
theorem readC_ac [Mode] [HasTab] [HasErr] [HasLen] (s : List UInt8) (hs : s.length ≤ 1999999) : ∃ t ns, AC Tryd.prog 23 [Str s] H0 (.tup [Str t, IL ns, Bo (okC s)]) H0 := by
  have hC : AC Tryd.prog 37 [Str s, Str [32]] H0 (.tup [Str (cutW s).1, Str (cutW s).2.1, Bo (cutW s).2.2]) H0 := cut_ac s [32] (by omega)
  have hF := form_ac (cutW s).1
  have hrl : (cutW s).2.1.length ≤ 1999999 := Nat.le_trans (cut_len1 s 32).2 hs
  have hrb : (cutW s).2.2 = false → (cutW s).2.1 = [] := fun h => by
    rcases first_byte 32 s with ha | ⟨a, r, rfl, ha⟩
    · rw [cutW, cut_no ha]
    · rw [cutW, cut_at ha] at h; cases h
  unfold okC
  generalize cutW s = q at *
  obtain ⟨w, r, b⟩ := q
  simp only at hC hF hrl hrb ⊢
  rcases cfN_range w with h | h | h | h
  · rw [h] at hF
    rw [if_pos h]
    exact ⟨_, [], readC_none s w r b hC hF⟩
  · rw [h] at hF
    rw [h, if_neg (by decide), if_pos rfl]
    exact ⟨_, [], readC_text s w r b hC hF⟩
  · rw [h] at hF
    rw [h, if_neg (by decide), if_neg (by decide), if_pos rfl]
    exact ⟨_, [], readC_zero s w r b hC hF⟩
  generalize cfN w = n at *
  rw [if_neg (by omega), if_neg (by omega), if_neg (by omega)]
  cases b with
  | false =>
    obtain rfl := hrb rfl
    have e : ((spl 32 []).all fun w => (sgN w).2) = false := by rw [spl_no (by simp)]; decide
    rw [e, Bool.false_and]
    exact ⟨_, [], readC_bare s w [] n h hC hF⟩
  | true =>
    rcases numbers_or (spl 32 r) with hb | ⟨j, v, hj, hv, hb⟩
    · have e : ((spl 32 r).all fun w => (sgN w).2) = true := List.all_eq_true.2 fun u hu => by
        obtain ⟨i, hi⟩ := List.mem_iff_getElem?.1 hu
        rw [sgN_iff, Bool.and_eq_true, decide_eq_true_eq]
        exact hb i u hi
      rw [e, Bool.true_and]
      exact ⟨_, nsW (spl 32 r), (readC_ok s w r n h (by omega) hb hC hF).frz (ARs.tup (.cons (.dd _) (.cons (AR.whole rfl trivial IR_len) (.cons (.dd _) .nil))))⟩
    · have e : ((spl 32 r).all fun w => (sgN w).2) = false := by
        rw [List.all_eq_false]
        refine ⟨v, List.mem_of_getElem? hj, fun h => hv ?_⟩
        rw [sgN_iff, Bool.and_eq_true, decide_eq_true_eq] at h
        exact h
      rw [e, Bool.false_and]
      exact ⟨_, [], readC_bad s w r n h (by omega) j v hj hv hb hC hF⟩
end Go.Proofs.YtofakjlamoigcaaDoor
