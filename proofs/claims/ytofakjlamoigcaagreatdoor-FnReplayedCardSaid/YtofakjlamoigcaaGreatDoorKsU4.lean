/-
  Walks in the abstract reading, part 4.
-/
import Derived.Test.YtofakjlamoigcaaGreatDoorKsU3
import Derived.Test.YtofakjlamoigcaaGreatDoorKsA3
import Derived.Test.YtofakjlamoigcaaGreatDoorKsU1
section
namespace Go.Proofs.YtofakjlamoigcaaGreatDoor
set_option linter.unusedSimpArgs false
set_option linter.unusedVariables false
open Go Go.RowKit

theorem isEG_okR [Mode] {ev : Int} {xs : List Pl} (h : isEG ev xs = true) : ∃ n : Nat, ev = n ∧ 1 ≤ n ∧ n ≤ 10 ∧ xs.length ≤ 30 ∧ ∀ p ∈ xs, okPl n p := by
  simp only [isEG, Bool.and_eq_true, decide_eq_true_eq, List.all_eq_true, wi_iff] at h
  obtain ⟨⟨⟨h1, h2⟩, h3⟩, h4⟩ := h
  refine ⟨ev.toNat, by omega, by omega, by omega, h3, fun p hp => ?_⟩
  have := h4 p hp
  simp only [plB, Bool.and_eq_true, wi_iff] at this
  unfold okPl
  omega
/-- The times of an event's firings. -/
def tms (fs : List Fi) (e : Int) : List Int := (fs.filter fun f => decide (f.e = e)).map (·.t)
theorem tms_len [Mode] (fs : List Fi) (e : Int) : (tms fs e).length = cnt fs e := by rw [tms, List.length_map, cnt, List.countP_eq_length_filter]
theorem tms_snoc [Mode] {fs : List Fi} {f : Fi} {e : Int} : tms (fs ++ [f]) e = tms fs e ++ if f.e = e then [f.t] else [] := by
  by_cases h : f.e = e <;> simp [tms, h]
theorem tms_mem [Mode] {fs : List Fi} {e t : Int} (h : t ∈ tms fs e) : ∃ f ∈ fs, f.t = t := by
  obtain ⟨f, hf, rfl⟩ := List.mem_map.1 h
  exact ⟨f, (List.mem_filter.1 hf).1, rfl⟩
/-- The firings of each event are numbered from 1 on. -/
def NumOk (fs : List Fi) : Prop := ∀ (k : Nat) (f : Fi), fs[k]? = some f → f.n = cnt (fs.take k) f.e + 1
theorem NumOk.take [Mode] {fs : List Fi} (h : NumOk fs) (k : Nat) : NumOk (fs.take k) := fun i f hf => by
  rw [List.getElem?_take] at hf
  split at hf
  · rw [List.take_take, Nat.min_eq_left (by omega)]; exact h i f hf
  · cases hf
theorem NumOk.init [Mode] {fs : List Fi} {f : Fi} (h : NumOk (fs ++ [f])) : NumOk fs ∧ f.n = cnt fs f.e + 1 := by
  constructor
  · have := h.take fs.length
    rwa [List.take_left] at this
  · have := h fs.length f (by simp)
    rwa [List.take_left] at this
theorem NumOk.snoc [Mode] {fs : List Fi} {f : Fi} (h : NumOk fs) (hf : f.n = cnt fs f.e + 1) : NumOk (fs ++ [f]) := fun k g hg => by
  rw [List.getElem?_append] at hg
  split at hg
  · rename_i hlt
    rw [List.take_append_of_le_length (by omega)]
    exact h k g hg
  · rename_i hge
    have hk0 : k - fs.length = 0 := by
      have := (List.getElem?_eq_some_iff.1 hg).1
      simp at this; omega
    rw [hk0] at hg
    simp only [List.getElem?_cons_zero, Option.some.injEq] at hg
    subst hg
    have : k = fs.length := by omega
    subst this
    simpa using hf
def TmOk (fs : List Fi) : Prop := ∀ f ∈ fs, 0 ≤ f.t ∧ f.t ≤ 1000000
theorem TmOk.take [Mode] {fs : List Fi} (h : TmOk fs) (k : Nat) : TmOk (fs.take k) := fun f hf => h f (List.mem_of_mem_take hf)
theorem TmOk.tms [Mode] {fs : List Fi} (h : TmOk fs) (e : Int) : ∀ t ∈ tms fs e, 0 ≤ t ∧ t ≤ 1000000 := fun t ht => by
  obtain ⟨f, hf, rfl⟩ := tms_mem ht
  exact h f hf
/-- The first element of a list that has a property, or none. -/
theorem first_or [Mode] {α : Type} (q : α → Bool) (xs : List α) : (∀ x ∈ xs, q x = false) ∨ ∃ j x, xs[j]? = some x ∧ q x = true ∧ ∀ (i : Nat) y, i < j → xs[i]? = some y → q y = false := by
  induction xs with
  | nil => exact .inl (by simp)
  | cons w ws ih =>
    cases hw : q w with
    | true => exact .inr ⟨0, w, rfl, hw, fun i y hi => by omega⟩
    | false =>
      rcases ih with h | ⟨j, v, h1, h2, h3⟩
      · exact .inl fun x hx => by rcases List.mem_cons.1 hx with rfl | hx; (· exact hw); (· exact h x hx)
      · refine .inr ⟨j + 1, v, by simpa using h1, h2, fun i x hi hx => ?_⟩
        cases i with
        | zero => simp at hx; subst hx; exact hw
        | succ i => exact h3 i x (by omega) (by simpa using hx)
/-- A firing of an event by its number: its time, and whether it is there. -/
def fiN (fs : List Fi) (e n : Int) : Int × Bool := match fs.find? (fun f => decide (f.e = e ∧ f.n = n)) with
  | some f => (f.t, true)
  | none => (0, false)
/-- The same, off the event's times. -/
def tmN (fs : List Fi) (e n : Int) : Int × Bool := if 1 ≤ n ∧ n ≤ (cnt fs e : Int) then (((tms fs e)[(n - 1).toNat]?).getD 0, true) else (0, false)
theorem fd_tm [Mode] (fs : List Fi) (e n : Int) (h : NumOk fs) : fiN fs e n = tmN fs e n := by
  suffices key : ∀ (m : Nat) (fs : List Fi), fs.length = m → NumOk fs → fiN fs e n = tmN fs e n from key _ fs rfl h
  intro m
  induction m with
  | zero =>
    intro fs hl _
    obtain rfl := List.length_eq_zero_iff.1 hl
    unfold tmN
    rw [if_neg (by simp [cnt]; omega)]; rfl
  | succ m ih =>
    intro fs hl hno
    obtain ⟨gs, f, rfl⟩ : ∃ gs f, fs = gs ++ [f] := ⟨fs.dropLast, fs.getLast (by intro e; rw [e] at hl; cases hl), (List.dropLast_concat_getLast _).symm⟩
    obtain ⟨h1, h2⟩ := hno.init
    have hi := ih gs (by simpa using hl) h1
    have hcs := cnt_snoc (fs := gs) (f := f) (e := e)
    have hts := tms_snoc (fs := gs) (f := f) (e := e)
    have hlen := tms_len gs e
    unfold fiN at hi ⊢
    rw [List.find?_append]
    unfold tmN at hi ⊢
    cases hfd : gs.find? (fun f => decide (f.e = e ∧ f.n = n)) with
    | some g =>
      rw [hfd] at hi
      simp only [Option.some_or] at hi ⊢
      by_cases hc : 1 ≤ n ∧ n ≤ (cnt gs e : Int)
      · rw [if_pos hc] at hi
        rw [hi, if_pos (by rw [hcs]; split <;> omega), hts, List.getElem?_append_left (by omega)]
      · rw [if_neg hc] at hi
        exact absurd (congrArg Prod.snd hi) (by simp)
    | none =>
      rw [hfd] at hi
      simp only [Option.none_or] at hi ⊢
      have hc : ¬(1 ≤ n ∧ n ≤ (cnt gs e : Int)) := fun hc => by rw [if_pos hc] at hi; exact absurd (congrArg Prod.snd hi) (by simp)
      by_cases he : f.e = e
      · rw [if_pos he] at hcs hts
        by_cases hn : f.n = n
        · simp only [List.find?_cons, he, hn, and_self, decide_true]
          rw [he] at h2
          rw [if_pos (by omega), hts, List.getElem?_append_right (by omega), hlen]
          have : (n - 1).toNat - cnt gs e = 0 := by omega
          rw [this]; rfl
        · simp only [List.find?_cons, hn, and_false, decide_false, List.find?_nil]
          rw [he] at h2
          rw [if_neg (by omega)]
      · rw [if_neg he, Nat.add_zero] at hcs
        simp only [List.find?_cons, he, false_and, decide_false, List.find?_nil]
        rw [hcs, if_neg hc]
/-- Does a place let an event fire next, and from when on? -/
def gdP (fs : List Fi) (e : Int) (p : Pl) : Bool := decide (p.t ≠ e ∨ (cnt fs e : Int) + 1 ≤ p.k ∨ (cnt fs e : Int) + 1 - p.k ≤ (cnt fs p.f : Int))
def rxP (fs : List Fi) (e : Int) (t : Int) (p : Pl) : Int := if p.t ≠ e ∨ (cnt fs e : Int) + 1 ≤ p.k then t else max t (((tms fs p.f)[((cnt fs e : Int) + 1 - p.k - 1).toNat]?).getD 0 + p.d)
def rdT (fs : List Fi) (e : Int) (xs : List Pl) : Int := xs.foldl (rxP fs e) 0
def rdR (xs : List Pl) (fs : List Fi) (e : Int) : Int × Bool := if xs.all (gdP fs e) = true then (rdT fs e xs, true) else (0, false)
theorem rdT_snoc [Mode] {fs : List Fi} {e : Int} {xs : List Pl} {p : Pl} : rdT fs e (xs ++ [p]) = rxP fs e (rdT fs e xs) p := by simp [rdT]
theorem getD_tms [Mode] {fs : List Fi} (h : TmOk fs) (e : Int) (i : Nat) : 0 ≤ ((tms fs e)[i]?).getD 0 ∧ ((tms fs e)[i]?).getD 0 ≤ 1000000 := by
  cases hx : (tms fs e)[i]? with
  | none => simp
  | some t => exact h.tms e t (List.mem_of_getElem? hx)
theorem rdT_bd [Mode] {fs : List Fi} (h : TmOk fs) {n : Nat} (e : Int) (xs : List Pl) (hv : ∀ p ∈ xs, okPl n p) : 0 ≤ rdT fs e xs ∧ rdT fs e xs ≤ 1010000 := by
  suffices key : ∀ (xs : List Pl) (t : Int), (∀ p ∈ xs, okPl n p) → 0 ≤ t ∧ t ≤ 1010000 → 0 ≤ xs.foldl (rxP fs e) t ∧ xs.foldl (rxP fs e) t ≤ 1010000 from key xs 0 hv (by decide)
  intro xs
  induction xs with
  | nil => exact fun t _ h => h
  | cons p ps ih =>
    intro t hv ht
    refine ih _ (fun q hq => hv q (List.mem_cons_of_mem _ hq)) ?_
    have hp := (hv p (by simp)).2.2.1
    unfold rxP
    split
    · exact ht
    · have := getD_tms h p.f ((cnt fs e : Int) + 1 - p.k - 1).toNat
      omega
/-- The time of the firing before. -/
def lsT (fs : List Fi) : Int := (fs.getLast?.map (·.t)).getD 0
theorem lsT_snoc [Mode] {fs : List Fi} {f : Fi} : lsT (fs ++ [f]) = f.t := by simp [lsT]
theorem lsT_bd [Mode] {fs : List Fi} (h : TmOk fs) : 0 ≤ lsT fs := by
  unfold lsT
  cases hx : fs.getLast? with
  | none => simp
  | some f => exact (h f (List.mem_of_getLast? hx)).1
/-- May a firing come next? -/
def rnS (n : Nat) (xs : List Pl) (fs : List Fi) (f : Fi) : Bool := decide (0 ≤ f.e ∧ f.e < n) && (decide (lsT fs ≤ f.t) && ((rdR xs fs f.e).2 && decide ((rdR xs fs f.e).1 ≤ f.t)))
/-- Is a run possible? -/
def rnB (n : Nat) (xs : List Pl) (fs : List Fi) : Bool := (List.range fs.length).all fun k => rnS n xs (fs.take k) ((fs[k]?).getD ⟨0, 0, 0⟩)
theorem rnB_or [Mode] (n : Nat) (xs : List Pl) (fs : List Fi) : (rnB n xs fs = true ∧ ∀ (k : Nat) f, fs[k]? = some f → rnS n xs (fs.take k) f = true) ∨ (rnB n xs fs = false ∧ ∃ j f, fs[j]? = some f ∧ rnS n xs (fs.take j) f = false ∧ ∀ (i : Nat) g, i < j → fs[i]? = some g → rnS n xs (fs.take i) g = true) := by
  rcases first_or (fun k => !rnS n xs (fs.take k) ((fs[k]?).getD ⟨0, 0, 0⟩)) (List.range fs.length) with h | ⟨j, x, h1, h2, h3⟩
  · refine .inl ⟨List.all_eq_true.2 fun k hk => by simpa using h k hk, fun k f hf => ?_⟩
    have := h k (List.mem_range.2 (List.getElem?_eq_some_iff.1 hf).1)
    rw [hf] at this
    simpa using this
  · have hj : j < fs.length := by have := (List.getElem?_eq_some_iff.1 h1).1; simpa using this
    have hx : x = j := by
      rw [List.getElem?_range hj] at h1
      simpa using h1.symm
    subst hx
    obtain ⟨f, hf⟩ : ∃ f, fs[x]? = some f := ⟨fs[x], List.getElem?_eq_getElem hj⟩
    rw [hf] at h2
    refine .inr ⟨?_, x, f, hf, by simpa using h2, fun i g hi hg => ?_⟩
    · cases hB : rnB n xs fs with
      | false => rfl
      | true =>
        have := List.all_eq_true.1 hB x (List.mem_range.2 hj)
        rw [hf] at this
        simp only [Option.getD_some, Bool.not_eq_true'] at h2 this
        rw [h2] at this; cases this
    · have := h3 i i hi (by rw [List.getElem?_range (by omega)])
      rw [hg] at this
      simpa using this
/-- The tokens behind a run. -/
def mkA (xs : List Pl) (fs : List Fi) : List Int := xs.map fun p => p.k + (cnt fs p.f : Int) - (cnt fs p.t : Int)
theorem mkA_len [Mode] {xs : List Pl} {fs : List Fi} : (mkA xs fs).length = xs.length := by simp [mkA]
theorem mkA_take [Mode] {xs : List Pl} {fs : List Fi} {k : Nat} {p : Pl} (h : xs[k]? = some p) : mkA (xs.take (k + 1)) fs = mkA (xs.take k) fs ++ [p.k + (cnt fs p.f : Int) - (cnt fs p.t : Int)] := by
  rw [List.take_add_one, h]; simp [mkA]
/-- The first firing that may not come, or none. -/
theorem rn_m [Mode] (n : Nat) (xs : List Pl) (fs : List Fi) : ∃ m, m ≤ fs.length ∧ (∀ (k : Nat) f, k < m → fs[k]? = some f → rnS n xs (fs.take k) f = true) ∧ ((m = fs.length ∧ rnB n xs fs = true) ∨ ∃ f, fs[m]? = some f ∧ rnS n xs (fs.take m) f = false ∧ rnB n xs fs = false) := by
  rcases rnB_or n xs fs with ⟨h1, h2⟩ | ⟨h1, j, f, hj, h2, h3⟩
  · exact ⟨fs.length, Nat.le_refl _, fun k f _ hf => h2 k f hf, .inl ⟨rfl, h1⟩⟩
  · exact ⟨j, Nat.le_of_lt (List.getElem?_eq_some_iff.1 hj).1, fun k g hk hg => h3 k g hk hg, .inr ⟨f, hj, h2, h1⟩⟩
theorem rnS_yes [Mode] {n : Nat} {xs : List Pl} {fs : List Fi} {f : Fi} (h : rnS n xs fs f = true) : 0 ≤ f.e ∧ f.e < n ∧ lsT fs ≤ f.t ∧ (rdR xs fs f.e).2 = true ∧ (rdR xs fs f.e).1 ≤ f.t := by
  simp only [rnS, Bool.and_eq_true, decide_eq_true_eq] at h
  exact ⟨h.1.1, h.1.2, h.2.1, h.2.2.1, h.2.2.2⟩
theorem rnS_no [Mode] {n : Nat} {xs : List Pl} {fs : List Fi} {f : Fi} (h : rnS n xs fs f = false) : ¬(0 ≤ f.e ∧ f.e < n) ∨ ((0 ≤ f.e ∧ f.e < n) ∧ f.t < lsT fs) ∨ ((0 ≤ f.e ∧ f.e < n) ∧ lsT fs ≤ f.t ∧ (rdR xs fs f.e).2 = false) ∨ ((0 ≤ f.e ∧ f.e < n) ∧ lsT fs ≤ f.t ∧ (rdR xs fs f.e).2 = true ∧ f.t < (rdR xs fs f.e).1) := by
  by_cases h1 : 0 ≤ f.e ∧ f.e < n
  · by_cases h2 : lsT fs ≤ f.t
    · cases h3 : (rdR xs fs f.e).2 with
      | false => exact .inr (.inr (.inl ⟨h1, h2, rfl⟩))
      | true =>
        refine .inr (.inr (.inr ⟨h1, h2, rfl, ?_⟩))
        simp only [rnS, h1, h2, h3, decide_true, Bool.true_and, and_self, decide_eq_false_iff_not] at h
        omega
    · exact .inr (.inl ⟨h1, by omega⟩)
  · exact .inl h1
theorem lsT_take [Mode] {fs : List Fi} {k : Nat} {g : Fi} (h : fs[k]? = some g) : lsT (fs.take (k + 1)) = g.t := by
  rw [List.take_add_one, h]; exact lsT_snoc
theorem lsT_0 [Mode] (fs : List Fi) : lsT (fs.take 0) = 0 := rfl
/-- The times of all events. -/
def tmT (n : Nat) (fs : List Fi) : List (List Int) := (List.range n).map fun e : Nat => tms fs (e : Int)
theorem tmT_len [Mode] {n : Nat} {fs : List Fi} : (tmT n fs).length = n := by simp [tmT]
theorem tmT_get [Mode] {n e : Nat} {fs : List Fi} (h : e < n) : (tmT n fs)[e]? = some (tms fs (e : Int)) := by simp [tmT, h]
theorem tmT_nil [Mode] {n : Nat} : tmT n [] = List.replicate n [] := by
  apply List.ext_getElem?
  intro i
  by_cases h : i < n
  · rw [tmT_get h, List.getElem?_replicate, if_pos h]; rfl
  · rw [List.getElem?_eq_none (by rw [tmT_len]; omega), List.getElem?_eq_none (by simp; omega)]
theorem tmT_snoc [Mode] {n e : Nat} {fs : List Fi} {f : Fi} (h : e < n) (he : f.e = e) : tmT n (fs ++ [f]) = (tmT n fs).set e (tms fs (e : Int) ++ [f.t]) := by
  apply List.ext_getElem?
  intro i
  rw [List.getElem?_set]
  by_cases h0 : e = i
  · subst h0
    rw [if_pos rfl, if_pos (by rw [tmT_len]; exact h), tmT_get h, tms_snoc, if_pos he]
  · rw [if_neg h0]
    by_cases hi : i < n
    · rw [tmT_get hi, tmT_get hi, tms_snoc, if_neg (by rw [he]; omega), List.append_nil]
    · rw [List.getElem?_eq_none (by rw [tmT_len]; omega), List.getElem?_eq_none (by rw [tmT_len]; omega)]
/-- What MarkingAfter answers. -/
def raC (ev : Int) (xs : List Pl) (fs : List Fi) : Int := if isEG ev xs = true then (if rnB ev.toNat xs fs = true then 0 else 2) else 1
def raL (ev : Int) (xs : List Pl) (fs : List Fi) : List Int := if raC ev xs fs = 0 then mkA xs fs else []
end Go.Proofs.YtofakjlamoigcaaGreatDoor
end

section
namespace Go.Proofs.YtofakjlamoigcaaGreatDoor
set_option linter.unusedSimpArgs false
set_option linter.unusedVariables false
open Go Go.RowKit
attribute [local irreducible] AL AD AW OpOk Le AC thenQ blockQ EndQ

abbrev nilV : AV := .d (.v (.slice none 0 0))
theorem splP_mem_len [Mode] {c : UInt8} : ∀ {l p w : List UInt8}, w ∈ splP c p l → w.length ≤ p.length + l.length
  | [], p, w, h => by simp only [splP, List.mem_singleton] at h; rw [h]; simp
  | x :: l, p, w, h => by
    rw [splP] at h
    split at h
    · rcases List.mem_cons.1 h with rfl | h
      · omega
      · have := splP_mem_len h
        simp only [List.length_nil, List.length_cons] at *
        omega
    · have := splP_mem_len h
      simp only [List.length_append, List.length_cons, List.length_nil] at *
      omega
theorem spl_mem_len [Mode] {c : UInt8} {l w : List UInt8} (h : w ∈ spl c l) : w.length ≤ l.length := by
  have := splP_mem_len h
  simpa using this
set_option maxHeartbeats 2000000 in
theorem l01Numbers_no [Mode] (ws : List (List UInt8)) (j : Nat) (v : List UInt8) (hw : ws.length ≤ 2000000) (hl : ∀ w ∈ ws, w.length ≤ 100000000) (hj : ws[j]? = some v) (hv : (sgN v).2 = false) (h : ∀ (i : Nat) w, i < j → ws[i]? = some w → (sgN w).2 = true) : AC Tryz.prog 69 [SL ws] H0 (.tup [nilV, Bo false]) H0 := by
  have hjl := (List.getElem?_eq_some_iff.1 hj).1
  refine AC.of_body 0 Tryz.func69 rfl (fun l h => absurd rfl h) (fun C hC => ?_)
  have hD : ∀ l, ¬ C.D0 l := fun l h => (hC l).1 h rfl
  simp only [startFr, Tryz.ntmps69, List.length_cons, List.length_nil, Nat.reduceAdd, Nat.reduceSub, List.replicate_succ, List.replicate_zero, List.cons_append, List.nil_append]
  repeat' (first | ((first | apply Ba | (apply Bb; (· rfl); (· rfl)) | (apply Bc; (· exact nxE)) | (apply Bd; (· rfl); (· rfl); (· exact nxE))); (· first | exact Ok.lenD rfl rfl (stR_len ws) | exact Ok.seqS rfl rfl rfl | exact Ok.sneS rfl rfl rfl | exact Ok.slen rfl rfl | exact OpOk.indexD rfl rfl rfl (by decide) rfl (by exact Nat.zero_lt_one) | exact Ok.pe)) | ((first | apply Ca | (apply Cb; (· exact nxE))); (· first | exact Ok.e0)) | refine Sx ?_ | (refine Sy (fun h => ?_) (fun h => ?_) <;> try (exfalso; omega; done)) | refine Sz (fun h => ?_) (fun h => ?_))
  refine AW.loop (X := {k : Nat // k ≤ j}) (fun k => ⟨[SL ws, Oo, Oo, Oo, .own 1 ⟨0, []⟩ 0 (k.1 : Nat), I (k.1 : Nat), Oo, Oo, Oo, Oo, Oo, Oo, Oo, Oo, Oo, Oo, Oo, Oo, Oo, Oo, Oo, Oo, Oo, Oo, Oo, Oo, Oo, Oo, Oo, Oo], heapL [(⟨0, []⟩, ⟨0, []⟩, IO ((ws.take k.1).map fun w => (sgN w).1))], 900⟩) (fun k => j - k.1) ⟨0, Nat.zero_le _⟩ ?_ (fun k => ?_)
  ·
    (apply Le.headZ [_] rfl)
    all_goals (try dsimp only [srcs])
    (case' hfr | hob => (repeat' (first | refine La ?_ ?_ | exact Lc | refine Lo ?_ | refine ⟨⟨_, rfl, ?_⟩, ?_⟩ | refine Lx ?_)))
    all_goals (first | (rfl) | exact Ld)
  obtain ⟨k, hk⟩ := k
  simp only
  by_cases hlt : k < j
  · obtain ⟨w, hx⟩ : ∃ w, ws[k]? = some w := ⟨ws[k], List.getElem?_eq_getElem (by omega)⟩
    have hrow := stR_getI hx
    have hmem := List.mem_of_getElem? hx
    have hS := l01Signed_ac w (hl w hmem)
    rw [h k w hlt hx] at hS
    have hol : (IR ((ws.take k).map fun w => (sgN w).1)).length = k := by rw [IR_len, List.length_map, List.length_take]; omega
    have htk : (ws.take (k + 1)).map (fun w => (sgN w).1) = (ws.take k).map (fun w => (sgN w).1) ++ [(sgN w).1] := by rw [List.take_add_one, hx]; simp
    generalize (sgN w).1 = q at *
    repeat' (first | ((first | apply Ba | (apply Bb; (· rfl); (· rfl)) | (apply Bc; (· exact nxE)) | (apply Bd; (· rfl); (· rfl); (· exact nxE))); (· first | exact Ok.lenD rfl rfl (stR_len ws) | exact Kz rfl rfl (hS) (Ad An) | exact Ok.seqS rfl rfl rfl | exact Ok.sneS rfl rfl rfl | exact Ok.slen rfl rfl | exact OpOk.indexD rfl rfl rfl (by decide) rfl (by exact Nat.zero_lt_one) | exact Ok.append1 (row := [DI q]) rfl rfl (by decide) rfl rfl hol rfl rfl rfl (by rfl) (by omega) (by omega) | exact Ok.pe)) | ((first | apply Ca | (apply Cb; (· exact nxE))); (· first | exact Ok.append1 (row := [DI q]) rfl rfl (by decide) rfl rfl hol rfl rfl rfl (by rfl) (by omega) (by omega) | exact Ok.e0)) | refine Sx ?_ | (refine Sy (fun h => ?_) (fun h => ?_) <;> try (exfalso; omega; done)) | refine Sz (fun h => ?_) (fun h => ?_))
    refine ⟨⟨k + 1, by omega⟩, ?_, by simp only; omega⟩
    (apply Le.headZ [_] rfl)
    all_goals (try dsimp only [srcs])
    (case' hfr | hob => (repeat' (first | refine La ?_ ?_ | exact Lc | refine Lo ?_ | refine ⟨⟨_, rfl, ?_⟩, ?_⟩ | refine Lx ?_)))
    all_goals (first | ((first | (rw [htk, IR_app]; done) | (rw [htk]; simp; done))) | exact Ld)
  ·
    obtain rfl : k = j := by omega
    have hrow := stR_getI hj
    have hS := l01Signed_ac v (hl v (List.mem_of_getElem? hj))
    rw [hv] at hS
    repeat' (first | ((first | apply Ba | (apply Bb; (· rfl); (· rfl)) | (apply Bc; (· exact nxE)) | (apply Bd; (· rfl); (· rfl); (· exact nxE))); (· first | exact Ok.lenD rfl rfl (stR_len ws) | exact Kz rfl rfl (hS) (Ad An) | exact Ok.seqS rfl rfl rfl | exact Ok.sneS rfl rfl rfl | exact Ok.slen rfl rfl | exact OpOk.indexD rfl rfl rfl (by decide) rfl (by exact Nat.zero_lt_one) | exact Ok.pe)) | ((first | apply Ca | (apply Cb; (· exact nxE))); (· first | exact Ok.e0)) | refine Sx ?_ | (refine Sy (fun h => ?_) (fun h => ?_) <;> try (exfalso; omega; done)) | refine Sz (fun h => ?_) (fun h => ?_))
    refine Yb ?_
    (apply Le.headZ (hs := []) [] rfl)
    all_goals (try dsimp only [srcs])
    (case' hfr => (repeat' (first | refine La ?_ ?_ | exact Lc | refine Lo ?_ | refine ⟨⟨_, rfl, ?_⟩, ?_⟩ | refine Lx ?_)))
    all_goals (first | exact Ld | exact trivial | (rfl))
theorem numbers_frz [Mode] {ws : List (List UInt8)} {ns : List Int} (hw : ws.length ≤ 2000000) (hl : ∀ w ∈ ws, w.length ≤ 100000000) (h : ∀ w ∈ ws, (sgN w).2 = true) (he : ws.map (fun w => (sgN w).1) = ns) : AC Tryz.prog 69 [SL ws] H0 (.tup [IL ns, Bo true]) H0 := by
  subst he
  exact (l01Numbers_yes ws hw hl h).frz (ARs.tup (.cons (AR.whole rfl trivial (by rw [IR_len, List.length_map])) (.cons (.dd _) .nil)))
theorem split_frz [Mode] (l : List UInt8) (c : UInt8) (hl : l.length ≤ 100000000) : AC Tryz.prog 68 [Str l, Byt c] H0 (SL (spl c l)) H0 :=
  (l01Split_ac l c hl).frz (AR.whole rfl trivial (stR_len _))
theorem num3 [Mode] (x y z : Nat) (hx : x < 10000000000) (hy : y < 10000000000) (hz : z < 10000000000) : AC Tryz.prog 69 [SL [dec x, dec y, dec z]] H0 (.tup [IL [(x : Int), (y : Int), (z : Int)], Bo true]) H0 := by
  have lx := dec_len x (by omega)
  have ly := dec_len y (by omega)
  have lz := dec_len z (by omega)
  refine numbers_frz (by simp) (fun w hw => ?_) (fun w hw => ?_) (by simp [sgN_dec hx, sgN_dec hy, sgN_dec hz])
  · simp only [List.mem_cons, List.not_mem_nil, or_false] at hw
    rcases hw with rfl | rfl | rfl <;> omega
  · simp only [List.mem_cons, List.not_mem_nil, or_false] at hw
    rcases hw with rfl | rfl | rfl
    · rw [sgN_dec hx]
    · rw [sgN_dec hy]
    · rw [sgN_dec hz]
/-- Either all words are numbers, or there is a first one that is none. -/
theorem words_or [Mode] (ws : List (List UInt8)) : (∀ w ∈ ws, (sgN w).2 = true) ∨ ∃ j v, ws[j]? = some v ∧ (sgN v).2 = false ∧ ∀ (i : Nat) w, i < j → ws[i]? = some w → (sgN w).2 = true := by
  induction ws with
  | nil => exact .inl (by simp)
  | cons w ws ih =>
    cases hw : (sgN w).2 with
    | false => exact .inr ⟨0, w, rfl, hw, fun i w hi => by omega⟩
    | true =>
      rcases ih with h | ⟨j, v, h1, h2, h3⟩
      · exact .inl fun x hx => by rcases List.mem_cons.1 hx with rfl | hx; (· exact hw); (· exact h x hx)
      · refine .inr ⟨j + 1, v, by simpa using h1, h2, fun i x hi hx => ?_⟩
        cases i with
        | zero => simp at hx; subst hx; exact hw
        | succ i => exact h3 i x (by omega) (by simpa using hx)
theorem l14Count_ac [Mode] (fs : List Fi) (e : Int) (hn : fs.length ≤ 100000000) : AC Tryz.prog 70 [FL fs, I e] H0 (I (cnt fs e : Nat)) H0 := by
  refine AC.of_body 0 Tryz.func70 rfl (fun l h => absurd rfl h) (fun C hC => ?_)
  have hD : ∀ l, ¬ C.D0 l := fun l h => (hC l).1 h rfl
  simp only [startFr, Tryz.ntmps70, List.length_cons, List.length_nil, Nat.reduceAdd, Nat.reduceSub, List.replicate_succ, List.replicate_zero, List.cons_append, List.nil_append]
  repeat' (first | ((first | apply Ba | (apply Bb; (· rfl); (· rfl)) | (apply Bc; (· exact nxE)) | (apply Bd; (· rfl); (· rfl); (· exact nxE))); (· first | exact Ok.lenD rfl rfl FL_len | exact Ok.seqS rfl rfl rfl | exact Ok.sneS rfl rfl rfl | exact Ok.slen rfl rfl | exact OpOk.indexD rfl rfl rfl (by decide) rfl (by exact Nat.zero_lt_one) | exact Ok.pe)) | ((first | apply Ca | (apply Cb; (· exact nxE))); (· first | exact Ok.e0)) | refine Sx ?_ | (refine Sy (fun h => ?_) (fun h => ?_) <;> try (exfalso; omega; done)) | refine Sz (fun h => ?_) (fun h => ?_))
  refine AW.loop (X := {k : Nat // k ≤ fs.length}) (fun k => ⟨[FL fs, I e, Oo, Oo, Oo, I (cnt (fs.take (k.1 : Nat)) e : Nat), I (k.1 : Nat), Oo, Oo, Oo, Oo, Oo, Oo, Oo, Oo, Oo, Oo, Oo, Oo, Oo, Oo, Oo, Oo], heapL [], 900⟩) (fun k => fs.length - k.1) ⟨0, Nat.zero_le _⟩ ?_ (fun k => ?_)
  ·
    (apply Le.headZ [] rfl)
    all_goals (try dsimp only [srcs])
    (case' hfr | hob => (repeat' (first | refine La ?_ ?_ | exact Lc | refine Lo ?_ | refine ⟨⟨_, rfl, ?_⟩, ?_⟩ | refine Lx ?_)))
    all_goals (first | (rfl) | exact Ld)
  obtain ⟨k, hk⟩ := k
  simp only
  have hc := cnt_le (fs.take k) e
  have hTL := List.length_take_le k fs
  by_cases hlt : k < fs.length
  · obtain ⟨f, hf⟩ : ∃ f, fs[k]? = some f := ⟨fs[k], List.getElem?_eq_getElem hlt⟩
    have hrow : (fs.map Fi.row)[((k : Nat) : Int).toNat]? = some [DI f.e, DI f.n, DI f.t] := row_get hf
    have hs : cnt (fs.take (k + 1)) e = cnt (fs.take k) e + if f.e = e then 1 else 0 := by rw [List.take_add_one, hf]; exact cnt_snoc
    by_cases he : f.e = e
    · rw [if_pos he] at hs
      have hsI : ((cnt (fs.take (k + 1)) e : Nat) : Int) = (cnt (fs.take k) e : Int) + 1 := by omega
      repeat' (first | ((first | apply Ba | (apply Bb; (· rfl); (· rfl)) | (apply Bc; (· exact nxE)) | (apply Bd; (· rfl); (· rfl); (· exact nxE))); (· first | exact Ok.lenD rfl rfl FL_len | exact Ok.seqS rfl rfl rfl | exact Ok.sneS rfl rfl rfl | exact Ok.slen rfl rfl | exact OpOk.indexD rfl rfl rfl (by decide) rfl (by exact Nat.zero_lt_one) | exact Ok.pe)) | ((first | apply Ca | (apply Cb; (· exact nxE))); (· first | exact Ok.e0)) | refine Sx ?_ | (refine Sy (fun h => ?_) (fun h => ?_) <;> try (exfalso; omega; done)) | refine Sz (fun h => ?_) (fun h => ?_))
      refine ⟨⟨k + 1, by omega⟩, ?_, by simp only; omega⟩
      (apply Le.headZ [] rfl)
      all_goals (try dsimp only [srcs])
      (case' hfr | hob => (repeat' (first | refine La ?_ ?_ | exact Lc | refine Lo ?_ | refine ⟨⟨_, rfl, ?_⟩, ?_⟩ | refine Lx ?_)))
      all_goals (first | ((rw [hsI]; done)) | exact Ld)
    · rw [if_neg he, Nat.add_zero] at hs
      repeat' (first | ((first | apply Ba | (apply Bb; (· rfl); (· rfl)) | (apply Bc; (· exact nxE)) | (apply Bd; (· rfl); (· rfl); (· exact nxE))); (· first | exact Ok.lenD rfl rfl FL_len | exact Ok.seqS rfl rfl rfl | exact Ok.sneS rfl rfl rfl | exact Ok.slen rfl rfl | exact OpOk.indexD rfl rfl rfl (by decide) rfl (by exact Nat.zero_lt_one) | exact Ok.pe)) | ((first | apply Ca | (apply Cb; (· exact nxE))); (· first | exact Ok.e0)) | refine Sx ?_ | (refine Sy (fun h => ?_) (fun h => ?_) <;> try (exfalso; omega; done)) | refine Sz (fun h => ?_) (fun h => ?_))
      refine ⟨⟨k + 1, by omega⟩, ?_, by simp only; omega⟩
      (apply Le.headZ [] rfl)
      all_goals (try dsimp only [srcs])
      (case' hfr | hob => (repeat' (first | refine La ?_ ?_ | exact Lc | refine Lo ?_ | refine ⟨⟨_, rfl, ?_⟩, ?_⟩ | refine Lx ?_)))
      all_goals (first | ((rw [hs]; done)) | exact Ld)
  ·
    obtain rfl : k = fs.length := by omega
    rw [List.take_length]
    repeat' (first | ((first | apply Ba | (apply Bb; (· rfl); (· rfl)) | (apply Bc; (· exact nxE)) | (apply Bd; (· rfl); (· rfl); (· exact nxE))); (· first | exact Ok.lenD rfl rfl FL_len | exact Ok.seqS rfl rfl rfl | exact Ok.sneS rfl rfl rfl | exact Ok.slen rfl rfl | exact OpOk.indexD rfl rfl rfl (by decide) rfl (by exact Nat.zero_lt_one) | exact Ok.pe)) | ((first | apply Ca | (apply Cb; (· exact nxE))); (· first | exact Ok.e0)) | refine Sx ?_ | (refine Sy (fun h => ?_) (fun h => ?_) <;> try (exfalso; omega; done)) | refine Sz (fun h => ?_) (fun h => ?_))
    refine Ya ?_
    (apply Le.headZ (hs := []) [] rfl)
    all_goals (try dsimp only [srcs])
    (case' hfr => (repeat' (first | refine La ?_ ?_ | exact Lc | refine Lo ?_ | refine ⟨⟨_, rfl, ?_⟩, ?_⟩ | refine Lx ?_)))
    all_goals (first | exact Ld | exact trivial | (rfl))
end Go.Proofs.YtofakjlamoigcaaGreatDoor
end

section
namespace Go.Proofs.YtofakjlamoigcaaGreatDoor
set_option linter.unusedSimpArgs false
set_option linter.unusedVariables false
open Go Go.RowKit
section
variable {P : Program} {o : Oper} {A : Operand → AV} {H : Heap} {new : Nat}
/-- The first m of some records. -/
theorem Ok.sliceTk [Mode] {α : Type} {row : α → List D} {xs : List α} {t e : TypeId} {x y : Operand} {k b m : Nat} {i : Int} {z : Value} (ho : o.op = .slice t x none (some y) none) [h : TySlice P t e k b z] (hx : A x = .d (.sl k (xs.map row))) (hy : A y = I i) (hi : i = (m : Nat)) (h1 : m ≤ xs.length) : OpOk P o A [] H new (.d (.sl k ((xs.take m).map row))) [] := by
  have := Ok.sliceTo (P := P) (H := H) (new := new) (A := A) (row := row) ho hx hy (by omega) (by omega)
  rwa [hi, Int.toNat_natCast] at this
end
attribute [local irreducible] AL AD AW OpOk Le AC thenQ blockQ EndQ

set_option maxHeartbeats 2000000 in
theorem l14Find_ac [Mode] (fs : List Fi) (e n : Int) (hfs : fs.length ≤ 100000000) : AC Tryz.prog 95 [FL fs, I e, I n] H0 (.tup [I (fiN fs e n).1, Bo (fiN fs e n).2]) H0 := by
  rcases first_or (fun f : Fi => decide (f.e = e ∧ f.n = n)) fs with h | ⟨j, f, hj, hq, hb⟩
  · have hr : fiN fs e n = (0, false) := by
      unfold fiN; rw [List.find?_eq_none.2 (fun f hf => by simpa using h f hf)]
    rw [hr]
    refine AC.of_body 0 Tryz.func95 rfl (fun l h => absurd rfl h) (fun C hC => ?_)
    have hD : ∀ l, ¬ C.D0 l := fun l h => (hC l).1 h rfl
    simp only [startFr, Tryz.ntmps95, List.length_cons, List.length_nil, Nat.reduceAdd, Nat.reduceSub, List.replicate_succ, List.replicate_zero, List.cons_append, List.nil_append]
    repeat' (first | ((first | apply Ba | (apply Bb; (· rfl); (· rfl)) | (apply Bc; (· exact nxE)) | (apply Bd; (· rfl); (· rfl); (· exact nxE))); (· first | exact Ok.lenD rfl rfl FL_len | exact Ok.pe)) | ((first | apply Ca | (apply Cb; (· exact nxE))); (· first | exact Ok.e0)) | refine Sx ?_ | (refine Sy (fun h => ?_) (fun h => ?_) <;> try (exfalso; omega; done)) | refine Sz (fun h => ?_) (fun h => ?_))
    refine AW.loop (X := {k : Nat // k ≤ fs.length}) (fun k => ⟨[FL fs, I e, I n, Oo, Oo, Oo, Oo, Oo, I (k.1 : Nat), Oo, Oo, Oo, Oo, Oo, Oo, Oo, Oo, Oo, Oo, Oo, Oo, Oo, Oo, Oo, Oo, Oo, Oo, Oo, Oo, Oo, Oo, Oo, Oo, Oo, Oo, Oo], heapL [], 900⟩) (fun k => fs.length - k.1) ⟨0, Nat.zero_le _⟩ ?_ (fun k => ?_)
    ·
      (apply Le.headZ [] rfl)
      all_goals (try dsimp only [srcs])
      (case' hfr | hob => (repeat' (first | refine La ?_ ?_ | exact Lc | refine Lo ?_ | refine ⟨⟨_, rfl, ?_⟩, ?_⟩ | refine Lx ?_)))
      all_goals (first | (rfl) | exact Ld)
    obtain ⟨k, hk⟩ := k
    simp only
    by_cases hlt : k < fs.length
    · obtain ⟨g, hg⟩ : ∃ g, fs[k]? = some g := ⟨fs[k], List.getElem?_eq_getElem hlt⟩
      have hrow : (fs.map Fi.row)[((k : Nat) : Int).toNat]? = some [DI g.e, DI g.n, DI g.t] := row_get hg
      have hne : ¬(g.e = e ∧ g.n = n) := by simpa using h g (List.mem_of_getElem? hg)
      by_cases he : g.e = e
      · have hn : ¬ g.n = n := fun h => hne ⟨he, h⟩
        repeat' (first | ((first | apply Ba | (apply Bb; (· rfl); (· rfl)) | (apply Bc; (· exact nxE)) | (apply Bd; (· rfl); (· rfl); (· exact nxE))); (· first | exact Ok.lenD rfl rfl FL_len | exact Ok.pe)) | ((first | apply Ca | (apply Cb; (· exact nxE))); (· first | exact Ok.e0)) | refine Sx ?_ | (refine Sy (fun h => ?_) (fun h => ?_) <;> try (exfalso; omega; done)) | refine Sz (fun h => ?_) (fun h => ?_))
        refine ⟨⟨k + 1, by omega⟩, ?_, by simp only; omega⟩
        (apply Le.headZ [] rfl)
        all_goals (try dsimp only [srcs])
        (case' hfr | hob => (repeat' (first | refine La ?_ ?_ | exact Lc | refine Lo ?_ | refine ⟨⟨_, rfl, ?_⟩, ?_⟩ | refine Lx ?_)))
        all_goals (first | (rfl) | exact Ld)
      ·
        repeat' (first | ((first | apply Ba | (apply Bb; (· rfl); (· rfl)) | (apply Bc; (· exact nxE)) | (apply Bd; (· rfl); (· rfl); (· exact nxE))); (· first | exact Ok.lenD rfl rfl FL_len | exact Ok.pe)) | ((first | apply Ca | (apply Cb; (· exact nxE))); (· first | exact Ok.e0)) | refine Sx ?_ | (refine Sy (fun h => ?_) (fun h => ?_) <;> try (exfalso; omega; done)) | refine Sz (fun h => ?_) (fun h => ?_))
        refine ⟨⟨k + 1, by omega⟩, ?_, by simp only; omega⟩
        (apply Le.headZ [] rfl)
        all_goals (try dsimp only [srcs])
        (case' hfr | hob => (repeat' (first | refine La ?_ ?_ | exact Lc | refine Lo ?_ | refine ⟨⟨_, rfl, ?_⟩, ?_⟩ | refine Lx ?_)))
        all_goals (first | (rfl) | exact Ld)
    · obtain rfl : k = fs.length := by omega
      repeat' (first | ((first | apply Ba | (apply Bb; (· rfl); (· rfl)) | (apply Bc; (· exact nxE)) | (apply Bd; (· rfl); (· rfl); (· exact nxE))); (· first | exact Ok.lenD rfl rfl FL_len | exact Ok.pe)) | ((first | apply Ca | (apply Cb; (· exact nxE))); (· first | exact Ok.e0)) | refine Sx ?_ | (refine Sy (fun h => ?_) (fun h => ?_) <;> try (exfalso; omega; done)) | refine Sz (fun h => ?_) (fun h => ?_))
      refine Yb ?_
      (apply Le.headZ (hs := []) [] rfl)
      all_goals (try dsimp only [srcs])
      (case' hfr => (repeat' (first | refine La ?_ ?_ | exact Lc | refine Lo ?_ | refine ⟨⟨_, rfl, ?_⟩, ?_⟩ | refine Lx ?_)))
      all_goals (first | exact Ld | exact trivial | (rfl))
  · have hjl := (List.getElem?_eq_some_iff.1 hj).1
    have hq' : f.e = e ∧ f.n = n := of_decide_eq_true hq
    have hr : fiN fs e n = (f.t, true) := by
      have : fs.find? (fun f : Fi => decide (f.e = e ∧ f.n = n)) = some f := by
        rw [List.find?_eq_some_iff_getElem]
        refine ⟨hq, j, hjl, ?_, fun i hi => ?_⟩
        · rw [List.getElem?_eq_getElem hjl] at hj; exact Option.some.inj hj
        · have := hb i (fs[i]'(by omega)) hi (List.getElem?_eq_getElem (by omega))
          rw [this]; rfl
      unfold fiN; rw [this]
    rw [hr]
    refine AC.of_body 0 Tryz.func95 rfl (fun l h => absurd rfl h) (fun C hC => ?_)
    have hD : ∀ l, ¬ C.D0 l := fun l h => (hC l).1 h rfl
    simp only [startFr, Tryz.ntmps95, List.length_cons, List.length_nil, Nat.reduceAdd, Nat.reduceSub, List.replicate_succ, List.replicate_zero, List.cons_append, List.nil_append]
    repeat' (first | ((first | apply Ba | (apply Bb; (· rfl); (· rfl)) | (apply Bc; (· exact nxE)) | (apply Bd; (· rfl); (· rfl); (· exact nxE))); (· first | exact Ok.lenD rfl rfl FL_len | exact Ok.pe)) | ((first | apply Ca | (apply Cb; (· exact nxE))); (· first | exact Ok.e0)) | refine Sx ?_ | (refine Sy (fun h => ?_) (fun h => ?_) <;> try (exfalso; omega; done)) | refine Sz (fun h => ?_) (fun h => ?_))
    refine AW.loop (X := {k : Nat // k ≤ j}) (fun k => ⟨[FL fs, I e, I n, Oo, Oo, Oo, Oo, Oo, I (k.1 : Nat), Oo, Oo, Oo, Oo, Oo, Oo, Oo, Oo, Oo, Oo, Oo, Oo, Oo, Oo, Oo, Oo, Oo, Oo, Oo, Oo, Oo, Oo, Oo, Oo, Oo, Oo, Oo], heapL [], 900⟩) (fun k => j - k.1) ⟨0, Nat.zero_le _⟩ ?_ (fun k => ?_)
    ·
      (apply Le.headZ [] rfl)
      all_goals (try dsimp only [srcs])
      (case' hfr | hob => (repeat' (first | refine La ?_ ?_ | exact Lc | refine Lo ?_ | refine ⟨⟨_, rfl, ?_⟩, ?_⟩ | refine Lx ?_)))
      all_goals (first | (rfl) | exact Ld)
    obtain ⟨k, hk⟩ := k
    simp only
    by_cases hlt : k < j
    · obtain ⟨g, hg⟩ : ∃ g, fs[k]? = some g := ⟨fs[k], List.getElem?_eq_getElem (by omega)⟩
      have hrow : (fs.map Fi.row)[((k : Nat) : Int).toNat]? = some [DI g.e, DI g.n, DI g.t] := row_get hg
      have hne : ¬(g.e = e ∧ g.n = n) := of_decide_eq_false (hb k g hlt hg)
      by_cases he : g.e = e
      · have hn : ¬ g.n = n := fun h => hne ⟨he, h⟩
        repeat' (first | ((first | apply Ba | (apply Bb; (· rfl); (· rfl)) | (apply Bc; (· exact nxE)) | (apply Bd; (· rfl); (· rfl); (· exact nxE))); (· first | exact Ok.lenD rfl rfl FL_len | exact Ok.pe)) | ((first | apply Ca | (apply Cb; (· exact nxE))); (· first | exact Ok.e0)) | refine Sx ?_ | (refine Sy (fun h => ?_) (fun h => ?_) <;> try (exfalso; omega; done)) | refine Sz (fun h => ?_) (fun h => ?_))
        refine ⟨⟨k + 1, by omega⟩, ?_, by simp only; omega⟩
        (apply Le.headZ [] rfl)
        all_goals (try dsimp only [srcs])
        (case' hfr | hob => (repeat' (first | refine La ?_ ?_ | exact Lc | refine Lo ?_ | refine ⟨⟨_, rfl, ?_⟩, ?_⟩ | refine Lx ?_)))
        all_goals (first | (rfl) | exact Ld)
      ·
        repeat' (first | ((first | apply Ba | (apply Bb; (· rfl); (· rfl)) | (apply Bc; (· exact nxE)) | (apply Bd; (· rfl); (· rfl); (· exact nxE))); (· first | exact Ok.lenD rfl rfl FL_len | exact Ok.pe)) | ((first | apply Ca | (apply Cb; (· exact nxE))); (· first | exact Ok.e0)) | refine Sx ?_ | (refine Sy (fun h => ?_) (fun h => ?_) <;> try (exfalso; omega; done)) | refine Sz (fun h => ?_) (fun h => ?_))
        refine ⟨⟨k + 1, by omega⟩, ?_, by simp only; omega⟩
        (apply Le.headZ [] rfl)
        all_goals (try dsimp only [srcs])
        (case' hfr | hob => (repeat' (first | refine La ?_ ?_ | exact Lc | refine Lo ?_ | refine ⟨⟨_, rfl, ?_⟩, ?_⟩ | refine Lx ?_)))
        all_goals (first | (rfl) | exact Ld)
    · obtain rfl : k = j := by omega
      have hrow : (fs.map Fi.row)[((k : Nat) : Int).toNat]? = some [DI f.e, DI f.n, DI f.t] := row_get hj
      obtain ⟨he, hn⟩ := hq'
      repeat' (first | ((first | apply Ba | (apply Bb; (· rfl); (· rfl)) | (apply Bc; (· exact nxE)) | (apply Bd; (· rfl); (· rfl); (· exact nxE))); (· first | exact Ok.lenD rfl rfl FL_len | exact Ok.pe)) | ((first | apply Ca | (apply Cb; (· exact nxE))); (· first | exact Ok.e0)) | refine Sx ?_ | (refine Sy (fun h => ?_) (fun h => ?_) <;> try (exfalso; omega; done)) | refine Sz (fun h => ?_) (fun h => ?_))
      all_goals
        refine Yb ?_
        (apply Le.headZ (hs := []) [] rfl)
        all_goals (try dsimp only [srcs])
        (case' hfr => (repeat' (first | refine La ?_ ?_ | exact Lc | refine Lo ?_ | refine ⟨⟨_, rfl, ?_⟩, ?_⟩ | refine Lx ?_)))
        all_goals (first | exact Ld | exact trivial | (rfl))
theorem take_st [Mode] {fs : List Fi} {e : Int} {xs : List Pl} {k : Nat} {p : Pl} (hp : xs[k]? = some p) : rdT fs e (xs.take (k + 1)) = rxP fs e (rdT fs e (xs.take k)) p := by rw [List.take_add_one, hp]; exact rdT_snoc
theorem rx_skip [Mode] {fs : List Fi} {e t : Int} {p : Pl} (h : p.t ≠ e ∨ (cnt fs e : Int) + 1 ≤ p.k) : rxP fs e t p = t := if_pos h
theorem rx_step [Mode] {fs : List Fi} {e t : Int} {p : Pl} (h1 : p.t = e) (h2 : p.k ≤ (cnt fs e : Int)) : rxP fs e t p = max t (((tms fs p.f)[((cnt fs e : Int) + 1 - p.k - 1).toNat]?).getD 0 + p.d) := if_neg (by omega)
set_option maxHeartbeats 4000000 in
theorem l14Ready_ac [Mode] (n : Nat) (ev : Int) (xs : List Pl) (fs : List Fi) (e : Int) (hv : ∀ p ∈ xs, okPl n p) (hx : xs.length ≤ 100000) (hno : NumOk fs) (htm : TmOk fs) (hfs : fs.length ≤ 100000) : AC Tryz.prog 82 [grD ev xs, FL fs, I e] H0 (.tup [I (rdR xs fs e).1, Bo (rdR xs fs e).2]) H0 := by
  have hCt := l14Count_ac fs e (by omega)
  have hcl := cnt_le fs e
  have hF : ∀ a b, AC Tryz.prog 95 [FL fs, I a, I b] H0 (.tup [I (tmN fs a b).1, Bo (tmN fs a b).2]) H0 := fun a b => by rw [← fd_tm fs a b hno]; exact l14Find_ac fs a b (by omega)
  rcases first_or (fun p => !gdP fs e p) xs with h | ⟨j, q, hj, hq, hb⟩
  · have hall : xs.all (gdP fs e) = true := List.all_eq_true.2 fun p hp => by simpa using h p hp
    have hr : rdR xs fs e = (rdT fs e xs, true) := if_pos hall
    rw [hr]
    refine AC.of_body 0 Tryz.func82 rfl (fun l h => absurd rfl h) (fun C hC => ?_)
    have hD : ∀ l, ¬ C.D0 l := fun l h => (hC l).1 h rfl
    simp only [startFr, Tryz.ntmps82, List.length_cons, List.length_nil, Nat.reduceAdd, Nat.reduceSub, List.replicate_succ, List.replicate_zero, List.cons_append, List.nil_append]
    repeat' (first | ((first | apply Ba | (apply Bb; (· rfl); (· rfl)) | (apply Bc; (· exact nxE)) | (apply Bd; (· rfl); (· rfl); (· exact nxE))); (· first | exact Kz rfl rfl (hCt) (Ad (Ad An)) | exact Ok.lenD rfl rfl FL_len | exact Ok.pe)) | ((first | apply Ca | (apply Cb; (· exact nxE))); (· first | exact Ok.e0)) | refine Sx ?_ | (refine Sy (fun h => ?_) (fun h => ?_) <;> try (exfalso; omega; done)) | refine Sz (fun h => ?_) (fun h => ?_))
    refine AW.loop (X := {k : Nat // k ≤ xs.length}) (fun k => ⟨[Oo, FL fs, I e, Bx 2 0, Oo, Oo, Oo, Oo, I ((cnt fs e : Nat) + 1), I (rdT fs e (xs.take (k.1 : Nat))), I (k.1 : Nat), Oo, Oo, Oo, Oo, Oo, Oo, Oo, Oo, Oo, Oo, Oo, Oo, Oo, Oo, Oo, Oo, Oo, Oo, Oo, Oo, Oo, Oo, Oo, Oo, Oo, Oo, Oo, Oo, Oo, Oo, Oo, Oo, Oo, Oo, Oo, Oo, Oo, Oo, Oo, Oo, Oo, Oo, Oo, Oo, Oo, Oo, Oo, Oo, Oo], heapL [(⟨0, []⟩, ⟨0, []⟩, ⟨2, [[I ev, PL xs]]⟩)], 900⟩) (fun k => xs.length - k.1) ⟨0, Nat.zero_le _⟩ ?_ (fun k => ?_)
    ·
      (apply Le.headZ [_] rfl)
      all_goals (try dsimp only [srcs])
      (case' hfr | hob => (repeat' (first | refine La ?_ ?_ | exact Lc | refine Lo ?_ | refine ⟨⟨_, rfl, ?_⟩, ?_⟩ | refine Lx ?_)))
      all_goals (first | (rfl) | exact Ld)
    obtain ⟨k, hk⟩ := k
    simp only
    by_cases hlt : k < xs.length
    · obtain ⟨p, hp⟩ : ∃ p, xs[k]? = some p := ⟨xs[k], List.getElem?_eq_getElem hlt⟩
      have hrow : (xs.map Pl.row)[((k : Nat) : Int).toNat]? = some [DI p.f, DI p.t, DI p.d, DI p.k] := row_get hp
      have hmem := List.mem_of_getElem? hp
      have hok := hv p hmem
      have hgd : gdP fs e p = true := by simpa using h p hmem
      have hst := take_st (fs := fs) (e := e) hp
      have hbd := rdT_bd htm e (xs.take k) (fun q hq => hv q (List.mem_of_mem_take hq))
      generalize rdT fs e (xs.take k) = T at *
      obtain ⟨pf, pt, pd, pk⟩ := p
      unfold okPl at hok
      simp only at hok hrow
      unfold gdP at hgd
      simp only [decide_eq_true_eq] at hgd
      by_cases he : pt = e
      · by_cases hpk : (cnt fs e : Int) + 1 ≤ pk
        · rw [rx_skip (.inr hpk)] at hst
          repeat' (first | ((first | apply Ba | (apply Bb; (· rfl); (· rfl)) | (apply Bc; (· exact nxE)) | (apply Bd; (· rfl); (· rfl); (· exact nxE))); (· first | exact Ok.lenD rfl rfl FL_len | exact Ok.pe)) | ((first | apply Ca | (apply Cb; (· exact nxE))); (· first | exact Ok.e0)) | refine Sx ?_ | (refine Sy (fun h => ?_) (fun h => ?_) <;> try (exfalso; omega; done)) | refine Sz (fun h => ?_) (fun h => ?_))
          refine ⟨⟨k + 1, by omega⟩, ?_, by simp only; omega⟩
          (apply Le.headZ [_] rfl)
          all_goals (try dsimp only [srcs])
          (case' hfr | hob => (repeat' (first | refine La ?_ ?_ | exact Lc | refine Lo ?_ | refine ⟨⟨_, rfl, ?_⟩, ?_⟩ | refine Lx ?_)))
          all_goals (first | ((rw [hst]; done)) | exact Ld)
        · have hFF := hF pf ((cnt fs e : Nat) + 1 - pk)
          have hT := getD_tms htm pf ((cnt fs e : Int) + 1 - pk - 1).toNat
          rw [rx_step he (by simp only; omega)] at hst
          rw [tmN, if_pos (by omega)] at hFF
          simp only at hst
          generalize ((tms fs pf)[((cnt fs e : Int) + 1 - pk - 1).toNat]?).getD 0 = x at *
          repeat' (first | ((first | apply Ba | (apply Bb; (· rfl); (· rfl)) | (apply Bc; (· exact nxE)) | (apply Bd; (· rfl); (· rfl); (· exact nxE))); (· first | exact Kz rfl rfl (hFF) (Ad (Ad (Ad An))) | exact Ok.lenD rfl rfl FL_len | exact Ok.pe)) | ((first | apply Ca | (apply Cb; (· exact nxE))); (· first | exact Ok.e0)) | refine Sx ?_ | (refine Sy (fun h => ?_) (fun h => ?_) <;> try (exfalso; omega; done)) | refine Sz (fun h => ?_) (fun h => ?_))
          refine ⟨⟨k + 1, by omega⟩, ?_, by simp only; omega⟩
          (apply Le.headZ [_] rfl)
          all_goals (try dsimp only [srcs])
          (case' hfr | hob => (repeat' (first | refine La ?_ ?_ | exact Lc | refine Lo ?_ | refine ⟨⟨_, rfl, ?_⟩, ?_⟩ | refine Lx ?_)))
          all_goals (first | ((rw [hst]; done)) | exact Ld)
      · rw [rx_skip (.inl he)] at hst
        repeat' (first | ((first | apply Ba | (apply Bb; (· rfl); (· rfl)) | (apply Bc; (· exact nxE)) | (apply Bd; (· rfl); (· rfl); (· exact nxE))); (· first | exact Ok.lenD rfl rfl FL_len | exact Ok.pe)) | ((first | apply Ca | (apply Cb; (· exact nxE))); (· first | exact Ok.e0)) | refine Sx ?_ | (refine Sy (fun h => ?_) (fun h => ?_) <;> try (exfalso; omega; done)) | refine Sz (fun h => ?_) (fun h => ?_))
        refine ⟨⟨k + 1, by omega⟩, ?_, by simp only; omega⟩
        (apply Le.headZ [_] rfl)
        all_goals (try dsimp only [srcs])
        (case' hfr | hob => (repeat' (first | refine La ?_ ?_ | exact Lc | refine Lo ?_ | refine ⟨⟨_, rfl, ?_⟩, ?_⟩ | refine Lx ?_)))
        all_goals (first | ((rw [hst]; done)) | exact Ld)
    · obtain rfl : k = xs.length := by omega
      rw [List.take_length]
      repeat' (first | ((first | apply Ba | (apply Bb; (· rfl); (· rfl)) | (apply Bc; (· exact nxE)) | (apply Bd; (· rfl); (· rfl); (· exact nxE))); (· first | exact Ok.lenD rfl rfl FL_len | exact Ok.pe)) | ((first | apply Ca | (apply Cb; (· exact nxE))); (· first | exact Ok.e0)) | refine Sx ?_ | (refine Sy (fun h => ?_) (fun h => ?_) <;> try (exfalso; omega; done)) | refine Sz (fun h => ?_) (fun h => ?_))
      refine Yb ?_
      (apply Le.headZ (hs := []) [] rfl)
      all_goals (try dsimp only [srcs])
      (case' hfr => (repeat' (first | refine La ?_ ?_ | exact Lc | refine Lo ?_ | refine ⟨⟨_, rfl, ?_⟩, ?_⟩ | refine Lx ?_)))
      all_goals (first | exact Ld | exact trivial | (rfl))
  · have hjl := (List.getElem?_eq_some_iff.1 hj).1
    have hall : ¬ xs.all (gdP fs e) = true := fun h => by
      have := List.all_eq_true.1 h q (List.mem_of_getElem? hj)
      rw [this] at hq; cases hq
    have hr : rdR xs fs e = (0, false) := if_neg hall
    rw [hr]
    refine AC.of_body 0 Tryz.func82 rfl (fun l h => absurd rfl h) (fun C hC => ?_)
    have hD : ∀ l, ¬ C.D0 l := fun l h => (hC l).1 h rfl
    simp only [startFr, Tryz.ntmps82, List.length_cons, List.length_nil, Nat.reduceAdd, Nat.reduceSub, List.replicate_succ, List.replicate_zero, List.cons_append, List.nil_append]
    repeat' (first | ((first | apply Ba | (apply Bb; (· rfl); (· rfl)) | (apply Bc; (· exact nxE)) | (apply Bd; (· rfl); (· rfl); (· exact nxE))); (· first | exact Kz rfl rfl (hCt) (Ad (Ad An)) | exact Ok.lenD rfl rfl FL_len | exact Ok.pe)) | ((first | apply Ca | (apply Cb; (· exact nxE))); (· first | exact Ok.e0)) | refine Sx ?_ | (refine Sy (fun h => ?_) (fun h => ?_) <;> try (exfalso; omega; done)) | refine Sz (fun h => ?_) (fun h => ?_))
    refine AW.loop (X := {k : Nat // k ≤ j}) (fun k => ⟨[Oo, FL fs, I e, Bx 2 0, Oo, Oo, Oo, Oo, I ((cnt fs e : Nat) + 1), I (rdT fs e (xs.take (k.1 : Nat))), I (k.1 : Nat), Oo, Oo, Oo, Oo, Oo, Oo, Oo, Oo, Oo, Oo, Oo, Oo, Oo, Oo, Oo, Oo, Oo, Oo, Oo, Oo, Oo, Oo, Oo, Oo, Oo, Oo, Oo, Oo, Oo, Oo, Oo, Oo, Oo, Oo, Oo, Oo, Oo, Oo, Oo, Oo, Oo, Oo, Oo, Oo, Oo, Oo, Oo, Oo, Oo], heapL [(⟨0, []⟩, ⟨0, []⟩, ⟨2, [[I ev, PL xs]]⟩)], 900⟩) (fun k => j - k.1) ⟨0, Nat.zero_le _⟩ ?_ (fun k => ?_)
    ·
      (apply Le.headZ [_] rfl)
      all_goals (try dsimp only [srcs])
      (case' hfr | hob => (repeat' (first | refine La ?_ ?_ | exact Lc | refine Lo ?_ | refine ⟨⟨_, rfl, ?_⟩, ?_⟩ | refine Lx ?_)))
      all_goals (first | (rfl) | exact Ld)
    obtain ⟨k, hk⟩ := k
    simp only
    by_cases hlt : k < j
    · obtain ⟨p, hp⟩ : ∃ p, xs[k]? = some p := ⟨xs[k]'(by omega), List.getElem?_eq_getElem (by omega)⟩
      have hrow : (xs.map Pl.row)[((k : Nat) : Int).toNat]? = some [DI p.f, DI p.t, DI p.d, DI p.k] := row_get hp
      have hmem := List.mem_of_getElem? hp
      have hok := hv p hmem
      have hgd : gdP fs e p = true := by simpa using hb k p hlt hp
      have hst := take_st (fs := fs) (e := e) hp
      have hbd := rdT_bd htm e (xs.take k) (fun q hq => hv q (List.mem_of_mem_take hq))
      generalize rdT fs e (xs.take k) = T at *
      obtain ⟨pf, pt, pd, pk⟩ := p
      unfold okPl at hok
      simp only at hok hrow
      unfold gdP at hgd
      simp only [decide_eq_true_eq] at hgd
      by_cases he : pt = e
      · by_cases hpk : (cnt fs e : Int) + 1 ≤ pk
        · rw [rx_skip (.inr hpk)] at hst
          repeat' (first | ((first | apply Ba | (apply Bb; (· rfl); (· rfl)) | (apply Bc; (· exact nxE)) | (apply Bd; (· rfl); (· rfl); (· exact nxE))); (· first | exact Ok.lenD rfl rfl FL_len | exact Ok.pe)) | ((first | apply Ca | (apply Cb; (· exact nxE))); (· first | exact Ok.e0)) | refine Sx ?_ | (refine Sy (fun h => ?_) (fun h => ?_) <;> try (exfalso; omega; done)) | refine Sz (fun h => ?_) (fun h => ?_))
          refine ⟨⟨k + 1, by omega⟩, ?_, by simp only; omega⟩
          (apply Le.headZ [_] rfl)
          all_goals (try dsimp only [srcs])
          (case' hfr | hob => (repeat' (first | refine La ?_ ?_ | exact Lc | refine Lo ?_ | refine ⟨⟨_, rfl, ?_⟩, ?_⟩ | refine Lx ?_)))
          all_goals (first | ((rw [hst]; done)) | exact Ld)
        · have hFF := hF pf ((cnt fs e : Nat) + 1 - pk)
          have hT := getD_tms htm pf ((cnt fs e : Int) + 1 - pk - 1).toNat
          rw [rx_step he (by simp only; omega)] at hst
          rw [tmN, if_pos (by omega)] at hFF
          simp only at hst
          generalize ((tms fs pf)[((cnt fs e : Int) + 1 - pk - 1).toNat]?).getD 0 = x at *
          repeat' (first | ((first | apply Ba | (apply Bb; (· rfl); (· rfl)) | (apply Bc; (· exact nxE)) | (apply Bd; (· rfl); (· rfl); (· exact nxE))); (· first | exact Kz rfl rfl (hFF) (Ad (Ad (Ad An))) | exact Ok.lenD rfl rfl FL_len | exact Ok.pe)) | ((first | apply Ca | (apply Cb; (· exact nxE))); (· first | exact Ok.e0)) | refine Sx ?_ | (refine Sy (fun h => ?_) (fun h => ?_) <;> try (exfalso; omega; done)) | refine Sz (fun h => ?_) (fun h => ?_))
          refine ⟨⟨k + 1, by omega⟩, ?_, by simp only; omega⟩
          (apply Le.headZ [_] rfl)
          all_goals (try dsimp only [srcs])
          (case' hfr | hob => (repeat' (first | refine La ?_ ?_ | exact Lc | refine Lo ?_ | refine ⟨⟨_, rfl, ?_⟩, ?_⟩ | refine Lx ?_)))
          all_goals (first | ((rw [hst]; done)) | exact Ld)
      · rw [rx_skip (.inl he)] at hst
        repeat' (first | ((first | apply Ba | (apply Bb; (· rfl); (· rfl)) | (apply Bc; (· exact nxE)) | (apply Bd; (· rfl); (· rfl); (· exact nxE))); (· first | exact Ok.lenD rfl rfl FL_len | exact Ok.pe)) | ((first | apply Ca | (apply Cb; (· exact nxE))); (· first | exact Ok.e0)) | refine Sx ?_ | (refine Sy (fun h => ?_) (fun h => ?_) <;> try (exfalso; omega; done)) | refine Sz (fun h => ?_) (fun h => ?_))
        refine ⟨⟨k + 1, by omega⟩, ?_, by simp only; omega⟩
        (apply Le.headZ [_] rfl)
        all_goals (try dsimp only [srcs])
        (case' hfr | hob => (repeat' (first | refine La ?_ ?_ | exact Lc | refine Lo ?_ | refine ⟨⟨_, rfl, ?_⟩, ?_⟩ | refine Lx ?_)))
        all_goals (first | ((rw [hst]; done)) | exact Ld)
    · obtain rfl : k = j := by omega
      have hrow : (xs.map Pl.row)[((k : Nat) : Int).toNat]? = some [DI q.f, DI q.t, DI q.d, DI q.k] := row_get hj
      have hok := hv q (List.mem_of_getElem? hj)
      have hgd : gdP fs e q = false := by simpa using hq
      obtain ⟨pf, pt, pd, pk⟩ := q
      unfold okPl at hok
      simp only at hok hrow
      unfold gdP at hgd
      simp only [decide_eq_false_iff_not, not_or, Int.not_le, Decidable.not_not] at hgd
      obtain ⟨he, hpk, hcp⟩ := hgd
      have hFF := hF pf ((cnt fs e : Nat) + 1 - pk)
      rw [tmN, if_neg (by omega)] at hFF
      repeat' (first | ((first | apply Ba | (apply Bb; (· rfl); (· rfl)) | (apply Bc; (· exact nxE)) | (apply Bd; (· rfl); (· rfl); (· exact nxE))); (· first | exact Kz rfl rfl (hFF) (Ad (Ad (Ad An))) | exact Ok.lenD rfl rfl FL_len | exact Ok.pe)) | ((first | apply Ca | (apply Cb; (· exact nxE))); (· first | exact Ok.e0)) | refine Sx ?_ | (refine Sy (fun h => ?_) (fun h => ?_) <;> try (exfalso; omega; done)) | refine Sz (fun h => ?_) (fun h => ?_))
      all_goals
        refine Yb ?_
        (apply Le.headZ (hs := []) [] rfl)
        all_goals (try dsimp only [srcs])
        (case' hfr => (repeat' (first | refine La ?_ ?_ | exact Lc | refine Lo ?_ | refine ⟨⟨_, rfl, ?_⟩, ?_⟩ | refine Lx ?_)))
        all_goals (first | exact Ld | exact trivial | (rfl))
end Go.Proofs.YtofakjlamoigcaaGreatDoor
end
