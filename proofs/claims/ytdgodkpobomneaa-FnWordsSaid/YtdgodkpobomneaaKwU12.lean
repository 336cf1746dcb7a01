/-
  Walks in the abstract reading, part 12.
-/
import Derived.Test.YtdgodkpobomneaaKwU10
import Derived.Test.YtdgodkpobomneaaKwU11
import Derived.Test.YtdgodkpobomneaaKwU7
section
namespace Go.Proofs.Ytdgodkpobomneaa
set_option linter.unusedSimpArgs false
set_option linter.unusedVariables false
open Go Go.RowKit

theorem afR_snoc {ms : List (List (List Int))} {n m : Nat} : ∀ {w : List Nat} {x : List Int}, afR ms n (w ++ [m]) x = (afR ms n w x).bind fun y => if (stepL (ms.getD m []) n y).all isVal = true then some (stepL (ms.getD m []) n y) else none
  | [], x => by simp [afR]
  | a :: w, x => by
    simp only [List.cons_append, afR]
    by_cases h : (stepL (ms.getD a []) n x).all isVal = true
    · rw [if_pos h, if_pos h]; exact afR_snoc
    · rw [if_neg h, if_neg h]; rfl
theorem grR_snoc {A : List (List Int)} {n : Nat} : ∀ {k : Nat} {x : List Int}, grR A n (k + 1) x = (grR A n k x).bind fun y => if (stepL A n y).all isVal = true then some (stepL A n y) else none
  | 0, x => by simp [grR]
  | k + 1, x => by
    rw [grR]
    rw [show grR A n (k + 1) x = if (stepL A n x).all isVal = true then grR A n k (stepL A n x) else none from rfl]
    by_cases h : (stepL A n x).all isVal = true
    · rw [if_pos h, if_pos h]; exact grR_snoc
    · rw [if_neg h, if_neg h]; rfl
theorem grR_val {A : List (List Int)} {n : Nat} : ∀ {k : Nat} {x z : List Int}, x.length = n → x.all isVal = true → grR A n k x = some z → z.length = n ∧ z.all isVal = true
  | 0, x, z, hl, hv, h => by cases h; exact ⟨hl, hv⟩
  | k + 1, x, z, hl, hv, h => by
    rw [grR] at h
    by_cases e : (stepL A n x).all isVal = true
    · rw [if_pos e] at h; exact grR_val stepL_len e h
    · rw [if_neg e] at h; cases h
theorem stepL_at {t : List (List Int)} {n : Nat} {y : List Int} {i : Nat} (hi : i < n) : (stepL t n y).getD i 0 = maxN (fun j => timesB (entN t i j) (y.getD j 0)) n := by
  unfold stepL
  rw [List.getD_eq_getElem?_getD, rowF_get hi, Option.getD_some, apA_maxW]
theorem smT_at {n i j : Nat} (hi : i < n) (hj : j < n) : ∀ {q : List (List (List Int))} {t0 : List (List Int)}, (entN t0 i j ≤ entN (smT n t0 q) i j ∧ ∀ t ∈ q, entN t i j ≤ entN (smT n t0 q) i j) ∧ (entN (smT n t0 q) i j = entN t0 i j ∨ ∃ t ∈ q, entN (smT n t0 q) i j = entN t i j)
  | [], t0 => ⟨⟨Int.le_refl _, fun t ht => absurd ht (by simp)⟩, .inl rfl⟩
  | s :: q, t0 => by
    obtain ⟨⟨h1, h2⟩, h3⟩ := smT_at hi hj (q := q) (t0 := tabF n n (addF t0 s))
    have e : smT n t0 (s :: q) = smT n (tabF n n (addF t0 s)) q := rfl
    rw [tabF_ent hi hj] at h1 h3
    rw [e]
    generalize entN (smT n (tabF n n (addF t0 s)) q) i j = c at *
    unfold addF at h1 h3
    refine ⟨⟨by omega, fun t ht => ?_⟩, ?_⟩
    · rcases List.mem_cons.1 ht with rfl | ht
      · omega
      · exact h2 t ht
    · rcases h3 with h3 | ⟨t, ht, h3⟩
      · by_cases hm : entN t0 i j ≤ entN s i j
        · exact .inr ⟨s, by simp, by omega⟩
        · exact .inl (by omega)
      · exact .inr ⟨t, by simp [ht], h3⟩
theorem step_le {A t : List (List Int)} {n : Nat} (hA : MatOk A n) (ht : MatOk t n) (hle : ∀ i j, i < n → j < n → entN t i j ≤ entN A i j) {y g : List Int} (hy : ∀ j, j < n → bvB 1000000 (y.getD j 0)) (hg : ∀ j, j < n → bvB 1000000 (g.getD j 0)) (hyg : ∀ j, j < n → y.getD j 0 ≤ g.getD j 0) {i : Nat} (hi : i < n) : (stepL t n y).getD i 0 ≤ (stepL A n g).getD i 0 := by
  rw [stepL_at hi, stepL_at hi]
  refine maxN_le.2 ⟨maxN_botW, fun q hq => ?_⟩
  have h1 := timesB_mono (B := 1000000) (by decide) (entN_bv ht i q) (entN_bv hA i q) (hy q hq) (hle i q hi hq)
  have h2 := timesB_mono (B := 1000000) (by decide) (hy q hq) (hg q hq) (entN_bv hA i q) (hyg q hq)
  rw [timesB_commW, timesB_commW (a := g.getD q 0)] at h2
  exact Int.le_trans (Int.le_trans h1 h2) (maxN_geW (f := fun j => timesB (entN A i j) (g.getD j 0)) hq)
theorem hwAll_pred {ms : List (List (List Int))} {n : Nat} {x : List Int} {k : Nat} (hm : 0 < ms.length) (h : hwAll ms n x (wds ms.length (k + 1)) = true) : hwAll ms n x (wds ms.length k) = true := by
  unfold hwAll at h ⊢
  rw [List.all_eq_true] at h ⊢
  intro w hw
  obtain ⟨g1, g2⟩ := wds_mem hw
  have h1 := h (w ++ [0]) (mem_wds (by simp [g1]) (fun m hm2 => by
    rcases List.mem_append.1 hm2 with h | h
    · exact g2 m h
    · simp at h; omega))
  rw [afR_snoc] at h1
  cases e : afR ms n w x with
  | none => rw [e] at h1; exact absurd h1 (by simp)
  | some y => rfl
/-- Whatever a word reaches lies below the greatest vector, and each place of that is reached by a word. -/
theorem great_words {ms : List (List (List Int))} {n : Nat} {A : List (List Int)} (hm : 0 < ms.length) (hok : ∀ t ∈ ms, MatOk t n) (hA : MatOk A n) (hge : ∀ t ∈ ms, ∀ i j, i < n → j < n → entN t i j ≤ entN A i j) (hat : ∀ i j, i < n → j < n → ∃ t ∈ ms, entN A i j = entN t i j) {x : List Int} (hl : x.length = n) (hv : x.all isVal = true) : ∀ {k : Nat} {g : List Int}, grR A n k x = some g → hwAll ms n x (wds ms.length k) = true →
    (∀ w ∈ wds ms.length k, ∀ y, afR ms n w x = some y → ∀ i, i < n → y.getD i 0 ≤ g.getD i 0) ∧ ∀ i, i < n → ∃ w ∈ wds ms.length k, ∃ y, afR ms n w x = some y ∧ y.getD i 0 = g.getD i 0
  | 0, g, hg, _ => by
    cases hg
    refine ⟨fun w hw y hy i hi => ?_, fun i hi => ⟨[], by simp [wds], x, rfl, rfl⟩⟩
    simp only [wds, List.mem_singleton] at hw
    subst hw
    cases hy
    exact Int.le_refl _
  | k + 1, g, hg, hall => by
    rw [grR_snoc] at hg
    cases e : grR A n k x with
    | none => rw [e] at hg; cases hg
    | some u =>
      rw [e] at hg
      change (if _ then _ else _) = _ at hg
      by_cases hs : (stepL A n u).all isVal = true
      case neg => rw [if_neg hs] at hg; cases hg
      rw [if_pos hs] at hg
      cases hg
      obtain ⟨hul, huv⟩ := grR_val hl hv e
      obtain ⟨h1, h2⟩ := great_words hm hok hA hge hat hl hv e (hwAll_pred hm hall)
      have hbu : ∀ j, j < n → bvB 1000000 (u.getD j 0) := fun j hj => isVal_at huv hul hj
      have hup : ∀ w ∈ wds ms.length k, ∀ m, m < ms.length → ∀ y', afR ms n w x = some y' → ∀ i, i < n → (stepL (ms.getD m []) n y').getD i 0 ≤ (stepL A n u).getD i 0 := fun w hw m hmm y' hy' i hi => by
        obtain ⟨hyl, hyv⟩ := afR_val hl hv hy'
        have hmem := List.mem_of_getElem? (getQ_atW hmm)
        exact step_le hA (hok _ hmem) (hge _ hmem) (fun j hj => isVal_at hyv hyl hj) hbu (fun j hj => h1 w hw y' hy' j hj) hi
      have hword : ∀ w ∈ wds ms.length k, ∀ m, m < ms.length → ∀ y', afR ms n w x = some y' → (w ++ [m]) ∈ wds ms.length (k + 1) ∧ afR ms n (w ++ [m]) x = some (stepL (ms.getD m []) n y') := fun w hw m hmm y' hy' => by
        obtain ⟨g1, g2⟩ := wds_mem hw
        have hin : (w ++ [m]) ∈ wds ms.length (k + 1) := mem_wds (by simp [g1]) (fun a ha => by
          rcases List.mem_append.1 ha with h | h
          · exact g2 a h
          · simp at h; omega)
        refine ⟨hin, ?_⟩
        have hso := (List.all_eq_true.1 hall) _ hin
        rw [afR_snoc, hy'] at hso ⊢
        change (Option.isSome (if _ then _ else _)) = true at hso
        show (if _ then _ else _) = _
        by_cases hq : (stepL (ms.getD m []) n y').all isVal = true
        · rw [if_pos hq]
        · rw [if_neg hq] at hso; cases hso
      refine ⟨fun w hw y hy i hi => ?_, fun i hi => ?_⟩
      · obtain ⟨g1, g2⟩ := wds_mem hw
        obtain ⟨w', m, rfl⟩ : ∃ w' m, w = w' ++ [m] := by
          rcases List.eq_nil_or_concat w with h | ⟨w', m, h⟩
          · subst h; simp at g1
          · exact ⟨w', m, by simpa using h⟩
        have hmm : m < ms.length := g2 m (by simp)
        have hw' : w' ∈ wds ms.length k := mem_wds (by simpa using g1) (fun a ha => g2 a (by simp [ha]))
        rw [afR_snoc] at hy
        cases ey : afR ms n w' x with
        | none => rw [ey] at hy; cases hy
        | some y' =>
          have := (hword w' hw' m hmm y' ey).2
          rw [afR_snoc] at this
          rw [this] at hy
          cases hy
          exact hup w' hw' m hmm y' ey i hi
      · rcases maxN_atW (f := fun j => timesB (entN A i j) (u.getD j 0)) (k := n) with hb | ⟨j, hj, hb⟩
        · obtain ⟨w', hw', y', hy', _⟩ := h2 i hi
          obtain ⟨hin, hq⟩ := hword w' hw' 0 hm y' hy'
          refine ⟨_, hin, _, hq, Int.le_antisymm (hup w' hw' 0 hm y' hy' i hi) ?_⟩
          rw [stepL_at hi (t := A), hb, stepL_at hi]
          exact maxN_botW
        · obtain ⟨w', hw', y', hy', hyj⟩ := h2 j hj
          obtain ⟨t, ht, het⟩ := hat i j hi hj
          obtain ⟨m, hmm, hget⟩ := List.getElem?_of_mem ht |>.imp fun m h => (⟨(List.getElem?_eq_some_iff.1 h).1, h⟩ : m < ms.length ∧ ms[m]? = some t)
          have hgd : ms.getD m [] = t := by rw [List.getD_eq_getElem?_getD, hget]; rfl
          obtain ⟨hin, hq⟩ := hword w' hw' m hmm y' hy'
          refine ⟨_, hin, _, hq, Int.le_antisymm (hup w' hw' m hmm y' hy' i hi) ?_⟩
          rw [stepL_at hi (t := A), hb, hgd, stepL_at hi]
          rw [het, ← hyj]
          exact maxN_geW (f := fun j => timesB (entN t i j) (y'.getD j 0)) hj
/-! ### The greatest of a list; the best of a list of words -/
theorem foldl_maxW {d : Int} : ∀ {q : List Int} {c : Int}, q.foldl max c ≤ d ↔ c ≤ d ∧ ∀ a ∈ q, a ≤ d
  | [], c => by simp
  | a :: q, c => by
    rw [List.foldl_cons, foldl_maxW]
    simp only [List.mem_cons, forall_eq_or_imp]
    rw [show max c a ≤ d ↔ c ≤ d ∧ a ≤ d by omega, and_assoc]
theorem getD_atI {x : List Int} {i : Nat} (h : i < x.length) : x[i]? = some (x.getD i 0) := by
  rw [List.getD_eq_getElem?_getD, List.getElem?_eq_getElem h]; rfl
theorem mxL_le {x : List Int} {d : Int} : mxL x ≤ d ↔ BOT ≤ d ∧ ∀ i, i < x.length → x.getD i 0 ≤ d := by
  refine (foldl_maxW (q := x)).trans (and_congr_right fun _ => ⟨fun h i hi => ?_, fun h a ha => ?_⟩)
  · exact h _ (List.mem_of_getElem? (getD_atI hi))
  · obtain ⟨i, hi⟩ := List.getElem?_of_mem ha
    have hl := (List.getElem?_eq_some_iff.1 hi).1
    have := h i hl
    rw [List.getD_eq_getElem?_getD, hi] at this
    exact this
theorem bwF_max {f : List Nat → Int} : ∀ {W : List (List Nat)} {o : Option (List Nat × Int)} {b : List Nat} {h : Int}, W.foldl (fun st w => bwS true st w (f w)) o = some (b, h) → ((b ∈ W ∧ h = f b) ∨ o = some (b, h)) ∧ (∀ w ∈ W, f w ≤ h) ∧ (∀ c g, o = some (c, g) → g ≤ h)
  | [], o, b, h, e => ⟨.inr e, fun w hw => absurd hw (by simp), fun c g h1 => by
      have e2 : some (c, g) = some (b, h) := h1.symm.trans e
      cases e2; exact Int.le_refl _⟩
  | w :: W, o, b, h, e => by
    rw [List.foldl_cons] at e
    obtain ⟨h1, h2, h3⟩ := bwF_max e
    have hs : (bwS true o w (f w) = some (w, f w) ∧ ∀ c g, o = some (c, g) → g ≤ f w) ∨ (bwS true o w (f w) = o ∧ ∃ c g, o = some (c, g) ∧ f w ≤ g) := by
      cases o with
      | none => exact .inl ⟨rfl, fun c g h => by cases h⟩
      | some p =>
        obtain ⟨c, g⟩ := p
        have e1 : bwS true (some (c, g)) w (f w) = if (true = true ∧ f w > g) ∨ (true = false ∧ f w < g) then some (w, f w) else some (c, g) := rfl
        by_cases hc : f w > g
        · rw [if_pos (Or.inl ⟨rfl, hc⟩)] at e1
          exact .inl ⟨e1, fun c' g' h' => by cases h'; omega⟩
        · rw [if_neg (by rintro (⟨_, h1⟩ | ⟨h1, _⟩); exact hc h1; cases h1)] at e1
          exact .inr ⟨e1, c, g, rfl, by omega⟩
    rcases hs with ⟨s1, s2⟩ | ⟨s1, c, g, s2, s3⟩
    · rw [s1] at h1 h3
      have hw := h3 _ _ rfl
      refine ⟨?_, fun v hv => ?_, fun c g h => Int.le_trans (s2 c g h) hw⟩
      · rcases h1 with ⟨h1, h4⟩ | h1
        · exact .inl ⟨by simp [h1], h4⟩
        · cases h1; exact .inl ⟨by simp, rfl⟩
      · rcases List.mem_cons.1 hv with rfl | hv
        · exact hw
        · exact h2 v hv
    · rw [s1] at h1 h3
      have hw := h3 _ _ s2
      refine ⟨?_, fun v hv => ?_, h3⟩
      · rcases h1 with ⟨h1, h4⟩ | h1
        · exact .inl ⟨by simp [h1], h4⟩
        · exact .inr h1
      · rcases List.mem_cons.1 hv with rfl | hv
        · exact Int.le_trans s3 hw
        · exact h2 v hv
theorem bwF_min {f : List Nat → Int} : ∀ {W : List (List Nat)} {o : Option (List Nat × Int)} {b : List Nat} {h : Int}, W.foldl (fun st w => bwS false st w (f w)) o = some (b, h) → (∀ w ∈ W, h ≤ f w) ∧ (∀ c g, o = some (c, g) → h ≤ g)
  | [], o, b, h, e => ⟨fun w hw => absurd hw (by simp), fun c g h1 => by
      have e2 : some (c, g) = some (b, h) := h1.symm.trans e
      cases e2; exact Int.le_refl _⟩
  | w :: W, o, b, h, e => by
    rw [List.foldl_cons] at e
    obtain ⟨h2, h3⟩ := bwF_min e
    have hs : (bwS false o w (f w) = some (w, f w) ∧ ∀ c g, o = some (c, g) → f w ≤ g) ∨ (bwS false o w (f w) = o ∧ ∃ c g, o = some (c, g) ∧ g ≤ f w) := by
      cases o with
      | none => exact .inl ⟨rfl, fun c g h => by cases h⟩
      | some p =>
        obtain ⟨c, g⟩ := p
        have e1 : bwS false (some (c, g)) w (f w) = if (false = true ∧ f w > g) ∨ (false = false ∧ f w < g) then some (w, f w) else some (c, g) := rfl
        by_cases hc : f w < g
        · rw [if_pos (Or.inr ⟨rfl, hc⟩)] at e1
          exact .inl ⟨e1, fun c' g' h' => by cases h'; omega⟩
        · rw [if_neg (by rintro (⟨h1, _⟩ | ⟨_, h1⟩); cases h1; exact hc h1)] at e1
          exact .inr ⟨e1, c, g, rfl, by omega⟩
    rcases hs with ⟨s1, s2⟩ | ⟨s1, c, g, s2, s3⟩
    · rw [s1] at h3
      have hw := h3 _ _ rfl
      refine ⟨fun v hv => ?_, fun c g h => Int.le_trans hw (s2 c g h)⟩
      rcases List.mem_cons.1 hv with rfl | hv
      · exact hw
      · exact h2 v hv
    · rw [s1] at h3
      have hw := h3 _ _ s2
      refine ⟨fun v hv => ?_, h3⟩
      rcases List.mem_cons.1 hv with rfl | hv
      · exact Int.le_trans hw s3
      · exact h2 v hv
end Go.Proofs.Ytdgodkpobomneaa
end

section
namespace Go.Proofs.Ytdgodkpobomneaa
set_option linter.unusedSimpArgs false
set_option linter.unusedVariables false
open Go Go.RowKit
attribute [local irreducible] AL AD AW OpOk Le AC thenQ blockQ EndQ

theorem iHighestWord_ac [Mode] (ms : List (List (List Int))) (hm : MsOk ms) (x : List Int) (hx : x.length ≤ 1000000) (k : Int) : AC Try.prog 8 [QL ms, IL x, I k] H0 (.tup [IL (cN (hwP ms x k true).1), I (hwP ms x k true).2, I (hwC ms x k)]) H0 := by
  have hB := iBestWord_ac ms hm x hx k true
  rw [show sgM true = 1 from rfl] at hB
  generalize hwP ms x k true = p at *
  generalize hwC ms x k = c at *
  obtain ⟨b, h⟩ := p
  simp only at hB ⊢
  refine AC.of_body 0 Try.func8 rfl (fun l h => absurd rfl h) (fun C hC => ?_)
  have hD : ∀ l, ¬ C.D0 l := fun l h => (hC l).1 h rfl
  simp only [startFr, Try.ntmps8, List.length_cons, List.length_nil, Nat.reduceAdd, Nat.reduceSub, List.replicate_succ, List.replicate_zero, List.cons_append, List.nil_append]
  repeat' (first | ((first | apply Ba | (apply Bb; (· rfl); (· rfl)) | (apply Bc; (· exact nxE)) | (apply Bd; (· rfl); (· rfl); (· exact nxE))); (· first | exact Kz rfl rfl (hB) (Ad (Ad (Ad (Ad An)))) | exact Ok.pe)) | ((first | apply Ca | (apply Cb; (· exact nxE))); (· first | exact Ok.e0)) | refine Sx ?_ | (refine Sy (fun h => ?_) (fun h => ?_) <;> try (exfalso; omega; done)) | refine Sz (fun h => ?_) (fun h => ?_))
  refine Yc ?_
  (apply Le.headZ (hs := []) [] rfl)
  all_goals (try dsimp only [srcs])
  (case' hfr => (repeat' (first | refine La ?_ ?_ | exact Lc | refine Lo ?_ | refine ⟨⟨_, rfl, ?_⟩, ?_⟩ | refine Lx ?_)))
  all_goals (first | exact Ld | exact trivial | (rfl))
theorem iLowestWord_ac [Mode] (ms : List (List (List Int))) (hm : MsOk ms) (x : List Int) (hx : x.length ≤ 1000000) (k : Int) : AC Try.prog 10 [QL ms, IL x, I k] H0 (.tup [IL (cN (hwP ms x k false).1), I (hwP ms x k false).2, I (hwC ms x k)]) H0 := by
  have hB := iBestWord_ac ms hm x hx k false
  rw [show sgM false = -1 from rfl] at hB
  generalize hwP ms x k false = p at *
  generalize hwC ms x k = c at *
  obtain ⟨b, h⟩ := p
  simp only at hB ⊢
  refine AC.of_body 0 Try.func10 rfl (fun l h => absurd rfl h) (fun C hC => ?_)
  have hD : ∀ l, ¬ C.D0 l := fun l h => (hC l).1 h rfl
  simp only [startFr, Try.ntmps10, List.length_cons, List.length_nil, Nat.reduceAdd, Nat.reduceSub, List.replicate_succ, List.replicate_zero, List.cons_append, List.nil_append]
  repeat' (first | ((first | apply Ba | (apply Bb; (· rfl); (· rfl)) | (apply Bc; (· exact nxE)) | (apply Bd; (· rfl); (· rfl); (· exact nxE))); (· first | exact Kz rfl rfl (hB) (Ad (Ad (Ad (Ad An)))) | exact Ok.pe)) | ((first | apply Ca | (apply Cb; (· exact nxE))); (· first | exact Ok.e0)) | refine Sx ?_ | (refine Sy (fun h => ?_) (fun h => ?_) <;> try (exfalso; omega; done)) | refine Sz (fun h => ?_) (fun h => ?_))
  refine Yc ?_
  (apply Le.headZ (hs := []) [] rfl)
  all_goals (try dsimp only [srcs])
  (case' hfr => (repeat' (first | refine La ?_ ?_ | exact Lc | refine Lo ?_ | refine ⟨⟨_, rfl, ?_⟩, ?_⟩ | refine Lx ?_)))
  all_goals (first | exact Ld | exact trivial | (rfl))
theorem sHighestWord_ac [Mode] (ms : List (List (List Int))) (hm : MsOk ms) (x : List Int) (hx : x.length ≤ 1000000) (k : Int) : AC Try.prog 9 [QL ms, IL x, I k] H0 (.tup [IL (cN (hwP ms x k true).1), I (hwP ms x k true).2, I (hwC ms x k)]) H0 := by
  have hB := l25Best_ac ms hm x hx k true
  generalize hwP ms x k true = p at *
  generalize hwC ms x k = c at *
  obtain ⟨b, h⟩ := p
  simp only at hB ⊢
  refine AC.of_body 0 Try.func9 rfl (fun l h => absurd rfl h) (fun C hC => ?_)
  have hD : ∀ l, ¬ C.D0 l := fun l h => (hC l).1 h rfl
  simp only [startFr, Try.ntmps9, List.length_cons, List.length_nil, Nat.reduceAdd, Nat.reduceSub, List.replicate_succ, List.replicate_zero, List.cons_append, List.nil_append]
  repeat' (first | ((first | apply Ba | (apply Bb; (· rfl); (· rfl)) | (apply Bc; (· exact nxE)) | (apply Bd; (· rfl); (· rfl); (· exact nxE))); (· first | exact Kz rfl rfl (hB) (Ad (Ad (Ad (Ad An)))) | exact Ok.pe)) | ((first | apply Ca | (apply Cb; (· exact nxE))); (· first | exact Ok.e0)) | refine Sx ?_ | (refine Sy (fun h => ?_) (fun h => ?_) <;> try (exfalso; omega; done)) | refine Sz (fun h => ?_) (fun h => ?_))
  refine Yc ?_
  (apply Le.headZ (hs := []) [] rfl)
  all_goals (try dsimp only [srcs])
  (case' hfr => (repeat' (first | refine La ?_ ?_ | exact Lc | refine Lo ?_ | refine ⟨⟨_, rfl, ?_⟩, ?_⟩ | refine Lx ?_)))
  all_goals (first | exact Ld | exact trivial | (rfl))
theorem sLowestWord_ac [Mode] (ms : List (List (List Int))) (hm : MsOk ms) (x : List Int) (hx : x.length ≤ 1000000) (k : Int) : AC Try.prog 11 [QL ms, IL x, I k] H0 (.tup [IL (cN (hwP ms x k false).1), I (hwP ms x k false).2, I (hwC ms x k)]) H0 := by
  have hB := l25Best_ac ms hm x hx k false
  generalize hwP ms x k false = p at *
  generalize hwC ms x k = c at *
  obtain ⟨b, h⟩ := p
  simp only at hB ⊢
  refine AC.of_body 0 Try.func11 rfl (fun l h => absurd rfl h) (fun C hC => ?_)
  have hD : ∀ l, ¬ C.D0 l := fun l h => (hC l).1 h rfl
  simp only [startFr, Try.ntmps11, List.length_cons, List.length_nil, Nat.reduceAdd, Nat.reduceSub, List.replicate_succ, List.replicate_zero, List.cons_append, List.nil_append]
  repeat' (first | ((first | apply Ba | (apply Bb; (· rfl); (· rfl)) | (apply Bc; (· exact nxE)) | (apply Bd; (· rfl); (· rfl); (· exact nxE))); (· first | exact Kz rfl rfl (hB) (Ad (Ad (Ad (Ad An)))) | exact Ok.pe)) | ((first | apply Ca | (apply Cb; (· exact nxE))); (· first | exact Ok.e0)) | refine Sx ?_ | (refine Sy (fun h => ?_) (fun h => ?_) <;> try (exfalso; omega; done)) | refine Sz (fun h => ?_) (fun h => ?_))
  refine Yc ?_
  (apply Le.headZ (hs := []) [] rfl)
  all_goals (try dsimp only [srcs])
  (case' hfr => (repeat' (first | refine La ?_ ?_ | exact Lc | refine Lo ?_ | refine ⟨⟨_, rfl, ?_⟩, ?_⟩ | refine Lx ?_)))
  all_goals (first | exact Ld | exact trivial | (rfl))
/-- The highest word reaches the greatest vector's height; the lowest lies below. -/
theorem words_top [Mode] {ms : List (List (List Int))} {x : List Int} {k : Int} (h1 : hwC ms x k = 0) (h2 : grC ms x k = 0) :
    mxL (grL ms x k) = (hwP ms x k true).2 ∧ (hwP ms x k false).2 ≤ (hwP ms x k true).2 ∧ afC ms x (cN (hwP ms x k true).1) = 0 ∧ mxL (afL ms x (cN (hwP ms x k true).1)) = (hwP ms x k true).2 := by
  have h0 : inC (moC ms x) (wi k 0 6) = 0 := Classical.byContradiction fun h => by
    unfold hwC at h1; rw [if_neg h] at h1; exact h h1
  obtain ⟨g1, g2⟩ := inC_ok h0
  obtain ⟨n, ho, t0, q, e, _, h00, hqs⟩ := moC_ok g1
  have hk6 := wi_iff.1 g2
  obtain ⟨N, rfl⟩ : ∃ N : Nat, k = N := ⟨k.toNat, by omega⟩
  have hhd : (ms.headD []).length = n := by rw [e]; exact h00.sq.l
  have hm1 : 0 < ms.length := ho.m.1
  have hall : hwAll ms n x (wds ms.length N) = true := Classical.byContradiction fun h => by
    unfold hwC at h1; rw [if_pos h0, hhd, Int.toNat_natCast, if_neg h] at h1; cases h1
  obtain ⟨g, hg⟩ : ∃ g, grR (smM ms) n N x = some g := by
    unfold grC at h2
    rw [if_pos h0, hhd, Int.toNat_natCast] at h2
    cases eg : grR (smM ms) n N x with
    | none => rw [eg] at h2; cases h2
    | some g => exact ⟨g, rfl⟩
  have hgL : grL ms x N = g := by
    unfold grL
    rw [if_pos h0, hhd, Int.toNat_natCast, hg]
  have hP : ∀ most, hwP ms x N most = (bwF most (afH ms n x) (wds ms.length N)).getD ([], 0) := fun most => by
    unfold hwP
    rw [if_pos h1, hhd, Int.toNat_natCast]
  have hsm : smM ms = smT n t0 q := by
    unfold smM; rw [hhd, e]; rfl
  have hA : MatOk (smM ms) n := by rw [hsm]; exact smT_ok h00 hqs
  obtain ⟨hlow, hatt⟩ := great_words (A := smM ms) hm1 ho.ok hA (fun t ht i j hi hj => by
      rw [hsm]
      obtain ⟨⟨b1, b2⟩, _⟩ := smT_at hi hj (q := q) (t0 := t0)
      rw [e] at ht
      rcases List.mem_cons.1 ht with rfl | ht
      · exact b1
      · exact b2 t ht) (fun i j hi hj => by
      rw [hsm]
      obtain ⟨_, b3⟩ := smT_at hi hj (q := q) (t0 := t0)
      rcases b3 with b3 | ⟨t, ht, b3⟩
      · exact ⟨t0, by rw [e]; simp, b3⟩
      · exact ⟨t, by rw [e]; simp [ht], b3⟩) ho.l ho.v hg hall
  obtain ⟨hgl, hgv⟩ := grR_val ho.l ho.v hg
  obtain ⟨w0, q0, hw0⟩ := wds_ne (k := N) hm1
  have hsome : ∀ most, ∃ b h, bwF most (afH ms n x) (wds ms.length N) = some (b, h) := fun most => by
    obtain ⟨b, h, hb⟩ := bwF_some (most := most) (f := afH ms n x) (W := wds ms.length N) (i := (wds ms.length N).length) (by rw [hw0]; simp) (Nat.le_refl _)
    rw [List.take_length] at hb
    exact ⟨b, h, hb⟩
  obtain ⟨b, h, hb⟩ := hsome true
  obtain ⟨c, l, hc⟩ := hsome false
  rw [hgL, hP true, hP false, hb, hc]
  simp only [Option.getD_some]
  obtain ⟨m1, m2, _⟩ := bwF_max hb
  obtain ⟨m4, _⟩ := bwF_min hc
  obtain ⟨m5, m6⟩ := m1.resolve_right (by simp)
  obtain ⟨y, hy⟩ : ∃ y, afR ms n b x = some y := by
    have := (List.all_eq_true.1 hall) _ m5
    cases ey : afR ms n b x with
    | none => rw [ey] at this; cases this
    | some y => exact ⟨y, rfl⟩
  obtain ⟨hyl, hyv⟩ := afR_val ho.l ho.v hy
  have hbm : afH ms n x b = mxL y := by unfold afH; rw [hy]
  obtain ⟨p1, p2⟩ := wds_mem m5
  have hWo : woB ms (cN b) = true := by
    unfold woB
    rw [Bool.and_eq_true, List.all_eq_true]
    refine ⟨fun a ha => ?_, decide_eq_true (by simp; omega)⟩
    obtain ⟨m, hm2, rfl⟩ := List.mem_map.1 ha
    have := p2 m hm2
    exact wi_iff.2 (by omega)
  have e0 : inC (moC ms x) (woB ms (cN b)) = 0 := by rw [hWo]; unfold inC; rw [if_pos g1]; rfl
  refine ⟨Int.le_antisymm ?_ ?_, ?_, ?_, ?_⟩
  · refine mxL_le.2 ⟨?_, fun i hi => ?_⟩
    · rw [m6, hbm]; exact (mxL_bndW hyv).1
    · obtain ⟨w, hw, z, hz, hzi⟩ := hatt i (by omega)
      obtain ⟨hzl, _⟩ := afR_val ho.l ho.v hz
      have hwm : afH ms n x w = mxL z := by unfold afH; rw [hz]
      have := m2 w hw
      rw [← hzi]
      have := (mxL_le.1 (Int.le_refl (mxL z))).2 i (by omega)
      omega
  · rw [m6, hbm]
    refine mxL_le.2 ⟨(mxL_bndW hgv).1, fun i hi => ?_⟩
    have := hlow b m5 y hy i (by omega)
    have := (mxL_le.1 (Int.le_refl (mxL g))).2 i (by omega)
    omega
  · have := m4 b m5
    omega
  · unfold afC
    rw [if_pos e0, hhd, cN_toNat, hy]
  · unfold afL
    rw [if_pos e0, hhd, cN_toNat, hy, m6, hbm]
end Go.Proofs.Ytdgodkpobomneaa
end

section
namespace Go.Proofs.Ytdgodkpobomneaa
set_option linter.unusedSimpArgs false
set_option linter.unusedVariables false
open Go Go.RowKit
attribute [local irreducible] AL AD AW OpOk Le AC thenQ blockQ EndQ

theorem iTimesNil_ac [Mode] (x : List Int) (hx : x.length ≤ 1000000) : AC Try.prog 21 [TL [], IL x] H0 (.tup [IL [], I 1]) H0 := by
  have hM := iIsMatrix_ac [] (by simp) (fun r hr => by simp at hr)
  rw [isMat_nil] at hM
  have hV := iIsVector_ac x (by omega)
  generalize isVec x = b at *
  refine AC.of_body 0 Try.func21 rfl (fun l h => absurd rfl h) (fun C hC => ?_)
  have hD : ∀ l, ¬ C.D0 l := fun l h => (hC l).1 h rfl
  simp only [startFr, Try.ntmps21, List.length_cons, List.length_nil, Nat.reduceAdd, Nat.reduceSub, List.replicate_succ, List.replicate_zero, List.cons_append, List.nil_append]
  repeat' (first | ((first | apply Ba | (apply Bb; (· rfl); (· rfl)) | (apply Bc; (· exact nxE)) | (apply Bd; (· rfl); (· rfl); (· exact nxE))); (· first | exact Kz rfl rfl (hM) (Ad An) | exact Kz rfl rfl (hV) (Ad An) | exact Ok.pe)) | ((first | apply Ca | (apply Cb; (· exact nxE))); (· first | exact Ok.e0)) | refine Sx ?_ | (refine Sy (fun h => ?_) (fun h => ?_) <;> try (exfalso; omega; done)) | refine Sz (fun h => ?_) (fun h => ?_))
  refine Yb ?_
  (apply Le.headZ (hs := []) [] rfl)
  all_goals (try dsimp only [srcs])
  (case' hfr => (repeat' (first | refine La ?_ ?_ | exact Lc | refine Lo ?_ | refine ⟨⟨_, rfl, ?_⟩, ?_⟩ | refine Lx ?_)))
  all_goals (first | exact Ld | exact trivial | (rfl))
theorem allM_unit [Mode] {n : Nat} : allM (tabF n n unitF) = true := by
  unfold allM
  rw [List.all_eq_true]
  intro r hr
  obtain ⟨i, hi, rfl⟩ := List.mem_map.1 hr
  rw [List.all_eq_true]
  intro a ha
  obtain ⟨j, hj, rfl⟩ := List.mem_map.1 ha
  unfold unitF
  split <;> decide
theorem wmR_ok [Mode] {ms : List (List (List Int))} {n : Nat} (h1 : 1 ≤ n) (h2 : n ≤ 10) : ∀ {u : List Nat} {t A : List (List Int)}, MatOk t n → allM t = true → wmR ms n u t = some A → MatOk A n ∧ allM A = true
  | [], t, A, ht, hv, h => by
    simp only [wmR] at h
    cases h
    exact ⟨ht, hv⟩
  | m :: u, t, A, ht, hv, h => by
    simp only [wmR] at h
    split at h
    · rename_i hz
      exact wmR_ok h1 h2 (allM_ok ⟨tabF_len, tabF_rc.r⟩ h1 h2 hz) hz h
    · cases h
/-- The law's clause on a word's matrix. -/
theorem word_times [Mode] {ms : List (List (List Int))} {x w : List Int} (h : afC ms x w = 0) (hx : x.length ≤ 1000000) : ∃ (p : List Int) (e : Int), AC Try.prog 21 [TL (wmL ms w), IL x] H0 (.tup [IL p, I e]) H0 ∧ (wmC ms w = 0 → e = 0 ∧ p = afL ms x w) := by
  have h0 : inC (moC ms x) (woB ms w) = 0 := Classical.byContradiction fun hn => by
    unfold afC at h; rw [if_neg hn] at h; exact hn h
  obtain ⟨g1, g2⟩ := inC_ok h0
  obtain ⟨n, ho, t0, q, e, _, h00, hqs⟩ := moC_ok g1
  obtain ⟨u, rfl, hu, hmem⟩ := woB_nat g2
  have hhd : (ms.headD []).length = n := by rw [e]; exact h00.sq.l
  have hmo : areMo ms = true := Classical.byContradiction fun hn => by
    unfold moC at g1; rw [if_neg (fun h => hn h.1)] at g1; cases g1
  unfold wmL wmC
  rw [if_pos hmo, if_pos hmo, if_pos g2, if_pos g2, hhd, cN_toNat]
  cases hA : wmR ms n u (tabF n n unitF) with
  | none => exact ⟨[], 1, iTimesNil_ac x hx, fun h => by cases h⟩
  | some A =>
    obtain ⟨hAo, hAv⟩ := wmR_ok ho.n1 ho.n2 (unit_ok ho.n1 ho.n2) allM_unit hA
    refine ⟨_, _, iTimesVector_ac A n hAo hAv x ho.l ho.v, fun _ => ?_⟩
    unfold afC at h
    unfold afL
    rw [if_pos h0, hhd, cN_toNat] at h ⊢
    cases hz : afR ms n u x with
    | none => rw [hz] at h; cases h
    | some z =>
      have := word_mul ho.ok ho.v ho.l hmem (unit_ok ho.n1 ho.n2) hA (by rw [step_unit ho.v ho.l]; exact hz)
      obtain ⟨_, hzv⟩ := afR_val ho.l ho.v hz
      rw [this, if_pos hzv, if_pos hzv]
      exact ⟨rfl, rfl⟩
end Go.Proofs.Ytdgodkpobomneaa
end

section
namespace Go.Proofs.Ytdgodkpobomneaa
set_option linter.unusedSimpArgs false
set_option linter.unusedVariables false
open Go Go.RowKit
attribute [local irreducible] AL AD AW OpOk Le AC thenQ blockQ EndQ

section
variable {P : Program} {o : Oper} {A : Operand → AV} {H : Heap} {new : Nat}
end
end Go.Proofs.Ytdgodkpobomneaa
end

section
namespace Go.Proofs.Ytdgodkpobomneaa
set_option linter.unusedSimpArgs false
set_option linter.unusedVariables false
open Go Go.RowKit
attribute [local irreducible] AL AD AW OpOk Le AC thenQ blockQ EndQ

set_option maxRecDepth 100000 in
set_option maxHeartbeats 16000000 in
theorem fwWalkA [Mode] (code : List Int) (hbig : ¬ 4096 < (code.length : Int)) (ms ms2 A : List (List (List Int))) (x y w hw lw g z p up : List Int) (k hh lh c d f sv e : Int) (b : Bool) (B : List (List Int))
    (hBig : AC Try.prog 6 [.d (BD code)] H0 (Bo (decide (4096 < (code.length : Int)))) H0)
    (hD1 : AC Try.prog 7 [.d (BD code)] H0 (.tup [QL ms, IL x, I k]) H0)
    (hD2 : AC Try.prog 14 [.d (BD code)] H0 (.tup [QL ms2, IL y, IL w]) H0)
    (hH1 : AC Try.prog 8 [QL ms, IL x, I k] H0 (.tup [IL hw, I hh, I c]) H0)
    (hH2 : AC Try.prog 9 [QL ms, IL x, I k] H0 (.tup [IL hw, I hh, I c]) H0)
    (hL1 : AC Try.prog 10 [QL ms, IL x, I k] H0 (.tup [IL lw, I lh, I c]) H0)
    (hL2 : AC Try.prog 11 [QL ms, IL x, I k] H0 (.tup [IL lw, I lh, I c]) H0)
    (hG1 : AC Try.prog 12 [QL ms, IL x, I k] H0 (.tup [IL g, I d]) H0)
    (hG2 : AC Try.prog 13 [QL ms, IL x, I k] H0 (.tup [IL g, I d]) H0)
    (hA1 : AC Try.prog 15 [QL ms2, IL y, IL w] H0 (.tup [IL z, I f]) H0)
    (hA2 : AC Try.prog 16 [QL ms2, IL y, IL w] H0 (.tup [IL z, I f]) H0)
    (hM1 : AC Try.prog 18 [QL ms] H0 (Bo b) H0)
    (hM2 : AC Try.prog 19 [QL ms] H0 (Bo b) H0)
    (hK1 : AC Try.prog 17 [IL hw, IL hw] H0 (Bo true) H0)
    (hK2 : AC Try.prog 17 [IL lw, IL lw] H0 (Bo true) H0)
    (hK3 : AC Try.prog 17 [IL g, IL g] H0 (Bo true) H0)
    (hK4 : AC Try.prog 17 [IL z, IL z] H0 (Bo true) H0)
    (hf : f ≠ 0)
    (hc : c ≠ 0) :
    AC Try.prog 3 [.d (BD code)] H0 (Bo true) H0 := by
  refine AC.of_body 0 Try.func3 rfl (fun l h => absurd rfl h) (fun C hC => ?_)
  have hD : ∀ l, ¬ C.D0 l := fun l h => (hC l).1 h rfl
  simp only [startFr, Try.ntmps3, List.length_cons, List.length_nil, Nat.reduceAdd, Nat.reduceSub, List.replicate_succ, List.replicate_zero, List.cons_append, List.nil_append]
  repeat' (first | ((first | apply Ba | (apply Bb; (· rfl); (· rfl)) | (apply Bc; (· exact nxE)) | (apply Bd; (· rfl); (· rfl); (· exact nxE))); (· first | exact Kz rfl rfl (hBig) (Ad An) | exact Kz rfl rfl (hD1) (Ad An) | exact Kz rfl rfl (hH1) (Ad (Ad (Ad An))) | exact Kz rfl rfl (hH2) (Ad (Ad (Ad An))) | exact Kz rfl rfl (hL1) (Ad (Ad (Ad An))) | exact Kz rfl rfl (hL2) (Ad (Ad (Ad An))) | exact Kz rfl rfl (hG1) (Ad (Ad (Ad An))) | exact Kz rfl rfl (hG2) (Ad (Ad (Ad An))) | exact Kz rfl rfl (hD2) (Ad An) | exact Kz rfl rfl (hA1) (Ad (Ad (Ad An))) | exact Kz rfl rfl (hA2) (Ad (Ad (Ad An))) | exact Kz rfl rfl (hK1) (Ad (Ad An)) | exact Kz rfl rfl (hK2) (Ad (Ad An)) | exact Kz rfl rfl (hK3) (Ad (Ad An)) | exact Kz rfl rfl (hK4) (Ad (Ad An)) | exact Kz rfl rfl (hM1) (Ad An) | exact Kz rfl rfl (hM2) (Ad An) | exact Ok.pe)) | ((first | apply Ca | (apply Cb; (· exact nxE))); (· first | exact Ok.e0)) | refine Sx ?_ | (refine Sy (fun h => ?_) (fun h => ?_) <;> try (exfalso; omega; done)) | refine Sz (fun h => ?_) (fun h => ?_))
  refine Ya ?_
  (apply Le.headZ (hs := []) [] rfl)
  all_goals (try dsimp only [srcs])
  (case' hfr => (repeat' (first | refine La ?_ ?_ | exact Lc | refine Lo ?_ | refine ⟨⟨_, rfl, ?_⟩, ?_⟩ | refine Lx ?_)))
  all_goals (first | exact Ld | exact trivial | (rfl))
end Go.Proofs.Ytdgodkpobomneaa
end
