/-
  Walks in the abstract reading: FindSqueeze, by both sides. (Printed by wip/gen/g_e97.py.)
-/
import Derived.Test.YtkpoclbnnpglfaaKcU10
import Derived.Test.YtkpoclbnnpglfaaKcU11
namespace Go.Proofs.Ytkpoclbnnpglfaa
set_option linter.unusedSimpArgs false
set_option linter.unusedVariables false
open Go Go.RowKit
attribute [local irreducible] AL AD AW OpOk Le AC thenQ blockQ EndQ

/-- A squeeze from f to t: the star's way is too heavy for the windows. -/
abbrev sqP (ws : List Wn) (bs : List Bn) (f t : Nat) : Prop := starF (entN (tkT ws bs)) ws.length t f ≠ BOT ∧ hiF ws t < loF ws f + starF (entN (tkT ws bs)) ws.length t f
theorem sq_cases [Mode] (ws : List Wn) (bs : List Bn) : (∀ f t, f < ws.length → t < ws.length → ¬ sqP ws bs f t) ∨ ∃ f t, f < ws.length ∧ t < ws.length ∧ sqP ws bs f t ∧ (∀ a b, a < f → b < ws.length → ¬ sqP ws bs a b) ∧ ∀ b, b < t → ¬ sqP ws bs f b := by
  by_cases hq : ∀ f t, f < ws.length → t < ws.length → ¬ sqP ws bs f t
  · exact .inl hq
  · right
    have hx : ∃ f, f < ws.length ∧ ∃ t, t < ws.length ∧ sqP ws bs f t := Classical.byContradiction fun hn => hq fun f t hf ht hs => hn ⟨f, hf, t, ht, hs⟩
    obtain ⟨f0, hf0⟩ := hx
    obtain ⟨f, -, h1, h2⟩ := least_of (P := fun f => f < ws.length ∧ ∃ t, t < ws.length ∧ sqP ws bs f t) f0 hf0
    obtain ⟨t0, ht0⟩ := h1.2
    obtain ⟨t, -, h3, h4⟩ := least_of (P := fun t => t < ws.length ∧ sqP ws bs f t) t0 ht0
    exact ⟨f, t, h1.1, h3.1, h3.2, fun a b ha hb hs => h2 a ha ⟨by omega, b, hb, hs⟩, fun b hb hs => h4 b hb ⟨by omega, hs⟩⟩
set_option maxHeartbeats 2000000 in
theorem iFindSqueeze_inv [Mode] (ws : List Wn) (bs : List Bn) (hw : ws.length ≤ 1000) (hb : bs.length ≤ 1000) (h : isTk ws bs = false) : AC Try.prog 7 [WNL ws, BNL bs] H0 (.tup [IL [], I 1]) H0 := by
  have hI := iIsTask_ac ws bs (by omega) (by omega)
  rw [h] at hI
  refine AC.of_body 0 Try.func7 rfl (fun l h => absurd rfl h) (fun C hC => ?_)
  have hD : ∀ l, ¬ C.D0 l := fun l h => (hC l).1 h rfl
  simp only [startFr, Try.ntmps7, List.length_cons, List.length_nil, Nat.reduceAdd, Nat.reduceSub, List.replicate_succ, List.replicate_zero, List.cons_append, List.nil_append]
  repeat' (first | ((first | apply Ba | (apply Bb; (· rfl); (· rfl)) | (apply Bc; (· exact nxE)) | (apply Bd; (· rfl); (· rfl); (· exact nxE))); (· first | exact Kz rfl rfl (hI) (Ad (Ad An)) | exact Ok.lenD rfl rfl WN_len | exact Ok.lenD rfl rfl BN_len | exact Ok.pe)) | ((first | apply Ca | (apply Cb; (· exact nxE))); (· first | exact Ok.e0)) | refine Sx ?_ | (refine Sy (fun h => ?_) (fun h => ?_) <;> try (exfalso; omega; done)) | refine Sz (fun h => ?_) (fun h => ?_))
  refine Yb ?_
  (apply Le.headZ (hs := []) [] rfl)
  all_goals (try dsimp only [srcs])
  (case' hfr => (repeat' (first | refine La ?_ ?_ | exact Lc | refine Lo ?_ | refine ⟨⟨_, rfl, ?_⟩, ?_⟩ | refine Lx ?_)))
  all_goals (first | exact Ld | exact trivial | (rfl))
set_option maxHeartbeats 2000000 in
theorem iFindSqueeze_tour [Mode] (ws : List Wn) (bs : List Bn) (hw : ws.length ≤ 1000) (hb : bs.length ≤ 1000) (h : isTk ws bs = true) (hnp : ¬ NoPos (entN (tkT ws bs)) ws.length) : AC Try.prog 7 [WNL ws, BNL bs] H0 (.tup [IL [], I 5]) H0 := by
  have hI := iIsTask_ac ws bs (by omega) (by omega)
  rw [h] at hI
  obtain ⟨h1, h2, h3, h4⟩ := isTk_ok h
  have hok := tkT_ok h
  have hM := (bondMatrix_ac ws.length ws bs rfl h1.2 (by omega) h4).frzT (by rw [TR_len]; exact hok.sq.l)
  have hS := starOf_no (tkT ws bs) ws.length hok.sb hnp
  unfold tkT at hS
  refine AC.of_body 0 Try.func7 rfl (fun l h => absurd rfl h) (fun C hC => ?_)
  have hD : ∀ l, ¬ C.D0 l := fun l h => (hC l).1 h rfl
  simp only [startFr, Try.ntmps7, List.length_cons, List.length_nil, Nat.reduceAdd, Nat.reduceSub, List.replicate_succ, List.replicate_zero, List.cons_append, List.nil_append]
  repeat' (first | ((first | apply Ba | (apply Bb; (· rfl); (· rfl)) | (apply Bc; (· exact nxE)) | (apply Bd; (· rfl); (· rfl); (· exact nxE))); (· first | exact Kz rfl rfl (hI) (Ad (Ad An)) | exact Kz rfl rfl (hM) (Ad (Ad An)) | exact Kz rfl rfl (hS) (Ad An) | exact Ok.lenD rfl rfl WN_len | exact Ok.lenD rfl rfl BN_len | exact Ok.pe)) | ((first | apply Ca | (apply Cb; (· exact nxE))); (· first | exact Ok.e0)) | refine Sx ?_ | (refine Sy (fun h => ?_) (fun h => ?_) <;> try (exfalso; omega; done)) | refine Sz (fun h => ?_) (fun h => ?_))
  refine Yb ?_
  (apply Le.headZ (hs := []) [] rfl)
  all_goals (try dsimp only [srcs])
  (case' hfr => (repeat' (first | refine La ?_ ?_ | exact Lc | refine Lo ?_ | refine ⟨⟨_, rfl, ?_⟩, ?_⟩ | refine Lx ?_)))
  all_goals (first | exact Ld | exact trivial | (rfl))
set_option maxHeartbeats 8000000 in
theorem iFindSqueeze_no [Mode] (ws : List Wn) (bs : List Bn) (hw : ws.length ≤ 1000) (hb : bs.length ≤ 1000) (h : isTk ws bs = true) (hnp : NoPos (entN (tkT ws bs)) ws.length) (hn1 : ∀ a b, a < ws.length → b < ws.length → ¬ sqP ws bs a b) : AC Try.prog 7 [WNL ws, BNL bs] H0 (.tup [IL [], I 4]) H0 := by
  have hI := iIsTask_ac ws bs (by omega) (by omega)
  rw [h] at hI
  obtain ⟨h1, h2, h3, h4⟩ := isTk_ok h
  have hok := tkT_ok h
  have hM := (bondMatrix_ac ws.length ws bs rfl h1.2 (by omega) h4).frzT (by rw [TR_len]; exact hok.sq.l)
  have hS := (starOf_ac (tkT ws bs) ws.length (hok.sb.m hnp)).frzT2 (by rw [TR_len, tabF_len])
  have hrg := loF_rng h3
  have hlg : ∀ i, i < ws.length → ∃ w, ws[i]? = some w ∧ loF ws i = w.lo ∧ hiF ws i = w.hi := fun i hi => by
    obtain ⟨w, hw⟩ : ∃ w, ws[i]? = some w := ⟨ws[i], List.getElem?_eq_getElem hi⟩
    exact ⟨w, hw, loF_at hw, hiF_at hw⟩
  have hsb : ∀ i j, i < ws.length → j < ws.length → starF (entN (tkT ws bs)) ws.length i j = BOT ∨ (-102400000000000 ≤ starF (entN (tkT ws bs)) ws.length i j ∧ starF (entN (tkT ws bs)) ws.length i j ≤ 1000000000000) := fun i j hi hj => by
    rw [(hok.sb.m hnp).star hi hj]; exact (hok.sb.m hnp).cells (Nat.le_refl _) hi hj
  have hsg : ∀ i j, i < ws.length → j < ws.length → ∃ r, (mRows 1 (TR (tabF ws.length ws.length (starF (entN (tkT ws bs)) ws.length))))[((i : Nat) : Int).toNat]? = some [.sl 1 (IR r)] ∧ (IR r)[((j : Nat) : Int).toNat]? = some [DI (starF (entN (tkT ws bs)) ws.length i j)] ∧ (IR r).length = ws.length := fun i j hi hj =>
    ⟨_, by rw [Int.toNat_natCast]; exact TR_get (tabF_get hi), by rw [Int.toNat_natCast]; exact IRF_get hj, by rw [IR_len, rowF_len]⟩
  unfold sqP at *
  clear hok
  generalize starF (entN (tkT ws bs)) ws.length = S at *
  unfold tkT at *
  generalize tabF ws.length ws.length S = st at *
  generalize bmT ws.length bs = t at *
  refine AC.of_body 0 Try.func7 rfl (fun l h => absurd rfl h) (fun C hC => ?_)
  have hD : ∀ l, ¬ C.D0 l := fun l h => (hC l).1 h rfl
  simp only [startFr, Try.ntmps7, List.length_cons, List.length_nil, Nat.reduceAdd, Nat.reduceSub, List.replicate_succ, List.replicate_zero, List.cons_append, List.nil_append]
  repeat' (first | ((first | apply Ba | (apply Bb; (· rfl); (· rfl)) | (apply Bc; (· exact nxE)) | (apply Bd; (· rfl); (· rfl); (· exact nxE))); (· first | exact Kz rfl rfl (hI) (Ad (Ad An)) | exact Kz rfl rfl (hM) (Ad (Ad An)) | exact Kz rfl rfl (hS) (Ad An) | exact Ok.lenD rfl rfl WN_len | exact Ok.lenD rfl rfl BN_len | exact Ok.pe)) | ((first | apply Ca | (apply Cb; (· exact nxE))); (· first | exact Ok.e0)) | refine Sx ?_ | (refine Sy (fun h => ?_) (fun h => ?_) <;> try (exfalso; omega; done)) | refine Sz (fun h => ?_) (fun h => ?_))
  refine AW.loop (X := {k : Nat // k ≤ ws.length}) (fun k => ⟨[WNL ws, Oo, Oo, Oo, Oo, Oo, TL t, TL st, Oo, Oo, Oo, Oo, Oo, Oo, Oo, Oo, Oo, Oo, Oo, Oo, Oo, Oo, Oo, Oo, Oo, Oo, Oo, WNL ws, I ws.length, I (k.1 : Nat), Oo, Oo, Oo, Oo, Oo, Oo, Oo, Oo, Oo, Oo, Oo, Oo, Oo, Oo, Oo, Oo, Oo, Oo, Oo, Oo, Oo, Oo, Oo, Oo, Oo, Oo, Oo, Oo, Oo, Oo, Oo, Oo, Oo, Oo, Oo, Oo, Oo, Oo, Oo, Oo, Oo], heapL [], 900⟩) (fun k => ws.length - k.1) ⟨0, Nat.zero_le _⟩ ?_ (fun k => ?_)
  ·
    (apply Le.headZ [] rfl)
    all_goals (try dsimp only [srcs])
    (case' hfr | hob => (repeat' (first | refine La ?_ ?_ | exact Lc | refine Lo ?_ | refine ⟨⟨_, rfl, ?_⟩, ?_⟩ | refine Lx ?_)))
    all_goals (first | (rfl) | exact Ld)
  obtain ⟨a, ha⟩ := k
  simp only
  by_cases hlt : a < ws.length
  ·
    obtain ⟨w, hw1', e1, e2⟩ := hlg a (by omega)
    have hrow : (ws.map Wn.row)[((a : Nat) : Int).toNat]? = some [DI w.lo, DI w.hi] := row_get hw1'
    have hra := hrg a
    rw [e1] at hra
    repeat' (first | ((first | apply Ba | (apply Bb; (· rfl); (· rfl)) | (apply Bc; (· exact nxE)) | (apply Bd; (· rfl); (· rfl); (· exact nxE))); (· first | exact Ok.lenD rfl rfl WN_len | exact Ok.lenD rfl rfl BN_len | exact Ok.pe)) | ((first | apply Ca | (apply Cb; (· exact nxE))); (· first | exact Ok.e0)) | refine Sx ?_ | (refine Sy (fun h => ?_) (fun h => ?_) <;> try (exfalso; omega; done)) | refine Sz (fun h => ?_) (fun h => ?_))
    refine AW.loop (X := {k : Nat // k ≤ ws.length}) (fun k => ⟨[WNL ws, Oo, Oo, Oo, Oo, Oo, TL t, TL st, Oo, I a, Bx 2 0, Oo, Oo, Oo, Oo, Oo, Oo, Oo, Oo, Oo, Oo, Oo, Oo, Oo, Oo, Oo, Oo, WNL ws, I ws.length, I a, Oo, Oo, Oo, Oo, WNL ws, I ws.length, I (k.1 : Nat), Oo, Oo, Oo, Oo, Oo, Oo, Oo, Oo, Oo, Oo, Oo, Oo, Oo, Oo, Oo, Oo, Oo, Oo, Oo, Oo, Oo, Oo, Oo, Oo, Oo, Oo, Oo, Oo, Oo, Oo, Oo, Oo, Oo, Oo], heapL [(⟨0, []⟩, ⟨0, []⟩, ⟨2, [[I w.lo, I w.hi]]⟩)], 900⟩) (fun k => ws.length - k.1) ⟨0, Nat.zero_le _⟩ ?_ (fun k => ?_)
    ·
      (apply Le.headZ [_] rfl)
      all_goals (try dsimp only [srcs])
      (case' hfr | hob => (repeat' (first | refine La ?_ ?_ | exact Lc | refine Lo ?_ | refine ⟨⟨_, rfl, ?_⟩, ?_⟩ | refine Lx ?_)))
      all_goals (first | (rfl) | exact Ld)
    obtain ⟨b, hb'⟩ := k
    simp only
    by_cases hlt2 : b < ws.length
    · obtain ⟨v, hv1, e3, e4⟩ := hlg b (by omega)
      have hrow2 : (ws.map Wn.row)[((b : Nat) : Int).toNat]? = some [DI v.lo, DI v.hi] := row_get hv1
      obtain ⟨r, q1, q2, q3⟩ := hsg b a (by omega) (by omega)
      have hno := hn1 a b (by omega) (by omega)
      rw [e1, e4] at hno
      have hxb := hsb b a (by omega) (by omega)
      by_cases c1 : S b a = BOT
      · rw [c1] at q2
        unfold BOT at q2
        repeat' (first | ((first | apply Ba | (apply Bb; (· rfl); (· rfl)) | (apply Bc; (· exact nxE)) | (apply Bd; (· rfl); (· rfl); (· exact nxE))); (· first | exact Ok.lenD rfl rfl WN_len | exact Ok.lenD rfl rfl BN_len | exact Ok.pe)) | ((first | apply Ca | (apply Cb; (· exact nxE))); (· first | exact Ok.e0)) | refine Sx ?_ | (refine Sy (fun h => ?_) (fun h => ?_) <;> try (exfalso; omega; done)) | refine Sz (fun h => ?_) (fun h => ?_))
        refine ⟨⟨b + 1, by omega⟩, ?_, by simp only; omega⟩
        (apply Le.headZ [_] rfl)
        all_goals (try dsimp only [srcs])
        (case' hfr | hob => (repeat' (first | refine La ?_ ?_ | exact Lc | refine Lo ?_ | refine ⟨⟨_, rfl, ?_⟩, ?_⟩ | refine Lx ?_)))
        all_goals (first | (rfl) | exact Ld)
      · have c2 : ¬ v.hi < w.lo + S b a := fun e => hno ⟨c1, e⟩
        replace hxb := hxb.resolve_left c1
        skip
        generalize S b a = x at *
        unfold BOT at c1
        repeat' (first | ((first | apply Ba | (apply Bb; (· rfl); (· rfl)) | (apply Bc; (· exact nxE)) | (apply Bd; (· rfl); (· rfl); (· exact nxE))); (· first | exact Ok.lenD rfl rfl WN_len | exact Ok.lenD rfl rfl BN_len | exact Ok.pe)) | ((first | apply Ca | (apply Cb; (· exact nxE))); (· first | exact Ok.e0)) | refine Sx ?_ | (refine Sy (fun h => ?_) (fun h => ?_) <;> try (exfalso; omega; done)) | refine Sz (fun h => ?_) (fun h => ?_))
        refine ⟨⟨b + 1, by omega⟩, ?_, by simp only; omega⟩
        (apply Le.headZ [_] rfl)
        all_goals (try dsimp only [srcs])
        (case' hfr | hob => (repeat' (first | refine La ?_ ?_ | exact Lc | refine Lo ?_ | refine ⟨⟨_, rfl, ?_⟩, ?_⟩ | refine Lx ?_)))
        all_goals (first | (rfl) | exact Ld)
    · obtain rfl : b = ws.length := by omega
      repeat' (first | ((first | apply Ba | (apply Bb; (· rfl); (· rfl)) | (apply Bc; (· exact nxE)) | (apply Bd; (· rfl); (· rfl); (· exact nxE))); (· first | exact Ok.lenD rfl rfl WN_len | exact Ok.lenD rfl rfl BN_len | exact Ok.pe)) | ((first | apply Ca | (apply Cb; (· exact nxE))); (· first | exact Ok.e0)) | refine Sx ?_ | (refine Sy (fun h => ?_) (fun h => ?_) <;> try (exfalso; omega; done)) | refine Sz (fun h => ?_) (fun h => ?_))
      refine ⟨⟨a + 1, by omega⟩, ?_, by simp only; omega⟩
      (apply Le.headZ [] rfl)
      all_goals (try dsimp only [srcs])
      (case' hfr | hob => (repeat' (first | refine La ?_ ?_ | exact Lc | refine Lo ?_ | refine ⟨⟨_, rfl, ?_⟩, ?_⟩ | refine Lx ?_)))
      all_goals (first | (rfl) | exact Ld)
  · obtain rfl : a = ws.length := by omega
    repeat' (first | ((first | apply Ba | (apply Bb; (· rfl); (· rfl)) | (apply Bc; (· exact nxE)) | (apply Bd; (· rfl); (· rfl); (· exact nxE))); (· first | exact Ok.lenD rfl rfl WN_len | exact Ok.lenD rfl rfl BN_len | exact Ok.pe)) | ((first | apply Ca | (apply Cb; (· exact nxE))); (· first | exact Ok.e0)) | refine Sx ?_ | (refine Sy (fun h => ?_) (fun h => ?_) <;> try (exfalso; omega; done)) | refine Sz (fun h => ?_) (fun h => ?_))
    refine Yb ?_
    (apply Le.headZ (hs := []) [] rfl)
    all_goals (try dsimp only [srcs])
    (case' hfr => (repeat' (first | refine La ?_ ?_ | exact Lc | refine Lo ?_ | refine ⟨⟨_, rfl, ?_⟩, ?_⟩ | refine Lx ?_)))
    all_goals (first | exact Ld | exact trivial | (rfl))
set_option maxHeartbeats 8000000 in
theorem iFindSqueeze_yes [Mode] (ws : List Wn) (bs : List Bn) (hw : ws.length ≤ 1000) (hb : bs.length ≤ 1000) (h : isTk ws bs = true) (hnp : NoPos (entN (tkT ws bs)) ws.length) (f z kk : Nat) (hf : f < ws.length) (hz : z < ws.length) (hsq : sqP ws bs f z) (hn1 : ∀ a b, a < f → b < ws.length → ¬ sqP ws bs a b) (hn2 : ∀ b, b < z → ¬ sqP ws bs f b) (hkk : kk ≤ ws.length) (hw1 : hwF (entN (tkT ws bs)) ws.length z kk f = starF (entN (tkT ws bs)) ws.length z f) (hw2 : ∀ j, j < kk → hwF (entN (tkT ws bs)) ws.length z j f ≠ starF (entN (tkT ws bs)) ws.length z f) : AC Try.prog 7 [WNL ws, BNL bs] H0 (.tup [IL (cN (f :: hpT (entN (tkT ws bs)) ws.length z kk f)), I 0]) H0 := by
  have hI := iIsTask_ac ws bs (by omega) (by omega)
  rw [h] at hI
  obtain ⟨h1, h2, h3, h4⟩ := isTk_ok h
  have hok := tkT_ok h
  have hM := (bondMatrix_ac ws.length ws bs rfl h1.2 (by omega) h4).frzT (by rw [TR_len]; exact hok.sq.l)
  have hS := (starOf_ac (tkT ws bs) ws.length (hok.sb.m hnp)).frzT2 (by rw [TR_len, tabF_len])
  have hrg := loF_rng h3
  have hlg : ∀ i, i < ws.length → ∃ w, ws[i]? = some w ∧ loF ws i = w.lo ∧ hiF ws i = w.hi := fun i hi => by
    obtain ⟨w, hw⟩ : ∃ w, ws[i]? = some w := ⟨ws[i], List.getElem?_eq_getElem hi⟩
    exact ⟨w, hw, loF_at hw, hiF_at hw⟩
  have hsb : ∀ i j, i < ws.length → j < ws.length → starF (entN (tkT ws bs)) ws.length i j = BOT ∨ (-102400000000000 ≤ starF (entN (tkT ws bs)) ws.length i j ∧ starF (entN (tkT ws bs)) ws.length i j ≤ 1000000000000) := fun i j hi hj => by
    rw [(hok.sb.m hnp).star hi hj]; exact (hok.sb.m hnp).cells (Nat.le_refl _) hi hj
  have hsg : ∀ i j, i < ws.length → j < ws.length → ∃ r, (mRows 1 (TR (tabF ws.length ws.length (starF (entN (tkT ws bs)) ws.length))))[((i : Nat) : Int).toNat]? = some [.sl 1 (IR r)] ∧ (IR r)[((j : Nat) : Int).toNat]? = some [DI (starF (entN (tkT ws bs)) ws.length i j)] ∧ (IR r).length = ws.length := fun i j hi hj =>
    ⟨_, by rw [Int.toNat_natCast]; exact TR_get (tabF_get hi), by rw [Int.toNat_natCast]; exact IRF_get hj, by rw [IR_len, rowF_len]⟩
  have hHP := (heaviestPath_ac (tkT ws bs) (tabF ws.length ws.length (starF (entN (tkT ws bs)) ws.length)) ws.length f z kk hok ⟨tabF_len, tabF_rc.r⟩ hf hz hkk (by rw [tabF_ent hz hf]; exact hw1) (fun j hj => by rw [tabF_ent hz hf]; exact hw2 j hj) (by rw [tabF_ent hz hf]; exact hsq.1)).frz (resD := IL (cN (f :: hpT (entN (tkT ws bs)) ws.length z kk f))) (AR.whole rfl trivial (by simp [hpT_len]))
  generalize hpT (entN (tkT ws bs)) ws.length z kk f = pth at *
  unfold sqP at *
  clear hok
  generalize starF (entN (tkT ws bs)) ws.length = S at *
  unfold tkT at *
  generalize tabF ws.length ws.length S = st at *
  generalize bmT ws.length bs = t at *
  refine AC.of_body 0 Try.func7 rfl (fun l h => absurd rfl h) (fun C hC => ?_)
  have hD : ∀ l, ¬ C.D0 l := fun l h => (hC l).1 h rfl
  simp only [startFr, Try.ntmps7, List.length_cons, List.length_nil, Nat.reduceAdd, Nat.reduceSub, List.replicate_succ, List.replicate_zero, List.cons_append, List.nil_append]
  repeat' (first | ((first | apply Ba | (apply Bb; (· rfl); (· rfl)) | (apply Bc; (· exact nxE)) | (apply Bd; (· rfl); (· rfl); (· exact nxE))); (· first | exact Kz rfl rfl (hI) (Ad (Ad An)) | exact Kz rfl rfl (hM) (Ad (Ad An)) | exact Kz rfl rfl (hS) (Ad An) | exact Ok.lenD rfl rfl WN_len | exact Ok.lenD rfl rfl BN_len | exact Ok.pe)) | ((first | apply Ca | (apply Cb; (· exact nxE))); (· first | exact Ok.e0)) | refine Sx ?_ | (refine Sy (fun h => ?_) (fun h => ?_) <;> try (exfalso; omega; done)) | refine Sz (fun h => ?_) (fun h => ?_))
  refine AW.loop (X := {k : Nat // k ≤ f}) (fun k => ⟨[WNL ws, Oo, Oo, Oo, Oo, Oo, TL t, TL st, Oo, Oo, Oo, Oo, Oo, Oo, Oo, Oo, Oo, Oo, Oo, Oo, Oo, Oo, Oo, Oo, Oo, Oo, Oo, WNL ws, I ws.length, I (k.1 : Nat), Oo, Oo, Oo, Oo, Oo, Oo, Oo, Oo, Oo, Oo, Oo, Oo, Oo, Oo, Oo, Oo, Oo, Oo, Oo, Oo, Oo, Oo, Oo, Oo, Oo, Oo, Oo, Oo, Oo, Oo, Oo, Oo, Oo, Oo, Oo, Oo, Oo, Oo, Oo, Oo, Oo], heapL [], 900⟩) (fun k => f - k.1) ⟨0, Nat.zero_le _⟩ ?_ (fun k => ?_)
  ·
    (apply Le.headZ [] rfl)
    all_goals (try dsimp only [srcs])
    (case' hfr | hob => (repeat' (first | refine La ?_ ?_ | exact Lc | refine Lo ?_ | refine ⟨⟨_, rfl, ?_⟩, ?_⟩ | refine Lx ?_)))
    all_goals (first | (rfl) | exact Ld)
  obtain ⟨a, ha⟩ := k
  simp only
  by_cases hlt : a < f
  ·
    obtain ⟨w, hw1', e1, e2⟩ := hlg a (by omega)
    have hrow : (ws.map Wn.row)[((a : Nat) : Int).toNat]? = some [DI w.lo, DI w.hi] := row_get hw1'
    have hra := hrg a
    rw [e1] at hra
    repeat' (first | ((first | apply Ba | (apply Bb; (· rfl); (· rfl)) | (apply Bc; (· exact nxE)) | (apply Bd; (· rfl); (· rfl); (· exact nxE))); (· first | exact Ok.lenD rfl rfl WN_len | exact Ok.lenD rfl rfl BN_len | exact Ok.pe)) | ((first | apply Ca | (apply Cb; (· exact nxE))); (· first | exact Ok.e0)) | refine Sx ?_ | (refine Sy (fun h => ?_) (fun h => ?_) <;> try (exfalso; omega; done)) | refine Sz (fun h => ?_) (fun h => ?_))
    refine AW.loop (X := {k : Nat // k ≤ ws.length}) (fun k => ⟨[WNL ws, Oo, Oo, Oo, Oo, Oo, TL t, TL st, Oo, I a, Bx 2 0, Oo, Oo, Oo, Oo, Oo, Oo, Oo, Oo, Oo, Oo, Oo, Oo, Oo, Oo, Oo, Oo, WNL ws, I ws.length, I a, Oo, Oo, Oo, Oo, WNL ws, I ws.length, I (k.1 : Nat), Oo, Oo, Oo, Oo, Oo, Oo, Oo, Oo, Oo, Oo, Oo, Oo, Oo, Oo, Oo, Oo, Oo, Oo, Oo, Oo, Oo, Oo, Oo, Oo, Oo, Oo, Oo, Oo, Oo, Oo, Oo, Oo, Oo, Oo], heapL [(⟨0, []⟩, ⟨0, []⟩, ⟨2, [[I w.lo, I w.hi]]⟩)], 900⟩) (fun k => ws.length - k.1) ⟨0, Nat.zero_le _⟩ ?_ (fun k => ?_)
    ·
      (apply Le.headZ [_] rfl)
      all_goals (try dsimp only [srcs])
      (case' hfr | hob => (repeat' (first | refine La ?_ ?_ | exact Lc | refine Lo ?_ | refine ⟨⟨_, rfl, ?_⟩, ?_⟩ | refine Lx ?_)))
      all_goals (first | (rfl) | exact Ld)
    obtain ⟨b, hb'⟩ := k
    simp only
    by_cases hlt2 : b < ws.length
    · obtain ⟨v, hv1, e3, e4⟩ := hlg b (by omega)
      have hrow2 : (ws.map Wn.row)[((b : Nat) : Int).toNat]? = some [DI v.lo, DI v.hi] := row_get hv1
      obtain ⟨r, q1, q2, q3⟩ := hsg b a (by omega) (by omega)
      have hno := hn1 a b (by omega) (by omega)
      rw [e1, e4] at hno
      have hxb := hsb b a (by omega) (by omega)
      by_cases c1 : S b a = BOT
      · rw [c1] at q2
        unfold BOT at q2
        repeat' (first | ((first | apply Ba | (apply Bb; (· rfl); (· rfl)) | (apply Bc; (· exact nxE)) | (apply Bd; (· rfl); (· rfl); (· exact nxE))); (· first | exact Ok.lenD rfl rfl WN_len | exact Ok.lenD rfl rfl BN_len | exact Ok.pe)) | ((first | apply Ca | (apply Cb; (· exact nxE))); (· first | exact Ok.e0)) | refine Sx ?_ | (refine Sy (fun h => ?_) (fun h => ?_) <;> try (exfalso; omega; done)) | refine Sz (fun h => ?_) (fun h => ?_))
        refine ⟨⟨b + 1, by omega⟩, ?_, by simp only; omega⟩
        (apply Le.headZ [_] rfl)
        all_goals (try dsimp only [srcs])
        (case' hfr | hob => (repeat' (first | refine La ?_ ?_ | exact Lc | refine Lo ?_ | refine ⟨⟨_, rfl, ?_⟩, ?_⟩ | refine Lx ?_)))
        all_goals (first | (rfl) | exact Ld)
      · have c2 : ¬ v.hi < w.lo + S b a := fun e => hno ⟨c1, e⟩
        replace hxb := hxb.resolve_left c1
        skip
        generalize S b a = x at *
        unfold BOT at c1
        repeat' (first | ((first | apply Ba | (apply Bb; (· rfl); (· rfl)) | (apply Bc; (· exact nxE)) | (apply Bd; (· rfl); (· rfl); (· exact nxE))); (· first | exact Ok.lenD rfl rfl WN_len | exact Ok.lenD rfl rfl BN_len | exact Ok.pe)) | ((first | apply Ca | (apply Cb; (· exact nxE))); (· first | exact Ok.e0)) | refine Sx ?_ | (refine Sy (fun h => ?_) (fun h => ?_) <;> try (exfalso; omega; done)) | refine Sz (fun h => ?_) (fun h => ?_))
        refine ⟨⟨b + 1, by omega⟩, ?_, by simp only; omega⟩
        (apply Le.headZ [_] rfl)
        all_goals (try dsimp only [srcs])
        (case' hfr | hob => (repeat' (first | refine La ?_ ?_ | exact Lc | refine Lo ?_ | refine ⟨⟨_, rfl, ?_⟩, ?_⟩ | refine Lx ?_)))
        all_goals (first | (rfl) | exact Ld)
    · obtain rfl : b = ws.length := by omega
      repeat' (first | ((first | apply Ba | (apply Bb; (· rfl); (· rfl)) | (apply Bc; (· exact nxE)) | (apply Bd; (· rfl); (· rfl); (· exact nxE))); (· first | exact Ok.lenD rfl rfl WN_len | exact Ok.lenD rfl rfl BN_len | exact Ok.pe)) | ((first | apply Ca | (apply Cb; (· exact nxE))); (· first | exact Ok.e0)) | refine Sx ?_ | (refine Sy (fun h => ?_) (fun h => ?_) <;> try (exfalso; omega; done)) | refine Sz (fun h => ?_) (fun h => ?_))
      refine ⟨⟨a + 1, by omega⟩, ?_, by simp only; omega⟩
      (apply Le.headZ [] rfl)
      all_goals (try dsimp only [srcs])
      (case' hfr | hob => (repeat' (first | refine La ?_ ?_ | exact Lc | refine Lo ?_ | refine ⟨⟨_, rfl, ?_⟩, ?_⟩ | refine Lx ?_)))
      all_goals (first | (rfl) | exact Ld)
  · obtain rfl : f = a := by omega
    obtain ⟨w, hw1', e1, e2⟩ := hlg f (by omega)
    have hrow : (ws.map Wn.row)[((f : Nat) : Int).toNat]? = some [DI w.lo, DI w.hi] := row_get hw1'
    have hra := hrg f
    rw [e1] at hra
    repeat' (first | ((first | apply Ba | (apply Bb; (· rfl); (· rfl)) | (apply Bc; (· exact nxE)) | (apply Bd; (· rfl); (· rfl); (· exact nxE))); (· first | exact Ok.lenD rfl rfl WN_len | exact Ok.lenD rfl rfl BN_len | exact Ok.pe)) | ((first | apply Ca | (apply Cb; (· exact nxE))); (· first | exact Ok.e0)) | refine Sx ?_ | (refine Sy (fun h => ?_) (fun h => ?_) <;> try (exfalso; omega; done)) | refine Sz (fun h => ?_) (fun h => ?_))
    refine AW.loop (X := {k : Nat // k ≤ z}) (fun k => ⟨[WNL ws, Oo, Oo, Oo, Oo, Oo, TL t, TL st, Oo, I f, Bx 2 0, Oo, Oo, Oo, Oo, Oo, Oo, Oo, Oo, Oo, Oo, Oo, Oo, Oo, Oo, Oo, Oo, WNL ws, I ws.length, I f, Oo, Oo, Oo, Oo, WNL ws, I ws.length, I (k.1 : Nat), Oo, Oo, Oo, Oo, Oo, Oo, Oo, Oo, Oo, Oo, Oo, Oo, Oo, Oo, Oo, Oo, Oo, Oo, Oo, Oo, Oo, Oo, Oo, Oo, Oo, Oo, Oo, Oo, Oo, Oo, Oo, Oo, Oo, Oo], heapL [(⟨0, []⟩, ⟨0, []⟩, ⟨2, [[I w.lo, I w.hi]]⟩)], 900⟩) (fun k => z - k.1) ⟨0, Nat.zero_le _⟩ ?_ (fun k => ?_)
    ·
      (apply Le.headZ [_] rfl)
      all_goals (try dsimp only [srcs])
      (case' hfr | hob => (repeat' (first | refine La ?_ ?_ | exact Lc | refine Lo ?_ | refine ⟨⟨_, rfl, ?_⟩, ?_⟩ | refine Lx ?_)))
      all_goals (first | (rfl) | exact Ld)
    obtain ⟨b, hb'⟩ := k
    simp only
    by_cases hlt2 : b < z
    · obtain ⟨v, hv1, e3, e4⟩ := hlg b (by omega)
      have hrow2 : (ws.map Wn.row)[((b : Nat) : Int).toNat]? = some [DI v.lo, DI v.hi] := row_get hv1
      obtain ⟨r, q1, q2, q3⟩ := hsg b f (by omega) (by omega)
      have hno := hn2 b (by omega)
      rw [e1, e4] at hno
      have hxb := hsb b f (by omega) (by omega)
      by_cases c1 : S b f = BOT
      · rw [c1] at q2
        unfold BOT at q2
        repeat' (first | ((first | apply Ba | (apply Bb; (· rfl); (· rfl)) | (apply Bc; (· exact nxE)) | (apply Bd; (· rfl); (· rfl); (· exact nxE))); (· first | exact Ok.lenD rfl rfl WN_len | exact Ok.lenD rfl rfl BN_len | exact Ok.pe)) | ((first | apply Ca | (apply Cb; (· exact nxE))); (· first | exact Ok.e0)) | refine Sx ?_ | (refine Sy (fun h => ?_) (fun h => ?_) <;> try (exfalso; omega; done)) | refine Sz (fun h => ?_) (fun h => ?_))
        refine ⟨⟨b + 1, by omega⟩, ?_, by simp only; omega⟩
        (apply Le.headZ [_] rfl)
        all_goals (try dsimp only [srcs])
        (case' hfr | hob => (repeat' (first | refine La ?_ ?_ | exact Lc | refine Lo ?_ | refine ⟨⟨_, rfl, ?_⟩, ?_⟩ | refine Lx ?_)))
        all_goals (first | (rfl) | exact Ld)
      · have c2 : ¬ v.hi < w.lo + S b f := fun e => hno ⟨c1, e⟩
        replace hxb := hxb.resolve_left c1
        skip
        generalize S b f = x at *
        unfold BOT at c1
        repeat' (first | ((first | apply Ba | (apply Bb; (· rfl); (· rfl)) | (apply Bc; (· exact nxE)) | (apply Bd; (· rfl); (· rfl); (· exact nxE))); (· first | exact Ok.lenD rfl rfl WN_len | exact Ok.lenD rfl rfl BN_len | exact Ok.pe)) | ((first | apply Ca | (apply Cb; (· exact nxE))); (· first | exact Ok.e0)) | refine Sx ?_ | (refine Sy (fun h => ?_) (fun h => ?_) <;> try (exfalso; omega; done)) | refine Sz (fun h => ?_) (fun h => ?_))
        refine ⟨⟨b + 1, by omega⟩, ?_, by simp only; omega⟩
        (apply Le.headZ [_] rfl)
        all_goals (try dsimp only [srcs])
        (case' hfr | hob => (repeat' (first | refine La ?_ ?_ | exact Lc | refine Lo ?_ | refine ⟨⟨_, rfl, ?_⟩, ?_⟩ | refine Lx ?_)))
        all_goals (first | (rfl) | exact Ld)
    · obtain rfl : z = b := by omega
      obtain ⟨v, hv1, e3, e4⟩ := hlg z hz
      have hrow2 : (ws.map Wn.row)[((z : Nat) : Int).toNat]? = some [DI v.lo, DI v.hi] := row_get hv1
      obtain ⟨r, q1, q2, q3⟩ := hsg z f hz hf
      rw [e1, e4] at hsq
      obtain ⟨c1, c2⟩ := hsq
      have hxb := (hsb z f hz hf).resolve_left c1
      skip
      generalize S z f = x at *
      unfold BOT at c1
      repeat' (first | ((first | apply Ba | (apply Bb; (· rfl); (· rfl)) | (apply Bc; (· exact nxE)) | (apply Bd; (· rfl); (· rfl); (· exact nxE))); (· first | exact Kz rfl rfl (hHP) (Ad (Ad (Ad (Ad An)))) | exact Ok.lenD rfl rfl WN_len | exact Ok.lenD rfl rfl BN_len | exact Ok.pe)) | ((first | apply Ca | (apply Cb; (· exact nxE))); (· first | exact Ok.e0)) | refine Sx ?_ | (refine Sy (fun h => ?_) (fun h => ?_) <;> try (exfalso; omega; done)) | refine Sz (fun h => ?_) (fun h => ?_))
      refine Yb ?_
      (apply Le.headZ (hs := []) [] rfl)
      all_goals (try dsimp only [srcs])
      (case' hfr => (repeat' (first | refine La ?_ ?_ | exact Lc | refine Lo ?_ | refine ⟨⟨_, rfl, ?_⟩, ?_⟩ | refine Lx ?_)))
      all_goals (first | exact Ld | exact trivial | (rfl))
set_option maxHeartbeats 2000000 in
theorem sFindSqueeze_inv [Mode] (ws : List Wn) (bs : List Bn) (hw : ws.length ≤ 1000) (hb : bs.length ≤ 1000) (h : isTk ws bs = false) : AC Try.prog 8 [WNL ws, BNL bs] H0 (.tup [IL [], I 1]) H0 := by
  have hI := sIsTask_ac ws bs (by omega) (by omega)
  rw [h] at hI
  refine AC.of_body 0 Try.func8 rfl (fun l h => absurd rfl h) (fun C hC => ?_)
  have hD : ∀ l, ¬ C.D0 l := fun l h => (hC l).1 h rfl
  simp only [startFr, Try.ntmps8, List.length_cons, List.length_nil, Nat.reduceAdd, Nat.reduceSub, List.replicate_succ, List.replicate_zero, List.cons_append, List.nil_append]
  repeat' (first | ((first | apply Ba | (apply Bb; (· rfl); (· rfl)) | (apply Bc; (· exact nxE)) | (apply Bd; (· rfl); (· rfl); (· exact nxE))); (· first | exact Kz rfl rfl (hI) (Ad (Ad An)) | exact Ok.lenD rfl rfl WN_len | exact Ok.lenD rfl rfl BN_len | exact Ok.pe)) | ((first | apply Ca | (apply Cb; (· exact nxE))); (· first | exact Ok.e0)) | refine Sx ?_ | (refine Sy (fun h => ?_) (fun h => ?_) <;> try (exfalso; omega; done)) | refine Sz (fun h => ?_) (fun h => ?_))
  refine Yb ?_
  (apply Le.headZ (hs := []) [] rfl)
  all_goals (try dsimp only [srcs])
  (case' hfr => (repeat' (first | refine La ?_ ?_ | exact Lc | refine Lo ?_ | refine ⟨⟨_, rfl, ?_⟩, ?_⟩ | refine Lx ?_)))
  all_goals (first | exact Ld | exact trivial | (rfl))
set_option maxHeartbeats 2000000 in
theorem sFindSqueeze_tour [Mode] (ws : List Wn) (bs : List Bn) (hw : ws.length ≤ 1000) (hb : bs.length ≤ 1000) (h : isTk ws bs = true) (hnp : ¬ NoPos (entN (tkT ws bs)) ws.length) : AC Try.prog 8 [WNL ws, BNL bs] H0 (.tup [IL [], I 5]) H0 := by
  have hI := sIsTask_ac ws bs (by omega) (by omega)
  rw [h] at hI
  obtain ⟨h1, h2, h3, h4⟩ := isTk_ok h
  have hok := tkT_ok h
  have hM := (l23Matrix_ac ws.length bs h1.2 (by omega) h4).frzT (by rw [TR_len]; exact hok.sq.l)
  have hS := (l03Star_no (tkT ws bs) ws.length hok.sb hnp).frzT2 (by rw [TR_len, tabF_len])
  unfold tkT at hS
  refine AC.of_body 0 Try.func8 rfl (fun l h => absurd rfl h) (fun C hC => ?_)
  have hD : ∀ l, ¬ C.D0 l := fun l h => (hC l).1 h rfl
  simp only [startFr, Try.ntmps8, List.length_cons, List.length_nil, Nat.reduceAdd, Nat.reduceSub, List.replicate_succ, List.replicate_zero, List.cons_append, List.nil_append]
  repeat' (first | ((first | apply Ba | (apply Bb; (· rfl); (· rfl)) | (apply Bc; (· exact nxE)) | (apply Bd; (· rfl); (· rfl); (· exact nxE))); (· first | exact Kz rfl rfl (hI) (Ad (Ad An)) | exact Kz rfl rfl (hM) (Ad (Ad An)) | exact Kz rfl rfl (hS) (Ad An) | exact Ok.lenD rfl rfl WN_len | exact Ok.lenD rfl rfl BN_len | exact Ok.pe)) | ((first | apply Ca | (apply Cb; (· exact nxE))); (· first | exact Ok.e0)) | refine Sx ?_ | (refine Sy (fun h => ?_) (fun h => ?_) <;> try (exfalso; omega; done)) | refine Sz (fun h => ?_) (fun h => ?_))
  refine Yb ?_
  (apply Le.headZ (hs := []) [] rfl)
  all_goals (try dsimp only [srcs])
  (case' hfr => (repeat' (first | refine La ?_ ?_ | exact Lc | refine Lo ?_ | refine ⟨⟨_, rfl, ?_⟩, ?_⟩ | refine Lx ?_)))
  all_goals (first | exact Ld | exact trivial | (rfl))
set_option maxHeartbeats 8000000 in
theorem sFindSqueeze_no [Mode] (ws : List Wn) (bs : List Bn) (hw : ws.length ≤ 1000) (hb : bs.length ≤ 1000) (h : isTk ws bs = true) (hnp : NoPos (entN (tkT ws bs)) ws.length) (hn1 : ∀ a b, a < ws.length → b < ws.length → ¬ sqP ws bs a b) : AC Try.prog 8 [WNL ws, BNL bs] H0 (.tup [IL [], I 4]) H0 := by
  have hI := sIsTask_ac ws bs (by omega) (by omega)
  rw [h] at hI
  obtain ⟨h1, h2, h3, h4⟩ := isTk_ok h
  have hok := tkT_ok h
  have hM := (l23Matrix_ac ws.length bs h1.2 (by omega) h4).frzT (by rw [TR_len]; exact hok.sq.l)
  have hS := (l03Star_ac (tkT ws bs) ws.length (hok.sb.m hnp)).frzT2 (by rw [TR_len, tabF_len])
  have hrg := loF_rng h3
  have hlg : ∀ i, i < ws.length → ∃ w, ws[i]? = some w ∧ loF ws i = w.lo ∧ hiF ws i = w.hi := fun i hi => by
    obtain ⟨w, hw⟩ : ∃ w, ws[i]? = some w := ⟨ws[i], List.getElem?_eq_getElem hi⟩
    exact ⟨w, hw, loF_at hw, hiF_at hw⟩
  have hsb : ∀ i j, i < ws.length → j < ws.length → starF (entN (tkT ws bs)) ws.length i j = BOT ∨ (-102400000000000 ≤ starF (entN (tkT ws bs)) ws.length i j ∧ starF (entN (tkT ws bs)) ws.length i j ≤ 1000000000000) := fun i j hi hj => by
    rw [(hok.sb.m hnp).star hi hj]; exact (hok.sb.m hnp).cells (Nat.le_refl _) hi hj
  have hsg : ∀ i j, i < ws.length → j < ws.length → ∃ r, (mRows 1 (TR (tabF ws.length ws.length (starF (entN (tkT ws bs)) ws.length))))[((i : Nat) : Int).toNat]? = some [.sl 1 (IR r)] ∧ (IR r)[((j : Nat) : Int).toNat]? = some [DI (starF (entN (tkT ws bs)) ws.length i j)] ∧ (IR r).length = ws.length := fun i j hi hj =>
    ⟨_, by rw [Int.toNat_natCast]; exact TR_get (tabF_get hi), by rw [Int.toNat_natCast]; exact IRF_get hj, by rw [IR_len, rowF_len]⟩
  unfold sqP at *
  clear hok
  generalize starF (entN (tkT ws bs)) ws.length = S at *
  unfold tkT at *
  generalize tabF ws.length ws.length S = st at *
  generalize bmT ws.length bs = t at *
  refine AC.of_body 0 Try.func8 rfl (fun l h => absurd rfl h) (fun C hC => ?_)
  have hD : ∀ l, ¬ C.D0 l := fun l h => (hC l).1 h rfl
  simp only [startFr, Try.ntmps8, List.length_cons, List.length_nil, Nat.reduceAdd, Nat.reduceSub, List.replicate_succ, List.replicate_zero, List.cons_append, List.nil_append]
  repeat' (first | ((first | apply Ba | (apply Bb; (· rfl); (· rfl)) | (apply Bc; (· exact nxE)) | (apply Bd; (· rfl); (· rfl); (· exact nxE))); (· first | exact Kz rfl rfl (hI) (Ad (Ad An)) | exact Kz rfl rfl (hM) (Ad (Ad An)) | exact Kz rfl rfl (hS) (Ad An) | exact Ok.lenD rfl rfl WN_len | exact Ok.lenD rfl rfl BN_len | exact Ok.pe)) | ((first | apply Ca | (apply Cb; (· exact nxE))); (· first | exact Ok.e0)) | refine Sx ?_ | (refine Sy (fun h => ?_) (fun h => ?_) <;> try (exfalso; omega; done)) | refine Sz (fun h => ?_) (fun h => ?_))
  refine AW.loop (X := {k : Nat // k ≤ ws.length}) (fun k => ⟨[WNL ws, Oo, Oo, Oo, Oo, Oo, I ws.length, TL t, TL st, Oo, I (k.1 : Nat), Oo, Oo, Oo, Oo, Oo, Oo, Oo, Oo, Oo, Oo, Oo, Oo, Oo, Oo, Oo, Oo, Oo, Oo, Oo, Oo, Oo, Oo, Oo, Oo, Oo, Oo, Oo, Oo, Oo, Oo, Oo, Oo, Oo, Oo, Oo, Oo, Oo, Oo, Oo, Oo, Oo, Oo, Oo, Oo, Oo, Oo, Oo, Oo, Oo, Oo, Oo, Oo, Oo, Oo, Oo, Oo, Oo, Oo], heapL [], 900⟩) (fun k => ws.length - k.1) ⟨0, Nat.zero_le _⟩ ?_ (fun k => ?_)
  ·
    (apply Le.headZ [] rfl)
    all_goals (try dsimp only [srcs])
    (case' hfr | hob => (repeat' (first | refine La ?_ ?_ | exact Lc | refine Lo ?_ | refine ⟨⟨_, rfl, ?_⟩, ?_⟩ | refine Lx ?_)))
    all_goals (first | (rfl) | exact Ld)
  obtain ⟨a, ha⟩ := k
  simp only
  by_cases hlt : a < ws.length
  ·
    obtain ⟨w, hw1', e1, e2⟩ := hlg a (by omega)
    have hrow : (ws.map Wn.row)[((a : Nat) : Int).toNat]? = some [DI w.lo, DI w.hi] := row_get hw1'
    have hra := hrg a
    rw [e1] at hra
    repeat' (first | ((first | apply Ba | (apply Bb; (· rfl); (· rfl)) | (apply Bc; (· exact nxE)) | (apply Bd; (· rfl); (· rfl); (· exact nxE))); (· first | exact Ok.lenD rfl rfl WN_len | exact Ok.lenD rfl rfl BN_len | exact Ok.pe)) | ((first | apply Ca | (apply Cb; (· exact nxE))); (· first | exact Ok.e0)) | refine Sx ?_ | (refine Sy (fun h => ?_) (fun h => ?_) <;> try (exfalso; omega; done)) | refine Sz (fun h => ?_) (fun h => ?_))
    refine AW.loop (X := {k : Nat // k ≤ ws.length}) (fun k => ⟨[WNL ws, Oo, Oo, Oo, Oo, Oo, I ws.length, TL t, TL st, Oo, I a, I (k.1 : Nat), Oo, Oo, Oo, Oo, Oo, Oo, Oo, Oo, Oo, Oo, Oo, Oo, Oo, Oo, Oo, Oo, Oo, Oo, Oo, Oo, Oo, Oo, Oo, Oo, Oo, Oo, Oo, Oo, Oo, Oo, Oo, Oo, Oo, Oo, Oo, Oo, Oo, Oo, Oo, Oo, Oo, Oo, Oo, Oo, Oo, Oo, Oo, Oo, Oo, Oo, Oo, Oo, Oo, Oo, Oo, Oo, Oo], heapL [], 900⟩) (fun k => ws.length - k.1) ⟨0, Nat.zero_le _⟩ ?_ (fun k => ?_)
    ·
      (apply Le.headZ [] rfl)
      all_goals (try dsimp only [srcs])
      (case' hfr | hob => (repeat' (first | refine La ?_ ?_ | exact Lc | refine Lo ?_ | refine ⟨⟨_, rfl, ?_⟩, ?_⟩ | refine Lx ?_)))
      all_goals (first | (rfl) | exact Ld)
    obtain ⟨b, hb'⟩ := k
    simp only
    by_cases hlt2 : b < ws.length
    · obtain ⟨v, hv1, e3, e4⟩ := hlg b (by omega)
      have hrow2 : (ws.map Wn.row)[((b : Nat) : Int).toNat]? = some [DI v.lo, DI v.hi] := row_get hv1
      obtain ⟨r, q1, q2, q3⟩ := hsg b a (by omega) (by omega)
      have hno := hn1 a b (by omega) (by omega)
      rw [e1, e4] at hno
      have hxb := hsb b a (by omega) (by omega)
      by_cases c1 : S b a = BOT
      · have hTm := l01Times_ac w.lo (S b a) (fun _ h => absurd c1 h)
        rw [show timesB w.lo (S b a) = -1000000000000000 from if_pos (.inr c1)] at hTm
        generalize S b a = x at *
        repeat' (first | ((first | apply Ba | (apply Bb; (· rfl); (· rfl)) | (apply Bc; (· exact nxE)) | (apply Bd; (· rfl); (· rfl); (· exact nxE))); (· first | exact Kz rfl rfl (hTm) (Ad (Ad An)) | exact Ok.lenD rfl rfl WN_len | exact Ok.lenD rfl rfl BN_len | exact Ok.pe)) | ((first | apply Ca | (apply Cb; (· exact nxE))); (· first | exact Ok.e0)) | refine Sx ?_ | (refine Sy (fun h => ?_) (fun h => ?_) <;> try (exfalso; omega; done)) | refine Sz (fun h => ?_) (fun h => ?_))
        refine ⟨⟨b + 1, by omega⟩, ?_, by simp only; omega⟩
        (apply Le.headZ [] rfl)
        all_goals (try dsimp only [srcs])
        (case' hfr | hob => (repeat' (first | refine La ?_ ?_ | exact Lc | refine Lo ?_ | refine ⟨⟨_, rfl, ?_⟩, ?_⟩ | refine Lx ?_)))
        all_goals (first | (rfl) | exact Ld)
      · have c2 : ¬ v.hi < w.lo + S b a := fun e => hno ⟨c1, e⟩
        replace hxb := hxb.resolve_left c1
        have hTm := l01Times_ac w.lo (S b a) (fun _ _ => by omega)
        rw [timesB_ne (show w.lo ≠ BOT by unfold BOT; omega) c1] at hTm
        generalize S b a = x at *
        unfold BOT at c1
        repeat' (first | ((first | apply Ba | (apply Bb; (· rfl); (· rfl)) | (apply Bc; (· exact nxE)) | (apply Bd; (· rfl); (· rfl); (· exact nxE))); (· first | exact Kz rfl rfl (hTm) (Ad (Ad An)) | exact Ok.lenD rfl rfl WN_len | exact Ok.lenD rfl rfl BN_len | exact Ok.pe)) | ((first | apply Ca | (apply Cb; (· exact nxE))); (· first | exact Ok.e0)) | refine Sx ?_ | (refine Sy (fun h => ?_) (fun h => ?_) <;> try (exfalso; omega; done)) | refine Sz (fun h => ?_) (fun h => ?_))
        refine ⟨⟨b + 1, by omega⟩, ?_, by simp only; omega⟩
        (apply Le.headZ [] rfl)
        all_goals (try dsimp only [srcs])
        (case' hfr | hob => (repeat' (first | refine La ?_ ?_ | exact Lc | refine Lo ?_ | refine ⟨⟨_, rfl, ?_⟩, ?_⟩ | refine Lx ?_)))
        all_goals (first | (rfl) | exact Ld)
    · obtain rfl : b = ws.length := by omega
      repeat' (first | ((first | apply Ba | (apply Bb; (· rfl); (· rfl)) | (apply Bc; (· exact nxE)) | (apply Bd; (· rfl); (· rfl); (· exact nxE))); (· first | exact Ok.lenD rfl rfl WN_len | exact Ok.lenD rfl rfl BN_len | exact Ok.pe)) | ((first | apply Ca | (apply Cb; (· exact nxE))); (· first | exact Ok.e0)) | refine Sx ?_ | (refine Sy (fun h => ?_) (fun h => ?_) <;> try (exfalso; omega; done)) | refine Sz (fun h => ?_) (fun h => ?_))
      refine ⟨⟨a + 1, by omega⟩, ?_, by simp only; omega⟩
      (apply Le.headZ [] rfl)
      all_goals (try dsimp only [srcs])
      (case' hfr | hob => (repeat' (first | refine La ?_ ?_ | exact Lc | refine Lo ?_ | refine ⟨⟨_, rfl, ?_⟩, ?_⟩ | refine Lx ?_)))
      all_goals (first | (rfl) | exact Ld)
  · obtain rfl : a = ws.length := by omega
    repeat' (first | ((first | apply Ba | (apply Bb; (· rfl); (· rfl)) | (apply Bc; (· exact nxE)) | (apply Bd; (· rfl); (· rfl); (· exact nxE))); (· first | exact Ok.lenD rfl rfl WN_len | exact Ok.lenD rfl rfl BN_len | exact Ok.pe)) | ((first | apply Ca | (apply Cb; (· exact nxE))); (· first | exact Ok.e0)) | refine Sx ?_ | (refine Sy (fun h => ?_) (fun h => ?_) <;> try (exfalso; omega; done)) | refine Sz (fun h => ?_) (fun h => ?_))
    refine Yb ?_
    (apply Le.headZ (hs := []) [] rfl)
    all_goals (try dsimp only [srcs])
    (case' hfr => (repeat' (first | refine La ?_ ?_ | exact Lc | refine Lo ?_ | refine ⟨⟨_, rfl, ?_⟩, ?_⟩ | refine Lx ?_)))
    all_goals (first | exact Ld | exact trivial | (rfl))
set_option maxHeartbeats 8000000 in
theorem sFindSqueeze_yes [Mode] (ws : List Wn) (bs : List Bn) (hw : ws.length ≤ 1000) (hb : bs.length ≤ 1000) (h : isTk ws bs = true) (hnp : NoPos (entN (tkT ws bs)) ws.length) (f z kk : Nat) (hf : f < ws.length) (hz : z < ws.length) (hsq : sqP ws bs f z) (hn1 : ∀ a b, a < f → b < ws.length → ¬ sqP ws bs a b) (hn2 : ∀ b, b < z → ¬ sqP ws bs f b) (hkk : kk ≤ ws.length) (hw1 : hwF (entN (tkT ws bs)) ws.length z kk f = starF (entN (tkT ws bs)) ws.length z f) (hw2 : ∀ j, j < kk → hwF (entN (tkT ws bs)) ws.length z j f ≠ starF (entN (tkT ws bs)) ws.length z f) : AC Try.prog 8 [WNL ws, BNL bs] H0 (.tup [IL (cN (f :: hpT (entN (tkT ws bs)) ws.length z kk f)), I 0]) H0 := by
  have hI := sIsTask_ac ws bs (by omega) (by omega)
  rw [h] at hI
  obtain ⟨h1, h2, h3, h4⟩ := isTk_ok h
  have hok := tkT_ok h
  have hM := (l23Matrix_ac ws.length bs h1.2 (by omega) h4).frzT (by rw [TR_len]; exact hok.sq.l)
  have hS := (l03Star_ac (tkT ws bs) ws.length (hok.sb.m hnp)).frzT2 (by rw [TR_len, tabF_len])
  have hrg := loF_rng h3
  have hlg : ∀ i, i < ws.length → ∃ w, ws[i]? = some w ∧ loF ws i = w.lo ∧ hiF ws i = w.hi := fun i hi => by
    obtain ⟨w, hw⟩ : ∃ w, ws[i]? = some w := ⟨ws[i], List.getElem?_eq_getElem hi⟩
    exact ⟨w, hw, loF_at hw, hiF_at hw⟩
  have hsb : ∀ i j, i < ws.length → j < ws.length → starF (entN (tkT ws bs)) ws.length i j = BOT ∨ (-102400000000000 ≤ starF (entN (tkT ws bs)) ws.length i j ∧ starF (entN (tkT ws bs)) ws.length i j ≤ 1000000000000) := fun i j hi hj => by
    rw [(hok.sb.m hnp).star hi hj]; exact (hok.sb.m hnp).cells (Nat.le_refl _) hi hj
  have hsg : ∀ i j, i < ws.length → j < ws.length → ∃ r, (mRows 1 (TR (tabF ws.length ws.length (starF (entN (tkT ws bs)) ws.length))))[((i : Nat) : Int).toNat]? = some [.sl 1 (IR r)] ∧ (IR r)[((j : Nat) : Int).toNat]? = some [DI (starF (entN (tkT ws bs)) ws.length i j)] ∧ (IR r).length = ws.length := fun i j hi hj =>
    ⟨_, by rw [Int.toNat_natCast]; exact TR_get (tabF_get hi), by rw [Int.toNat_natCast]; exact IRF_get hj, by rw [IR_len, rowF_len]⟩
  have hHP := (sHeaviestPath_ac (tkT ws bs) ws.length f z kk hok hnp hf hz hkk hw1 hw2 hsq.1).frz (resD := .tup [IL (cN (f :: hpT (entN (tkT ws bs)) ws.length z kk f)), I 0]) (ARs.tup (.cons (AR.whole rfl trivial (by simp [hpT_len])) (.cons (.dd _) .nil)))
  generalize hpT (entN (tkT ws bs)) ws.length z kk f = pth at *
  unfold sqP at *
  clear hok
  generalize starF (entN (tkT ws bs)) ws.length = S at *
  unfold tkT at *
  generalize tabF ws.length ws.length S = st at *
  generalize bmT ws.length bs = t at *
  refine AC.of_body 0 Try.func8 rfl (fun l h => absurd rfl h) (fun C hC => ?_)
  have hD : ∀ l, ¬ C.D0 l := fun l h => (hC l).1 h rfl
  simp only [startFr, Try.ntmps8, List.length_cons, List.length_nil, Nat.reduceAdd, Nat.reduceSub, List.replicate_succ, List.replicate_zero, List.cons_append, List.nil_append]
  repeat' (first | ((first | apply Ba | (apply Bb; (· rfl); (· rfl)) | (apply Bc; (· exact nxE)) | (apply Bd; (· rfl); (· rfl); (· exact nxE))); (· first | exact Kz rfl rfl (hI) (Ad (Ad An)) | exact Kz rfl rfl (hM) (Ad (Ad An)) | exact Kz rfl rfl (hS) (Ad An) | exact Ok.lenD rfl rfl WN_len | exact Ok.lenD rfl rfl BN_len | exact Ok.pe)) | ((first | apply Ca | (apply Cb; (· exact nxE))); (· first | exact Ok.e0)) | refine Sx ?_ | (refine Sy (fun h => ?_) (fun h => ?_) <;> try (exfalso; omega; done)) | refine Sz (fun h => ?_) (fun h => ?_))
  refine AW.loop (X := {k : Nat // k ≤ f}) (fun k => ⟨[WNL ws, Oo, Oo, Oo, Oo, Oo, I ws.length, TL t, TL st, Oo, I (k.1 : Nat), Oo, Oo, Oo, Oo, Oo, Oo, Oo, Oo, Oo, Oo, Oo, Oo, Oo, Oo, Oo, Oo, Oo, Oo, Oo, Oo, Oo, Oo, Oo, Oo, Oo, Oo, Oo, Oo, Oo, Oo, Oo, Oo, Oo, Oo, Oo, Oo, Oo, Oo, Oo, Oo, Oo, Oo, Oo, Oo, Oo, Oo, Oo, Oo, Oo, Oo, Oo, Oo, Oo, Oo, Oo, Oo, Oo, Oo], heapL [], 900⟩) (fun k => f - k.1) ⟨0, Nat.zero_le _⟩ ?_ (fun k => ?_)
  ·
    (apply Le.headZ [] rfl)
    all_goals (try dsimp only [srcs])
    (case' hfr | hob => (repeat' (first | refine La ?_ ?_ | exact Lc | refine Lo ?_ | refine ⟨⟨_, rfl, ?_⟩, ?_⟩ | refine Lx ?_)))
    all_goals (first | (rfl) | exact Ld)
  obtain ⟨a, ha⟩ := k
  simp only
  by_cases hlt : a < f
  ·
    obtain ⟨w, hw1', e1, e2⟩ := hlg a (by omega)
    have hrow : (ws.map Wn.row)[((a : Nat) : Int).toNat]? = some [DI w.lo, DI w.hi] := row_get hw1'
    have hra := hrg a
    rw [e1] at hra
    repeat' (first | ((first | apply Ba | (apply Bb; (· rfl); (· rfl)) | (apply Bc; (· exact nxE)) | (apply Bd; (· rfl); (· rfl); (· exact nxE))); (· first | exact Ok.lenD rfl rfl WN_len | exact Ok.lenD rfl rfl BN_len | exact Ok.pe)) | ((first | apply Ca | (apply Cb; (· exact nxE))); (· first | exact Ok.e0)) | refine Sx ?_ | (refine Sy (fun h => ?_) (fun h => ?_) <;> try (exfalso; omega; done)) | refine Sz (fun h => ?_) (fun h => ?_))
    refine AW.loop (X := {k : Nat // k ≤ ws.length}) (fun k => ⟨[WNL ws, Oo, Oo, Oo, Oo, Oo, I ws.length, TL t, TL st, Oo, I a, I (k.1 : Nat), Oo, Oo, Oo, Oo, Oo, Oo, Oo, Oo, Oo, Oo, Oo, Oo, Oo, Oo, Oo, Oo, Oo, Oo, Oo, Oo, Oo, Oo, Oo, Oo, Oo, Oo, Oo, Oo, Oo, Oo, Oo, Oo, Oo, Oo, Oo, Oo, Oo, Oo, Oo, Oo, Oo, Oo, Oo, Oo, Oo, Oo, Oo, Oo, Oo, Oo, Oo, Oo, Oo, Oo, Oo, Oo, Oo], heapL [], 900⟩) (fun k => ws.length - k.1) ⟨0, Nat.zero_le _⟩ ?_ (fun k => ?_)
    ·
      (apply Le.headZ [] rfl)
      all_goals (try dsimp only [srcs])
      (case' hfr | hob => (repeat' (first | refine La ?_ ?_ | exact Lc | refine Lo ?_ | refine ⟨⟨_, rfl, ?_⟩, ?_⟩ | refine Lx ?_)))
      all_goals (first | (rfl) | exact Ld)
    obtain ⟨b, hb'⟩ := k
    simp only
    by_cases hlt2 : b < ws.length
    · obtain ⟨v, hv1, e3, e4⟩ := hlg b (by omega)
      have hrow2 : (ws.map Wn.row)[((b : Nat) : Int).toNat]? = some [DI v.lo, DI v.hi] := row_get hv1
      obtain ⟨r, q1, q2, q3⟩ := hsg b a (by omega) (by omega)
      have hno := hn1 a b (by omega) (by omega)
      rw [e1, e4] at hno
      have hxb := hsb b a (by omega) (by omega)
      by_cases c1 : S b a = BOT
      · have hTm := l01Times_ac w.lo (S b a) (fun _ h => absurd c1 h)
        rw [show timesB w.lo (S b a) = -1000000000000000 from if_pos (.inr c1)] at hTm
        generalize S b a = x at *
        repeat' (first | ((first | apply Ba | (apply Bb; (· rfl); (· rfl)) | (apply Bc; (· exact nxE)) | (apply Bd; (· rfl); (· rfl); (· exact nxE))); (· first | exact Kz rfl rfl (hTm) (Ad (Ad An)) | exact Ok.lenD rfl rfl WN_len | exact Ok.lenD rfl rfl BN_len | exact Ok.pe)) | ((first | apply Ca | (apply Cb; (· exact nxE))); (· first | exact Ok.e0)) | refine Sx ?_ | (refine Sy (fun h => ?_) (fun h => ?_) <;> try (exfalso; omega; done)) | refine Sz (fun h => ?_) (fun h => ?_))
        refine ⟨⟨b + 1, by omega⟩, ?_, by simp only; omega⟩
        (apply Le.headZ [] rfl)
        all_goals (try dsimp only [srcs])
        (case' hfr | hob => (repeat' (first | refine La ?_ ?_ | exact Lc | refine Lo ?_ | refine ⟨⟨_, rfl, ?_⟩, ?_⟩ | refine Lx ?_)))
        all_goals (first | (rfl) | exact Ld)
      · have c2 : ¬ v.hi < w.lo + S b a := fun e => hno ⟨c1, e⟩
        replace hxb := hxb.resolve_left c1
        have hTm := l01Times_ac w.lo (S b a) (fun _ _ => by omega)
        rw [timesB_ne (show w.lo ≠ BOT by unfold BOT; omega) c1] at hTm
        generalize S b a = x at *
        unfold BOT at c1
        repeat' (first | ((first | apply Ba | (apply Bb; (· rfl); (· rfl)) | (apply Bc; (· exact nxE)) | (apply Bd; (· rfl); (· rfl); (· exact nxE))); (· first | exact Kz rfl rfl (hTm) (Ad (Ad An)) | exact Ok.lenD rfl rfl WN_len | exact Ok.lenD rfl rfl BN_len | exact Ok.pe)) | ((first | apply Ca | (apply Cb; (· exact nxE))); (· first | exact Ok.e0)) | refine Sx ?_ | (refine Sy (fun h => ?_) (fun h => ?_) <;> try (exfalso; omega; done)) | refine Sz (fun h => ?_) (fun h => ?_))
        refine ⟨⟨b + 1, by omega⟩, ?_, by simp only; omega⟩
        (apply Le.headZ [] rfl)
        all_goals (try dsimp only [srcs])
        (case' hfr | hob => (repeat' (first | refine La ?_ ?_ | exact Lc | refine Lo ?_ | refine ⟨⟨_, rfl, ?_⟩, ?_⟩ | refine Lx ?_)))
        all_goals (first | (rfl) | exact Ld)
    · obtain rfl : b = ws.length := by omega
      repeat' (first | ((first | apply Ba | (apply Bb; (· rfl); (· rfl)) | (apply Bc; (· exact nxE)) | (apply Bd; (· rfl); (· rfl); (· exact nxE))); (· first | exact Ok.lenD rfl rfl WN_len | exact Ok.lenD rfl rfl BN_len | exact Ok.pe)) | ((first | apply Ca | (apply Cb; (· exact nxE))); (· first | exact Ok.e0)) | refine Sx ?_ | (refine Sy (fun h => ?_) (fun h => ?_) <;> try (exfalso; omega; done)) | refine Sz (fun h => ?_) (fun h => ?_))
      refine ⟨⟨a + 1, by omega⟩, ?_, by simp only; omega⟩
      (apply Le.headZ [] rfl)
      all_goals (try dsimp only [srcs])
      (case' hfr | hob => (repeat' (first | refine La ?_ ?_ | exact Lc | refine Lo ?_ | refine ⟨⟨_, rfl, ?_⟩, ?_⟩ | refine Lx ?_)))
      all_goals (first | (rfl) | exact Ld)
  · obtain rfl : f = a := by omega
    obtain ⟨w, hw1', e1, e2⟩ := hlg f (by omega)
    have hrow : (ws.map Wn.row)[((f : Nat) : Int).toNat]? = some [DI w.lo, DI w.hi] := row_get hw1'
    have hra := hrg f
    rw [e1] at hra
    repeat' (first | ((first | apply Ba | (apply Bb; (· rfl); (· rfl)) | (apply Bc; (· exact nxE)) | (apply Bd; (· rfl); (· rfl); (· exact nxE))); (· first | exact Ok.lenD rfl rfl WN_len | exact Ok.lenD rfl rfl BN_len | exact Ok.pe)) | ((first | apply Ca | (apply Cb; (· exact nxE))); (· first | exact Ok.e0)) | refine Sx ?_ | (refine Sy (fun h => ?_) (fun h => ?_) <;> try (exfalso; omega; done)) | refine Sz (fun h => ?_) (fun h => ?_))
    refine AW.loop (X := {k : Nat // k ≤ z}) (fun k => ⟨[WNL ws, Oo, Oo, Oo, Oo, Oo, I ws.length, TL t, TL st, Oo, I f, I (k.1 : Nat), Oo, Oo, Oo, Oo, Oo, Oo, Oo, Oo, Oo, Oo, Oo, Oo, Oo, Oo, Oo, Oo, Oo, Oo, Oo, Oo, Oo, Oo, Oo, Oo, Oo, Oo, Oo, Oo, Oo, Oo, Oo, Oo, Oo, Oo, Oo, Oo, Oo, Oo, Oo, Oo, Oo, Oo, Oo, Oo, Oo, Oo, Oo, Oo, Oo, Oo, Oo, Oo, Oo, Oo, Oo, Oo, Oo], heapL [], 900⟩) (fun k => z - k.1) ⟨0, Nat.zero_le _⟩ ?_ (fun k => ?_)
    ·
      (apply Le.headZ [] rfl)
      all_goals (try dsimp only [srcs])
      (case' hfr | hob => (repeat' (first | refine La ?_ ?_ | exact Lc | refine Lo ?_ | refine ⟨⟨_, rfl, ?_⟩, ?_⟩ | refine Lx ?_)))
      all_goals (first | (rfl) | exact Ld)
    obtain ⟨b, hb'⟩ := k
    simp only
    by_cases hlt2 : b < z
    · obtain ⟨v, hv1, e3, e4⟩ := hlg b (by omega)
      have hrow2 : (ws.map Wn.row)[((b : Nat) : Int).toNat]? = some [DI v.lo, DI v.hi] := row_get hv1
      obtain ⟨r, q1, q2, q3⟩ := hsg b f (by omega) (by omega)
      have hno := hn2 b (by omega)
      rw [e1, e4] at hno
      have hxb := hsb b f (by omega) (by omega)
      by_cases c1 : S b f = BOT
      · have hTm := l01Times_ac w.lo (S b f) (fun _ h => absurd c1 h)
        rw [show timesB w.lo (S b f) = -1000000000000000 from if_pos (.inr c1)] at hTm
        generalize S b f = x at *
        repeat' (first | ((first | apply Ba | (apply Bb; (· rfl); (· rfl)) | (apply Bc; (· exact nxE)) | (apply Bd; (· rfl); (· rfl); (· exact nxE))); (· first | exact Kz rfl rfl (hTm) (Ad (Ad An)) | exact Ok.lenD rfl rfl WN_len | exact Ok.lenD rfl rfl BN_len | exact Ok.pe)) | ((first | apply Ca | (apply Cb; (· exact nxE))); (· first | exact Ok.e0)) | refine Sx ?_ | (refine Sy (fun h => ?_) (fun h => ?_) <;> try (exfalso; omega; done)) | refine Sz (fun h => ?_) (fun h => ?_))
        refine ⟨⟨b + 1, by omega⟩, ?_, by simp only; omega⟩
        (apply Le.headZ [] rfl)
        all_goals (try dsimp only [srcs])
        (case' hfr | hob => (repeat' (first | refine La ?_ ?_ | exact Lc | refine Lo ?_ | refine ⟨⟨_, rfl, ?_⟩, ?_⟩ | refine Lx ?_)))
        all_goals (first | (rfl) | exact Ld)
      · have c2 : ¬ v.hi < w.lo + S b f := fun e => hno ⟨c1, e⟩
        replace hxb := hxb.resolve_left c1
        have hTm := l01Times_ac w.lo (S b f) (fun _ _ => by omega)
        rw [timesB_ne (show w.lo ≠ BOT by unfold BOT; omega) c1] at hTm
        generalize S b f = x at *
        unfold BOT at c1
        repeat' (first | ((first | apply Ba | (apply Bb; (· rfl); (· rfl)) | (apply Bc; (· exact nxE)) | (apply Bd; (· rfl); (· rfl); (· exact nxE))); (· first | exact Kz rfl rfl (hTm) (Ad (Ad An)) | exact Ok.lenD rfl rfl WN_len | exact Ok.lenD rfl rfl BN_len | exact Ok.pe)) | ((first | apply Ca | (apply Cb; (· exact nxE))); (· first | exact Ok.e0)) | refine Sx ?_ | (refine Sy (fun h => ?_) (fun h => ?_) <;> try (exfalso; omega; done)) | refine Sz (fun h => ?_) (fun h => ?_))
        refine ⟨⟨b + 1, by omega⟩, ?_, by simp only; omega⟩
        (apply Le.headZ [] rfl)
        all_goals (try dsimp only [srcs])
        (case' hfr | hob => (repeat' (first | refine La ?_ ?_ | exact Lc | refine Lo ?_ | refine ⟨⟨_, rfl, ?_⟩, ?_⟩ | refine Lx ?_)))
        all_goals (first | (rfl) | exact Ld)
    · obtain rfl : z = b := by omega
      obtain ⟨v, hv1, e3, e4⟩ := hlg z hz
      have hrow2 : (ws.map Wn.row)[((z : Nat) : Int).toNat]? = some [DI v.lo, DI v.hi] := row_get hv1
      obtain ⟨r, q1, q2, q3⟩ := hsg z f hz hf
      rw [e1, e4] at hsq
      obtain ⟨c1, c2⟩ := hsq
      have hxb := (hsb z f hz hf).resolve_left c1
      have hTm := l01Times_ac w.lo (S z f) (fun _ _ => by omega)
      rw [timesB_ne (show w.lo ≠ BOT by unfold BOT; omega) c1] at hTm
      generalize S z f = x at *
      unfold BOT at c1
      repeat' (first | ((first | apply Ba | (apply Bb; (· rfl); (· rfl)) | (apply Bc; (· exact nxE)) | (apply Bd; (· rfl); (· rfl); (· exact nxE))); (· first | exact Kz rfl rfl (hTm) (Ad (Ad An)) | exact Kz rfl rfl (hHP) (Ad (Ad (Ad An))) | exact Ok.lenD rfl rfl WN_len | exact Ok.lenD rfl rfl BN_len | exact Ok.pe)) | ((first | apply Ca | (apply Cb; (· exact nxE))); (· first | exact Ok.e0)) | refine Sx ?_ | (refine Sy (fun h => ?_) (fun h => ?_) <;> try (exfalso; omega; done)) | refine Sz (fun h => ?_) (fun h => ?_))
      refine Yb ?_
      (apply Le.headZ (hs := []) [] rfl)
      all_goals (try dsimp only [srcs])
      (case' hfr => (repeat' (first | refine La ?_ ?_ | exact Lc | refine Lo ?_ | refine ⟨⟨_, rfl, ?_⟩, ?_⟩ | refine Lx ?_)))
      all_goals (first | exact Ld | exact trivial | (rfl))
end Go.Proofs.Ytkpoclbnnpglfaa
