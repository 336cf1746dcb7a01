/-
  Walks in the abstract reading: a place read by the reference.
-/
import Derived.Test.YtdgodkpobomneaaDoorKrG26
import Derived.Test.YtdgodkpobomneaaDoorKrS10
import Derived.Test.YtdgodkpobomneaaDoorKrA3
namespace Go.Proofs.YtdgodkpobomneaaDoor
set_option linter.unusedSimpArgs false
set_option linter.unusedVariables false
open Go Go.RowKit
attribute [local irreducible] AL AD AW OpOk Le AC thenQ blockQ EndQ

/-- A place as the reference reads it: the pieces behind the second cut, then the whole. -/
def r11W (a b : List UInt8) (ws : List (List UInt8)) : Pl × Bool :=
  if (∀ w ∈ a :: b :: ws, (sgN w).2 = true) ∧ ws.length = 2 then (⟨(sgN a).1, (sgN b).1, (sgN (ws.getD 0 [])).1, (sgN (ws.getD 1 [])).1⟩, true) else (plZ, false)
def r11B (a : List UInt8) : List (List UInt8) → Pl × Bool
  | [b, z] => r11W a b (spl 42 z)
  | _ => (plZ, false)
def r11 (l : List UInt8) : Pl × Bool := match spl 62 l with
  | [a, y] => r11B a (spl 58 y)
  | _ => (plZ, false)
theorem r11_plT [Mode] {p : Pl} (h : plB 9 p = true) : r11 (plT p) = (p, true) := by
  obtain ⟨a, b, c, d, rfl, h1, h2, h3, h4⟩ := plB_nat h
  rw [plT_nat]
  have e1 : spl 62 (dec a ++ 62 :: (dec b ++ 58 :: (dec c ++ 42 :: dec d))) = [dec a, dec b ++ 58 :: (dec c ++ 42 :: dec d)] := by
    rw [spl_at (dec_no (by decide)), spl_no]
    simp only [List.mem_append, List.mem_cons, not_or]
    exact ⟨dec_no (by decide), by decide, dec_no (by decide), by decide, dec_no (by decide)⟩
  have e2 : spl 58 (dec b ++ 58 :: (dec c ++ 42 :: dec d)) = [dec b, dec c ++ 42 :: dec d] := by
    rw [spl_at (dec_no (by decide)), spl_no]
    simp only [List.mem_append, List.mem_cons, not_or]
    exact ⟨dec_no (by decide), by decide, dec_no (by decide)⟩
  have e3 : spl 42 (dec c ++ 42 :: dec d) = [dec c, dec d] := by
    rw [spl_at (dec_no (by decide)), spl_no (dec_no (by decide))]
  unfold r11
  rw [e1]
  show r11B (dec a) (spl 58 _) = _
  rw [e2]
  show r11W (dec a) (dec b) (spl 42 _) = _
  rw [e3]
  unfold r11W
  rw [if_pos ⟨by simp [sgN_dec (show a < 10000000000 by omega), sgN_dec (show b < 10000000000 by omega), sgN_dec (show c < 10000000000 by omega), sgN_dec (show d < 10000000000 by omega)], rfl⟩]
  simp [sgN_dec (show a < 10000000000 by omega), sgN_dec (show b < 10000000000 by omega), sgN_dec (show c < 10000000000 by omega), sgN_dec (show d < 10000000000 by omega)]
theorem two_or [Mode] {α : Type} (ws : List α) : ws.length ≠ 2 ∨ ∃ a b, ws = [a, b] := by
  match ws with
  | [] => exact .inl (by simp)
  | [_] => exact .inl (by simp)
  | [a, b] => exact .inr ⟨a, b, rfl⟩
  | _ :: _ :: _ :: _ => exact .inl (by simp)
theorem r11B_ne [Mode] {a : List UInt8} {ws : List (List UInt8)} (h : ws.length ≠ 2) : r11B a ws = (plZ, false) := by
  match ws, h with
  | [], _ => rfl
  | [_], _ => rfl
  | [_, _], h => exact absurd rfl h
  | _ :: _ :: _ :: _, _ => rfl
theorem r11_ne [Mode] {l : List UInt8} (h : (spl 62 l).length ≠ 2) : r11 l = (plZ, false) := by
  unfold r11
  generalize spl 62 l = ws at *
  match ws, h with
  | [], _ => rfl
  | [_], _ => rfl
  | [_, _], h => exact absurd rfl h
  | _ :: _ :: _ :: _, _ => rfl
theorem stR_one2 [Mode] : ∀ ss : List (List UInt8), ∀ r ∈ stR ss, r.length = 1 := fun ss r hr => by
  obtain ⟨s, _, rfl⟩ := List.mem_map.1 hr; rfl
theorem stR_one3 [Mode] : ∀ ss : List (List UInt8), ∀ r ∈ stR ss, (r.map AV.d).all AV.one = true := fun ss r hr => by
  obtain ⟨s, _, rfl⟩ := List.mem_map.1 hr; rfl
set_option maxHeartbeats 4000000 in
theorem l11Read_ac [Mode] (l : List UInt8) (hl : l.length ≤ 1100000) : AC Tryd.prog 48 [Str l] H0 (.tup [(r11 l).1.av, Bo (r11 l).2]) H0 := by
  have hS1 := split_frz l 62 (by omega)
  have hwl : (spl 62 l).length ≤ 1100001 := by
    have h2 := stS_len 62 l (l.length + 1)
    rw [stS_end] at h2
    omega
  have hwn : (stR (spl 62 l)).length = (spl 62 l).length := stR_len _
  rcases two_or (spl 62 l) with h2 | ⟨a, y, h2⟩
  · have hq := r11_ne h2
    rw [hq]
    generalize spl 62 l = ws at *
    refine AC.of_body 0 Tryd.func48 rfl (fun l h => absurd rfl h) (fun C hC => ?_)
    have hD : ∀ l, ¬ C.D0 l := fun l h => (hC l).1 h rfl
    simp only [startFr, Tryd.ntmps48, List.length_cons, List.length_nil, Nat.reduceAdd, Nat.reduceSub, List.replicate_succ, List.replicate_zero, List.cons_append, List.nil_append]
    repeat' (first | ((first | apply Ba | (apply Bb; (· rfl); (· rfl)) | (apply Bc; (· exact nxE)) | (apply Bd; (· rfl); (· rfl); (· exact nxE))); (· first | exact Ok.lenD rfl rfl hwn | exact Kz rfl rfl (hS1) (Ad (Ad An)) | exact Ok.seqS rfl rfl rfl | exact Ok.slen rfl rfl | exact OpOk.indexD rfl rfl rfl (by decide) rfl (by exact Nat.zero_lt_one) | exact Ok.pe)) | ((first | apply Ca | (apply Cb; (· exact nxE))); (· first | exact Ok.e0)) | refine Sx ?_ | (refine Sy (fun h => ?_) (fun h => ?_) <;> try (exfalso; omega; done)) | refine Sz (fun h => ?_) (fun h => ?_))
    all_goals
      refine Yb ?_
      (apply Le.headZ (hs := []) [] rfl)
      all_goals (try dsimp only [srcs])
      (case' hfr => (repeat' (first | refine La ?_ ?_ | exact Lc | refine Lo ?_ | refine ⟨⟨_, rfl, ?_⟩, ?_⟩ | refine Lx ?_)))
      all_goals (first | exact Ld | exact trivial | (rfl))
  have hq : r11 l = r11B a (spl 58 y) := by unfold r11; rw [h2]
  have hy : y.length ≤ l.length := spl_mem_len (c := 62) (by rw [h2]; simp)
  have ha : a.length ≤ l.length := spl_mem_len (c := 62) (by rw [h2]; simp)
  rw [hq]
  rw [h2] at hS1
  have hS2 := split_frz y 58 (by omega)
  have hyl : (spl 58 y).length ≤ 1100001 := by
    have h2 := stS_len 58 y (y.length + 1)
    rw [stS_end] at h2
    omega
  have hyn : (stR (spl 58 y)).length = (spl 58 y).length := stR_len _
  rcases two_or (spl 58 y) with h3 | ⟨b, z, h3⟩
  · rw [r11B_ne h3]
    clear hwl hwn hq h2
    generalize spl 58 y = ws at *
    refine AC.of_body 0 Tryd.func48 rfl (fun l h => absurd rfl h) (fun C hC => ?_)
    have hD : ∀ l, ¬ C.D0 l := fun l h => (hC l).1 h rfl
    simp only [startFr, Tryd.ntmps48, List.length_cons, List.length_nil, Nat.reduceAdd, Nat.reduceSub, List.replicate_succ, List.replicate_zero, List.cons_append, List.nil_append]
    repeat' (first | ((first | apply Ba | (apply Bb; (· rfl); (· rfl)) | (apply Bc; (· exact nxE)) | (apply Bd; (· rfl); (· rfl); (· exact nxE))); (· first | exact Ok.lenD rfl rfl hyn | exact Kz rfl rfl (hS1) (Ad (Ad An)) | exact Kz rfl rfl (hS2) (Ad (Ad An)) | exact Ok.seqS rfl rfl rfl | exact Ok.slen rfl rfl | exact OpOk.indexD rfl rfl rfl (by decide) rfl (by exact Nat.zero_lt_one) | exact Ok.pe)) | ((first | apply Ca | (apply Cb; (· exact nxE))); (· first | exact Ok.e0)) | refine Sx ?_ | (refine Sy (fun h => ?_) (fun h => ?_) <;> try (exfalso; omega; done)) | refine Sz (fun h => ?_) (fun h => ?_))
    all_goals
      refine Yb ?_
      (apply Le.headZ (hs := []) [] rfl)
      all_goals (try dsimp only [srcs])
      (case' hfr => (repeat' (first | refine La ?_ ?_ | exact Lc | refine Lo ?_ | refine ⟨⟨_, rfl, ?_⟩, ?_⟩ | refine Lx ?_)))
      all_goals (first | exact Ld | exact trivial | (rfl))
  have hb : b.length ≤ y.length := spl_mem_len (c := 58) (by rw [h3]; simp)
  have hz : z.length ≤ y.length := spl_mem_len (c := 58) (by rw [h3]; simp)
  rw [h3]
  rw [h3] at hS2
  show AC Tryd.prog 48 [Str l] H0 (.tup [(r11W a b (spl 42 z)).1.av, Bo (r11W a b (spl 42 z)).2]) H0
  have hS3 := split_frz z 42 (by omega)
  have hzl : (spl 42 z).length ≤ 1100001 := by
    have h2 := stS_len 42 z (z.length + 1)
    rw [stS_end] at h2
    omega
  have hzn : (stR (spl 42 z)).length = (spl 42 z).length := stR_len _
  have hel : ∀ w ∈ a :: b :: spl 42 z, w.length ≤ 100000000 := fun w hw => by
    rcases List.mem_cons.1 hw with rfl | hw
    · omega
    rcases List.mem_cons.1 hw with rfl | hw
    · omega
    have := spl_mem_len hw
    omega
  have hall : (a :: b :: spl 42 z).length = 2 + (spl 42 z).length := by simp only [List.length_cons]; omega
  clear hwl hwn hq h2 hyl hyn h3
  generalize spl 42 z = ws at *
  have hstA : stR (a :: b :: ws) = stR [a, b] ++ stR ws := rfl
  rcases words_or (a :: b :: ws) with hok | ⟨j, v, hj1, hj2, hj3⟩
  case inr =>
    have hN := l01Numbers_no (a :: b :: ws) j v (by omega) hel hj1 hj2 hj3
    have hq : r11W a b ws = (plZ, false) := by
      unfold r11W
      rw [if_neg]
      rintro ⟨h1, _⟩
      rw [h1 v (List.mem_of_getElem? hj1)] at hj2
      cases hj2
    rw [hq]
    rw [SL, hstA] at hN
    have hLN : (stR [a, b] ++ stR ws).length = 2 + ws.length := by rw [List.length_append, hzn]; rfl
    refine AC.of_body 0 Tryd.func48 rfl (fun l h => absurd rfl h) (fun C hC => ?_)
    have hD : ∀ l, ¬ C.D0 l := fun l h => (hC l).1 h rfl
    simp only [startFr, Tryd.ntmps48, List.length_cons, List.length_nil, Nat.reduceAdd, Nat.reduceSub, List.replicate_succ, List.replicate_zero, List.cons_append, List.nil_append]
    repeat' (first | ((first | apply Ba | (apply Bb; (· rfl); (· rfl)) | (apply Bc; (· exact nxE)) | (apply Bd; (· rfl); (· rfl); (· exact nxE))); (· first | exact Ok.lenD rfl rfl (show (stR [a, y]).length = 2 from rfl) | exact Ok.lenD rfl rfl (show (stR [b, z]).length = 2 from rfl) | exact Kz rfl rfl (hS1) (Ad (Ad An)) | exact Kz rfl rfl (hS2) (Ad (Ad An)) | exact Kz rfl rfl (hS3) (Ad (Ad An)) | exact Ez rfl rfl (hN) (Sw (hn := by assumption) Sn) | exact Ok.seqS rfl rfl rfl | exact Ok.slen rfl rfl | exact OpOk.indexD rfl rfl rfl (by decide) rfl (by exact Nat.zero_lt_one) | exact Ok.bs2 rfl (by conv => lhs; whnf) (by conv => lhs; whnf) (by rfl) (by rfl) (by rfl) (by rfl) (by rfl) (by rfl) (by decide) | exact Ok.appendD (rows := stR [a, b]) rfl rfl (by decide) rfl rfl rfl rfl hzn (stR_one2 ws) (stR_one3 ws) (by omega) (by omega) | exact Ok.pe)) | ((first | apply Ca | (apply Cb; (· exact nxE))); (· first | exact Ok.bs2 rfl (by conv => lhs; whnf) (by conv => lhs; whnf) (by rfl) (by rfl) (by rfl) (by rfl) (by rfl) (by rfl) (by decide) | exact Ok.appendD (rows := stR [a, b]) rfl rfl (by decide) rfl rfl rfl rfl hzn (stR_one2 ws) (stR_one3 ws) (by omega) (by omega) | exact Ok.e0)) | refine Sx ?_ | (refine Sy (fun h => ?_) (fun h => ?_) <;> try (exfalso; omega; done)) | refine Sz (fun h => ?_) (fun h => ?_))
    all_goals
      refine Yb ?_
      (apply Le.headZ (hs := []) [] rfl)
      all_goals (try dsimp only [srcs])
      (case' hfr => (repeat' (first | refine La ?_ ?_ | exact Lc | refine Lo ?_ | refine ⟨⟨_, rfl, ?_⟩, ?_⟩ | refine Lx ?_)))
      all_goals (first | exact Ld | exact trivial | (rfl))
  have hN := numbers_frz (ws := a :: b :: ws) (by omega) hel hok rfl
  rw [SL, hstA] at hN
  have hLN : (stR [a, b] ++ stR ws).length = 2 + ws.length := by rw [List.length_append, hzn]; rfl
  have hIN : (IR ((a :: b :: ws).map fun w => (sgN w).1)).length = 2 + ws.length := by rw [IR_len, List.length_map]; exact hall
  by_cases h4 : ws.length = 2
  case neg =>
    have hq : r11W a b ws = (plZ, false) := by
      unfold r11W
      rw [if_neg]
      rintro ⟨_, h1⟩
      exact h4 h1
    rw [hq]
    generalize (a :: b :: ws).map (fun w => (sgN w).1) = ns at *
    refine AC.of_body 0 Tryd.func48 rfl (fun l h => absurd rfl h) (fun C hC => ?_)
    have hD : ∀ l, ¬ C.D0 l := fun l h => (hC l).1 h rfl
    simp only [startFr, Tryd.ntmps48, List.length_cons, List.length_nil, Nat.reduceAdd, Nat.reduceSub, List.replicate_succ, List.replicate_zero, List.cons_append, List.nil_append]
    repeat' (first | ((first | apply Ba | (apply Bb; (· rfl); (· rfl)) | (apply Bc; (· exact nxE)) | (apply Bd; (· rfl); (· rfl); (· exact nxE))); (· first | exact Ok.lenD rfl rfl (show (stR [a, y]).length = 2 from rfl) | exact Ok.lenD rfl rfl (show (stR [b, z]).length = 2 from rfl) | exact Ok.lenD rfl rfl hIN | exact Kz rfl rfl (hS1) (Ad (Ad An)) | exact Kz rfl rfl (hS2) (Ad (Ad An)) | exact Kz rfl rfl (hS3) (Ad (Ad An)) | exact Zf rfl rfl (hN) (Sw (hn := by assumption) Sn) | exact Ok.seqS rfl rfl rfl | exact Ok.slen rfl rfl | exact OpOk.indexD rfl rfl rfl (by decide) rfl (by exact Nat.zero_lt_one) | exact Ok.bs2 rfl (by conv => lhs; whnf) (by conv => lhs; whnf) (by rfl) (by rfl) (by rfl) (by rfl) (by rfl) (by rfl) (by decide) | exact Ok.appendD (rows := stR [a, b]) rfl rfl (by decide) rfl rfl rfl rfl hzn (stR_one2 ws) (stR_one3 ws) (by omega) (by omega) | exact Ok.pe)) | ((first | apply Ca | (apply Cb; (· exact nxE))); (· first | exact Ok.bs2 rfl (by conv => lhs; whnf) (by conv => lhs; whnf) (by rfl) (by rfl) (by rfl) (by rfl) (by rfl) (by rfl) (by decide) | exact Ok.appendD (rows := stR [a, b]) rfl rfl (by decide) rfl rfl rfl rfl hzn (stR_one2 ws) (stR_one3 ws) (by omega) (by omega) | exact Ok.e0)) | refine Sx ?_ | (refine Sy (fun h => ?_) (fun h => ?_) <;> try (exfalso; omega; done)) | refine Sz (fun h => ?_) (fun h => ?_))
    all_goals
      refine Yb ?_
      (apply Le.headZ (hs := []) [] rfl)
      all_goals (try dsimp only [srcs])
      (case' hfr => (repeat' (first | refine La ?_ ?_ | exact Lc | refine Lo ?_ | refine ⟨⟨_, rfl, ?_⟩, ?_⟩ | refine Lx ?_)))
      all_goals (first | exact Ld | exact trivial | (rfl))
  match ws, h4 with
  | [c, d], _ =>
    have hq : r11W a b [c, d] = (⟨(sgN a).1, (sgN b).1, (sgN c).1, (sgN d).1⟩, true) := if_pos ⟨hok, rfl⟩
    rw [hq]
    simp only [List.map_cons, List.map_nil] at hN hIN
    generalize (sgN a).1 = n1 at *
    generalize (sgN b).1 = n2 at *
    generalize (sgN c).1 = n3 at *
    generalize (sgN d).1 = n4 at *
    refine AC.of_body 0 Tryd.func48 rfl (fun l h => absurd rfl h) (fun C hC => ?_)
    have hD : ∀ l, ¬ C.D0 l := fun l h => (hC l).1 h rfl
    simp only [startFr, Tryd.ntmps48, List.length_cons, List.length_nil, Nat.reduceAdd, Nat.reduceSub, List.replicate_succ, List.replicate_zero, List.cons_append, List.nil_append]
    repeat' (first | ((first | apply Ba | (apply Bb; (· rfl); (· rfl)) | (apply Bc; (· exact nxE)) | (apply Bd; (· rfl); (· rfl); (· exact nxE))); (· first | exact Ok.lenD rfl rfl (show (stR [a, y]).length = 2 from rfl) | exact Ok.lenD rfl rfl (show (stR [b, z]).length = 2 from rfl) | exact Ok.lenD rfl rfl hIN | exact Kz rfl rfl (hS1) (Ad (Ad An)) | exact Kz rfl rfl (hS2) (Ad (Ad An)) | exact Kz rfl rfl (hS3) (Ad (Ad An)) | exact Zf rfl rfl (hN) (Sw (hn := by assumption) Sn) | exact Ok.seqS rfl rfl rfl | exact Ok.slen rfl rfl | exact OpOk.indexD rfl rfl rfl (by decide) rfl (by exact Nat.zero_lt_one) | exact Ok.bs2 rfl (by conv => lhs; whnf) (by conv => lhs; whnf) (by rfl) (by rfl) (by rfl) (by rfl) (by rfl) (by rfl) (by decide) | exact Ok.appendD (rows := stR [a, b]) rfl rfl (by decide) rfl rfl rfl rfl hzn (stR_one2 [c, d]) (stR_one3 [c, d]) (by omega) (by omega) | exact Ok.pe)) | ((first | apply Ca | (apply Cb; (· exact nxE))); (· first | exact Ok.bs2 rfl (by conv => lhs; whnf) (by conv => lhs; whnf) (by rfl) (by rfl) (by rfl) (by rfl) (by rfl) (by rfl) (by decide) | exact Ok.appendD (rows := stR [a, b]) rfl rfl (by decide) rfl rfl rfl rfl hzn (stR_one2 [c, d]) (stR_one3 [c, d]) (by omega) (by omega) | exact Ok.e0)) | refine Sx ?_ | (refine Sy (fun h => ?_) (fun h => ?_) <;> try (exfalso; omega; done)) | refine Sz (fun h => ?_) (fun h => ?_))
    all_goals
      refine Yb ?_
      (apply Le.headZ (hs := []) [] rfl)
      all_goals (try dsimp only [srcs])
      (case' hfr => (repeat' (first | refine La ?_ ?_ | exact Lc | refine Lo ?_ | refine ⟨⟨_, rfl, ?_⟩, ?_⟩ | refine Lx ?_)))
      all_goals (first | exact Ld | exact trivial | (rfl))
end Go.Proofs.YtdgodkpobomneaaDoor
