/-
  Walks in the abstract reading: an edit read by the reference; the two readings are one.
-/
import Derived.Test.YtdgodkpobomneaaDoorKrS22
import Derived.Test.YtdgodkpobomneaaDoorKrS21
namespace Go.Proofs.YtdgodkpobomneaaDoor
set_option linter.unusedSimpArgs false
set_option linter.unusedVariables false
open Go Go.RowKit
attribute [local irreducible] AL AD AW OpOk Le AC thenQ blockQ EndQ

section
variable {P : Program} {o : Oper} {A : Operand → AV} {H : Heap} {new : Nat} {t t' : TypeId} {x y : Operand} {a b : List UInt8}
theorem Ok.seqT [Mode] (ho : o.op = .binOp .eql t x y t') (hx : A x = Str a) (hy : A y = Str b) (h : a = b) : OpOk P o A [] H new (Bo true) [] := by
  have := Ok.seqS (P := P) (H := H) (new := new) ho hx hy
  rwa [decide_eq_true h] at this
theorem Ok.seqF [Mode] (ho : o.op = .binOp .eql t x y t') (hx : A x = Str a) (hy : A y = Str b) (h : a ≠ b) : OpOk P o A [] H new (Bo false) [] := by
  have := Ok.seqS (P := P) (H := H) (new := new) ho hx hy
  rwa [decide_eq_false h] at this
theorem Ok.sneT [Mode] (ho : o.op = .binOp .neq t x y t') (hx : A x = Str a) (hy : A y = Str b) (h : a ≠ b) : OpOk P o A [] H new (Bo true) [] := by
  have := Ok.sneS (P := P) (H := H) (new := new) ho hx hy
  rwa [decide_eq_true h] at this
theorem Ok.sneF [Mode] (ho : o.op = .binOp .neq t x y t') (hx : A x = Str a) (hy : A y = Str b) (h : a = b) : OpOk P o A [] H new (Bo false) [] := by
  have := Ok.sneS (P := P) (H := H) (new := new) ho hx hy
  rwa [decide_eq_false (fun hne => hne h)] at this
end
/-- The kind found so far. -/
def kdS (c : UInt8) (k : Nat) : Int := if c = 43 ∧ 1 ≤ k then 1 else if c = 45 ∧ 2 ≤ k then 2 else if c = 61 ∧ 3 ≤ k then 3 else 0
def seP : List (List UInt8) → Pl × Bool
  | [_, w] => r11 w
  | _ => (plZ, true)
/-- An edit as the reference reads it, ahead of its last look. -/
def seN (c : UInt8) (l : List UInt8) : Ed × Bool :=
  (⟨kdS c 3, (digN ((spl 32 l).headD [])).1, (seP (spl 32 l)).1⟩, (digN ((spl 32 l).headD [])).2 && (seP (spl 32 l)).2)
def seR : List UInt8 → Ed × Bool
  | [] => (edZ, false)
  | c :: l => if (seN c l).2 = true ∧ edT (seN c l).1 = c :: l then ((seN c l).1, true) else (edZ, false)
theorem seP_ne [Mode] {ws : List (List UInt8)} (h : ws.length ≠ 2) : seP ws = (plZ, true) := by
  match ws, h with
  | [], _ => rfl
  | [_], _ => rfl
  | [_, _], h => exact absurd rfl h
  | _ :: _ :: _ :: _, _ => rfl
theorem plT_no32 [Mode] {p : Pl} (h : plB 9 p = true) : (32 : UInt8) ∉ plT p := by
  obtain ⟨a, b, c, d, rfl, h1, h2, h3, h4⟩ := plB_nat h
  rw [plT_nat]
  simp only [List.mem_append, List.mem_cons, not_or]
  exact ⟨dec_no (by decide), by decide, dec_no (by decide), by decide, dec_no (by decide), by decide, dec_no (by decide)⟩
theorem se_ok [Mode] {e : Ed} (h : edB e = true) : ∃ c l, edT e = c :: l ∧ seN c l = (e, true) := by
  obtain ⟨⟨k1, k2⟩, ⟨x1, x2⟩, hp⟩ := edB_iff.1 h
  rw [edT_yes h]
  obtain ⟨kd, ix, pl⟩ := e
  simp only at k1 k2 x1 x2 hp ⊢
  obtain ⟨n, rfl⟩ : ∃ n : Nat, ix = n := ⟨ix.toNat, by omega⟩
  rw [Int.toNat_natCast]
  by_cases h2 : kd = 2
  · subst h2
    simp only [if_true] at hp
    subst hp
    refine ⟨45, dec n, by rw [if_pos rfl], ?_⟩
    unfold seN
    rw [spl_no (dec_no (by decide))]
    show (Ed.mk (kdS 45 3) (digN (dec n)).1 plZ, (digN (dec n)).2 && true) = _
    rw [digN_dec (by omega)]
    rfl
  · simp only [if_neg h2] at hp ⊢
    have hc : spl 32 (dec n ++ [32] ++ plT pl) = [dec n, plT pl] := by
      rw [List.append_assoc, show [32] ++ plT pl = 32 :: plT pl from rfl, spl_at (dec_no (by decide)), spl_no (plT_no32 hp)]
    have hs : ∀ c, seN c (dec n ++ [32] ++ plT pl) = (⟨kdS c 3, n, pl⟩, true) := fun c => by
      unfold seN
      rw [hc]
      show (Ed.mk (kdS c 3) (digN (dec n)).1 (r11 (plT pl)).1, (digN (dec n)).2 && (r11 (plT pl)).2) = _
      rw [digN_dec (by omega), r11_plT hp]
      rfl
    by_cases h1 : kd = 1
    · subst h1
      exact ⟨43, _, by rw [if_pos rfl], hs 43⟩
    · obtain rfl : kd = 3 := by omega
      exact ⟨61, _, by rw [if_neg (by decide)], hs 61⟩
theorem se_re [Mode] (s : List UInt8) : seR s = reR s := by
  by_cases hx : ∃ e, edB e = true ∧ edT e = s
  · obtain ⟨e, h1, rfl⟩ := hx
    rw [reR_ok h1]
    obtain ⟨c, l, h2, h3⟩ := se_ok h1
    rw [h2]
    show (if _ then _ else _) = _
    rw [h3, if_pos ⟨rfl, h2⟩]
  · rw [reR_no fun e h1 h2 => hx ⟨e, h1, h2⟩]
    cases s with
    | nil => rfl
    | cons c l =>
      show (if _ then _ else _) = _
      rw [if_neg]
      rintro ⟨_, h2⟩
      cases h3 : edB (seN c l).1 with
      | true => exact hx ⟨_, h3, h2⟩
      | false => rw [edT_no h3] at h2; cases h2
set_option maxHeartbeats 4000000 in
theorem sReadEdit_ac [Mode] (s : List UInt8) (hs : s.length ≤ 1048576) : AC Tryd.prog 20 [Str s] H0 (.tup [(seR s).1.av, Bo (seR s).2]) H0 := by
  cases s with
  | nil =>
    show AC Tryd.prog 20 [Str []] H0 (.tup [edZ.av, Bo false]) H0
    refine AC.of_body 0 Tryd.func20 rfl (fun l h => absurd rfl h) (fun C hC => ?_)
    have hD : ∀ l, ¬ C.D0 l := fun l h => (hC l).1 h rfl
    simp only [startFr, Tryd.ntmps20, List.length_cons, List.length_nil, Nat.reduceAdd, Nat.reduceSub, List.replicate_succ, List.replicate_zero, List.cons_append, List.nil_append]
    repeat' (first | ((first | apply Ba | (apply Bb; (· rfl); (· rfl)) | (apply Bc; (· exact nxE)) | (apply Bd; (· rfl); (· rfl); (· exact nxE))); (· first | exact Ok.seqT (a := []) (b := []) rfl rfl rfl rfl | exact Ok.slen rfl rfl | exact Ok.pe)) | ((first | apply Ca | (apply Cb; (· exact nxE))); (· first | exact Ok.e0)) | refine Sx ?_ | (refine Sy (fun h => ?_) (fun h => ?_) <;> try (exfalso; omega; done)) | refine Sz (fun h => ?_) (fun h => ?_))
    refine Yb ?_
    (apply Le.headZ (hs := []) [] rfl)
    all_goals (try dsimp only [srcs])
    (case' hfr => (repeat' (first | refine La ?_ ?_ | exact Lc | refine Lo ?_ | refine ⟨⟨_, rfl, ?_⟩, ?_⟩ | refine Lx ?_)))
    all_goals (first | exact Ld | exact trivial | (rfl))
  | cons c l =>
    rw [List.length_cons] at hs
    have hSp := split_frz l 32 (by omega)
    obtain ⟨w0, rest, hws⟩ : ∃ w0 rest, spl 32 l = w0 :: rest := by
      cases h : spl 32 l with
      | nil => exact absurd h spl_ne
      | cons a b => exact ⟨a, b, rfl⟩
    have hw0 : w0.length ≤ l.length := spl_mem_len (c := 32) (by rw [hws]; simp)
    have hDg := l01Digits_ac w0 (by omega)
    have hq : seR (c :: l) = if (seN c l).2 = true ∧ edT (seN c l).1 = c :: l then ((seN c l).1, true) else (edZ, false) := rfl
    unfold seN at hq
    have hhd : (spl 32 l).headD [] = w0 := by rw [hws]; rfl
    rw [hhd] at hq
    have hrow0 : (stR (spl 32 l))[(0 : Int).toNat]? = some [StrD w0] := stR_get (by rw [hws]; rfl)
    have hwn : (stR (spl 32 l)).length = (spl 32 l).length := stR_len _
    have hwl : (spl 32 l).length ≤ 1100001 := by
      have h2 := stS_len 32 l (l.length + 1)
      rw [stS_end] at h2
      omega
    have hL1 : AC Tryd.prog 34 [I 1] H0 (Str [43]) H0 := by have := l29Sign_ac 1 (by decide) (by decide); rwa [if_pos rfl] at this
    have hL2 : AC Tryd.prog 34 [I 2] H0 (Str [45]) H0 := by have := l29Sign_ac 2 (by decide) (by decide); rwa [if_neg (by decide), if_pos rfl] at this
    have hL3 : AC Tryd.prog 34 [I 3] H0 (Str [61]) H0 := by have := l29Sign_ac 3 (by decide) (by decide); rwa [if_neg (by decide), if_neg (by decide)] at this
    have hws2 := two_or (spl 32 l)
    have hP2 : ∀ a w, spl 32 l = [a, w] → AC Tryd.prog 48 [Str w] H0 (.tup [(r11 w).1.av, Bo (r11 w).2]) H0 := fun a w h => l11Read_ac w (by
      have : w.length ≤ l.length := spl_mem_len (c := 32) (by rw [h]; simp)
      omega)
    clear hws hhd
    generalize spl 32 l = ws at *
    generalize digN w0 = q1 at *
    generalize seR (c :: l) = q at *
    obtain ⟨d, b0⟩ := q1
    obtain ⟨e, be⟩ := q
    simp only at hDg hq ⊢
    refine AC.of_body 0 Tryd.func20 rfl (fun l h => absurd rfl h) (fun C hC => ?_)
    have hD : ∀ l, ¬ C.D0 l := fun l h => (hC l).1 h rfl
    simp only [startFr, Tryd.ntmps20, List.length_cons, List.length_nil, Nat.reduceAdd, Nat.reduceSub, List.replicate_succ, List.replicate_zero, List.cons_append, List.nil_append]
    repeat' (first | ((first | apply Ba | (apply Bb; (· rfl); (· rfl)) | (apply Bc; (· exact nxE)) | (apply Bd; (· rfl); (· rfl); (· exact nxE))); (· first | exact Ok.seqF (a := c :: l) (b := []) rfl rfl rfl (List.cons_ne_nil c l) | exact Ok.sFrom (a := c :: l) (j := 1) rfl rfl rfl rfl (by simp) | exact Kz rfl rfl (hSp) (Ad (Ad An)) | exact OpOk.indexD rfl rfl rfl (by decide) hrow0 (by exact Nat.zero_lt_one) | exact Kz rfl rfl (hDg) (Ad An) | exact Ok.slen rfl rfl | exact Ok.pe)) | ((first | apply Ca | (apply Cb; (· exact nxE))); (· first | exact Ok.e0)) | refine Sx ?_ | (refine Sy (fun h => ?_) (fun h => ?_) <;> try (exfalso; omega; done)) | refine Sz (fun h => ?_) (fun h => ?_))
    refine AW.loop (X := {k : Nat // k ≤ 3}) (fun k => ⟨[Str (c :: l), Oo, Bx 6 0, Oo, SL ws, I d, Bo b0, Bx 6 1, I (((k.1 : Nat) + 1 : Nat) : Nat), Oo, Oo, Oo, Oo, Oo, Oo, Oo, Oo, Oo, Oo, Oo, Oo, Oo, Oo, Oo, Oo, Oo, Oo, Oo, Oo, Oo, Oo, Oo, Oo, Oo, Oo, Oo, Oo, Oo, Oo, Oo, Oo, Oo, Oo, Oo, Oo, Oo, Oo, Oo, Oo, Oo, Oo, Oo, Oo, Oo, Oo, Oo, Oo, Oo, Oo, Oo, Oo, Oo, Oo], heapL [(⟨0, []⟩, ⟨0, []⟩, ⟨6, [[I 0, I 0, I 0, I 0, I 0, I 0]]⟩), (⟨1, []⟩, ⟨1, []⟩, ⟨6, [[I (kdS c k.1), I d, I 0, I 0, I 0, I 0]]⟩)], 900⟩) (fun k => 3 - k.1) ⟨0, Nat.zero_le _⟩ ?_ (fun k => ?_)
    ·
      (apply Le.headZ [_, _] rfl)
      all_goals (try dsimp only [srcs])
      (case' hfr | hob => (repeat' (first | refine La ?_ ?_ | exact Lc | refine Lo ?_ | refine ⟨⟨_, rfl, ?_⟩, ?_⟩ | refine Lx ?_)))
      all_goals (first | ((simp [kdS]; done)) | exact Ld)
    obtain ⟨k, hk⟩ := k
    simp only
    have hk4 : k = 0 ∨ k = 1 ∨ k = 2 ∨ k = 3 := by omega
    rcases hk4 with rfl | rfl | rfl | rfl
    · by_cases hc : c = 43
      · have e1 : kdS c 1 = 1 := by subst hc; rfl
        repeat' (first | ((first | apply Ba | (apply Bb; (· rfl); (· rfl)) | (apply Bc; (· exact nxE)) | (apply Bd; (· rfl); (· rfl); (· exact nxE))); (· first | exact Kz rfl rfl (hL1) (Ad An) | exact Ok.sTo (a := c :: l) (j := 1) rfl rfl rfl rfl (by simp) | exact Ok.seqT (a := [c]) (b := [43]) rfl rfl rfl (by rw [hc]) | exact Ok.slen rfl rfl | exact Ok.pe)) | ((first | apply Ca | (apply Cb; (· exact nxE))); (· first | exact Ok.e0)) | refine Sx ?_ | (refine Sy (fun h => ?_) (fun h => ?_) <;> try (exfalso; omega; done)) | refine Sz (fun h => ?_) (fun h => ?_))
        refine ⟨⟨1, by omega⟩, ?_, by simp only; omega⟩
        (apply Le.headZ [_, _] rfl)
        all_goals (try dsimp only [srcs])
        (case' hfr | hob => (repeat' (first | refine La ?_ ?_ | exact Lc | refine Lo ?_ | refine ⟨⟨_, rfl, ?_⟩, ?_⟩ | refine Lx ?_)))
        all_goals (first | ((rw [e1]; done)) | exact Ld)
      · have e1 : kdS c 1 = kdS c 0 := by simp [kdS, hc]
        repeat' (first | ((first | apply Ba | (apply Bb; (· rfl); (· rfl)) | (apply Bc; (· exact nxE)) | (apply Bd; (· rfl); (· rfl); (· exact nxE))); (· first | exact Kz rfl rfl (hL1) (Ad An) | exact Ok.sTo (a := c :: l) (j := 1) rfl rfl rfl rfl (by simp) | exact Ok.seqF (a := [c]) (b := [43]) rfl rfl rfl (by simpa using hc) | exact Ok.slen rfl rfl | exact Ok.pe)) | ((first | apply Ca | (apply Cb; (· exact nxE))); (· first | exact Ok.e0)) | refine Sx ?_ | (refine Sy (fun h => ?_) (fun h => ?_) <;> try (exfalso; omega; done)) | refine Sz (fun h => ?_) (fun h => ?_))
        refine ⟨⟨1, by omega⟩, ?_, by simp only; omega⟩
        (apply Le.headZ [_, _] rfl)
        all_goals (try dsimp only [srcs])
        (case' hfr | hob => (repeat' (first | refine La ?_ ?_ | exact Lc | refine Lo ?_ | refine ⟨⟨_, rfl, ?_⟩, ?_⟩ | refine Lx ?_)))
        all_goals (first | ((rw [e1]; done)) | exact Ld)
    · by_cases hc : c = 45
      · have e1 : kdS c 2 = 2 := by subst hc; rfl
        repeat' (first | ((first | apply Ba | (apply Bb; (· rfl); (· rfl)) | (apply Bc; (· exact nxE)) | (apply Bd; (· rfl); (· rfl); (· exact nxE))); (· first | exact Kz rfl rfl (hL2) (Ad An) | exact Ok.sTo (a := c :: l) (j := 1) rfl rfl rfl rfl (by simp) | exact Ok.seqT (a := [c]) (b := [45]) rfl rfl rfl (by rw [hc]) | exact Ok.slen rfl rfl | exact Ok.pe)) | ((first | apply Ca | (apply Cb; (· exact nxE))); (· first | exact Ok.e0)) | refine Sx ?_ | (refine Sy (fun h => ?_) (fun h => ?_) <;> try (exfalso; omega; done)) | refine Sz (fun h => ?_) (fun h => ?_))
        refine ⟨⟨2, by omega⟩, ?_, by simp only; omega⟩
        (apply Le.headZ [_, _] rfl)
        all_goals (try dsimp only [srcs])
        (case' hfr | hob => (repeat' (first | refine La ?_ ?_ | exact Lc | refine Lo ?_ | refine ⟨⟨_, rfl, ?_⟩, ?_⟩ | refine Lx ?_)))
        all_goals (first | ((rw [e1]; done)) | exact Ld)
      · have e1 : kdS c 2 = kdS c 1 := by simp [kdS, hc]
        repeat' (first | ((first | apply Ba | (apply Bb; (· rfl); (· rfl)) | (apply Bc; (· exact nxE)) | (apply Bd; (· rfl); (· rfl); (· exact nxE))); (· first | exact Kz rfl rfl (hL2) (Ad An) | exact Ok.sTo (a := c :: l) (j := 1) rfl rfl rfl rfl (by simp) | exact Ok.seqF (a := [c]) (b := [45]) rfl rfl rfl (by simpa using hc) | exact Ok.slen rfl rfl | exact Ok.pe)) | ((first | apply Ca | (apply Cb; (· exact nxE))); (· first | exact Ok.e0)) | refine Sx ?_ | (refine Sy (fun h => ?_) (fun h => ?_) <;> try (exfalso; omega; done)) | refine Sz (fun h => ?_) (fun h => ?_))
        refine ⟨⟨2, by omega⟩, ?_, by simp only; omega⟩
        (apply Le.headZ [_, _] rfl)
        all_goals (try dsimp only [srcs])
        (case' hfr | hob => (repeat' (first | refine La ?_ ?_ | exact Lc | refine Lo ?_ | refine ⟨⟨_, rfl, ?_⟩, ?_⟩ | refine Lx ?_)))
        all_goals (first | ((rw [e1]; done)) | exact Ld)
    · by_cases hc : c = 61
      · have e1 : kdS c 3 = 3 := by subst hc; rfl
        repeat' (first | ((first | apply Ba | (apply Bb; (· rfl); (· rfl)) | (apply Bc; (· exact nxE)) | (apply Bd; (· rfl); (· rfl); (· exact nxE))); (· first | exact Kz rfl rfl (hL3) (Ad An) | exact Ok.sTo (a := c :: l) (j := 1) rfl rfl rfl rfl (by simp) | exact Ok.seqT (a := [c]) (b := [61]) rfl rfl rfl (by rw [hc]) | exact Ok.slen rfl rfl | exact Ok.pe)) | ((first | apply Ca | (apply Cb; (· exact nxE))); (· first | exact Ok.e0)) | refine Sx ?_ | (refine Sy (fun h => ?_) (fun h => ?_) <;> try (exfalso; omega; done)) | refine Sz (fun h => ?_) (fun h => ?_))
        refine ⟨⟨3, by omega⟩, ?_, by simp only; omega⟩
        (apply Le.headZ [_, _] rfl)
        all_goals (try dsimp only [srcs])
        (case' hfr | hob => (repeat' (first | refine La ?_ ?_ | exact Lc | refine Lo ?_ | refine ⟨⟨_, rfl, ?_⟩, ?_⟩ | refine Lx ?_)))
        all_goals (first | ((rw [e1]; done)) | exact Ld)
      · have e1 : kdS c 3 = kdS c 2 := by simp [kdS, hc]
        repeat' (first | ((first | apply Ba | (apply Bb; (· rfl); (· rfl)) | (apply Bc; (· exact nxE)) | (apply Bd; (· rfl); (· rfl); (· exact nxE))); (· first | exact Kz rfl rfl (hL3) (Ad An) | exact Ok.sTo (a := c :: l) (j := 1) rfl rfl rfl rfl (by simp) | exact Ok.seqF (a := [c]) (b := [61]) rfl rfl rfl (by simpa using hc) | exact Ok.slen rfl rfl | exact Ok.pe)) | ((first | apply Ca | (apply Cb; (· exact nxE))); (· first | exact Ok.e0)) | refine Sx ?_ | (refine Sy (fun h => ?_) (fun h => ?_) <;> try (exfalso; omega; done)) | refine Sz (fun h => ?_) (fun h => ?_))
        refine ⟨⟨3, by omega⟩, ?_, by simp only; omega⟩
        (apply Le.headZ [_, _] rfl)
        all_goals (try dsimp only [srcs])
        (case' hfr | hob => (repeat' (first | refine La ?_ ?_ | exact Lc | refine Lo ?_ | refine ⟨⟨_, rfl, ?_⟩, ?_⟩ | refine Lx ?_)))
        all_goals (first | ((rw [e1]; done)) | exact Ld)
    generalize kdS c 3 = kd at *
    rcases hws2 with hne | ⟨a, w, rfl⟩
    · rw [seP_ne hne] at hq
      simp only [Bool.and_true] at hq
      change (e, be) = if b0 = true ∧ edT ⟨kd, d, ⟨0, 0, 0, 0⟩⟩ = c :: l then (⟨kd, d, ⟨0, 0, 0, 0⟩⟩, true) else (edZ, false) at hq
      have hT := sEditText_ac ⟨kd, d, ⟨0, 0, 0, 0⟩⟩
      generalize hx : edT ⟨kd, d, ⟨0, 0, 0, 0⟩⟩ = tx at *
      cases b0 with
      | false =>
        rw [if_neg (by simp)] at hq
        obtain ⟨rfl, rfl⟩ := Prod.mk.inj hq
        repeat' (first | ((first | apply Ba | (apply Bb; (· rfl); (· rfl)) | (apply Bc; (· exact nxE)) | (apply Bd; (· rfl); (· rfl); (· exact nxE))); (· first | exact Ok.lenD rfl rfl hwn | exact Ok.slen rfl rfl | exact Ok.pe)) | ((first | apply Ca | (apply Cb; (· exact nxE))); (· first | exact Ok.e0)) | refine Sx ?_ | (refine Sy (fun h => ?_) (fun h => ?_) <;> try (exfalso; omega; done)) | refine Sz (fun h => ?_) (fun h => ?_))
        all_goals
          refine Yb ?_
          (apply Le.headZ (hs := []) [] rfl)
          all_goals (try dsimp only [srcs])
          (case' hfr => (repeat' (first | refine La ?_ ?_ | exact Lc | refine Lo ?_ | refine ⟨⟨_, rfl, ?_⟩, ?_⟩ | refine Lx ?_)))
          all_goals (first | exact Ld | exact trivial | (rfl))
      | true =>
        by_cases htx : tx = c :: l
        · rw [if_pos ⟨rfl, htx⟩] at hq
          obtain ⟨rfl, rfl⟩ := Prod.mk.inj hq
          repeat' (first | ((first | apply Ba | (apply Bb; (· rfl); (· rfl)) | (apply Bc; (· exact nxE)) | (apply Bd; (· rfl); (· rfl); (· exact nxE))); (· first | exact Ok.lenD rfl rfl hwn | exact Kz rfl rfl (hT) (Aa (Ad (Ad (Ad (Ad (Ad (Ad An)))))) An) | exact Ok.sneF rfl rfl rfl htx | exact Ok.slen rfl rfl | exact Ok.pe)) | ((first | apply Ca | (apply Cb; (· exact nxE))); (· first | exact Ok.e0)) | refine Sx ?_ | (refine Sy (fun h => ?_) (fun h => ?_) <;> try (exfalso; omega; done)) | refine Sz (fun h => ?_) (fun h => ?_))
          all_goals
            refine Yb ?_
            (apply Le.headZ (hs := []) [] rfl)
            all_goals (try dsimp only [srcs])
            (case' hfr => (repeat' (first | refine La ?_ ?_ | exact Lc | refine Lo ?_ | refine ⟨⟨_, rfl, ?_⟩, ?_⟩ | refine Lx ?_)))
            all_goals (first | exact Ld | exact trivial | (rfl))
        · rw [if_neg (fun h => htx h.2)] at hq
          obtain ⟨rfl, rfl⟩ := Prod.mk.inj hq
          repeat' (first | ((first | apply Ba | (apply Bb; (· rfl); (· rfl)) | (apply Bc; (· exact nxE)) | (apply Bd; (· rfl); (· rfl); (· exact nxE))); (· first | exact Ok.lenD rfl rfl hwn | exact Kz rfl rfl (hT) (Aa (Ad (Ad (Ad (Ad (Ad (Ad An)))))) An) | exact Ok.sneT rfl rfl rfl htx | exact Ok.slen rfl rfl | exact Ok.pe)) | ((first | apply Ca | (apply Cb; (· exact nxE))); (· first | exact Ok.e0)) | refine Sx ?_ | (refine Sy (fun h => ?_) (fun h => ?_) <;> try (exfalso; omega; done)) | refine Sz (fun h => ?_) (fun h => ?_))
          all_goals
            refine Yb ?_
            (apply Le.headZ (hs := []) [] rfl)
            all_goals (try dsimp only [srcs])
            (case' hfr => (repeat' (first | refine La ?_ ?_ | exact Lc | refine Lo ?_ | refine ⟨⟨_, rfl, ?_⟩, ?_⟩ | refine Lx ?_)))
            all_goals (first | exact Ld | exact trivial | (rfl))
    · have hPl := hP2 a w rfl
      have e9 : seP [a, w] = r11 w := rfl
      rw [e9] at hq
      clear hP2 e9
      generalize r11 w = q3 at *
      obtain ⟨⟨pf, pt, pd, pk⟩, b2⟩ := q3
      simp only at hPl hq
      have hT := sEditText_ac ⟨kd, d, ⟨pf, pt, pd, pk⟩⟩
      generalize hx : edT ⟨kd, d, ⟨pf, pt, pd, pk⟩⟩ = tx at *
      have hb : b0 = false ∨ (b0 = true ∧ b2 = false) ∨ (b0 = true ∧ b2 = true) := by cases b0 <;> cases b2 <;> simp
      rcases hb with rfl | ⟨rfl, rfl⟩ | ⟨rfl, rfl⟩
      · rw [if_neg (by simp)] at hq
        obtain ⟨rfl, rfl⟩ := Prod.mk.inj hq
        repeat' (first | ((first | apply Ba | (apply Bb; (· rfl); (· rfl)) | (apply Bc; (· exact nxE)) | (apply Bd; (· rfl); (· rfl); (· exact nxE))); (· first | exact Ok.lenD rfl rfl hwn | exact OpOk.indexD rfl rfl rfl (by decide) rfl (by exact Nat.zero_lt_one) | exact Kz rfl rfl (hPl) (Ad An) | exact Ok.slen rfl rfl | exact Ok.pe)) | ((first | apply Ca | (apply Cb; (· exact nxE))); (· first | exact Ok.e0)) | refine Sx ?_ | (refine Sy (fun h => ?_) (fun h => ?_) <;> try (exfalso; omega; done)) | refine Sz (fun h => ?_) (fun h => ?_))
        all_goals
          refine Yb ?_
          (apply Le.headZ (hs := []) [] rfl)
          all_goals (try dsimp only [srcs])
          (case' hfr => (repeat' (first | refine La ?_ ?_ | exact Lc | refine Lo ?_ | refine ⟨⟨_, rfl, ?_⟩, ?_⟩ | refine Lx ?_)))
          all_goals (first | exact Ld | exact trivial | (rfl))
      · rw [if_neg (by simp)] at hq
        obtain ⟨rfl, rfl⟩ := Prod.mk.inj hq
        repeat' (first | ((first | apply Ba | (apply Bb; (· rfl); (· rfl)) | (apply Bc; (· exact nxE)) | (apply Bd; (· rfl); (· rfl); (· exact nxE))); (· first | exact Ok.lenD rfl rfl hwn | exact OpOk.indexD rfl rfl rfl (by decide) rfl (by exact Nat.zero_lt_one) | exact Kz rfl rfl (hPl) (Ad An) | exact Ok.slen rfl rfl | exact Ok.pe)) | ((first | apply Ca | (apply Cb; (· exact nxE))); (· first | exact Ok.e0)) | refine Sx ?_ | (refine Sy (fun h => ?_) (fun h => ?_) <;> try (exfalso; omega; done)) | refine Sz (fun h => ?_) (fun h => ?_))
        all_goals
          refine Yb ?_
          (apply Le.headZ (hs := []) [] rfl)
          all_goals (try dsimp only [srcs])
          (case' hfr => (repeat' (first | refine La ?_ ?_ | exact Lc | refine Lo ?_ | refine ⟨⟨_, rfl, ?_⟩, ?_⟩ | refine Lx ?_)))
          all_goals (first | exact Ld | exact trivial | (rfl))
      · by_cases htx : tx = c :: l
        · rw [if_pos ⟨rfl, htx⟩] at hq
          obtain ⟨rfl, rfl⟩ := Prod.mk.inj hq
          repeat' (first | ((first | apply Ba | (apply Bb; (· rfl); (· rfl)) | (apply Bc; (· exact nxE)) | (apply Bd; (· rfl); (· rfl); (· exact nxE))); (· first | exact Ok.lenD rfl rfl hwn | exact OpOk.indexD rfl rfl rfl (by decide) rfl (by exact Nat.zero_lt_one) | exact Kz rfl rfl (hPl) (Ad An) | exact Kz rfl rfl (hT) (Aa (Ad (Ad (Ad (Ad (Ad (Ad An)))))) An) | exact Ok.sneF rfl rfl rfl htx | exact Ok.slen rfl rfl | exact Ok.pe)) | ((first | apply Ca | (apply Cb; (· exact nxE))); (· first | exact Ok.e0)) | refine Sx ?_ | (refine Sy (fun h => ?_) (fun h => ?_) <;> try (exfalso; omega; done)) | refine Sz (fun h => ?_) (fun h => ?_))
          all_goals
            refine Yb ?_
            (apply Le.headZ (hs := []) [] rfl)
            all_goals (try dsimp only [srcs])
            (case' hfr => (repeat' (first | refine La ?_ ?_ | exact Lc | refine Lo ?_ | refine ⟨⟨_, rfl, ?_⟩, ?_⟩ | refine Lx ?_)))
            all_goals (first | exact Ld | exact trivial | (rfl))
        · rw [if_neg (fun h => htx h.2)] at hq
          obtain ⟨rfl, rfl⟩ := Prod.mk.inj hq
          repeat' (first | ((first | apply Ba | (apply Bb; (· rfl); (· rfl)) | (apply Bc; (· exact nxE)) | (apply Bd; (· rfl); (· rfl); (· exact nxE))); (· first | exact Ok.lenD rfl rfl hwn | exact OpOk.indexD rfl rfl rfl (by decide) rfl (by exact Nat.zero_lt_one) | exact Kz rfl rfl (hPl) (Ad An) | exact Kz rfl rfl (hT) (Aa (Ad (Ad (Ad (Ad (Ad (Ad An)))))) An) | exact Ok.sneT rfl rfl rfl htx | exact Ok.slen rfl rfl | exact Ok.pe)) | ((first | apply Ca | (apply Cb; (· exact nxE))); (· first | exact Ok.e0)) | refine Sx ?_ | (refine Sy (fun h => ?_) (fun h => ?_) <;> try (exfalso; omega; done)) | refine Sz (fun h => ?_) (fun h => ?_))
          all_goals
            refine Yb ?_
            (apply Le.headZ (hs := []) [] rfl)
            all_goals (try dsimp only [srcs])
            (case' hfr => (repeat' (first | refine La ?_ ?_ | exact Lc | refine Lo ?_ | refine ⟨⟨_, rfl, ?_⟩, ?_⟩ | refine Lx ?_)))
            all_goals (first | exact Ld | exact trivial | (rfl))
end Go.Proofs.YtdgodkpobomneaaDoor
