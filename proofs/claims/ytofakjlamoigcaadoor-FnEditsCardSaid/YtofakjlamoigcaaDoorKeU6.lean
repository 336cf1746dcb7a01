/-
  Walks in the abstract reading, part 6.
-/
import Derived.Test.YtofakjlamoigcaaDoorKeU5
import Derived.Test.YtofakjlamoigcaaDoorKeS21
import Derived.Test.YtofakjlamoigcaaDoorKeU4
import Derived.Test.YtofakjlamoigcaaDoorKeA3
import Derived.Test.YtofakjlamoigcaaDoorKeU2
section
namespace Go.Proofs.YtofakjlamoigcaaDoor
set_option linter.unusedSimpArgs false
set_option linter.unusedVariables false
open Go Go.RowKit
attribute [local irreducible] AL AD AW OpOk Le AC thenQ blockQ EndQ

section
variable {P : Program} {o : Oper} {A : Operand → AV} {H : Heap} {new : Nat} {t t' : TypeId} {x y : Operand} {a b : List UInt8}
theorem Ok.seqT [Mode] (ho : o.op = .binOp .eql t x y t') (hx : A x = Str a) (hy : A y = Str b) (h : a = b) : OpOk P o A [] H new (Bo true) [] := by
  have := Ok.seqS (P := P) (H := H) (new := new) ho hx hy
  rwa [decide_eq_true h] at this
theorem Ok.seqF [Mode] (ho : o.op = .binOp .eql t x y t') (hx : A x = Str a) (hy : A y = Str b) (h : a ≠ b) : OpOk P o A [] H new (Bo false) [] := by
  have := Ok.seqS (P := P) (H := H) (new := new) ho hx hy
  rwa [decide_eq_false h] at this
theorem Ok.sneT [Mode] (ho : o.op = .binOp .neq t x y t') (hx : A x = Str a) (hy : A y = Str b) (h : a ≠ b) : OpOk P o A [] H new (Bo true) [] := by
  have := Ok.sneS (P := P) (H := H) (new := new) ho hx hy
  rwa [decide_eq_true h] at this
theorem Ok.sneF [Mode] (ho : o.op = .binOp .neq t x y t') (hx : A x = Str a) (hy : A y = Str b) (h : a = b) : OpOk P o A [] H new (Bo false) [] := by
  have := Ok.sneS (P := P) (H := H) (new := new) ho hx hy
  rwa [decide_eq_false (fun hne => hne h)] at this
end
/-- The kind found so far. -/
def kdS (c : UInt8) (k : Nat) : Int := if c = 43 ∧ 1 ≤ k then 1 else if c = 45 ∧ 2 ≤ k then 2 else if c = 61 ∧ 3 ≤ k then 3 else 0
def seP : List (List UInt8) → Pl × Bool
  | [_, w] => r11 w
  | _ => (plZ, true)
/-- An edit as the reference reads it, ahead of its last look. -/
def seN (c : UInt8) (l : List UInt8) : Ed × Bool :=
  (⟨kdS c 3, (digN ((spl 32 l).headD [])).1, (seP (spl 32 l)).1⟩, (digN ((spl 32 l).headD [])).2 && (seP (spl 32 l)).2)
def seR : List UInt8 → Ed × Bool
  | [] => (edZ, false)
  | c :: l => if (seN c l).2 = true ∧ edT (seN c l).1 = c :: l then ((seN c l).1, true) else (edZ, false)
theorem seP_ne [Mode] {ws : List (List UInt8)} (h : ws.length ≠ 2) : seP ws = (plZ, true) := by
  match ws, h with
  | [], _ => rfl
  | [_], _ => rfl
  | [_, _], h => exact absurd rfl h
  | _ :: _ :: _ :: _, _ => rfl
theorem plT_no32 [Mode] {p : Pl} (h : plB 9 p = true) : (32 : UInt8) ∉ plT p := by
  obtain ⟨a, b, c, d, rfl, h1, h2, h3, h4⟩ := plB_nat h
  rw [plT_nat]
  simp only [List.mem_append, List.mem_cons, not_or]
  exact ⟨dec_no (by decide), by decide, dec_no (by decide), by decide, dec_no (by decide), by decide, dec_no (by decide)⟩
theorem se_ok [Mode] {e : Ed} (h : edB e = true) : ∃ c l, edT e = c :: l ∧ seN c l = (e, true) := by
  obtain ⟨⟨k1, k2⟩, ⟨x1, x2⟩, hp⟩ := edB_iff.1 h
  rw [edT_yes h]
  obtain ⟨kd, ix, pl⟩ := e
  simp only at k1 k2 x1 x2 hp ⊢
  obtain ⟨n, rfl⟩ : ∃ n : Nat, ix = n := ⟨ix.toNat, by omega⟩
  rw [Int.toNat_natCast]
  by_cases h2 : kd = 2
  · subst h2
    simp only [if_true] at hp
    subst hp
    refine ⟨45, dec n, by rw [if_pos rfl], ?_⟩
    unfold seN
    rw [spl_no (dec_no (by decide))]
    show (Ed.mk (kdS 45 3) (digN (dec n)).1 plZ, (digN (dec n)).2 && true) = _
    rw [digN_dec (by omega)]
    rfl
  · simp only [if_neg h2] at hp ⊢
    have hc : spl 32 (dec n ++ [32] ++ plT pl) = [dec n, plT pl] := by
      rw [List.append_assoc, show [32] ++ plT pl = 32 :: plT pl from rfl, spl_at (dec_no (by decide)), spl_no (plT_no32 hp)]
    have hs : ∀ c, seN c (dec n ++ [32] ++ plT pl) = (⟨kdS c 3, n, pl⟩, true) := fun c => by
      unfold seN
      rw [hc]
      show (Ed.mk (kdS c 3) (digN (dec n)).1 (r11 (plT pl)).1, (digN (dec n)).2 && (r11 (plT pl)).2) = _
      rw [digN_dec (by omega), r11_plT hp]
      rfl
    by_cases h1 : kd = 1
    · subst h1
      exact ⟨43, _, by rw [if_pos rfl], hs 43⟩
    · obtain rfl : kd = 3 := by omega
      exact ⟨61, _, by rw [if_neg (by decide)], hs 61⟩
theorem se_re [Mode] (s : List UInt8) : seR s = reR s := by
  by_cases hx : ∃ e, edB e = true ∧ edT e = s
  · obtain ⟨e, h1, rfl⟩ := hx
    rw [reR_ok h1]
    obtain ⟨c, l, h2, h3⟩ := se_ok h1
    rw [h2]
    show (if _ then _ else _) = _
    rw [h3, if_pos ⟨rfl, h2⟩]
  · rw [reR_no fun e h1 h2 => hx ⟨e, h1, h2⟩]
    cases s with
    | nil => rfl
    | cons c l =>
      show (if _ then _ else _) = _
      rw [if_neg]
      rintro ⟨_, h2⟩
      cases h3 : edB (seN c l).1 with
      | true => exact hx ⟨_, h3, h2⟩
      | false => rw [edT_no h3] at h2; cases h2
set_option maxHeartbeats 4000000 in
theorem sReadEdit_ac [Mode] (s : List UInt8) (hs : s.length ≤ 1048576) : AC Tryd.prog 17 [Str s] H0 (.tup [(seR s).1.av, Bo (seR s).2]) H0 := by
  cases s with
  | nil =>
    show AC Tryd.prog 17 [Str []] H0 (.tup [edZ.av, Bo false]) H0
    refine AC.of_body 0 Tryd.func17 rfl (fun l h => absurd rfl h) (fun C hC => ?_)
    have hD : ∀ l, ¬ C.D0 l := fun l h => (hC l).1 h rfl
    simp only [startFr, Tryd.ntmps17, List.length_cons, List.length_nil, Nat.reduceAdd, Nat.reduceSub, List.replicate_succ, List.replicate_zero, List.cons_append, List.nil_append]
    repeat' (first | ((first | apply Ba | (apply Bb; (· rfl); (· rfl)) | (apply Bc; (· exact nxE)) | (apply Bd; (· rfl); (· rfl); (· exact nxE))); (· first | exact Ok.seqT (a := []) (b := []) rfl rfl rfl rfl | exact Ok.slen rfl rfl | exact Ok.pe)) | ((first | apply Ca | (apply Cb; (· exact nxE))); (· first | exact Ok.e0)) | refine Sx ?_ | (refine Sy (fun h => ?_) (fun h => ?_) <;> try (exfalso; omega; done)) | refine Sz (fun h => ?_) (fun h => ?_))
    refine Yb ?_
    (apply Le.headZ (hs := []) [] rfl)
    all_goals (try dsimp only [srcs])
    (case' hfr => (repeat' (first | refine La ?_ ?_ | exact Lc | refine Lo ?_ | refine ⟨⟨_, rfl, ?_⟩, ?_⟩ | refine Lx ?_)))
    all_goals (first | exact Ld | exact trivial | (rfl))
  | cons c l =>
    rw [List.length_cons] at hs
    have hSp := split_frz l 32 (by omega)
    obtain ⟨w0, rest, hws⟩ : ∃ w0 rest, spl 32 l = w0 :: rest := by
      cases h : spl 32 l with
      | nil => exact absurd h spl_ne
      | cons a b => exact ⟨a, b, rfl⟩
    have hw0 : w0.length ≤ l.length := spl_mem_len (c := 32) (by rw [hws]; simp)
    have hDg := l01Digits_ac w0 (by omega)
    have hq : seR (c :: l) = if (seN c l).2 = true ∧ edT (seN c l).1 = c :: l then ((seN c l).1, true) else (edZ, false) := rfl
    unfold seN at hq
    have hhd : (spl 32 l).headD [] = w0 := by rw [hws]; rfl
    rw [hhd] at hq
    have hrow0 : (stR (spl 32 l))[(0 : Int).toNat]? = some [StrD w0] := stR_get (by rw [hws]; rfl)
    have hwn : (stR (spl 32 l)).length = (spl 32 l).length := stR_len _
    have hwl : (spl 32 l).length ≤ 1100001 := by
      have h2 := stS_len 32 l (l.length + 1)
      rw [stS_end] at h2
      omega
    have hL1 : AC Tryd.prog 44 [I 1] H0 (Str [43]) H0 := by have := l29Sign_ac 1 (by decide) (by decide); rwa [if_pos rfl] at this
    have hL2 : AC Tryd.prog 44 [I 2] H0 (Str [45]) H0 := by have := l29Sign_ac 2 (by decide) (by decide); rwa [if_neg (by decide), if_pos rfl] at this
    have hL3 : AC Tryd.prog 44 [I 3] H0 (Str [61]) H0 := by have := l29Sign_ac 3 (by decide) (by decide); rwa [if_neg (by decide), if_neg (by decide)] at this
    have hws2 := two_or (spl 32 l)
    have hP2 : ∀ a w, spl 32 l = [a, w] → AC Tryd.prog 45 [Str w] H0 (.tup [(r11 w).1.av, Bo (r11 w).2]) H0 := fun a w h => l11Read_ac w (by
      have : w.length ≤ l.length := spl_mem_len (c := 32) (by rw [h]; simp)
      omega)
    clear hws hhd
    generalize spl 32 l = ws at *
    generalize digN w0 = q1 at *
    generalize seR (c :: l) = q at *
    obtain ⟨d, b0⟩ := q1
    obtain ⟨e, be⟩ := q
    simp only at hDg hq ⊢
    refine AC.of_body 0 Tryd.func17 rfl (fun l h => absurd rfl h) (fun C hC => ?_)
    have hD : ∀ l, ¬ C.D0 l := fun l h => (hC l).1 h rfl
    simp only [startFr, Tryd.ntmps17, List.length_cons, List.length_nil, Nat.reduceAdd, Nat.reduceSub, List.replicate_succ, List.replicate_zero, List.cons_append, List.nil_append]
    repeat' (first | ((first | apply Ba | (apply Bb; (· rfl); (· rfl)) | (apply Bc; (· exact nxE)) | (apply Bd; (· rfl); (· rfl); (· exact nxE))); (· first | exact Ok.seqF (a := c :: l) (b := []) rfl rfl rfl (List.cons_ne_nil c l) | exact Ok.sFrom (a := c :: l) (j := 1) rfl rfl rfl rfl (by simp) | exact Kz rfl rfl (hSp) (Ad (Ad An)) | exact OpOk.indexD rfl rfl rfl (by decide) hrow0 (by exact Nat.zero_lt_one) | exact Kz rfl rfl (hDg) (Ad An) | exact Ok.slen rfl rfl | exact Ok.pe)) | ((first | apply Ca | (apply Cb; (· exact nxE))); (· first | exact Ok.e0)) | refine Sx ?_ | (refine Sy (fun h => ?_) (fun h => ?_) <;> try (exfalso; omega; done)) | refine Sz (fun h => ?_) (fun h => ?_))
    refine AW.loop (X := {k : Nat // k ≤ 3}) (fun k => ⟨[Str (c :: l), Oo, Bx 6 0, Oo, SL ws, I d, Bo b0, Bx 6 1, I (((k.1 : Nat) + 1 : Nat) : Nat), Oo, Oo, Oo, Oo, Oo, Oo, Oo, Oo, Oo, Oo, Oo, Oo, Oo, Oo, Oo, Oo, Oo, Oo, Oo, Oo, Oo, Oo, Oo, Oo, Oo, Oo, Oo, Oo, Oo, Oo, Oo, Oo, Oo, Oo, Oo, Oo, Oo, Oo, Oo, Oo, Oo, Oo, Oo, Oo, Oo, Oo, Oo, Oo, Oo, Oo, Oo, Oo, Oo, Oo], heapL [(⟨0, []⟩, ⟨0, []⟩, ⟨6, [[I 0, I 0, I 0, I 0, I 0, I 0]]⟩), (⟨1, []⟩, ⟨1, []⟩, ⟨6, [[I (kdS c k.1), I d, I 0, I 0, I 0, I 0]]⟩)], 900⟩) (fun k => 3 - k.1) ⟨0, Nat.zero_le _⟩ ?_ (fun k => ?_)
    ·
      (apply Le.headZ [_, _] rfl)
      all_goals (try dsimp only [srcs])
      (case' hfr | hob => (repeat' (first | refine La ?_ ?_ | exact Lc | refine Lo ?_ | refine ⟨⟨_, rfl, ?_⟩, ?_⟩ | refine Lx ?_)))
      all_goals (first | ((simp [kdS]; done)) | exact Ld)
    obtain ⟨k, hk⟩ := k
    simp only
    have hk4 : k = 0 ∨ k = 1 ∨ k = 2 ∨ k = 3 := by omega
    rcases hk4 with rfl | rfl | rfl | rfl
    · by_cases hc : c = 43
      · have e1 : kdS c 1 = 1 := by subst hc; rfl
        repeat' (first | ((first | apply Ba | (apply Bb; (· rfl); (· rfl)) | (apply Bc; (· exact nxE)) | (apply Bd; (· rfl); (· rfl); (· exact nxE))); (· first | exact Kz rfl rfl (hL1) (Ad An) | exact Ok.sTo (a := c :: l) (j := 1) rfl rfl rfl rfl (by simp) | exact Ok.seqT (a := [c]) (b := [43]) rfl rfl rfl (by rw [hc]) | exact Ok.slen rfl rfl | exact Ok.pe)) | ((first | apply Ca | (apply Cb; (· exact nxE))); (· first | exact Ok.e0)) | refine Sx ?_ | (refine Sy (fun h => ?_) (fun h => ?_) <;> try (exfalso; omega; done)) | refine Sz (fun h => ?_) (fun h => ?_))
        refine ⟨⟨1, by omega⟩, ?_, by simp only; omega⟩
        (apply Le.headZ [_, _] rfl)
        all_goals (try dsimp only [srcs])
        (case' hfr | hob => (repeat' (first | refine La ?_ ?_ | exact Lc | refine Lo ?_ | refine ⟨⟨_, rfl, ?_⟩, ?_⟩ | refine Lx ?_)))
        all_goals (first | ((rw [e1]; done)) | exact Ld)
      · have e1 : kdS c 1 = kdS c 0 := by simp [kdS, hc]
        repeat' (first | ((first | apply Ba | (apply Bb; (· rfl); (· rfl)) | (apply Bc; (· exact nxE)) | (apply Bd; (· rfl); (· rfl); (· exact nxE))); (· first | exact Kz rfl rfl (hL1) (Ad An) | exact Ok.sTo (a := c :: l) (j := 1) rfl rfl rfl rfl (by simp) | exact Ok.seqF (a := [c]) (b := [43]) rfl rfl rfl (by simpa using hc) | exact Ok.slen rfl rfl | exact Ok.pe)) | ((first | apply Ca | (apply Cb; (· exact nxE))); (· first | exact Ok.e0)) | refine Sx ?_ | (refine Sy (fun h => ?_) (fun h => ?_) <;> try (exfalso; omega; done)) | refine Sz (fun h => ?_) (fun h => ?_))
        refine ⟨⟨1, by omega⟩, ?_, by simp only; omega⟩
        (apply Le.headZ [_, _] rfl)
        all_goals (try dsimp only [srcs])
        (case' hfr | hob => (repeat' (first | refine La ?_ ?_ | exact Lc | refine Lo ?_ | refine ⟨⟨_, rfl, ?_⟩, ?_⟩ | refine Lx ?_)))
        all_goals (first | ((rw [e1]; done)) | exact Ld)
    · by_cases hc : c = 45
      · have e1 : kdS c 2 = 2 := by subst hc; rfl
        repeat' (first | ((first | apply Ba | (apply Bb; (· rfl); (· rfl)) | (apply Bc; (· exact nxE)) | (apply Bd; (· rfl); (· rfl); (· exact nxE))); (· first | exact Kz rfl rfl (hL2) (Ad An) | exact Ok.sTo (a := c :: l) (j := 1) rfl rfl rfl rfl (by simp) | exact Ok.seqT (a := [c]) (b := [45]) rfl rfl rfl (by rw [hc]) | exact Ok.slen rfl rfl | exact Ok.pe)) | ((first | apply Ca | (apply Cb; (· exact nxE))); (· first | exact Ok.e0)) | refine Sx ?_ | (refine Sy (fun h => ?_) (fun h => ?_) <;> try (exfalso; omega; done)) | refine Sz (fun h => ?_) (fun h => ?_))
        refine ⟨⟨2, by omega⟩, ?_, by simp only; omega⟩
        (apply Le.headZ [_, _] rfl)
        all_goals (try dsimp only [srcs])
        (case' hfr | hob => (repeat' (first | refine La ?_ ?_ | exact Lc | refine Lo ?_ | refine ⟨⟨_, rfl, ?_⟩, ?_⟩ | refine Lx ?_)))
        all_goals (first | ((rw [e1]; done)) | exact Ld)
      · have e1 : kdS c 2 = kdS c 1 := by simp [kdS, hc]
        repeat' (first | ((first | apply Ba | (apply Bb; (· rfl); (· rfl)) | (apply Bc; (· exact nxE)) | (apply Bd; (· rfl); (· rfl); (· exact nxE))); (· first | exact Kz rfl rfl (hL2) (Ad An) | exact Ok.sTo (a := c :: l) (j := 1) rfl rfl rfl rfl (by simp) | exact Ok.seqF (a := [c]) (b := [45]) rfl rfl rfl (by simpa using hc) | exact Ok.slen rfl rfl | exact Ok.pe)) | ((first | apply Ca | (apply Cb; (· exact nxE))); (· first | exact Ok.e0)) | refine Sx ?_ | (refine Sy (fun h => ?_) (fun h => ?_) <;> try (exfalso; omega; done)) | refine Sz (fun h => ?_) (fun h => ?_))
        refine ⟨⟨2, by omega⟩, ?_, by simp only; omega⟩
        (apply Le.headZ [_, _] rfl)
        all_goals (try dsimp only [srcs])
        (case' hfr | hob => (repeat' (first | refine La ?_ ?_ | exact Lc | refine Lo ?_ | refine ⟨⟨_, rfl, ?_⟩, ?_⟩ | refine Lx ?_)))
        all_goals (first | ((rw [e1]; done)) | exact Ld)
    · by_cases hc : c = 61
      · have e1 : kdS c 3 = 3 := by subst hc; rfl
        repeat' (first | ((first | apply Ba | (apply Bb; (· rfl); (· rfl)) | (apply Bc; (· exact nxE)) | (apply Bd; (· rfl); (· rfl); (· exact nxE))); (· first | exact Kz rfl rfl (hL3) (Ad An) | exact Ok.sTo (a := c :: l) (j := 1) rfl rfl rfl rfl (by simp) | exact Ok.seqT (a := [c]) (b := [61]) rfl rfl rfl (by rw [hc]) | exact Ok.slen rfl rfl | exact Ok.pe)) | ((first | apply Ca | (apply Cb; (· exact nxE))); (· first | exact Ok.e0)) | refine Sx ?_ | (refine Sy (fun h => ?_) (fun h => ?_) <;> try (exfalso; omega; done)) | refine Sz (fun h => ?_) (fun h => ?_))
        refine ⟨⟨3, by omega⟩, ?_, by simp only; omega⟩
        (apply Le.headZ [_, _] rfl)
        all_goals (try dsimp only [srcs])
        (case' hfr | hob => (repeat' (first | refine La ?_ ?_ | exact Lc | refine Lo ?_ | refine ⟨⟨_, rfl, ?_⟩, ?_⟩ | refine Lx ?_)))
        all_goals (first | ((rw [e1]; done)) | exact Ld)
      · have e1 : kdS c 3 = kdS c 2 := by simp [kdS, hc]
        repeat' (first | ((first | apply Ba | (apply Bb; (· rfl); (· rfl)) | (apply Bc; (· exact nxE)) | (apply Bd; (· rfl); (· rfl); (· exact nxE))); (· first | exact Kz rfl rfl (hL3) (Ad An) | exact Ok.sTo (a := c :: l) (j := 1) rfl rfl rfl rfl (by simp) | exact Ok.seqF (a := [c]) (b := [61]) rfl rfl rfl (by simpa using hc) | exact Ok.slen rfl rfl | exact Ok.pe)) | ((first | apply Ca | (apply Cb; (· exact nxE))); (· first | exact Ok.e0)) | refine Sx ?_ | (refine Sy (fun h => ?_) (fun h => ?_) <;> try (exfalso; omega; done)) | refine Sz (fun h => ?_) (fun h => ?_))
        refine ⟨⟨3, by omega⟩, ?_, by simp only; omega⟩
        (apply Le.headZ [_, _] rfl)
        all_goals (try dsimp only [srcs])
        (case' hfr | hob => (repeat' (first | refine La ?_ ?_ | exact Lc | refine Lo ?_ | refine ⟨⟨_, rfl, ?_⟩, ?_⟩ | refine Lx ?_)))
        all_goals (first | ((rw [e1]; done)) | exact Ld)
    generalize kdS c 3 = kd at *
    rcases hws2 with hne | ⟨a, w, rfl⟩
    · rw [seP_ne hne] at hq
      simp only [Bool.and_true] at hq
      change (e, be) = if b0 = true ∧ edT ⟨kd, d, ⟨0, 0, 0, 0⟩⟩ = c :: l then (⟨kd, d, ⟨0, 0, 0, 0⟩⟩, true) else (edZ, false) at hq
      have hT := sEditText_ac ⟨kd, d, ⟨0, 0, 0, 0⟩⟩
      generalize hx : edT ⟨kd, d, ⟨0, 0, 0, 0⟩⟩ = tx at *
      cases b0 with
      | false =>
        rw [if_neg (by simp)] at hq
        obtain ⟨rfl, rfl⟩ := Prod.mk.inj hq
        repeat' (first | ((first | apply Ba | (apply Bb; (· rfl); (· rfl)) | (apply Bc; (· exact nxE)) | (apply Bd; (· rfl); (· rfl); (· exact nxE))); (· first | exact Ok.lenD rfl rfl hwn | exact Ok.slen rfl rfl | exact Ok.pe)) | ((first | apply Ca | (apply Cb; (· exact nxE))); (· first | exact Ok.e0)) | refine Sx ?_ | (refine Sy (fun h => ?_) (fun h => ?_) <;> try (exfalso; omega; done)) | refine Sz (fun h => ?_) (fun h => ?_))
        all_goals
          refine Yb ?_
          (apply Le.headZ (hs := []) [] rfl)
          all_goals (try dsimp only [srcs])
          (case' hfr => (repeat' (first | refine La ?_ ?_ | exact Lc | refine Lo ?_ | refine ⟨⟨_, rfl, ?_⟩, ?_⟩ | refine Lx ?_)))
          all_goals (first | exact Ld | exact trivial | (rfl))
      | true =>
        by_cases htx : tx = c :: l
        · rw [if_pos ⟨rfl, htx⟩] at hq
          obtain ⟨rfl, rfl⟩ := Prod.mk.inj hq
          repeat' (first | ((first | apply Ba | (apply Bb; (· rfl); (· rfl)) | (apply Bc; (· exact nxE)) | (apply Bd; (· rfl); (· rfl); (· exact nxE))); (· first | exact Ok.lenD rfl rfl hwn | exact Kz rfl rfl (hT) (Aa (Ad (Ad (Ad (Ad (Ad (Ad An)))))) An) | exact Ok.sneF rfl rfl rfl htx | exact Ok.slen rfl rfl | exact Ok.pe)) | ((first | apply Ca | (apply Cb; (· exact nxE))); (· first | exact Ok.e0)) | refine Sx ?_ | (refine Sy (fun h => ?_) (fun h => ?_) <;> try (exfalso; omega; done)) | refine Sz (fun h => ?_) (fun h => ?_))
          all_goals
            refine Yb ?_
            (apply Le.headZ (hs := []) [] rfl)
            all_goals (try dsimp only [srcs])
            (case' hfr => (repeat' (first | refine La ?_ ?_ | exact Lc | refine Lo ?_ | refine ⟨⟨_, rfl, ?_⟩, ?_⟩ | refine Lx ?_)))
            all_goals (first | exact Ld | exact trivial | (rfl))
        · rw [if_neg (fun h => htx h.2)] at hq
          obtain ⟨rfl, rfl⟩ := Prod.mk.inj hq
          repeat' (first | ((first | apply Ba | (apply Bb; (· rfl); (· rfl)) | (apply Bc; (· exact nxE)) | (apply Bd; (· rfl); (· rfl); (· exact nxE))); (· first | exact Ok.lenD rfl rfl hwn | exact Kz rfl rfl (hT) (Aa (Ad (Ad (Ad (Ad (Ad (Ad An)))))) An) | exact Ok.sneT rfl rfl rfl htx | exact Ok.slen rfl rfl | exact Ok.pe)) | ((first | apply Ca | (apply Cb; (· exact nxE))); (· first | exact Ok.e0)) | refine Sx ?_ | (refine Sy (fun h => ?_) (fun h => ?_) <;> try (exfalso; omega; done)) | refine Sz (fun h => ?_) (fun h => ?_))
          all_goals
            refine Yb ?_
            (apply Le.headZ (hs := []) [] rfl)
            all_goals (try dsimp only [srcs])
            (case' hfr => (repeat' (first | refine La ?_ ?_ | exact Lc | refine Lo ?_ | refine ⟨⟨_, rfl, ?_⟩, ?_⟩ | refine Lx ?_)))
            all_goals (first | exact Ld | exact trivial | (rfl))
    · have hPl := hP2 a w rfl
      have e9 : seP [a, w] = r11 w := rfl
      rw [e9] at hq
      clear hP2 e9
      generalize r11 w = q3 at *
      obtain ⟨⟨pf, pt, pd, pk⟩, b2⟩ := q3
      simp only at hPl hq
      have hT := sEditText_ac ⟨kd, d, ⟨pf, pt, pd, pk⟩⟩
      generalize hx : edT ⟨kd, d, ⟨pf, pt, pd, pk⟩⟩ = tx at *
      have hb : b0 = false ∨ (b0 = true ∧ b2 = false) ∨ (b0 = true ∧ b2 = true) := by cases b0 <;> cases b2 <;> simp
      rcases hb with rfl | ⟨rfl, rfl⟩ | ⟨rfl, rfl⟩
      · rw [if_neg (by simp)] at hq
        obtain ⟨rfl, rfl⟩ := Prod.mk.inj hq
        repeat' (first | ((first | apply Ba | (apply Bb; (· rfl); (· rfl)) | (apply Bc; (· exact nxE)) | (apply Bd; (· rfl); (· rfl); (· exact nxE))); (· first | exact Ok.lenD rfl rfl hwn | exact OpOk.indexD rfl rfl rfl (by decide) rfl (by exact Nat.zero_lt_one) | exact Kz rfl rfl (hPl) (Ad An) | exact Ok.slen rfl rfl | exact Ok.pe)) | ((first | apply Ca | (apply Cb; (· exact nxE))); (· first | exact Ok.e0)) | refine Sx ?_ | (refine Sy (fun h => ?_) (fun h => ?_) <;> try (exfalso; omega; done)) | refine Sz (fun h => ?_) (fun h => ?_))
        all_goals
          refine Yb ?_
          (apply Le.headZ (hs := []) [] rfl)
          all_goals (try dsimp only [srcs])
          (case' hfr => (repeat' (first | refine La ?_ ?_ | exact Lc | refine Lo ?_ | refine ⟨⟨_, rfl, ?_⟩, ?_⟩ | refine Lx ?_)))
          all_goals (first | exact Ld | exact trivial | (rfl))
      · rw [if_neg (by simp)] at hq
        obtain ⟨rfl, rfl⟩ := Prod.mk.inj hq
        repeat' (first | ((first | apply Ba | (apply Bb; (· rfl); (· rfl)) | (apply Bc; (· exact nxE)) | (apply Bd; (· rfl); (· rfl); (· exact nxE))); (· first | exact Ok.lenD rfl rfl hwn | exact OpOk.indexD rfl rfl rfl (by decide) rfl (by exact Nat.zero_lt_one) | exact Kz rfl rfl (hPl) (Ad An) | exact Ok.slen rfl rfl | exact Ok.pe)) | ((first | apply Ca | (apply Cb; (· exact nxE))); (· first | exact Ok.e0)) | refine Sx ?_ | (refine Sy (fun h => ?_) (fun h => ?_) <;> try (exfalso; omega; done)) | refine Sz (fun h => ?_) (fun h => ?_))
        all_goals
          refine Yb ?_
          (apply Le.headZ (hs := []) [] rfl)
          all_goals (try dsimp only [srcs])
          (case' hfr => (repeat' (first | refine La ?_ ?_ | exact Lc | refine Lo ?_ | refine ⟨⟨_, rfl, ?_⟩, ?_⟩ | refine Lx ?_)))
          all_goals (first | exact Ld | exact trivial | (rfl))
      · by_cases htx : tx = c :: l
        · rw [if_pos ⟨rfl, htx⟩] at hq
          obtain ⟨rfl, rfl⟩ := Prod.mk.inj hq
          repeat' (first | ((first | apply Ba | (apply Bb; (· rfl); (· rfl)) | (apply Bc; (· exact nxE)) | (apply Bd; (· rfl); (· rfl); (· exact nxE))); (· first | exact Ok.lenD rfl rfl hwn | exact OpOk.indexD rfl rfl rfl (by decide) rfl (by exact Nat.zero_lt_one) | exact Kz rfl rfl (hPl) (Ad An) | exact Kz rfl rfl (hT) (Aa (Ad (Ad (Ad (Ad (Ad (Ad An)))))) An) | exact Ok.sneF rfl rfl rfl htx | exact Ok.slen rfl rfl | exact Ok.pe)) | ((first | apply Ca | (apply Cb; (· exact nxE))); (· first | exact Ok.e0)) | refine Sx ?_ | (refine Sy (fun h => ?_) (fun h => ?_) <;> try (exfalso; omega; done)) | refine Sz (fun h => ?_) (fun h => ?_))
          all_goals
            refine Yb ?_
            (apply Le.headZ (hs := []) [] rfl)
            all_goals (try dsimp only [srcs])
            (case' hfr => (repeat' (first | refine La ?_ ?_ | exact Lc | refine Lo ?_ | refine ⟨⟨_, rfl, ?_⟩, ?_⟩ | refine Lx ?_)))
            all_goals (first | exact Ld | exact trivial | (rfl))
        · rw [if_neg (fun h => htx h.2)] at hq
          obtain ⟨rfl, rfl⟩ := Prod.mk.inj hq
          repeat' (first | ((first | apply Ba | (apply Bb; (· rfl); (· rfl)) | (apply Bc; (· exact nxE)) | (apply Bd; (· rfl); (· rfl); (· exact nxE))); (· first | exact Ok.lenD rfl rfl hwn | exact OpOk.indexD rfl rfl rfl (by decide) rfl (by exact Nat.zero_lt_one) | exact Kz rfl rfl (hPl) (Ad An) | exact Kz rfl rfl (hT) (Aa (Ad (Ad (Ad (Ad (Ad (Ad An)))))) An) | exact Ok.sneT rfl rfl rfl htx | exact Ok.slen rfl rfl | exact Ok.pe)) | ((first | apply Ca | (apply Cb; (· exact nxE))); (· first | exact Ok.e0)) | refine Sx ?_ | (refine Sy (fun h => ?_) (fun h => ?_) <;> try (exfalso; omega; done)) | refine Sz (fun h => ?_) (fun h => ?_))
          all_goals
            refine Yb ?_
            (apply Le.headZ (hs := []) [] rfl)
            all_goals (try dsimp only [srcs])
            (case' hfr => (repeat' (first | refine La ?_ ?_ | exact Lc | refine Lo ?_ | refine ⟨⟨_, rfl, ?_⟩, ?_⟩ | refine Lx ?_)))
            all_goals (first | exact Ld | exact trivial | (rfl))
end Go.Proofs.YtofakjlamoigcaaDoor
end

section
namespace Go.Proofs.YtofakjlamoigcaaDoor
set_option linter.unusedSimpArgs false
set_option linter.unusedVariables false
open Go Go.RowKit
attribute [local irreducible] AL AD AW OpOk Le AC thenQ blockQ EndQ

/-- What InverseEdit answers. -/
def ieE (ev : Int) (xs : List Pl) (e : Ed) : Ed := if cdA ev xs e = 0 then invE xs e else edZ
theorem sInverseEdit_ac [Mode] (ev : Int) (xs : List Pl) (e : Ed) (hn : xs.length ≤ 1048576) : AC Tryd.prog 12 [grD ev xs, e.av] H0 (.tup [(ieE ev xs e).av, I (cdA ev xs e)]) H0 := by
  have hcode := sCode_ac ev xs e hn
  by_cases hz : cdA ev xs e = 0
  · have hi := sInverse_ac ev xs e hn (cdA_0 hz)
    rw [ieE, if_pos hz]
    obtain ⟨kd, ix, a, b, c, d⟩ := e
    rw [hz] at hcode ⊢
    generalize invE xs ⟨kd, ix, a, b, c, d⟩ = v at *
    obtain ⟨vk, vi, va, vb, vc, vd⟩ := v
    refine AC.of_body 0 Tryd.func12 rfl (fun l h => absurd rfl h) (fun C hC => ?_)
    have hD : ∀ l, ¬ C.D0 l := fun l h => (hC l).1 h rfl
    simp only [startFr, Tryd.ntmps12, List.length_cons, List.length_nil, Nat.reduceAdd, Nat.reduceSub, List.replicate_succ, List.replicate_zero, List.cons_append, List.nil_append]
    repeat' (first | ((first | apply Ba | (apply Bb; (· rfl); (· rfl)) | (apply Bc; (· exact nxE)) | (apply Bd; (· rfl); (· rfl); (· exact nxE))); (· first | exact Kz rfl rfl (hcode) (Aa (Ad (Ad An)) (Aa (Ad (Ad (Ad (Ad (Ad (Ad An)))))) An)) | exact Kz rfl rfl (hi) (Aa (Ad (Ad An)) (Aa (Ad (Ad (Ad (Ad (Ad (Ad An)))))) An)) | exact Ok.pe)) | ((first | apply Ca | (apply Cb; (· exact nxE))); (· first | exact Ok.e0)) | refine Sx ?_ | (refine Sy (fun h => ?_) (fun h => ?_) <;> try (exfalso; omega; done)) | refine Sz (fun h => ?_) (fun h => ?_))
    all_goals
      refine Yb ?_
      (apply Le.headZ (hs := []) [] rfl)
      all_goals (try dsimp only [srcs])
      (case' hfr => (repeat' (first | refine La ?_ ?_ | exact Lc | refine Lo ?_ | refine ⟨⟨_, rfl, ?_⟩, ?_⟩ | refine Lx ?_)))
      all_goals (first | exact Ld | exact trivial | (rfl))
  · rw [ieE, if_neg hz]
    obtain ⟨kd, ix, a, b, c, d⟩ := e
    generalize cdA ev xs ⟨kd, ix, a, b, c, d⟩ = v at *
    refine AC.of_body 0 Tryd.func12 rfl (fun l h => absurd rfl h) (fun C hC => ?_)
    have hD : ∀ l, ¬ C.D0 l := fun l h => (hC l).1 h rfl
    simp only [startFr, Tryd.ntmps12, List.length_cons, List.length_nil, Nat.reduceAdd, Nat.reduceSub, List.replicate_succ, List.replicate_zero, List.cons_append, List.nil_append]
    repeat' (first | ((first | apply Ba | (apply Bb; (· rfl); (· rfl)) | (apply Bc; (· exact nxE)) | (apply Bd; (· rfl); (· rfl); (· exact nxE))); (· first | exact Kz rfl rfl (hcode) (Aa (Ad (Ad An)) (Aa (Ad (Ad (Ad (Ad (Ad (Ad An)))))) An)) | exact Ok.pe)) | ((first | apply Ca | (apply Cb; (· exact nxE))); (· first | exact Ok.e0)) | refine Sx ?_ | (refine Sy (fun h => ?_) (fun h => ?_) <;> try (exfalso; omega; done)) | refine Sz (fun h => ?_) (fun h => ?_))
    all_goals
      refine Yb ?_
      (apply Le.headZ (hs := []) [] rfl)
      all_goals (try dsimp only [srcs])
      (case' hfr => (repeat' (first | refine La ?_ ?_ | exact Lc | refine Lo ?_ | refine ⟨⟨_, rfl, ?_⟩, ?_⟩ | refine Lx ?_)))
      all_goals (first | exact Ld | exact trivial | (rfl))
theorem iInverseEdit_ac [Mode] (ev : Int) (xs : List Pl) (e : Ed) (hn : xs.length ≤ 1048576) : AC Tryd.prog 11 [grD ev xs, e.av] H0 (.tup [(ieE ev xs e).av, I (cdA ev xs e)]) H0 := by
  have hg := iIsEventGraph_ac ev xs (by omega)
  rcases cdA_parts (ev := ev) (xs := xs) (e := e) with ⟨hz, h1, h2⟩ | ⟨hz, h1⟩ | ⟨hz, h1, h2⟩
  · have hc := iCanEdit_ac ev xs e hn (isEG_wr1 h1)
    have hi := iInverse_ac ev xs e hn h2
    rw [h1] at hg
    rw [h2] at hc
    rw [ieE, if_pos hz, hz]
    obtain ⟨kd, ix, a, b, c, d⟩ := e
    generalize invE xs ⟨kd, ix, a, b, c, d⟩ = v at *
    obtain ⟨vk, vi, va, vb, vc, vd⟩ := v
    refine AC.of_body 0 Tryd.func11 rfl (fun l h => absurd rfl h) (fun C hC => ?_)
    have hD : ∀ l, ¬ C.D0 l := fun l h => (hC l).1 h rfl
    simp only [startFr, Tryd.ntmps11, List.length_cons, List.length_nil, Nat.reduceAdd, Nat.reduceSub, List.replicate_succ, List.replicate_zero, List.cons_append, List.nil_append]
    repeat' (first | ((first | apply Ba | (apply Bb; (· rfl); (· rfl)) | (apply Bc; (· exact nxE)) | (apply Bd; (· rfl); (· rfl); (· exact nxE))); (· first | exact Kz rfl rfl (hg) (Aa (Ad (Ad An)) An) | exact Kz rfl rfl (hc) (Aa (Ad (Ad An)) (Aa (Ad (Ad (Ad (Ad (Ad (Ad An)))))) An)) | exact Kz rfl rfl (hi) (Aa (Ad (Ad An)) (Aa (Ad (Ad (Ad (Ad (Ad (Ad An)))))) An)) | exact Ok.pe)) | ((first | apply Ca | (apply Cb; (· exact nxE))); (· first | exact Ok.e0)) | refine Sx ?_ | (refine Sy (fun h => ?_) (fun h => ?_) <;> try (exfalso; omega; done)) | refine Sz (fun h => ?_) (fun h => ?_))
    all_goals
      refine Yb ?_
      (apply Le.headZ (hs := []) [] rfl)
      all_goals (try dsimp only [srcs])
      (case' hfr => (repeat' (first | refine La ?_ ?_ | exact Lc | refine Lo ?_ | refine ⟨⟨_, rfl, ?_⟩, ?_⟩ | refine Lx ?_)))
      all_goals (first | exact Ld | exact trivial | (rfl))
  · rw [h1] at hg
    rw [ieE, if_neg (by omega), hz]
    obtain ⟨kd, ix, a, b, c, d⟩ := e
    refine AC.of_body 0 Tryd.func11 rfl (fun l h => absurd rfl h) (fun C hC => ?_)
    have hD : ∀ l, ¬ C.D0 l := fun l h => (hC l).1 h rfl
    simp only [startFr, Tryd.ntmps11, List.length_cons, List.length_nil, Nat.reduceAdd, Nat.reduceSub, List.replicate_succ, List.replicate_zero, List.cons_append, List.nil_append]
    repeat' (first | ((first | apply Ba | (apply Bb; (· rfl); (· rfl)) | (apply Bc; (· exact nxE)) | (apply Bd; (· rfl); (· rfl); (· exact nxE))); (· first | exact Kz rfl rfl (hg) (Aa (Ad (Ad An)) An) | exact Ok.pe)) | ((first | apply Ca | (apply Cb; (· exact nxE))); (· first | exact Ok.e0)) | refine Sx ?_ | (refine Sy (fun h => ?_) (fun h => ?_) <;> try (exfalso; omega; done)) | refine Sz (fun h => ?_) (fun h => ?_))
    all_goals
      refine Yb ?_
      (apply Le.headZ (hs := []) [] rfl)
      all_goals (try dsimp only [srcs])
      (case' hfr => (repeat' (first | refine La ?_ ?_ | exact Lc | refine Lo ?_ | refine ⟨⟨_, rfl, ?_⟩, ?_⟩ | refine Lx ?_)))
      all_goals (first | exact Ld | exact trivial | (rfl))
  · have hc := iCanEdit_ac ev xs e hn (isEG_wr1 h1)
    rw [h1] at hg
    rw [h2] at hc
    rw [ieE, if_neg (by omega), hz]
    obtain ⟨kd, ix, a, b, c, d⟩ := e
    refine AC.of_body 0 Tryd.func11 rfl (fun l h => absurd rfl h) (fun C hC => ?_)
    have hD : ∀ l, ¬ C.D0 l := fun l h => (hC l).1 h rfl
    simp only [startFr, Tryd.ntmps11, List.length_cons, List.length_nil, Nat.reduceAdd, Nat.reduceSub, List.replicate_succ, List.replicate_zero, List.cons_append, List.nil_append]
    repeat' (first | ((first | apply Ba | (apply Bb; (· rfl); (· rfl)) | (apply Bc; (· exact nxE)) | (apply Bd; (· rfl); (· rfl); (· exact nxE))); (· first | exact Kz rfl rfl (hg) (Aa (Ad (Ad An)) An) | exact Kz rfl rfl (hc) (Aa (Ad (Ad An)) (Aa (Ad (Ad (Ad (Ad (Ad (Ad An)))))) An)) | exact Ok.pe)) | ((first | apply Ca | (apply Cb; (· exact nxE))); (· first | exact Ok.e0)) | refine Sx ?_ | (refine Sy (fun h => ?_) (fun h => ?_) <;> try (exfalso; omega; done)) | refine Sz (fun h => ?_) (fun h => ?_))
    all_goals
      refine Yb ?_
      (apply Le.headZ (hs := []) [] rfl)
      all_goals (try dsimp only [srcs])
      (case' hfr => (repeat' (first | refine La ?_ ?_ | exact Lc | refine Lo ?_ | refine ⟨⟨_, rfl, ?_⟩, ?_⟩ | refine Lx ?_)))
      all_goals (first | exact Ld | exact trivial | (rfl))
theorem iCanEditG_ac [Mode] (ev : Int) (xs : List Pl) (e : Ed) (hn : xs.length ≤ 1048576) : AC Tryd.prog 20 [grD ev xs, e.av] H0 (Bo (decide (cdA ev xs e = 0))) H0 := by
  have hg := iIsEventGraph_ac ev xs (by omega)
  rcases cdA_parts (ev := ev) (xs := xs) (e := e) with ⟨hz, h1, h2⟩ | ⟨hz, h1⟩ | ⟨hz, h1, h2⟩
  · have hc := iCanEdit_ac ev xs e hn (isEG_wr1 h1)
    rw [h1] at hg
    rw [h2] at hc
    rw [decide_eq_true hz]
    obtain ⟨kd, ix, a, b, c, d⟩ := e
    refine AC.of_body 0 Tryd.func20 rfl (fun l h => absurd rfl h) (fun C hC => ?_)
    have hD : ∀ l, ¬ C.D0 l := fun l h => (hC l).1 h rfl
    simp only [startFr, Tryd.ntmps20, List.length_cons, List.length_nil, Nat.reduceAdd, Nat.reduceSub, List.replicate_succ, List.replicate_zero, List.cons_append, List.nil_append]
    repeat' (first | ((first | apply Ba | (apply Bb; (· rfl); (· rfl)) | (apply Bc; (· exact nxE)) | (apply Bd; (· rfl); (· rfl); (· exact nxE))); (· first | exact Kz rfl rfl (hg) (Aa (Ad (Ad An)) An) | exact Kz rfl rfl (hc) (Aa (Ad (Ad An)) (Aa (Ad (Ad (Ad (Ad (Ad (Ad An)))))) An)) | exact Ok.pe)) | ((first | apply Ca | (apply Cb; (· exact nxE))); (· first | exact Ok.e0)) | refine Sx ?_ | (refine Sy (fun h => ?_) (fun h => ?_) <;> try (exfalso; omega; done)) | refine Sz (fun h => ?_) (fun h => ?_))
    all_goals
      refine Ya ?_
      (apply Le.headZ (hs := []) [] rfl)
      all_goals (try dsimp only [srcs])
      (case' hfr => (repeat' (first | refine La ?_ ?_ | exact Lc | refine Lo ?_ | refine ⟨⟨_, rfl, ?_⟩, ?_⟩ | refine Lx ?_)))
      all_goals (first | exact Ld | exact trivial | (rfl))
  · rw [h1] at hg
    rw [decide_eq_false (by omega)]
    obtain ⟨kd, ix, a, b, c, d⟩ := e
    refine AC.of_body 0 Tryd.func20 rfl (fun l h => absurd rfl h) (fun C hC => ?_)
    have hD : ∀ l, ¬ C.D0 l := fun l h => (hC l).1 h rfl
    simp only [startFr, Tryd.ntmps20, List.length_cons, List.length_nil, Nat.reduceAdd, Nat.reduceSub, List.replicate_succ, List.replicate_zero, List.cons_append, List.nil_append]
    repeat' (first | ((first | apply Ba | (apply Bb; (· rfl); (· rfl)) | (apply Bc; (· exact nxE)) | (apply Bd; (· rfl); (· rfl); (· exact nxE))); (· first | exact Kz rfl rfl (hg) (Aa (Ad (Ad An)) An) | exact Ok.pe)) | ((first | apply Ca | (apply Cb; (· exact nxE))); (· first | exact Ok.e0)) | refine Sx ?_ | (refine Sy (fun h => ?_) (fun h => ?_) <;> try (exfalso; omega; done)) | refine Sz (fun h => ?_) (fun h => ?_))
    all_goals
      refine Ya ?_
      (apply Le.headZ (hs := []) [] rfl)
      all_goals (try dsimp only [srcs])
      (case' hfr => (repeat' (first | refine La ?_ ?_ | exact Lc | refine Lo ?_ | refine ⟨⟨_, rfl, ?_⟩, ?_⟩ | refine Lx ?_)))
      all_goals (first | exact Ld | exact trivial | (rfl))
  · have hc := iCanEdit_ac ev xs e hn (isEG_wr1 h1)
    rw [h1] at hg
    rw [h2] at hc
    rw [decide_eq_false (by omega)]
    obtain ⟨kd, ix, a, b, c, d⟩ := e
    refine AC.of_body 0 Tryd.func20 rfl (fun l h => absurd rfl h) (fun C hC => ?_)
    have hD : ∀ l, ¬ C.D0 l := fun l h => (hC l).1 h rfl
    simp only [startFr, Tryd.ntmps20, List.length_cons, List.length_nil, Nat.reduceAdd, Nat.reduceSub, List.replicate_succ, List.replicate_zero, List.cons_append, List.nil_append]
    repeat' (first | ((first | apply Ba | (apply Bb; (· rfl); (· rfl)) | (apply Bc; (· exact nxE)) | (apply Bd; (· rfl); (· rfl); (· exact nxE))); (· first | exact Kz rfl rfl (hg) (Aa (Ad (Ad An)) An) | exact Kz rfl rfl (hc) (Aa (Ad (Ad An)) (Aa (Ad (Ad (Ad (Ad (Ad (Ad An)))))) An)) | exact Ok.pe)) | ((first | apply Ca | (apply Cb; (· exact nxE))); (· first | exact Ok.e0)) | refine Sx ?_ | (refine Sy (fun h => ?_) (fun h => ?_) <;> try (exfalso; omega; done)) | refine Sz (fun h => ?_) (fun h => ?_))
    all_goals
      refine Ya ?_
      (apply Le.headZ (hs := []) [] rfl)
      all_goals (try dsimp only [srcs])
      (case' hfr => (repeat' (first | refine La ?_ ?_ | exact Lc | refine Lo ?_ | refine ⟨⟨_, rfl, ?_⟩, ?_⟩ | refine Lx ?_)))
      all_goals (first | exact Ld | exact trivial | (rfl))
theorem frzAE [Mode] {P : Program} {f : FuncId} {args : List AV} {n : Nat} {c d : D} {xs : List Pl} (hc : AC P f args H0 (.tup [.agg [.d c, own1 4 n], .d d]) (hp1 (dobj 4 (xs.map Pl.row)))) (hn : xs.length = n) : AC P f args H0 (.tup [.agg [.d c, PL xs], .d d]) H0 :=
  hc.frz (ARs.tup (.cons (ARs.agg (.cons (.dd _) (.cons (AR.whole rfl trivial (by rw [List.length_map]; exact hn)) .nil))) (.cons (.dd _) .nil)))
set_option maxHeartbeats 1000000 in
theorem likeGraphsS_refl [Mode] (ev : Int) (xs : List Pl) (hn : xs.length ≤ 100000000) : AC Tryd.prog 18 [grD ev xs, grD ev xs] H0 (Bo true) H0 := by
  refine AC.of_body 0 Tryd.func18 rfl (fun l h => absurd rfl h) (fun C hC => ?_)
  have hD : ∀ l, ¬ C.D0 l := fun l h => (hC l).1 h rfl
  simp only [startFr, Tryd.ntmps18, List.length_cons, List.length_nil, Nat.reduceAdd, Nat.reduceSub, List.replicate_succ, List.replicate_zero, List.cons_append, List.nil_append]
  repeat' (first | ((first | apply Ba | (apply Bb; (· rfl); (· rfl)) | (apply Bc; (· exact nxE)) | (apply Bd; (· rfl); (· rfl); (· exact nxE))); (· first | exact Ok.pe)) | ((first | apply Ca | (apply Cb; (· exact nxE))); (· first | exact Ok.e0)) | refine Sx ?_ | (refine Sy (fun h => ?_) (fun h => ?_) <;> try (exfalso; omega; done)) | refine Sz (fun h => ?_) (fun h => ?_))
  refine AW.loop (X := {k : Nat // k ≤ xs.length}) (fun k => ⟨[Oo, Oo, Bx 2 0, Bx 2 1, Oo, I (k.1 : Nat), Oo, Oo, Oo, Oo, Oo, Oo, Oo, Oo, Oo, Oo, Oo, Oo, Oo, Oo, Oo, Oo, Oo, Oo, Oo, Oo, Oo, Oo, Oo, Oo, Oo, Oo, Oo, Oo, Oo, Oo, Oo, Oo], heapL [(⟨0, []⟩, ⟨0, []⟩, ⟨2, [[I ev, PL xs]]⟩), (⟨1, []⟩, ⟨1, []⟩, ⟨2, [[I ev, PL xs]]⟩)], 900⟩) (fun k => xs.length - k.1) ⟨0, Nat.zero_le _⟩ ?_ (fun k => ?_)
  ·
    (apply Le.headZ [_, _] rfl)
    all_goals (try dsimp only [srcs])
    (case' hfr | hob => (repeat' (first | refine La ?_ ?_ | exact Lc | refine Lo ?_ | refine ⟨⟨_, rfl, ?_⟩, ?_⟩ | refine Lx ?_)))
    all_goals (first | (rfl) | exact Ld)
  obtain ⟨k, hk⟩ := k
  simp only
  by_cases hlt : k < xs.length
  · obtain ⟨x, hx⟩ : ∃ x, xs[k]? = some x := ⟨xs[k], by simp⟩
    have hrow : (xs.map Pl.row)[((k : Nat) : Int).toNat]? = some [DI x.f, DI x.t, DI x.d, DI x.k] := row_get hx
    repeat' (first | ((first | apply Ba | (apply Bb; (· rfl); (· rfl)) | (apply Bc; (· exact nxE)) | (apply Bd; (· rfl); (· rfl); (· exact nxE))); (· first | exact Ok.pe)) | ((first | apply Ca | (apply Cb; (· exact nxE))); (· first | exact Ok.e0)) | refine Sx ?_ | (refine Sy (fun h => ?_) (fun h => ?_) <;> try (exfalso; omega; done)) | refine Sz (fun h => ?_) (fun h => ?_))
    · exact absurd rfl h
    refine ⟨⟨k + 1, by omega⟩, ?_, by simp only; omega⟩
    (apply Le.headZ [_, _] rfl)
    all_goals (try dsimp only [srcs])
    (case' hfr | hob => (repeat' (first | refine La ?_ ?_ | exact Lc | refine Lo ?_ | refine ⟨⟨_, rfl, ?_⟩, ?_⟩ | refine Lx ?_)))
    all_goals (first | (rfl) | exact Ld)
  · obtain rfl : k = xs.length := by omega
    repeat' (first | ((first | apply Ba | (apply Bb; (· rfl); (· rfl)) | (apply Bc; (· exact nxE)) | (apply Bd; (· rfl); (· rfl); (· exact nxE))); (· first | exact Ok.pe)) | ((first | apply Ca | (apply Cb; (· exact nxE))); (· first | exact Ok.e0)) | refine Sx ?_ | (refine Sy (fun h => ?_) (fun h => ?_) <;> try (exfalso; omega; done)) | refine Sz (fun h => ?_) (fun h => ?_))
    refine Ya ?_
    (apply Le.headZ (hs := []) [] rfl)
    all_goals (try dsimp only [srcs])
    (case' hfr => (repeat' (first | refine La ?_ ?_ | exact Lc | refine Lo ?_ | refine ⟨⟨_, rfl, ?_⟩, ?_⟩ | refine Lx ?_)))
    all_goals (first | exact Ld | exact trivial | (rfl))
theorem reR_yes [Mode] {s : List UInt8} (h : (reR s).2 = true) : edT (reR s).1 = s := by
  cases s with
  | nil => cases h
  | cons c l =>
    have hq : reR (c :: l) = if (reN c l).2 = true ∧ edB (reN c l).1 = true then ((reN c l).1, true) else (edZ, false) := rfl
    by_cases hc : (reN c l).2 = true ∧ edB (reN c l).1 = true
    · rw [if_pos hc] at hq
      rw [hq]
      exact re_some hc.1 hc.2
    · rw [if_neg hc] at hq
      rw [hq] at h; cases h
theorem edT_ne [Mode] {e : Ed} (h : edB e = true) : edT e ≠ [] := by
  obtain ⟨c, l, h1, _⟩ := re_ok h
  rw [h1]; exact List.cons_ne_nil c l
end Go.Proofs.YtofakjlamoigcaaDoor
end

section
namespace Go.Proofs.YtofakjlamoigcaaDoor
set_option linter.unusedSimpArgs false
set_option linter.unusedVariables false
open Go Go.RowKit
attribute [local irreducible] AL AD AW OpOk Le AC thenQ blockQ EndQ

structure Src where
  pos : Nat
  sd : Int
abbrev BR (code : List Int) : List (List D) := code.map fun b => [D.v (.int .u8 b)]
abbrev BD (code : List Int) : D := .sl 1 (BR code)
abbrev srcR (code : List Int) (s : Src) : List (List D) := [[BD code, DI s.pos, DI s.sd]]
/-- The source of the draws, in memory. -/
abbrev srcH (code : List Int) (s : Src) : Heap := hp1 (dobj 3 (srcR code s))
structure CodeOk (code : List Int) : Prop where
  len : code.length ≤ 4096
  b : ∀ b ∈ code, 0 ≤ b ∧ b ≤ 255
structure SrcOk (code : List Int) (s : Src) : Prop where
  pos : s.pos ≤ code.length
  lo : 0 ≤ s.sd
  hi : s.sd < 2147483647
def nxSd (sd : Int) : Int := (sd * 48271 + 59).tmod 2147483647
def nxt (code : List Int) (s : Src) (n : Int) : Int × Src :=
  if n ≤ 1 then (0, s) else
  match code[s.pos]? with
  | none => (((nxSd s.sd).tdiv 31).tmod n, ⟨s.pos, nxSd s.sd⟩)
  | some b => ((if n ≤ 256 ∧ (s.pos + 1) % 2 = 0 then b else (nxSd s.sd).tdiv 31 + b).tmod n, ⟨s.pos + 1, nxSd s.sd⟩)
theorem tmod_in [Mode] {a n : Int} (ha : 0 ≤ a) (hn : 0 < n) : 0 ≤ a.tmod n ∧ a.tmod n < n := by
  rw [Int.tmod_eq_emod_of_nonneg ha]
  exact ⟨Int.emod_nonneg a (by omega), Int.emod_lt_of_pos a hn⟩
theorem nxSd_in [Mode] {sd : Int} (h : 0 ≤ sd) : 0 ≤ nxSd sd ∧ nxSd sd < 2147483647 := tmod_in (by omega) (by decide)
theorem div31 [Mode] {a : Int} (h : 0 ≤ a) : 0 ≤ a.tdiv 31 ∧ a.tdiv 31 ≤ a := by
  rw [Int.tdiv_eq_ediv_of_nonneg h]; omega
theorem nxt_ok [Mode] {code : List Int} (hc : CodeOk code) {s : Src} (hs : SrcOk code s) (n : Int) : 0 ≤ (nxt code s n).1 ∧ (nxt code s n).1 ≤ max (n - 1) 0 ∧ SrcOk code (nxt code s n).2 := by
  have h1 := nxSd_in hs.lo
  have h2 := div31 h1.1
  unfold nxt
  by_cases hn : n ≤ 1
  · rw [if_pos hn]
    exact ⟨Int.le_refl 0, by simp only; omega, hs⟩
  · rw [if_neg hn]
    cases hb : code[s.pos]? with
    | none =>
      have h3 := tmod_in (n := n) h2.1 (by omega)
      exact ⟨h3.1, by simp only; omega, hs.pos, h1.1, h1.2⟩
    | some b =>
      have hp := (List.getElem?_eq_some_iff.1 hb).1
      have h4 := hc.b b (List.mem_of_getElem? hb)
      have h3 := tmod_in (a := if n ≤ 256 ∧ (s.pos + 1) % 2 = 0 then b else (nxSd s.sd).tdiv 31 + b) (n := n) (by split <;> omega) (by omega)
      exact ⟨h3.1, by simp only; omega, by simp only; omega, h1.1, h1.2⟩
set_option maxHeartbeats 2000000 in
theorem l01Next_ac [Mode] (code : List Int) (hc : CodeOk code) (s : Src) (hs : SrcOk code s) (n : Int) : AC Tryd.prog 40 [Bx 3 0, I n] (srcH code s) (I (nxt code s n).1) (srcH code (nxt code s n).2) := by
  have h1 := nxSd_in hs.lo
  have h2 := div31 h1.1
  have h3 := hs.lo
  have h4 := hs.hi
  have h5 := hs.pos
  have hl : (BR code).length = code.length := List.length_map _
  have h6 := hc.len
  unfold nxt
  obtain ⟨pos, sd⟩ := s
  simp only at h1 h2 h3 h4 h5 ⊢
  show AC _ _ _ (heapL [(⟨0, []⟩, ⟨0, []⟩, ⟨3, [[.d (BD code), I pos, I sd]]⟩)]) _ _
  by_cases hn : n ≤ 1
  · rw [if_pos hn]
    refine AC.of_body 1 Tryd.func40 rfl (fun l h => by simp [heapL, upd] at h; simp [h]) (fun C hC => ?_)
    simp only [startFr, Tryd.ntmps40, List.length_cons, List.length_nil, Nat.reduceAdd, Nat.reduceSub, List.replicate_succ, List.replicate_zero, List.cons_append, List.nil_append]
    have hD : ∀ l, C.D0 l → l = ⟨0, []⟩ := fun l h => by have := (hC l).1 h; simp [heapL, upd] at this; exact this
    repeat' (first | ((first | apply Ba | (apply Bb; (· rfl); (· rfl)) | (apply Bc; (· exact nxE)) | (apply Bd; (· rfl); (· rfl); (· exact nxE))); (· first | exact OpOk.nilCheck rfl rfl | exact Ok.rem rfl rfl rfl (by decide) | exact Ok.quo rfl rfl rfl (by decide) (by omega) (by omega) | exact Ok.convII rfl rfl Tryd.underlying2 (by rw [Tryd.underlying5]; rfl) (wrap64_id (by omega) (by omega)) | exact Ok.pe)) | ((first | apply Ca | (apply Cb; (· exact nxE))); (· first | exact Ok.e0)) | refine Sx ?_ | (refine Sy (fun h => ?_) (fun h => ?_) <;> try (exfalso; omega; done)) | refine Sz (fun h => ?_) (fun h => ?_))
    (refine end1p (by first | exact .inl rfl | exact .inr rfl) rfl (by first | exact rT rfl | exact rCA rfl rfl rfl rfl (by simp) | exact rCC rfl rfl rfl rfl rfl) ?_ (Le.head ([(⟨0, []⟩, ⟨0, []⟩, ⟨3, [[.d (BD code), I pos, I sd]]⟩)]) (by first | exact fun l h => absurd h (hD l) | (intro l h; rcases hD l h with rfl; simp [tauL]) | (intro l h; rcases hD l h with rfl | rfl <;> simp [tauL]; done) | (intro l h; rcases hD l h with rfl | rfl | rfl <;> simp [tauL])) ?_ ?_ (by simp) (by simp) (by simp [AllP]) (n' := 1000)); (· rfl)) <;> (repeat' (first | exact trivial | exact ARs.nil | refine ARs.cons ?_ ?_ | exact AR.dead _ | exact AR.dd _ | exact AR.i (by (try dsimp only); omega) | exact AR.ptr _ _ _ _ (by simp [heapL, upd]) | exact AR.own _ _ _ _ (by simp [heapL, upd]) | refine AR.ownE _ _ _ ?_ (by simp [heapL, upd]) | refine ⟨⟨_, rfl, ?_⟩, ?_⟩ | exact ObA.data | refine ObA.box ?_ | refine ObA.frE ?_ | refine ObA.dataE ?_ | refine ARs.agg ?_ | refine ARs.tup ?_ | exact AR.clo' ARs.nil ARs.nil | exact AR.clo' ARs.nil (hca _ _)))
  · rw [if_neg hn]
    unfold nxSd at *
    cases hb : code[pos]? with
    | none =>
      have hp : code.length ≤ pos := by simpa using hb
      obtain rfl : pos = code.length := by omega
      refine AC.of_body 1 Tryd.func40 rfl (fun l h => by simp [heapL, upd] at h; simp [h]) (fun C hC => ?_)
      simp only [startFr, Tryd.ntmps40, List.length_cons, List.length_nil, Nat.reduceAdd, Nat.reduceSub, List.replicate_succ, List.replicate_zero, List.cons_append, List.nil_append]
      have hD : ∀ l, C.D0 l → l = ⟨0, []⟩ := fun l h => by have := (hC l).1 h; simp [heapL, upd] at this; exact this
      repeat' (first | ((first | apply Ba | (apply Bb; (· rfl); (· rfl)) | (apply Bc; (· exact nxE)) | (apply Bd; (· rfl); (· rfl); (· exact nxE))); (· first | exact Ok.rem rfl rfl rfl (by omega) | exact OpOk.nilCheck rfl rfl | exact Ok.rem rfl rfl rfl (by decide) | exact Ok.quo rfl rfl rfl (by decide) (by omega) (by omega) | exact Ok.convII rfl rfl Tryd.underlying2 (by rw [Tryd.underlying5]; rfl) (wrap64_id (by omega) (by omega)) | exact Ok.pe)) | ((first | apply Ca | (apply Cb; (· exact nxE))); (· first | exact Ok.e0)) | refine Sx ?_ | (refine Sy (fun h => ?_) (fun h => ?_) <;> try (exfalso; omega; done)) | refine Sz (fun h => ?_) (fun h => ?_))
      (refine end1p (by first | exact .inl rfl | exact .inr rfl) rfl (by first | exact rT rfl | exact rCA rfl rfl rfl rfl (by simp) | exact rCC rfl rfl rfl rfl rfl) ?_ (Le.head ([(⟨0, []⟩, ⟨0, []⟩, ⟨3, [[.d (BD code), I code.length, I ((sd * 48271 + 59).tmod 2147483647)]]⟩)]) (by first | exact fun l h => absurd h (hD l) | (intro l h; rcases hD l h with rfl; simp [tauL]) | (intro l h; rcases hD l h with rfl | rfl <;> simp [tauL]; done) | (intro l h; rcases hD l h with rfl | rfl | rfl <;> simp [tauL])) ?_ ?_ (by simp) (by simp) (by simp [AllP]) (n' := 1000)); (· rfl)) <;> (repeat' (first | exact trivial | exact ARs.nil | refine ARs.cons ?_ ?_ | exact AR.dead _ | exact AR.dd _ | exact AR.i (by (try dsimp only); omega) | exact AR.ptr _ _ _ _ (by simp [heapL, upd]) | exact AR.own _ _ _ _ (by simp [heapL, upd]) | refine AR.ownE _ _ _ ?_ (by simp [heapL, upd]) | refine ⟨⟨_, rfl, ?_⟩, ?_⟩ | exact ObA.data | refine ObA.box ?_ | refine ObA.frE ?_ | refine ObA.dataE ?_ | refine ARs.agg ?_ | refine ARs.tup ?_ | exact AR.clo' ARs.nil ARs.nil | exact AR.clo' ARs.nil (hca _ _)))
    | some b =>
      have hp := (List.getElem?_eq_some_iff.1 hb).1
      have h7 := hc.b b (List.mem_of_getElem? hb)
      have hrow : (BR code)[((pos : Nat) : Int).toNat]? = some [D.v (.int .u8 b)] := by simp [hb]
      have hrow2 : (BR code)[((pos : Nat) : Int) + 1 - 1 |>.toNat]? = some [D.v (.int .u8 b)] := by simp [hb]
      have hm : ((pos : Int) + 1).tmod 2 = (((pos + 1) % 2 : Nat) : Int) := by rw [Int.tmod_eq_emod_of_nonneg (by omega)]; omega
      refine AC.of_body 1 Tryd.func40 rfl (fun l h => by simp [heapL, upd] at h; simp [h]) (fun C hC => ?_)
      simp only [startFr, Tryd.ntmps40, List.length_cons, List.length_nil, Nat.reduceAdd, Nat.reduceSub, List.replicate_succ, List.replicate_zero, List.cons_append, List.nil_append]
      have hD : ∀ l, C.D0 l → l = ⟨0, []⟩ := fun l h => by have := (hC l).1 h; simp [heapL, upd] at this; exact this
      repeat' (first | ((first | apply Ba | (apply Bb; (· rfl); (· rfl)) | (apply Bc; (· exact nxE)) | (apply Bd; (· rfl); (· rfl); (· exact nxE))); (· first | exact Ok.rem rfl rfl rfl (by omega) | exact OpOk.nilCheck rfl rfl | exact Ok.rem rfl rfl rfl (by decide) | exact Ok.quo rfl rfl rfl (by decide) (by omega) (by omega) | exact Ok.convII rfl rfl Tryd.underlying2 (by rw [Tryd.underlying5]; rfl) (wrap64_id (by omega) (by omega)) | exact Ok.pe)) | ((first | apply Ca | (apply Cb; (· exact nxE))); (· first | exact Ok.e0)) | refine Sx ?_ | (refine Sy (fun h => ?_) (fun h => ?_) <;> try (exfalso; omega; done)) | refine Sz (fun h => ?_) (fun h => ?_))
      all_goals
        (refine end1p (by first | exact .inl rfl | exact .inr rfl) rfl (by first | exact rT rfl | exact rCA rfl rfl rfl rfl (by simp) | exact rCC rfl rfl rfl rfl rfl) ?_ (Le.head ([(⟨0, []⟩, ⟨0, []⟩, ⟨3, [[.d (BD code), I (pos + 1 : Nat), I ((sd * 48271 + 59).tmod 2147483647)]]⟩)]) (by first | exact fun l h => absurd h (hD l) | (intro l h; rcases hD l h with rfl; simp [tauL]) | (intro l h; rcases hD l h with rfl | rfl <;> simp [tauL]; done) | (intro l h; rcases hD l h with rfl | rfl | rfl <;> simp [tauL])) ?_ ?_ (by simp) (by simp) (by simp [AllP]) (n' := 1000)); (· first | (rw [if_pos ⟨by omega, by omega⟩]; done) | (rw [if_neg (by omega)]; done) | (simp; done))) <;> (repeat' (first | exact trivial | exact ARs.nil | refine ARs.cons ?_ ?_ | exact AR.dead _ | exact AR.dd _ | exact AR.i (by (try dsimp only); omega) | exact AR.ptr _ _ _ _ (by simp [heapL, upd]) | exact AR.own _ _ _ _ (by simp [heapL, upd]) | refine AR.ownE _ _ _ ?_ (by simp [heapL, upd]) | refine ⟨⟨_, rfl, ?_⟩, ?_⟩ | exact ObA.data | refine ObA.box ?_ | refine ObA.frE ?_ | refine ObA.dataE ?_ | refine ARs.agg ?_ | refine ARs.tup ?_ | exact AR.clo' ARs.nil ARs.nil | exact AR.clo' ARs.nil (hca _ _)))
def pick (code : List Int) (s : Src) (xs : List Int) : Int := (xs[(nxt code s xs.length).1.toNat]?).getD 0
set_option maxHeartbeats 2000000 in
/-- One of some numbers. -/
theorem l01Pick_ac [Mode] (code : List Int) (hc : CodeOk code) (s : Src) (hs : SrcOk code s) (xs : List Int) (h0 : 0 < xs.length) (hx : xs.length ≤ 100) : AC Tryd.prog 62 [Bx 3 0, .own 1 ⟨1, []⟩ 0 xs.length] (upd (upd H0 ⟨1, []⟩ (some (IO xs))) ⟨0, []⟩ (some (dobj 3 (srcR code s)))) (I (pick code s xs)) (srcH code (nxt code s xs.length).2) := by
  have hN := l01Next_ac code hc s hs xs.length
  obtain ⟨b1, b2, b3⟩ := nxt_ok hc hs xs.length
  unfold pick
  generalize nxt code s xs.length = q at *
  obtain ⟨i, s'⟩ := q
  simp only at *
  obtain ⟨j, rfl⟩ : ∃ j : Nat, i = j := ⟨i.toNat, by omega⟩
  obtain ⟨v, hv⟩ : ∃ v, xs[j]? = some v := ⟨xs[j]'(by omega), List.getElem?_eq_getElem (by omega)⟩
  have hcell : (IR xs)[j]? = some [DI v] := by simp [hv]
  rw [show ((j : Int)).toNat = j from Int.toNat_natCast j, hv]
  show AC _ _ _ (heapL [(⟨0, []⟩, ⟨0, []⟩, ⟨3, [[.d (BD code), I s.pos, I s.sd]]⟩), (⟨1, []⟩, ⟨1, []⟩, IO xs)]) (I v) _
  refine AC.of_body 2 Tryd.func62 rfl (fun l h => by simp [heapL, upd] at h; (repeat' split at h) <;> simp_all) (fun C hC => ?_)
  simp only [startFr, Tryd.ntmps62, List.length_cons, List.length_nil, Nat.reduceAdd, Nat.reduceSub, List.replicate_succ, List.replicate_zero, List.cons_append, List.nil_append]
  have hD : ∀ l, C.D0 l → l = ⟨0, []⟩ ∨ l = ⟨1, []⟩ := fun l h => by have := (hC l).1 h; simp [heapL, upd] at this; (repeat' split at this) <;> simp_all
  repeat' (first | ((first | apply Ba | (apply Bb; (· rfl); (· rfl)) | (apply Bc; (· exact nxE)) | (apply Bd; (· rfl); (· rfl); (· exact nxE))); (· first | exact Ok.ld1 rfl rfl rfl hcell | exact OpOk.nilCheck rfl rfl | exact Ok.rem rfl rfl rfl (by decide) | exact Ok.quo rfl rfl rfl (by decide) (by omega) (by omega) | exact Ok.convII rfl rfl Tryd.underlying2 (by rw [Tryd.underlying5]; rfl) (wrap64_id (by omega) (by omega)) | exact OpOk.callM rfl rfl hN rfl rfl (.cons (AR.ptr _ _ _ _ rfl) (.cons (.dd _) .nil)) | exact Ok.pe)) | ((first | apply Ca | (apply Cb; (· exact nxE))); (· first | exact OpOk.callM rfl rfl hN rfl rfl (.cons (AR.ptr _ _ _ _ rfl) (.cons (.dd _) .nil)) | exact Ok.e0)) | refine Sx ?_ | (refine Sy (fun h => ?_) (fun h => ?_) <;> try (exfalso; omega; done)) | refine Sz (fun h => ?_) (fun h => ?_))
  (refine end1p (by first | exact .inl rfl | exact .inr rfl) rfl (by first | exact rT rfl | exact rCA rfl rfl rfl rfl (by simp) | exact rCC rfl rfl rfl rfl rfl) ?_ (Le.head ([(⟨0, []⟩, ⟨0, []⟩, ⟨3, [[.d (BD code), I s'.pos, I s'.sd]]⟩)]) (by first | exact fun l h => absurd h (hD l) | (intro l h; rcases hD l h with rfl; simp [tauL]) | (intro l h; rcases hD l h with rfl | rfl <;> simp [tauL]; done) | (intro l h; rcases hD l h with rfl | rfl | rfl <;> simp [tauL])) ?_ ?_ (by simp) (by simp) (by simp [AllP]) (n' := 1000)); (· rfl)) <;> (repeat' (first | exact trivial | exact ARs.nil | refine ARs.cons ?_ ?_ | exact AR.dead _ | exact AR.dd _ | exact AR.i (by (try dsimp only); omega) | exact AR.ptr _ _ _ _ (by simp [heapL, upd]) | exact AR.own _ _ _ _ (by simp [heapL, upd]) | refine AR.ownE _ _ _ ?_ (by simp [heapL, upd]) | refine ⟨⟨_, rfl, ?_⟩, ?_⟩ | exact ObA.data | refine ObA.box ?_ | refine ObA.frE ?_ | refine ObA.dataE ?_ | refine ARs.agg ?_ | refine ARs.tup ?_ | exact AR.clo' ARs.nil ARs.nil | exact AR.clo' ARs.nil (hca _ _)))
def sdF (code : List Int) (k : Nat) : Int := (code.take k).foldl (fun sd b => (sd * 67 + b).tmod 2147483647) 61403
theorem sdF_in [Mode] {code : List Int} (hc : CodeOk code) : ∀ k, k ≤ code.length → 0 ≤ sdF code k ∧ sdF code k < 2147483647
  | 0, _ => by simp [sdF]
  | k + 1, hk => by
    have ih := sdF_in hc k (by omega)
    have hb := hc.b code[k] (List.getElem_mem _)
    have e : sdF code (k + 1) = (sdF code k * 67 + code[k]).tmod 2147483647 := by
      unfold sdF; rw [List.take_succ_eq_append_getElem (by omega), List.foldl_append]; rfl
    rw [e]
    exact tmod_in (by omega) (by decide)
theorem sdF_succ [Mode] {code : List Int} {k : Nat} {b : Int} (h : code[k]? = some b) : sdF code (k + 1) = (sdF code k * 67 + b).tmod 2147483647 := by
  obtain ⟨hk, rfl⟩ := List.getElem?_eq_some_iff.1 h
  unfold sdF; rw [List.take_succ_eq_append_getElem hk, List.foldl_append]; rfl
def src0 (code : List Int) : Src := ⟨0, sdF code (min code.length 64)⟩
theorem src0_ok [Mode] {code : List Int} (hc : CodeOk code) : SrcOk code (src0 code) := ⟨Nat.zero_le _, (sdF_in hc _ (by omega)).1, (sdF_in hc _ (by omega)).2⟩
set_option maxHeartbeats 2000000 in
theorem l01From_ac [Mode] (code : List Int) (hc : CodeOk code) : AC Tryd.prog 31 [.d (BD code)] H0 (Bx 3 0) (srcH code (src0 code)) := by
  have hl : (BR code).length = code.length := List.length_map _
  have h6 := hc.len
  refine AC.of_body 0 Tryd.func31 rfl (fun l h => absurd rfl h) (fun C hC => ?_)
  have hD : ∀ l, ¬ C.D0 l := fun l h => (hC l).1 h rfl
  simp only [startFr, Tryd.ntmps31, List.length_cons, List.length_nil, Nat.reduceAdd, Nat.reduceSub, List.replicate_succ, List.replicate_zero, List.cons_append, List.nil_append]
  repeat' (first | ((first | apply Ba | (apply Bb; (· rfl); (· rfl)) | (apply Bc; (· exact nxE)) | (apply Bd; (· rfl); (· rfl); (· exact nxE))); (· first | exact OpOk.nilCheck rfl rfl | exact Ok.rem rfl rfl rfl (by decide) | exact Ok.quo rfl rfl rfl (by decide) (by omega) (by omega) | exact Ok.convII rfl rfl Tryd.underlying2 (by rw [Tryd.underlying5]; rfl) (wrap64_id (by omega) (by omega)) | exact Ok.pe)) | ((first | apply Ca | (apply Cb; (· exact nxE))); (· first | exact Ok.e0)) | refine Sx ?_ | (refine Sy (fun h => ?_) (fun h => ?_) <;> try (exfalso; omega; done)) | refine Sz (fun h => ?_) (fun h => ?_))
  refine AW.loop (X := {k : Nat // k ≤ min code.length 64}) (fun k => ⟨[.d (BD code), Oo, Oo, Bx 3 0, I (k.1 : Nat), Oo, Oo, Oo, Oo, Oo, Oo, Oo, Oo, Oo, Oo, Oo, Oo, Oo, Oo, Oo, Oo, Oo, Oo, Oo, Oo, Oo, Oo, Oo, Oo, Oo, Oo, Oo, Oo, Oo], heapL [(⟨0, []⟩, ⟨0, []⟩, ⟨3, [[.d (BD code), I 0, I (sdF code k.1)]]⟩)], 900⟩) (fun k => min code.length 64 - k.1) ⟨0, Nat.zero_le _⟩ ?_ (fun k => ?_)
  ·
    (apply Le.headZ [_] rfl)
    all_goals (try dsimp only [srcs])
    (case' hfr | hob => (repeat' (first | refine La ?_ ?_ | exact Lc | refine Lo ?_ | refine ⟨⟨_, rfl, ?_⟩, ?_⟩ | refine Lx ?_)))
    all_goals (first | (rfl) | exact Ld)
  obtain ⟨k, hk⟩ := k
  simp only
  by_cases hlt : k < min code.length 64
  · obtain ⟨b, hb⟩ : ∃ b, code[k]? = some b := ⟨code[k]'(by omega), List.getElem?_eq_getElem (by omega)⟩
    have hrow : (BR code)[((k : Nat) : Int).toNat]? = some [D.v (.int .u8 b)] := by simp [hb]
    have h7 := hc.b b (List.mem_of_getElem? hb)
    have h8 := sdF_in hc k (by omega)
    have h9 := sdF_succ hb
    repeat' (first | ((first | apply Ba | (apply Bb; (· rfl); (· rfl)) | (apply Bc; (· exact nxE)) | (apply Bd; (· rfl); (· rfl); (· exact nxE))); (· first | exact OpOk.nilCheck rfl rfl | exact Ok.rem rfl rfl rfl (by decide) | exact Ok.quo rfl rfl rfl (by decide) (by omega) (by omega) | exact Ok.convII rfl rfl Tryd.underlying2 (by rw [Tryd.underlying5]; rfl) (wrap64_id (by omega) (by omega)) | exact Ok.pe)) | ((first | apply Ca | (apply Cb; (· exact nxE))); (· first | exact Ok.e0)) | refine Sx ?_ | (refine Sy (fun h => ?_) (fun h => ?_) <;> try (exfalso; omega; done)) | refine Sz (fun h => ?_) (fun h => ?_))
    refine ⟨⟨k + 1, by omega⟩, ?_, by simp only; omega⟩
    (apply Le.headZ [_] rfl)
    all_goals (try dsimp only [srcs])
    (case' hfr | hob => (repeat' (first | refine La ?_ ?_ | exact Lc | refine Lo ?_ | refine ⟨⟨_, rfl, ?_⟩, ?_⟩ | refine Lx ?_)))
    all_goals (first | ((rw [h9]; done)) | exact Ld)
  · obtain rfl : k = min code.length 64 := by omega
    repeat' (first | ((first | apply Ba | (apply Bb; (· rfl); (· rfl)) | (apply Bc; (· exact nxE)) | (apply Bd; (· rfl); (· rfl); (· exact nxE))); (· first | exact OpOk.nilCheck rfl rfl | exact Ok.rem rfl rfl rfl (by decide) | exact Ok.quo rfl rfl rfl (by decide) (by omega) (by omega) | exact Ok.convII rfl rfl Tryd.underlying2 (by rw [Tryd.underlying5]; rfl) (wrap64_id (by omega) (by omega)) | exact Ok.pe)) | ((first | apply Ca | (apply Cb; (· exact nxE))); (· first | exact Ok.e0)) | refine Sx ?_ | (refine Sy (fun h => ?_) (fun h => ?_) <;> try (exfalso; omega; done)) | refine Sz (fun h => ?_) (fun h => ?_))
    all_goals
      refine Ya ?_
      (apply Le.head [(⟨0, []⟩, _, _)])
      (case' hfr | hob => (repeat' (first | refine La ?_ ?_ | exact Lc | refine Lo ?_ | refine ⟨⟨_, rfl, ?_⟩, ?_⟩ | refine Lx ?_)))
      all_goals (first | exact Ld | (rfl))
end Go.Proofs.YtofakjlamoigcaaDoor
end
