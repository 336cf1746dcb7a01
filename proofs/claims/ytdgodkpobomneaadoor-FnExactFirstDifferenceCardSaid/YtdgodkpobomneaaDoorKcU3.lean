/-
  Walks in the abstract reading, part 3.
-/
import Derived.Test.YtdgodkpobomneaaDoorKcU2
import Derived.Test.YtdgodkpobomneaaDoorKcA3
section
namespace Go.Proofs.YtdgodkpobomneaaDoor
set_option linter.unusedSimpArgs false
set_option linter.unusedVariables false
open Go Go.RowKit
attribute [local irreducible] AL AD AW OpOk Le AC thenQ blockQ EndQ

theorem u8s [Mode] {x : Nat} (h0 : 48 ≤ x) (h1 : x < 256) : IntKind.i64.wrap (IntKind.u8.wrap ((x : Int) - 48)) = ((x - 48 : Nat) : Int) := by
  have e : IntKind.u8.wrap ((x : Int) - 48) = ((x - 48 : Nat) : Int) := by
    unfold IntKind.wrap
    simp [IntKind.signed, IntKind.bits]
    omega
  rw [e]
  exact wrap64_id (by omega) (by omega)
theorem digN_len [Mode] {l : List UInt8} (h : l.length < 1 ∨ 10 < l.length) : digN l = (0, false) := by rw [digN, if_pos h]
theorem digN_bad [Mode] {l : List UInt8} {x : UInt8} (hx : x ∈ l) (h : ¬ (48 ≤ x.toNat ∧ x.toNat ≤ 57)) : digN l = (0, false) := by
  unfold digN
  split
  · rfl
  · rw [if_neg (fun ha => h (ha x hx))]
theorem digN_all [Mode] {l : List UInt8} (h : ¬ (l.length < 1 ∨ 10 < l.length)) (ha : ∀ c ∈ l, 48 ≤ c.toNat ∧ c.toNat ≤ 57) : digN l = ((dgA l : Int), decide (dec (dgA l) = l)) := by
  rw [digN, if_neg h, if_pos ha]
set_option maxHeartbeats 2000000 in
theorem l01Digits_ac [Mode] (l : List UInt8) (hl : l.length ≤ 100000000) : AC Tryd.prog 47 [Str l] H0 (.tup [I (digN l).1, Bo (digN l).2]) H0 := by
  by_cases hlen : l.length < 1 ∨ 10 < l.length
  · rw [digN_len hlen]
    refine AC.of_body 0 Tryd.func47 rfl (fun l h => absurd rfl h) (fun C hC => ?_)
    have hD : ∀ l, ¬ C.D0 l := fun l h => (hC l).1 h rfl
    simp only [startFr, Tryd.ntmps47, List.length_cons, List.length_nil, Nat.reduceAdd, Nat.reduceSub, List.replicate_succ, List.replicate_zero, List.cons_append, List.nil_append]
    repeat' (first | ((first | apply Ba | (apply Bb; (· rfl); (· rfl)) | (apply Bc; (· exact nxE)) | (apply Bd; (· rfl); (· rfl); (· exact nxE))); (· first | exact Ok.seqS rfl rfl rfl | exact Ok.sneS rfl rfl rfl | exact Ok.slen rfl rfl | exact Ok.pe)) | ((first | apply Ca | (apply Cb; (· exact nxE))); (· first | exact Ok.e0)) | refine Sx ?_ | (refine Sy (fun h => ?_) (fun h => ?_) <;> try (exfalso; omega; done)) | refine Sz (fun h => ?_) (fun h => ?_))
    all_goals
      refine Yb ?_
      (apply Le.headZ (hs := []) [] rfl)
      all_goals (try dsimp only [srcs])
      (case' hfr => (repeat' (first | refine La ?_ ?_ | exact Lc | refine Lo ?_ | refine ⟨⟨_, rfl, ?_⟩, ?_⟩ | refine Lx ?_)))
      all_goals (first | exact Ld | exact trivial | (rfl))
  have hl10 : 10 ^ l.length ≤ 10 ^ 10 := Nat.pow_le_pow_right (by decide) (by omega)
  refine AC.of_body 0 Tryd.func47 rfl (fun l h => absurd rfl h) (fun C hC => ?_)
  have hD : ∀ l, ¬ C.D0 l := fun l h => (hC l).1 h rfl
  simp only [startFr, Tryd.ntmps47, List.length_cons, List.length_nil, Nat.reduceAdd, Nat.reduceSub, List.replicate_succ, List.replicate_zero, List.cons_append, List.nil_append]
  repeat' (first | ((first | apply Ba | (apply Bb; (· rfl); (· rfl)) | (apply Bc; (· exact nxE)) | (apply Bd; (· rfl); (· rfl); (· exact nxE))); (· first | exact Ok.seqS rfl rfl rfl | exact Ok.sneS rfl rfl rfl | exact Ok.slen rfl rfl | exact Ok.pe)) | ((first | apply Ca | (apply Cb; (· exact nxE))); (· first | exact Ok.e0)) | refine Sx ?_ | (refine Sy (fun h => ?_) (fun h => ?_) <;> try (exfalso; omega; done)) | refine Sz (fun h => ?_) (fun h => ?_))
  refine AW.loop (X := {k : Nat // k ≤ l.length ∧ ∀ c ∈ l.take k, 48 ≤ c.toNat ∧ c.toNat ≤ 57}) (fun k => ⟨[Str l, Oo, Oo, Oo, I (dgA (l.take (k.1 : Nat)) : Nat), I (k.1 : Nat), Oo, Oo, Oo, Oo, Oo, Oo, Oo, Oo, Oo, Oo, Oo, Oo, Oo, Oo, Oo, Oo, Oo, Oo, Oo, Oo, Oo, Oo, Oo, Oo, Oo, Oo, Oo, Oo, Oo, Oo, Oo, Oo, Oo, Oo, Oo, Oo, Oo], heapL [], 900⟩) (fun k => l.length - k.1) ⟨0, Nat.zero_le _, by simp⟩ ?_ (fun k => ?_)
  ·
    (apply Le.headZ [] rfl)
    all_goals (try dsimp only [srcs])
    (case' hfr | hob => (repeat' (first | refine La ?_ ?_ | exact Lc | refine Lo ?_ | refine ⟨⟨_, rfl, ?_⟩, ?_⟩ | refine Lx ?_)))
    all_goals (first | (rfl) | exact Ld)
  obtain ⟨k, hk, hall⟩ := k
  simp only
  by_cases hlt : k < l.length
  · obtain ⟨x, hx⟩ : ∃ x, l[k]? = some x := ⟨l[k], List.getElem?_eq_getElem hlt⟩
    have hx' : l[((k : Nat) : Int).toNat]? = some x := by rw [Int.toNat_natCast]; exact hx
    have htk : l.take (k + 1) = l.take k ++ [x] := by rw [List.take_add_one, hx]; rfl
    have hxl : x.toNat < 256 := x.toNat_lt
    have hb1 := dgA_lt (l.take k) (fun c hc => (hall c hc).2)
    have hb2 : 10 ^ (l.take k).length ≤ 10 ^ 9 := Nat.pow_le_pow_right (by decide) (by simp; omega)
    by_cases hd : 48 ≤ x.toNat ∧ x.toNat ≤ 57
    · have hcv := u8s hd.1 hxl
      have hs : dgA (l.take (k + 1)) = 10 * dgA (l.take k) + (x.toNat - 48) := by rw [htk, dgA_snoc]
      have hsI : ((dgA (l.take (k + 1)) : Nat) : Int) = 10 * (dgA (l.take k) : Int) + ((x.toNat - 48 : Nat) : Int) := by rw [hs]; omega
      repeat' (first | ((first | apply Ba | (apply Bb; (· rfl); (· rfl)) | (apply Bc; (· exact nxE)) | (apply Bd; (· rfl); (· rfl); (· exact nxE))); (· first | exact Ok.sidx rfl rfl rfl (by omega) hx' | exact Ok.convII rfl rfl Tryd.underlying2 (by rw [Tryd.underlying5]; rfl) hcv | exact Ok.seqS rfl rfl rfl | exact Ok.sneS rfl rfl rfl | exact Ok.slen rfl rfl | exact Ok.pe)) | ((first | apply Ca | (apply Cb; (· exact nxE))); (· first | exact Ok.e0)) | refine Sx ?_ | (refine Sy (fun h => ?_) (fun h => ?_) <;> try (exfalso; omega; done)) | refine Sz (fun h => ?_) (fun h => ?_))
      refine ⟨⟨k + 1, by omega, by rw [htk]; intro c hc; rcases List.mem_append.1 hc with h | h; (· exact hall c h); (· rw [List.mem_singleton.1 h]; exact hd)⟩, ?_, by simp only; omega⟩
      (apply Le.headZ [] rfl)
      all_goals (try dsimp only [srcs])
      (case' hfr | hob => (repeat' (first | refine La ?_ ?_ | exact Lc | refine Lo ?_ | refine ⟨⟨_, rfl, ?_⟩, ?_⟩ | refine Lx ?_)))
      all_goals (first | ((first | (rw [hsI]; done) | omega)) | exact Ld)
    · rw [digN_bad (List.mem_of_getElem? hx) hd]
      repeat' (first | ((first | apply Ba | (apply Bb; (· rfl); (· rfl)) | (apply Bc; (· exact nxE)) | (apply Bd; (· rfl); (· rfl); (· exact nxE))); (· first | exact Ok.sidx rfl rfl rfl (by omega) hx' | exact Ok.seqS rfl rfl rfl | exact Ok.sneS rfl rfl rfl | exact Ok.slen rfl rfl | exact Ok.pe)) | ((first | apply Ca | (apply Cb; (· exact nxE))); (· first | exact Ok.e0)) | refine Sx ?_ | (refine Sy (fun h => ?_) (fun h => ?_) <;> try (exfalso; omega; done)) | refine Sz (fun h => ?_) (fun h => ?_))
      all_goals first
        | (exfalso; omega)
        | skip
      all_goals
        refine Yb ?_
        (apply Le.headZ (hs := []) [] rfl)
        all_goals (try dsimp only [srcs])
        (case' hfr => (repeat' (first | refine La ?_ ?_ | exact Lc | refine Lo ?_ | refine ⟨⟨_, rfl, ?_⟩, ?_⟩ | refine Lx ?_)))
        all_goals (first | exact Ld | exact trivial | (rfl))
  ·
    obtain rfl : k = l.length := by omega
    rw [List.take_length] at hall ⊢
    rw [digN_all hlen hall]
    have hb := dgA_lt l (fun c hc => (hall c hc).2)
    have hDg := l01Dec_ac (dgA l) (by omega)
    repeat' (first | ((first | apply Ba | (apply Bb; (· rfl); (· rfl)) | (apply Bc; (· exact nxE)) | (apply Bd; (· rfl); (· rfl); (· exact nxE))); (· first | exact Kz rfl rfl (hDg) (Ad An) | exact Ok.seqS rfl rfl rfl | exact Ok.sneS rfl rfl rfl | exact Ok.slen rfl rfl | exact Ok.pe)) | ((first | apply Ca | (apply Cb; (· exact nxE))); (· first | exact Ok.e0)) | refine Sx ?_ | (refine Sy (fun h => ?_) (fun h => ?_) <;> try (exfalso; omega; done)) | refine Sz (fun h => ?_) (fun h => ?_))
    refine Yb ?_
    (apply Le.headZ (hs := []) [] rfl)
    all_goals (try dsimp only [srcs])
    (case' hfr => (repeat' (first | refine La ?_ ?_ | exact Lc | refine Lo ?_ | refine ⟨⟨_, rfl, ?_⟩, ?_⟩ | refine Lx ?_)))
    all_goals (first | exact Ld | exact trivial | (rfl))
theorem l01Signed_ac [Mode] (l : List UInt8) (hl : l.length ≤ 100000000) : AC Tryd.prog 77 [Str l] H0 (.tup [I (sgN l).1, Bo (sgN l).2]) H0 := by
  match l with
  | [] =>
    have hDg := l01Digits_ac [] (by simp)
    refine AC.of_body 0 Tryd.func77 rfl (fun l h => absurd rfl h) (fun C hC => ?_)
    have hD : ∀ l, ¬ C.D0 l := fun l h => (hC l).1 h rfl
    simp only [startFr, Tryd.ntmps77, List.length_cons, List.length_nil, Nat.reduceAdd, Nat.reduceSub, List.replicate_succ, List.replicate_zero, List.cons_append, List.nil_append]
    repeat' (first | ((first | apply Ba | (apply Bb; (· rfl); (· rfl)) | (apply Bc; (· exact nxE)) | (apply Bd; (· rfl); (· rfl); (· exact nxE))); (· first | exact Kz rfl rfl (hDg) (Ad An) | exact Ok.seqS rfl rfl rfl | exact Ok.sneS rfl rfl rfl | exact Ok.slen rfl rfl | exact Ok.pe)) | ((first | apply Ca | (apply Cb; (· exact nxE))); (· first | exact Ok.e0)) | refine Sx ?_ | (refine Sy (fun h => ?_) (fun h => ?_) <;> try (exfalso; omega; done)) | refine Sz (fun h => ?_) (fun h => ?_))
    refine Yb ?_
    (apply Le.headZ (hs := []) [] rfl)
    all_goals (try dsimp only [srcs])
    (case' hfr => (repeat' (first | refine La ?_ ?_ | exact Lc | refine Lo ?_ | refine ⟨⟨_, rfl, ?_⟩, ?_⟩ | refine Lx ?_)))
    all_goals (first | exact Ld | exact trivial | (rfl))
  | x :: r =>
    have h0 := digN_nonneg r
    have h1 := digN_lt r
    have hc1 : (x :: r).length = r.length + 1 := rfl
    by_cases hx : x = 45
    · subst hx
      have hDg := l01Digits_ac r (by simp at hl; omega)
      have e : sgN (45 :: r) = (-(digN r).1, (digN r).2 && decide (0 < (digN r).1)) := rfl
      rw [e]
      generalize digN r = q at *
      obtain ⟨q1, q2⟩ := q
      simp only at *
      cases q2
      ·
        refine AC.of_body 0 Tryd.func77 rfl (fun l h => absurd rfl h) (fun C hC => ?_)
        have hD : ∀ l, ¬ C.D0 l := fun l h => (hC l).1 h rfl
        simp only [startFr, Tryd.ntmps77, List.length_cons, List.length_nil, Nat.reduceAdd, Nat.reduceSub, List.replicate_succ, List.replicate_zero, List.cons_append, List.nil_append]
        repeat' (first | ((first | apply Ba | (apply Bb; (· rfl); (· rfl)) | (apply Bc; (· exact nxE)) | (apply Bd; (· rfl); (· rfl); (· exact nxE))); (· first | exact Ok.sidx (a := 45 :: r) (c := 45) rfl rfl rfl (by decide) rfl | exact Ok.sFrom (a := 45 :: r) (j := 1) rfl rfl rfl rfl (by simp) | exact Kz rfl rfl (hDg) (Ad An) | exact Ok.seqS rfl rfl rfl | exact Ok.sneS rfl rfl rfl | exact Ok.slen rfl rfl | exact Ok.pe)) | ((first | apply Ca | (apply Cb; (· exact nxE))); (· first | exact Ok.e0)) | refine Sx ?_ | (refine Sy (fun h => ?_) (fun h => ?_) <;> try (exfalso; omega; done)) | refine Sz (fun h => ?_) (fun h => ?_))
        refine Yb ?_
        (apply Le.headZ (hs := []) [] rfl)
        all_goals (try dsimp only [srcs])
        (case' hfr => (repeat' (first | refine La ?_ ?_ | exact Lc | refine Lo ?_ | refine ⟨⟨_, rfl, ?_⟩, ?_⟩ | refine Lx ?_)))
        all_goals (first | exact Ld | exact trivial | (rfl))
      ·
        refine AC.of_body 0 Tryd.func77 rfl (fun l h => absurd rfl h) (fun C hC => ?_)
        have hD : ∀ l, ¬ C.D0 l := fun l h => (hC l).1 h rfl
        simp only [startFr, Tryd.ntmps77, List.length_cons, List.length_nil, Nat.reduceAdd, Nat.reduceSub, List.replicate_succ, List.replicate_zero, List.cons_append, List.nil_append]
        repeat' (first | ((first | apply Ba | (apply Bb; (· rfl); (· rfl)) | (apply Bc; (· exact nxE)) | (apply Bd; (· rfl); (· rfl); (· exact nxE))); (· first | exact Ok.sidx (a := 45 :: r) (c := 45) rfl rfl rfl (by decide) rfl | exact Ok.sFrom (a := 45 :: r) (j := 1) rfl rfl rfl rfl (by simp) | exact Kz rfl rfl (hDg) (Ad An) | exact Ok.seqS rfl rfl rfl | exact Ok.sneS rfl rfl rfl | exact Ok.slen rfl rfl | exact Ok.pe)) | ((first | apply Ca | (apply Cb; (· exact nxE))); (· first | exact Ok.e0)) | refine Sx ?_ | (refine Sy (fun h => ?_) (fun h => ?_) <;> try (exfalso; omega; done)) | refine Sz (fun h => ?_) (fun h => ?_))
        refine Yb ?_
        (apply Le.headZ (hs := []) [] rfl)
        all_goals (try dsimp only [srcs])
        (case' hfr => (repeat' (first | refine La ?_ ?_ | exact Lc | refine Lo ?_ | refine ⟨⟨_, rfl, ?_⟩, ?_⟩ | refine Lx ?_)))
        all_goals (first | exact Ld | exact trivial | (rfl))
    · have hDg := l01Digits_ac (x :: r) hl
      have e : sgN (x :: r) = digN (x :: r) := by rw [sgN, if_neg (by simpa using hx)]
      rw [e]
      have hne : ¬ ((x.toNat : Int) = 45) := fun e => hx (UInt8.toNat_inj.1 (by simpa using (by omega : x.toNat = 45)))
      refine AC.of_body 0 Tryd.func77 rfl (fun l h => absurd rfl h) (fun C hC => ?_)
      have hD : ∀ l, ¬ C.D0 l := fun l h => (hC l).1 h rfl
      simp only [startFr, Tryd.ntmps77, List.length_cons, List.length_nil, Nat.reduceAdd, Nat.reduceSub, List.replicate_succ, List.replicate_zero, List.cons_append, List.nil_append]
      repeat' (first | ((first | apply Ba | (apply Bb; (· rfl); (· rfl)) | (apply Bc; (· exact nxE)) | (apply Bd; (· rfl); (· rfl); (· exact nxE))); (· first | exact Ok.sidx (a := x :: r) (c := x) rfl rfl rfl (by decide) rfl | exact Kz rfl rfl (hDg) (Ad An) | exact Ok.seqS rfl rfl rfl | exact Ok.sneS rfl rfl rfl | exact Ok.slen rfl rfl | exact Ok.pe)) | ((first | apply Ca | (apply Cb; (· exact nxE))); (· first | exact Ok.e0)) | refine Sx ?_ | (refine Sy (fun h => ?_) (fun h => ?_) <;> try (exfalso; omega; done)) | refine Sz (fun h => ?_) (fun h => ?_))
      refine Yb ?_
      (apply Le.headZ (hs := []) [] rfl)
      all_goals (try dsimp only [srcs])
      (case' hfr => (repeat' (first | refine La ?_ ?_ | exact Lc | refine Lo ?_ | refine ⟨⟨_, rfl, ?_⟩, ?_⟩ | refine Lx ?_)))
      all_goals (first | exact Ld | exact trivial | (rfl))
set_option maxHeartbeats 2000000 in
theorem l01Numbers_yes [Mode] (ws : List (List UInt8)) (hw : ws.length ≤ 1000000) (hl : ∀ w ∈ ws, w.length ≤ 100000000) (h : ∀ w ∈ ws, (sgN w).2 = true) : AC Tryd.prog 66 [SL ws] H0 (.tup [own1 1 ws.length, Bo true]) (hp1 (IO (ws.map fun w => (sgN w).1))) := by
  refine AC.of_body 0 Tryd.func66 rfl (fun l h => absurd rfl h) (fun C hC => ?_)
  have hD : ∀ l, ¬ C.D0 l := fun l h => (hC l).1 h rfl
  simp only [startFr, Tryd.ntmps66, List.length_cons, List.length_nil, Nat.reduceAdd, Nat.reduceSub, List.replicate_succ, List.replicate_zero, List.cons_append, List.nil_append]
  repeat' (first | ((first | apply Ba | (apply Bb; (· rfl); (· rfl)) | (apply Bc; (· exact nxE)) | (apply Bd; (· rfl); (· rfl); (· exact nxE))); (· first | exact Ok.lenD rfl rfl (stR_len ws) | exact Ok.seqS rfl rfl rfl | exact Ok.sneS rfl rfl rfl | exact Ok.slen rfl rfl | exact Ok.pe)) | ((first | apply Ca | (apply Cb; (· exact nxE))); (· first | exact Ok.e0)) | refine Sx ?_ | (refine Sy (fun h => ?_) (fun h => ?_) <;> try (exfalso; omega; done)) | refine Sz (fun h => ?_) (fun h => ?_))
  refine AW.loop (X := {k : Nat // k ≤ ws.length}) (fun k => ⟨[SL ws, Oo, Oo, Oo, .own 1 ⟨0, []⟩ 0 (k.1 : Nat), I (k.1 : Nat), Oo, Oo, Oo, Oo, Oo, Oo, Oo, Oo, Oo, Oo, Oo, Oo, Oo, Oo, Oo, Oo, Oo, Oo, Oo, Oo, Oo, Oo, Oo, Oo], heapL [(⟨0, []⟩, ⟨0, []⟩, IO ((ws.take k.1).map fun w => (sgN w).1))], 900⟩) (fun k => ws.length - k.1) ⟨0, Nat.zero_le _⟩ ?_ (fun k => ?_)
  ·
    (apply Le.headZ [_] rfl)
    all_goals (try dsimp only [srcs])
    (case' hfr | hob => (repeat' (first | refine La ?_ ?_ | exact Lc | refine Lo ?_ | refine ⟨⟨_, rfl, ?_⟩, ?_⟩ | refine Lx ?_)))
    all_goals (first | (rfl) | exact Ld)
  obtain ⟨k, hk⟩ := k
  simp only
  by_cases hlt : k < ws.length
  · obtain ⟨w, hx⟩ : ∃ w, ws[k]? = some w := ⟨ws[k], List.getElem?_eq_getElem hlt⟩
    have hrow := stR_getI hx
    have hmem := List.mem_of_getElem? hx
    have hS := l01Signed_ac w (hl w hmem)
    rw [h w hmem] at hS
    have hol : (IR ((ws.take k).map fun w => (sgN w).1)).length = k := by rw [IR_len, List.length_map, List.length_take]; omega
    have htk : (ws.take (k + 1)).map (fun w => (sgN w).1) = (ws.take k).map (fun w => (sgN w).1) ++ [(sgN w).1] := by rw [List.take_add_one, hx]; simp
    generalize (sgN w).1 = q at *
    repeat' (first | ((first | apply Ba | (apply Bb; (· rfl); (· rfl)) | (apply Bc; (· exact nxE)) | (apply Bd; (· rfl); (· rfl); (· exact nxE))); (· first | exact Ok.lenD rfl rfl (stR_len ws) | exact Kz rfl rfl (hS) (Ad An) | exact Ok.seqS rfl rfl rfl | exact Ok.sneS rfl rfl rfl | exact Ok.slen rfl rfl | exact Ok.append1 (row := [DI q]) rfl rfl (by decide) rfl rfl hol rfl rfl rfl (by rfl) (by omega) (by omega) | exact Ok.pe)) | ((first | apply Ca | (apply Cb; (· exact nxE))); (· first | exact Ok.append1 (row := [DI q]) rfl rfl (by decide) rfl rfl hol rfl rfl rfl (by rfl) (by omega) (by omega) | exact Ok.e0)) | refine Sx ?_ | (refine Sy (fun h => ?_) (fun h => ?_) <;> try (exfalso; omega; done)) | refine Sz (fun h => ?_) (fun h => ?_))
    refine ⟨⟨k + 1, by omega⟩, ?_, by simp only; omega⟩
    (apply Le.headZ [_] rfl)
    all_goals (try dsimp only [srcs])
    (case' hfr | hob => (repeat' (first | refine La ?_ ?_ | exact Lc | refine Lo ?_ | refine ⟨⟨_, rfl, ?_⟩, ?_⟩ | refine Lx ?_)))
    all_goals (first | ((first | (rw [htk, IR_app]; done) | (rw [htk]; simp; done))) | exact Ld)
  ·
    obtain rfl : k = ws.length := by omega
    rw [List.take_length]
    repeat' (first | ((first | apply Ba | (apply Bb; (· rfl); (· rfl)) | (apply Bc; (· exact nxE)) | (apply Bd; (· rfl); (· rfl); (· exact nxE))); (· first | exact Ok.lenD rfl rfl (stR_len ws) | exact Ok.seqS rfl rfl rfl | exact Ok.sneS rfl rfl rfl | exact Ok.slen rfl rfl | exact Ok.pe)) | ((first | apply Ca | (apply Cb; (· exact nxE))); (· first | exact Ok.e0)) | refine Sx ?_ | (refine Sy (fun h => ?_) (fun h => ?_) <;> try (exfalso; omega; done)) | refine Sz (fun h => ?_) (fun h => ?_))
    refine Yb ?_
    (apply Le.head [(⟨0, []⟩, _, _)])
    (case' hfr | hob => (repeat' (first | refine La ?_ ?_ | exact Lc | refine Lo ?_ | refine ⟨⟨_, rfl, ?_⟩, ?_⟩ | refine Lx ?_)))
    all_goals (first | exact Ld | (rfl))
end Go.Proofs.YtdgodkpobomneaaDoor
end

section
namespace Go.Proofs.YtdgodkpobomneaaDoor
set_option linter.unusedSimpArgs false
set_option linter.unusedVariables false
open Go Go.RowKit

/-- How many firings of an event there are. -/
def cnt (fs : List Fi) (e : Int) : Nat := fs.countP fun f => decide (f.e = e)
theorem cnt_snoc [Mode] {fs : List Fi} {f : Fi} {e : Int} : cnt (fs ++ [f]) e = cnt fs e + if f.e = e then 1 else 0 := by
  simp only [cnt, List.countP_append, List.countP_cons, List.countP_nil, Nat.zero_add]
  by_cases h : f.e = e <;> simp [h]
theorem cnt_le [Mode] (fs : List Fi) (e : Int) : cnt fs e ≤ fs.length := List.countP_le_length
/-- The firings of the longest beginning of a text that is a trace; r: what is left. -/
structure RecOf (s : List UInt8) (fs : List Fi) (r : List UInt8) : Prop where
  len : fs.length ≤ 500
  wr : fs.all wrF = true
  num : ∀ (k : Nat) (f : Fi), fs[k]? = some f → f.n = cnt (fs.take k) f.e + 1
  txt : s = trT 1 fs ++ r
  stop : fs.length < 500 → ∀ f, wrF f = true → ∀ b, r ≠ trN (chA 1 fs) f ++ b
theorem wrA_all [Mode] {fs : List Fi} {k : Nat} (h : fs.all wrF = true) : (fs.take k).all wrF = true := List.all_eq_true.2 fun x hx => List.all_eq_true.1 h x (List.mem_of_mem_take hx)
/-- There is such a beginning. -/
theorem rec_from [Mode] (s : List UInt8) : ∀ (m : Nat) (fs : List Fi) (r : List UInt8), 500 - fs.length = m → fs.length ≤ 500 → fs.all wrF = true → (∀ (k : Nat) (f : Fi), fs[k]? = some f → f.n = cnt (fs.take k) f.e + 1) → s = trT 1 fs ++ r → ∃ fs' r', RecOf s fs' r'
  | 0, fs, r, hm, h1, h2, h3, h4 => ⟨fs, r, h1, h2, h3, h4, fun h => by omega⟩
  | m + 1, fs, r, hm, h1, h2, h3, h4 => by
    by_cases hs : ∀ f, wrF f = true → ∀ b, r ≠ trN (chA 1 fs) f ++ b
    · exact ⟨fs, r, h1, h2, h3, h4, fun _ => hs⟩
    · have : ∃ f b, wrF f = true ∧ r = trN (chA 1 fs) f ++ b := by
        refine Classical.byContradiction fun hn => hs fun f hf b e => hn ⟨f, b, hf, e⟩
      obtain ⟨⟨e, n, t⟩, b, hf, hr⟩ := this
      refine rec_from s m (fs ++ [⟨e, cnt fs e + 1, t⟩]) b (by simp; omega) (by simp; omega) ?_ (fun k f hk => ?_) ?_
      · have hf' : wrF ⟨e, cnt fs e + 1, t⟩ = true := hf
        rw [List.all_append, h2, List.all_cons, hf']; rfl
      · rw [List.getElem?_append] at hk
        split at hk
        · rename_i hlt
          rw [List.take_append_of_le_length (by omega)]
          exact h3 k f hk
        · rename_i hge
          have hk0 : k - fs.length = 0 := by
            have := (List.getElem?_eq_some_iff.1 hk).1
            simp at this; omega
          rw [hk0] at hk
          simp only [List.getElem?_cons_zero, Option.some.injEq] at hk
          subst hk
          have : k = fs.length := by omega
          subst this
          simp
      · rw [h4, hr, trT_snoc, List.append_assoc]; rfl
theorem rec_ex [Mode] (s : List UInt8) : ∃ fs r, RecOf s fs r := rec_from s 500 [] s rfl (by decide) rfl (fun k f h => by simp at h) rfl
/-! Lines and words. -/
theorem trL_no10 [Mode] (c : Int) (f : Fi) : (10 : UInt8) ∉ trL c f := by
  have h : (10 : UInt8).toNat < 48 ∨ 57 < (10 : UInt8).toNat := by decide
  simp only [trL, List.mem_append, List.mem_cons, List.not_mem_nil, or_false, not_or]
  exact ⟨⟨⟨⟨dec_no h, by decide⟩, dec_no h⟩, by decide⟩, dec_no h⟩
theorem spl_words [Mode] (a b c : Nat) : spl 32 (dec a ++ [32] ++ dec b ++ [32] ++ dec c) = [dec a, dec b, dec c] := by
  have h : (32 : UInt8).toNat < 48 ∨ 57 < (32 : UInt8).toNat := by decide
  have e : dec a ++ [32] ++ dec b ++ [32] ++ dec c = dec a ++ 32 :: (dec b ++ 32 :: dec c) := by simp
  rw [e, spl_at (dec_no h), spl_at (dec_no h), spl_no (dec_no h)]
theorem spl_trL [Mode] (c : Int) (f : Fi) : spl 32 (trL c f) = [dec f.e.toNat, dec f.t.toNat, dec (nxI c f).toNat] := spl_words _ _ _
/-- The pieces, joined again. -/
theorem spl_three [Mode] {c : UInt8} {l x y z : List UInt8} (h : spl c l = [x, y, z]) : l = x ++ c :: (y ++ c :: z) := by
  rcases first_byte c l with h1 | ⟨a, b, rfl, h1⟩
  · rw [spl_no h1] at h; simp at h
  · rw [spl_at h1] at h
    simp only [List.cons.injEq] at h
    obtain ⟨rfl, h⟩ := h
    rcases first_byte c b with h2 | ⟨a', b', rfl, h2⟩
    · rw [spl_no h2] at h; simp at h
    · rw [spl_at h2] at h
      simp only [List.cons.injEq] at h
      obtain ⟨rfl, h⟩ := h
      rcases first_byte c b' with h3 | ⟨a'', b'', rfl, h3⟩
      · rw [spl_no h3] at h
        simp only [List.cons.injEq, and_true] at h
        rw [h]
      · rw [spl_at h3] at h
        have := spl_ne (c := c) (l := b'')
        simp only [List.cons.injEq] at h
        exact absurd h.2 this
/-- The lines of a trace. -/
def lnS : Int → List Fi → List (List UInt8)
  | _, [] => []
  | c, f :: fs => trL c f :: lnS (nxI c f) fs
theorem lnS_len [Mode] : ∀ {c : Int} {fs : List Fi}, (lnS c fs).length = fs.length
  | _, [] => rfl
  | c, f :: fs => by rw [lnS, List.length_cons, lnS_len, List.length_cons]
theorem spl_trT [Mode] (r : List UInt8) : ∀ (c : Int) (fs : List Fi), spl 10 (trT c fs ++ r) = lnS c fs ++ spl 10 r
  | _, [] => rfl
  | c, f :: fs => by
    rw [trT, lnS, List.cons_append, ← spl_trT r (nxI c f) fs, ← spl_at (trL_no10 c f)]
    simp [trN]
theorem lnS_get [Mode] : ∀ {c : Int} {fs : List Fi} {k : Nat} {f : Fi}, fs[k]? = some f → (lnS c fs)[k]? = some (trL (chA c (fs.take k)) f)
  | c, [], k, f, h => by simp at h
  | c, g :: fs, 0, f, h => by simp at h; subst h; rfl
  | c, g :: fs, k + 1, f, h => by
    rw [lnS, List.getElem?_cons_succ, List.take_succ_cons, chA]
    exact lnS_get (by simpa using h)
theorem trT_drop [Mode] {c : Int} : ∀ {fs : List Fi} {k : Nat}, (trT c fs).drop (trT c (fs.take k)).length = trT (chA c (fs.take k)) (fs.drop k) := by
  intro fs k
  have key : ∀ (a b : List Fi) (c : Int), trT c (a ++ b) = trT c a ++ trT (chA c a) b := by
    intro a
    induction a with
    | nil => intro b c; rfl
    | cons g a ih => intro b c; rw [List.cons_append, trT, trT, chA, ih, List.append_assoc]
  conv => lhs; rw [← List.take_append_drop k fs, key]
  rw [List.take_append_drop, List.drop_left']
  rfl
end Go.Proofs.YtdgodkpobomneaaDoor
end

section
namespace Go.Proofs.YtdgodkpobomneaaDoor
set_option linter.unusedSimpArgs false
set_option linter.unusedVariables false
open Go Go.RowKit
attribute [local irreducible] AL AD AW OpOk Le AC thenQ blockQ EndQ

abbrev nilV : AV := .d (.v (.slice none 0 0))
set_option maxHeartbeats 2000000 in
theorem l01Numbers_no [Mode] (ws : List (List UInt8)) (j : Nat) (v : List UInt8) (hw : ws.length ≤ 1000000) (hl : ∀ w ∈ ws, w.length ≤ 100000000) (hj : ws[j]? = some v) (hv : (sgN v).2 = false) (h : ∀ (i : Nat) w, i < j → ws[i]? = some w → (sgN w).2 = true) : AC Tryd.prog 66 [SL ws] H0 (.tup [nilV, Bo false]) H0 := by
  have hjl := (List.getElem?_eq_some_iff.1 hj).1
  refine AC.of_body 0 Tryd.func66 rfl (fun l h => absurd rfl h) (fun C hC => ?_)
  have hD : ∀ l, ¬ C.D0 l := fun l h => (hC l).1 h rfl
  simp only [startFr, Tryd.ntmps66, List.length_cons, List.length_nil, Nat.reduceAdd, Nat.reduceSub, List.replicate_succ, List.replicate_zero, List.cons_append, List.nil_append]
  repeat' (first | ((first | apply Ba | (apply Bb; (· rfl); (· rfl)) | (apply Bc; (· exact nxE)) | (apply Bd; (· rfl); (· rfl); (· exact nxE))); (· first | exact Ok.lenD rfl rfl (stR_len ws) | exact Ok.seqS rfl rfl rfl | exact Ok.sneS rfl rfl rfl | exact Ok.slen rfl rfl | exact OpOk.indexD rfl rfl rfl (by decide) rfl (by exact Nat.zero_lt_one) | exact Ok.pe)) | ((first | apply Ca | (apply Cb; (· exact nxE))); (· first | exact Ok.e0)) | refine Sx ?_ | (refine Sy (fun h => ?_) (fun h => ?_) <;> try (exfalso; omega; done)) | refine Sz (fun h => ?_) (fun h => ?_))
  refine AW.loop (X := {k : Nat // k ≤ j}) (fun k => ⟨[SL ws, Oo, Oo, Oo, .own 1 ⟨0, []⟩ 0 (k.1 : Nat), I (k.1 : Nat), Oo, Oo, Oo, Oo, Oo, Oo, Oo, Oo, Oo, Oo, Oo, Oo, Oo, Oo, Oo, Oo, Oo, Oo, Oo, Oo, Oo, Oo, Oo, Oo], heapL [(⟨0, []⟩, ⟨0, []⟩, IO ((ws.take k.1).map fun w => (sgN w).1))], 900⟩) (fun k => j - k.1) ⟨0, Nat.zero_le _⟩ ?_ (fun k => ?_)
  ·
    (apply Le.headZ [_] rfl)
    all_goals (try dsimp only [srcs])
    (case' hfr | hob => (repeat' (first | refine La ?_ ?_ | exact Lc | refine Lo ?_ | refine ⟨⟨_, rfl, ?_⟩, ?_⟩ | refine Lx ?_)))
    all_goals (first | (rfl) | exact Ld)
  obtain ⟨k, hk⟩ := k
  simp only
  by_cases hlt : k < j
  · obtain ⟨w, hx⟩ : ∃ w, ws[k]? = some w := ⟨ws[k], List.getElem?_eq_getElem (by omega)⟩
    have hrow := stR_getI hx
    have hmem := List.mem_of_getElem? hx
    have hS := l01Signed_ac w (hl w hmem)
    rw [h k w hlt hx] at hS
    have hol : (IR ((ws.take k).map fun w => (sgN w).1)).length = k := by rw [IR_len, List.length_map, List.length_take]; omega
    have htk : (ws.take (k + 1)).map (fun w => (sgN w).1) = (ws.take k).map (fun w => (sgN w).1) ++ [(sgN w).1] := by rw [List.take_add_one, hx]; simp
    generalize (sgN w).1 = q at *
    repeat' (first | ((first | apply Ba | (apply Bb; (· rfl); (· rfl)) | (apply Bc; (· exact nxE)) | (apply Bd; (· rfl); (· rfl); (· exact nxE))); (· first | exact Ok.lenD rfl rfl (stR_len ws) | exact Kz rfl rfl (hS) (Ad An) | exact Ok.seqS rfl rfl rfl | exact Ok.sneS rfl rfl rfl | exact Ok.slen rfl rfl | exact OpOk.indexD rfl rfl rfl (by decide) rfl (by exact Nat.zero_lt_one) | exact Ok.append1 (row := [DI q]) rfl rfl (by decide) rfl rfl hol rfl rfl rfl (by rfl) (by omega) (by omega) | exact Ok.pe)) | ((first | apply Ca | (apply Cb; (· exact nxE))); (· first | exact Ok.append1 (row := [DI q]) rfl rfl (by decide) rfl rfl hol rfl rfl rfl (by rfl) (by omega) (by omega) | exact Ok.e0)) | refine Sx ?_ | (refine Sy (fun h => ?_) (fun h => ?_) <;> try (exfalso; omega; done)) | refine Sz (fun h => ?_) (fun h => ?_))
    refine ⟨⟨k + 1, by omega⟩, ?_, by simp only; omega⟩
    (apply Le.headZ [_] rfl)
    all_goals (try dsimp only [srcs])
    (case' hfr | hob => (repeat' (first | refine La ?_ ?_ | exact Lc | refine Lo ?_ | refine ⟨⟨_, rfl, ?_⟩, ?_⟩ | refine Lx ?_)))
    all_goals (first | ((first | (rw [htk, IR_app]; done) | (rw [htk]; simp; done))) | exact Ld)
  ·
    obtain rfl : k = j := by omega
    have hrow := stR_getI hj
    have hS := l01Signed_ac v (hl v (List.mem_of_getElem? hj))
    rw [hv] at hS
    repeat' (first | ((first | apply Ba | (apply Bb; (· rfl); (· rfl)) | (apply Bc; (· exact nxE)) | (apply Bd; (· rfl); (· rfl); (· exact nxE))); (· first | exact Ok.lenD rfl rfl (stR_len ws) | exact Kz rfl rfl (hS) (Ad An) | exact Ok.seqS rfl rfl rfl | exact Ok.sneS rfl rfl rfl | exact Ok.slen rfl rfl | exact OpOk.indexD rfl rfl rfl (by decide) rfl (by exact Nat.zero_lt_one) | exact Ok.pe)) | ((first | apply Ca | (apply Cb; (· exact nxE))); (· first | exact Ok.e0)) | refine Sx ?_ | (refine Sy (fun h => ?_) (fun h => ?_) <;> try (exfalso; omega; done)) | refine Sz (fun h => ?_) (fun h => ?_))
    refine Yb ?_
    (apply Le.headZ (hs := []) [] rfl)
    all_goals (try dsimp only [srcs])
    (case' hfr => (repeat' (first | refine La ?_ ?_ | exact Lc | refine Lo ?_ | refine ⟨⟨_, rfl, ?_⟩, ?_⟩ | refine Lx ?_)))
    all_goals (first | exact Ld | exact trivial | (rfl))
theorem numbers_frz [Mode] {ws : List (List UInt8)} {ns : List Int} (hw : ws.length ≤ 1000000) (hl : ∀ w ∈ ws, w.length ≤ 100000000) (h : ∀ w ∈ ws, (sgN w).2 = true) (he : ws.map (fun w => (sgN w).1) = ns) : AC Tryd.prog 66 [SL ws] H0 (.tup [IL ns, Bo true]) H0 := by
  subst he
  exact (l01Numbers_yes ws hw hl h).frz (ARs.tup (.cons (AR.whole rfl trivial (by rw [IR_len, List.length_map])) (.cons (.dd _) .nil)))
theorem split_frz [Mode] (l : List UInt8) (c : UInt8) (hl : l.length ≤ 100000000) : AC Tryd.prog 46 [Str l, Byt c] H0 (SL (spl c l)) H0 :=
  (l01Split_ac l c hl).frz (AR.whole rfl trivial (stR_len _))
theorem num3 [Mode] (x y z : Nat) (hx : x < 10000000000) (hy : y < 10000000000) (hz : z < 10000000000) : AC Tryd.prog 66 [SL [dec x, dec y, dec z]] H0 (.tup [IL [(x : Int), (y : Int), (z : Int)], Bo true]) H0 := by
  have lx := dec_len x (by omega)
  have ly := dec_len y (by omega)
  have lz := dec_len z (by omega)
  refine numbers_frz (by simp) (fun w hw => ?_) (fun w hw => ?_) (by simp [sgN_dec hx, sgN_dec hy, sgN_dec hz])
  · simp only [List.mem_cons, List.not_mem_nil, or_false] at hw
    rcases hw with rfl | rfl | rfl <;> omega
  · simp only [List.mem_cons, List.not_mem_nil, or_false] at hw
    rcases hw with rfl | rfl | rfl
    · rw [sgN_dec hx]
    · rw [sgN_dec hy]
    · rw [sgN_dec hz]
/-- Either all words are numbers, or there is a first one that is none. -/
theorem words_or [Mode] (ws : List (List UInt8)) : (∀ w ∈ ws, (sgN w).2 = true) ∨ ∃ j v, ws[j]? = some v ∧ (sgN v).2 = false ∧ ∀ (i : Nat) w, i < j → ws[i]? = some w → (sgN w).2 = true := by
  induction ws with
  | nil => exact .inl (by simp)
  | cons w ws ih =>
    cases hw : (sgN w).2 with
    | false => exact .inr ⟨0, w, rfl, hw, fun i w hi => by omega⟩
    | true =>
      rcases ih with h | ⟨j, v, h1, h2, h3⟩
      · exact .inl fun x hx => by rcases List.mem_cons.1 hx with rfl | hx; (· exact hw); (· exact h x hx)
      · refine .inr ⟨j + 1, v, by simpa using h1, h2, fun i x hi hx => ?_⟩
        cases i with
        | zero => simp at hx; subst hx; exact hw
        | succ i => exact h3 i x (by omega) (by simpa using hx)
theorem l14Count_ac [Mode] (fs : List Fi) (e : Int) (hn : fs.length ≤ 100000000) : AC Tryd.prog 72 [FL fs, I e] H0 (I (cnt fs e : Nat)) H0 := by
  refine AC.of_body 0 Tryd.func72 rfl (fun l h => absurd rfl h) (fun C hC => ?_)
  have hD : ∀ l, ¬ C.D0 l := fun l h => (hC l).1 h rfl
  simp only [startFr, Tryd.ntmps72, List.length_cons, List.length_nil, Nat.reduceAdd, Nat.reduceSub, List.replicate_succ, List.replicate_zero, List.cons_append, List.nil_append]
  repeat' (first | ((first | apply Ba | (apply Bb; (· rfl); (· rfl)) | (apply Bc; (· exact nxE)) | (apply Bd; (· rfl); (· rfl); (· exact nxE))); (· first | exact Ok.lenD rfl rfl FL_len | exact Ok.seqS rfl rfl rfl | exact Ok.sneS rfl rfl rfl | exact Ok.slen rfl rfl | exact OpOk.indexD rfl rfl rfl (by decide) rfl (by exact Nat.zero_lt_one) | exact Ok.pe)) | ((first | apply Ca | (apply Cb; (· exact nxE))); (· first | exact Ok.e0)) | refine Sx ?_ | (refine Sy (fun h => ?_) (fun h => ?_) <;> try (exfalso; omega; done)) | refine Sz (fun h => ?_) (fun h => ?_))
  refine AW.loop (X := {k : Nat // k ≤ fs.length}) (fun k => ⟨[FL fs, I e, Oo, Oo, Oo, I (cnt (fs.take (k.1 : Nat)) e : Nat), I (k.1 : Nat), Oo, Oo, Oo, Oo, Oo, Oo, Oo, Oo, Oo, Oo, Oo, Oo, Oo, Oo, Oo, Oo], heapL [], 900⟩) (fun k => fs.length - k.1) ⟨0, Nat.zero_le _⟩ ?_ (fun k => ?_)
  ·
    (apply Le.headZ [] rfl)
    all_goals (try dsimp only [srcs])
    (case' hfr | hob => (repeat' (first | refine La ?_ ?_ | exact Lc | refine Lo ?_ | refine ⟨⟨_, rfl, ?_⟩, ?_⟩ | refine Lx ?_)))
    all_goals (first | (rfl) | exact Ld)
  obtain ⟨k, hk⟩ := k
  simp only
  have hc := cnt_le (fs.take k) e
  have hTL := List.length_take_le k fs
  by_cases hlt : k < fs.length
  · obtain ⟨f, hf⟩ : ∃ f, fs[k]? = some f := ⟨fs[k], List.getElem?_eq_getElem hlt⟩
    have hrow : (fs.map Fi.row)[((k : Nat) : Int).toNat]? = some [DI f.e, DI f.n, DI f.t] := row_get hf
    have hs : cnt (fs.take (k + 1)) e = cnt (fs.take k) e + if f.e = e then 1 else 0 := by rw [List.take_add_one, hf]; exact cnt_snoc
    by_cases he : f.e = e
    · rw [if_pos he] at hs
      have hsI : ((cnt (fs.take (k + 1)) e : Nat) : Int) = (cnt (fs.take k) e : Int) + 1 := by omega
      repeat' (first | ((first | apply Ba | (apply Bb; (· rfl); (· rfl)) | (apply Bc; (· exact nxE)) | (apply Bd; (· rfl); (· rfl); (· exact nxE))); (· first | exact Ok.lenD rfl rfl FL_len | exact Ok.seqS rfl rfl rfl | exact Ok.sneS rfl rfl rfl | exact Ok.slen rfl rfl | exact OpOk.indexD rfl rfl rfl (by decide) rfl (by exact Nat.zero_lt_one) | exact Ok.pe)) | ((first | apply Ca | (apply Cb; (· exact nxE))); (· first | exact Ok.e0)) | refine Sx ?_ | (refine Sy (fun h => ?_) (fun h => ?_) <;> try (exfalso; omega; done)) | refine Sz (fun h => ?_) (fun h => ?_))
      refine ⟨⟨k + 1, by omega⟩, ?_, by simp only; omega⟩
      (apply Le.headZ [] rfl)
      all_goals (try dsimp only [srcs])
      (case' hfr | hob => (repeat' (first | refine La ?_ ?_ | exact Lc | refine Lo ?_ | refine ⟨⟨_, rfl, ?_⟩, ?_⟩ | refine Lx ?_)))
      all_goals (first | ((rw [hsI]; done)) | exact Ld)
    · rw [if_neg he, Nat.add_zero] at hs
      repeat' (first | ((first | apply Ba | (apply Bb; (· rfl); (· rfl)) | (apply Bc; (· exact nxE)) | (apply Bd; (· rfl); (· rfl); (· exact nxE))); (· first | exact Ok.lenD rfl rfl FL_len | exact Ok.seqS rfl rfl rfl | exact Ok.sneS rfl rfl rfl | exact Ok.slen rfl rfl | exact OpOk.indexD rfl rfl rfl (by decide) rfl (by exact Nat.zero_lt_one) | exact Ok.pe)) | ((first | apply Ca | (apply Cb; (· exact nxE))); (· first | exact Ok.e0)) | refine Sx ?_ | (refine Sy (fun h => ?_) (fun h => ?_) <;> try (exfalso; omega; done)) | refine Sz (fun h => ?_) (fun h => ?_))
      refine ⟨⟨k + 1, by omega⟩, ?_, by simp only; omega⟩
      (apply Le.headZ [] rfl)
      all_goals (try dsimp only [srcs])
      (case' hfr | hob => (repeat' (first | refine La ?_ ?_ | exact Lc | refine Lo ?_ | refine ⟨⟨_, rfl, ?_⟩, ?_⟩ | refine Lx ?_)))
      all_goals (first | ((rw [hs]; done)) | exact Ld)
  ·
    obtain rfl : k = fs.length := by omega
    rw [List.take_length]
    repeat' (first | ((first | apply Ba | (apply Bb; (· rfl); (· rfl)) | (apply Bc; (· exact nxE)) | (apply Bd; (· rfl); (· rfl); (· exact nxE))); (· first | exact Ok.lenD rfl rfl FL_len | exact Ok.seqS rfl rfl rfl | exact Ok.sneS rfl rfl rfl | exact Ok.slen rfl rfl | exact OpOk.indexD rfl rfl rfl (by decide) rfl (by exact Nat.zero_lt_one) | exact Ok.pe)) | ((first | apply Ca | (apply Cb; (· exact nxE))); (· first | exact Ok.e0)) | refine Sx ?_ | (refine Sy (fun h => ?_) (fun h => ?_) <;> try (exfalso; omega; done)) | refine Sz (fun h => ?_) (fun h => ?_))
    refine Ya ?_
    (apply Le.headZ (hs := []) [] rfl)
    all_goals (try dsimp only [srcs])
    (case' hfr => (repeat' (first | refine La ?_ ?_ | exact Lc | refine Lo ?_ | refine ⟨⟨_, rfl, ?_⟩, ?_⟩ | refine Lx ?_)))
    all_goals (first | exact Ld | exact trivial | (rfl))
end Go.Proofs.YtdgodkpobomneaaDoor
end

section
namespace Go.Proofs.YtdgodkpobomneaaDoor
set_option linter.unusedSimpArgs false
set_option linter.unusedVariables false
open Go Go.RowKit
attribute [local irreducible] AL AD AW OpOk Le AC thenQ blockQ EndQ

theorem spl_ge [Mode] {c : UInt8} {l : List UInt8} : 1 ≤ (spl c l).length := by
  have := spl_ne (c := c) (l := l)
  exact List.length_pos_iff.2 this
theorem splP_mem_len [Mode] {c : UInt8} : ∀ {l p w : List UInt8}, w ∈ splP c p l → w.length ≤ p.length + l.length
  | [], p, w, h => by simp only [splP, List.mem_singleton] at h; rw [h]; simp
  | x :: l, p, w, h => by
    rw [splP] at h
    split at h
    · rcases List.mem_cons.1 h with rfl | h
      · omega
      · have := splP_mem_len h
        simp only [List.length_nil, List.length_cons] at *
        omega
    · have := splP_mem_len h
      simp only [List.length_append, List.length_cons, List.length_nil] at *
      omega
theorem spl_mem_len [Mode] {c : UInt8} {l w : List UInt8} (h : w ∈ spl c l) : w.length ≤ l.length := by
  have := splP_mem_len h
  simpa using this
/-- What the reference finds at the rest of a text. -/
theorem rec_rest [Mode] {s r : List UInt8} {fs : List Fi} (h : RecOf s fs r) (hlt : fs.length < 500) {a b x y z : List UInt8} {n0 n1 n2 : Int} (hr : r = a ++ 10 :: b) (hw : spl 32 a = [x, y, z]) (hx : sgN x = (n0, true)) (hy : sgN y = (n1, true)) (hz : sgN z = (n2, true))
    (n : Int) (hf : wrF ⟨n0, n, n1⟩ = true) : n2 ≠ nxI (chA 1 fs) ⟨n0, n, n1⟩ := by
  intro he
  have hbd := nxI_bd (chA_bd (c := 1) (by decide) (by decide) h.wr).1 hf
  obtain ⟨⟨h2, h3⟩, h4, h5⟩ := wrF_iff.1 hf
  simp only at h2 h3 h4 h5
  have key : ∀ {w : List UInt8} {m : Int}, sgN w = (m, true) → 0 ≤ m → w = dec m.toNat := by
    intro w m hw hm
    rcases sgN_some (by rw [hw]) with ⟨q, _, e1, e2⟩ | e
    · rw [hw] at e2
      simp only at e2
      rw [e2, Int.toNat_natCast]; exact e1
    · rw [hw] at e; simp only at e; omega
  have ex := key hx h2
  have ey := key hy h4
  have ez := key hz (by omega)
  refine h.stop hlt ⟨n0, n, n1⟩ hf b ?_
  rw [hr, spl_three hw, ex, ey, ez, he]
  simp [trN, trL]
set_option maxRecDepth 4000 in
set_option maxHeartbeats 8000000 in
theorem l28Recover_ac [Mode] (s : List UInt8) (fs : List Fi) (r : List UInt8) (h : RecOf s fs r) (hs : s.length ≤ 1000000) : AC Tryd.prog 55 [Str s] H0 (.tup [own1 3 fs.length, I ((trT 1 fs).length : Nat)]) (hp1 (FO fs)) := by
  have hSp := split_frz s 10 (by omega)
  have hln : spl 10 s = lnS 1 fs ++ spl 10 r := by rw [h.txt, spl_trT]
  rw [hln] at hSp
  have hlt0 : (stR (lnS 1 fs ++ spl 10 r)).length = fs.length + (spl 10 r).length := by rw [stR_len, List.length_append, lnS_len]
  have hsp1 := spl_ge (c := 10) (l := r)
  have hfl := h.len
  have hspl : (spl 10 r).length ≤ 1000001 := by
    have h1 : (spl 10 s).length = fs.length + (spl 10 r).length := by rw [hln, List.length_append, lnS_len]
    have h2 := stS_len 10 s (s.length + 1)
    rw [stS_end] at h2
    omega
  have hlenS : (trT 1 fs).length + r.length = s.length := by rw [h.txt, List.length_append]
  refine AC.of_body 0 Tryd.func55 rfl (fun l h => absurd rfl h) (fun C hC => ?_)
  have hD : ∀ l, ¬ C.D0 l := fun l h => (hC l).1 h rfl
  simp only [startFr, Tryd.ntmps55, List.length_cons, List.length_nil, Nat.reduceAdd, Nat.reduceSub, List.replicate_succ, List.replicate_zero, List.cons_append, List.nil_append]
  repeat' (first | ((first | apply Ba | (apply Bb; (· rfl); (· rfl)) | (apply Bc; (· exact nxE)) | (apply Bd; (· rfl); (· rfl); (· exact nxE))); (· first | exact Kz rfl rfl (hSp) (Ad (Ad An)) | exact Ok.seqS rfl rfl rfl | exact Ok.sneS rfl rfl rfl | exact Ok.slen rfl rfl | exact OpOk.indexD rfl rfl rfl (by decide) rfl (by exact Nat.zero_lt_one) | exact Ok.pe)) | ((first | apply Ca | (apply Cb; (· exact nxE))); (· first | exact Ok.e0)) | refine Sx ?_ | (refine Sy (fun h => ?_) (fun h => ?_) <;> try (exfalso; omega; done)) | refine Sz (fun h => ?_) (fun h => ?_))
  refine AW.loop (X := {k : Nat // k ≤ fs.length}) (fun k => ⟨[Oo, Oo, Oo, Oo, SL (lnS 1 fs ++ spl 10 r), I (chA 1 (fs.take (k.1 : Nat))), I ((trT 1 (fs.take (k.1 : Nat))).length : Nat), .own 3 ⟨0, []⟩ 0 (fs.take (k.1 : Nat)).length, I (k.1 : Nat), Oo, Oo, Oo, Oo, Oo, Oo, Oo, Oo, Oo, Oo, Oo, Oo, Oo, Oo, Oo, Oo, Oo, Oo, Oo, Oo, Oo, Oo, Oo, Oo, Oo, Oo, Oo, Oo, Oo, Oo, Oo, Oo, Oo, Oo, Oo, Oo, Oo, Oo, Oo, Oo, Oo, Oo, Oo, Oo, Oo, Oo, Oo, Oo, Oo, Oo, Oo, Oo, Oo, Oo, Oo, Oo, Oo, Oo, Oo, Oo, Oo, Oo, Oo, Oo, Oo, Oo, Oo, Oo, Oo, Oo, Oo, Oo, Oo, Oo, Oo, Oo], heapL [(⟨0, []⟩, ⟨0, []⟩, FO (fs.take k.1))], 900⟩) (fun k => fs.length - k.1) ⟨0, Nat.zero_le _⟩ ?_ (fun k => ?_)
  ·
    (apply Le.headZ [_] rfl)
    all_goals (try dsimp only [srcs])
    (case' hfr | hob => (repeat' (first | refine La ?_ ?_ | exact Lc | refine Lo ?_ | refine ⟨⟨_, rfl, ?_⟩, ?_⟩ | refine Lx ?_)))
    all_goals (first | (rfl) | exact Ld)
  obtain ⟨k, hk⟩ := k
  simp only
  have hTL : (fs.take k).length = k := by rw [List.length_take]; omega
  by_cases hlt : k < fs.length
  · obtain ⟨f, hf⟩ : ∃ f, fs[k]? = some f := ⟨fs[k], List.getElem?_eq_getElem hlt⟩
    have hfw := List.all_eq_true.1 h.wr f (List.mem_of_getElem? hf)
    have hwk := wrA_all (k := k) h.wr
    have hbd := chA_bd (c := 1) (by decide) (by decide) hwk
    have hnb := nxI_bd hbd.1 hfw
    obtain ⟨⟨h2, h3⟩, h4, h5⟩ := wrF_iff.1 hfw
    have htk : fs.take (k + 1) = fs.take k ++ [f] := by rw [List.take_add_one, hf]; rfl
    have hs1 : (trT 1 (fs.take (k + 1))).length = (trT 1 (fs.take k)).length + ((trL (chA 1 (fs.take k)) f).length + 1) := by rw [htk, trT_snoc, List.length_append]; simp [trN]
    have hs2 : chA 1 (fs.take (k + 1)) = nxI (chA 1 (fs.take k)) f := by rw [htk, chA_snoc]
    have hT := trT_len (c := 1) (by decide) hwk
    have hNl := trN_len hbd.1 hfw
    have hLl : (trL (chA 1 (fs.take k)) f).length ≤ 60 := by simp only [trN, List.length_append, List.length_cons, List.length_nil] at hNl; omega
    have hget : (lnS 1 fs ++ spl 10 r)[k]? = some (trL (chA 1 (fs.take k)) f) := by rw [List.getElem?_append_left (by rw [lnS_len]; exact hlt)]; exact lnS_get hf
    have hrow := stR_getI hget
    have hW := split_frz (trL (chA 1 (fs.take k)) f) 32 (by omega)
    rw [spl_trL] at hW
    have hN := num3 f.e.toNat f.t.toNat (nxI (chA 1 (fs.take k)) f).toNat (by omega) (by omega) (by omega)
    rw [Int.toNat_of_nonneg h2, Int.toNat_of_nonneg h4, Int.toNat_of_nonneg hnb.1] at hN
    have hC := l14Count_ac (fs.take k) f.e (by omega)
    have hcl := cnt_le (fs.take k) f.e
    have hfn := h.num k f hf
    have hWr := l28Writable_ac f
    rw [hfw] at hWr
    have hNx := l28Next_ac (chA 1 (fs.take k)) f hbd.1 hbd.2 hfw
    have hol : ((fs.take k).map Fi.row).length = (fs.take k).length := FL_len
    generalize hch : chA 1 (fs.take k) = ch at *
    generalize trL ch f = l0 at *
    generalize nxI ch f = nx at *
    obtain ⟨fe, fn, ft⟩ := f
    simp only at *
    subst hfn
    have hCn := hC
    clear hC
    generalize cnt (fs.take k) fe = q at *
    repeat' (first | ((first | apply Ba | (apply Bb; (· rfl); (· rfl)) | (apply Bc; (· exact nxE)) | (apply Bd; (· rfl); (· rfl); (· exact nxE))); (· first | exact Ok.lenD rfl rfl hlt0 | exact Kz rfl rfl (hW) (Ad (Ad An)) | exact Kz rfl rfl (hN) (Ad An) | exact Ez rfl rfl (hCn) (Sw (Sd Sn)) | exact Kz rfl rfl (hWr) (Aa (Ad (Ad (Ad An))) An) | exact Kz rfl rfl (hNx) (Ad (Aa (Ad (Ad (Ad An))) An)) | exact Ok.seqS rfl rfl rfl | exact Ok.sneS rfl rfl rfl | exact Ok.slen rfl rfl | exact OpOk.indexD rfl rfl rfl (by decide) rfl (by exact Nat.zero_lt_one) | exact Ok.append1 (row := Fi.row ⟨fe, (q : Int) + 1, ft⟩) rfl rfl (by decide) rfl rfl hol rfl rfl rfl (by rfl) (by omega) (by omega) | exact Ok.pe)) | ((first | apply Ca | (apply Cb; (· exact nxE))); (· first | exact Ok.append1 (row := Fi.row ⟨fe, (q : Int) + 1, ft⟩) rfl rfl (by decide) rfl rfl hol rfl rfl rfl (by rfl) (by omega) (by omega) | exact Ok.e0)) | refine Sx ?_ | (refine Sy (fun h => ?_) (fun h => ?_) <;> try (exfalso; omega; done)) | refine Sz (fun h => ?_) (fun h => ?_))
    refine ⟨⟨k + 1, by omega⟩, ?_, by simp only; omega⟩
    (apply Le.headZ [_] rfl)
    all_goals (try dsimp only [srcs])
    (case' hfr | hob => (repeat' (first | refine La ?_ ?_ | exact Lc | refine Lo ?_ | refine ⟨⟨_, rfl, ?_⟩, ?_⟩ | refine Lx ?_)))
    all_goals (first | ((first | (rw [hs2]; done) | (rw [hs1]; omega) | (rw [htk, List.length_append, List.length_singleton]; done) | (rw [htk, List.map_append]; rfl) | (rw [htk]; simp; done))) | exact Ld)
  · obtain rfl : k = fs.length := by omega
    rw [List.take_length] at hTL ⊢
    have hT := trT_len (c := 1) (by decide) h.wr
    have hbd := chA_bd (c := 1) (by decide) (by decide) h.wr
    have hol : (fs.map Fi.row).length = fs.length := FL_len
    by_cases h500 : fs.length < 500
    case neg =>
      repeat' (first | ((first | apply Ba | (apply Bb; (· rfl); (· rfl)) | (apply Bc; (· exact nxE)) | (apply Bd; (· rfl); (· rfl); (· exact nxE))); (· first | exact Ok.lenD rfl rfl hlt0 | exact Ok.seqS rfl rfl rfl | exact Ok.sneS rfl rfl rfl | exact Ok.slen rfl rfl | exact OpOk.indexD rfl rfl rfl (by decide) rfl (by exact Nat.zero_lt_one) | exact Ok.pe)) | ((first | apply Ca | (apply Cb; (· exact nxE))); (· first | exact Ok.e0)) | refine Sx ?_ | (refine Sy (fun h => ?_) (fun h => ?_) <;> try (exfalso; omega; done)) | refine Sz (fun h => ?_) (fun h => ?_))
      all_goals
        refine Yb ?_
        (apply Le.head [(⟨0, []⟩, _, _)])
        (case' hfr | hob => (repeat' (first | refine La ?_ ?_ | exact Lc | refine Lo ?_ | refine ⟨⟨_, rfl, ?_⟩, ?_⟩ | refine Lx ?_)))
        all_goals (first | exact Ld | (rfl))
    rcases first_byte 10 r with h1 | ⟨a, b, rfl, h1⟩
    · have hl1 : (spl 10 r).length = 1 := by rw [spl_no h1]; rfl
      repeat' (first | ((first | apply Ba | (apply Bb; (· rfl); (· rfl)) | (apply Bc; (· exact nxE)) | (apply Bd; (· rfl); (· rfl); (· exact nxE))); (· first | exact Ok.lenD rfl rfl hlt0 | exact Ok.seqS rfl rfl rfl | exact Ok.sneS rfl rfl rfl | exact Ok.slen rfl rfl | exact OpOk.indexD rfl rfl rfl (by decide) rfl (by exact Nat.zero_lt_one) | exact Ok.pe)) | ((first | apply Ca | (apply Cb; (· exact nxE))); (· first | exact Ok.e0)) | refine Sx ?_ | (refine Sy (fun h => ?_) (fun h => ?_) <;> try (exfalso; omega; done)) | refine Sz (fun h => ?_) (fun h => ?_))
      all_goals
        refine Yb ?_
        (apply Le.head [(⟨0, []⟩, _, _)])
        (case' hfr | hob => (repeat' (first | refine La ?_ ?_ | exact Lc | refine Lo ?_ | refine ⟨⟨_, rfl, ?_⟩, ?_⟩ | refine Lx ?_)))
        all_goals (first | exact Ld | (rfl))
    have hal : a.length ≤ 999999 := by simp only [List.length_append, List.length_cons] at hlenS; omega
    have hget : (lnS 1 fs ++ spl 10 (a ++ 10 :: b))[fs.length]? = some a := by
      rw [List.getElem?_append_right (by rw [lnS_len]; exact Nat.le_refl _), lnS_len, Nat.sub_self, spl_at h1]; rfl
    have hrow := stR_getI hget
    have hl2 : (spl 10 (a ++ 10 :: b)).length = 1 + (spl 10 b).length := by rw [spl_at h1, List.length_cons]; omega
    have hb1 := spl_ge (c := 10) (l := b)
    have hW := split_frz a 32 (by omega)
    have hwl : (spl 32 a).length ≤ 1000000 := by
      have h2 := stS_len 32 a (a.length + 1)
      rw [stS_end] at h2
      omega
    have hwe : ∀ w ∈ spl 32 a, w.length ≤ 100000000 := fun w hw => by have := spl_mem_len hw; omega
    generalize hws : spl 32 a = ws at *
    generalize spl 10 (a ++ 10 :: b) = ls at *
    rcases words_or ws with hall | ⟨j, v, hj1, hj2, hj3⟩
    case inr =>
      have hN := l01Numbers_no ws j v (by omega) hwe hj1 hj2 hj3
      repeat' (first | ((first | apply Ba | (apply Bb; (· rfl); (· rfl)) | (apply Bc; (· exact nxE)) | (apply Bd; (· rfl); (· rfl); (· exact nxE))); (· first | exact Ok.lenD rfl rfl hlt0 | exact Kz rfl rfl (hW) (Ad (Ad An)) | exact Kz rfl rfl (hN) (Ad An) | exact Ok.seqS rfl rfl rfl | exact Ok.sneS rfl rfl rfl | exact Ok.slen rfl rfl | exact OpOk.indexD rfl rfl rfl (by decide) rfl (by exact Nat.zero_lt_one) | exact Ok.pe)) | ((first | apply Ca | (apply Cb; (· exact nxE))); (· first | exact Ok.e0)) | refine Sx ?_ | (refine Sy (fun h => ?_) (fun h => ?_) <;> try (exfalso; omega; done)) | refine Sz (fun h => ?_) (fun h => ?_))
      all_goals
        refine Yb ?_
        (apply Le.head [(⟨0, []⟩, _, _)])
        (case' hfr | hob => (repeat' (first | refine La ?_ ?_ | exact Lc | refine Lo ?_ | refine ⟨⟨_, rfl, ?_⟩, ?_⟩ | refine Lx ?_)))
        all_goals (first | exact Ld | (rfl))
    have hN := numbers_frz (by omega) hwe hall rfl
    have hnl : (IR (ws.map fun w => (sgN w).1)).length = ws.length := by rw [IR_len, List.length_map]
    by_cases h3 : ws.length = 3
    case neg =>
      repeat' (first | ((first | apply Ba | (apply Bb; (· rfl); (· rfl)) | (apply Bc; (· exact nxE)) | (apply Bd; (· rfl); (· rfl); (· exact nxE))); (· first | exact Ok.lenD rfl rfl hlt0 | exact Ok.lenD rfl rfl hnl | exact Kz rfl rfl (hW) (Ad (Ad An)) | exact Kz rfl rfl (hN) (Ad An) | exact Ok.seqS rfl rfl rfl | exact Ok.sneS rfl rfl rfl | exact Ok.slen rfl rfl | exact OpOk.indexD rfl rfl rfl (by decide) rfl (by exact Nat.zero_lt_one) | exact Ok.pe)) | ((first | apply Ca | (apply Cb; (· exact nxE))); (· first | exact Ok.e0)) | refine Sx ?_ | (refine Sy (fun h => ?_) (fun h => ?_) <;> try (exfalso; omega; done)) | refine Sz (fun h => ?_) (fun h => ?_))
      all_goals
        refine Yb ?_
        (apply Le.head [(⟨0, []⟩, _, _)])
        (case' hfr | hob => (repeat' (first | refine La ?_ ?_ | exact Lc | refine Lo ?_ | refine ⟨⟨_, rfl, ?_⟩, ?_⟩ | refine Lx ?_)))
        all_goals (first | exact Ld | (rfl))
    match ws, h3 with
    | [x, y, z], _ =>
      obtain ⟨n0, hx⟩ : ∃ n0, sgN x = (n0, true) := ⟨(sgN x).1, by rw [← hall x (by simp)]⟩
      obtain ⟨n1, hy⟩ : ∃ n1, sgN y = (n1, true) := ⟨(sgN y).1, by rw [← hall y (by simp)]⟩
      obtain ⟨n2, hz⟩ : ∃ n2, sgN z = (n2, true) := ⟨(sgN z).1, by rw [← hall z (by simp)]⟩
      simp only [List.map_cons, List.map_nil, hx, hy, hz] at hN
      have hCn := l14Count_ac fs n0 (by omega)
      have hcl := cnt_le fs n0
      have hRest := fun n => rec_rest h h500 (a := a) (b := b) rfl hws hx hy hz n
      generalize cnt fs n0 = q at *
      have hWr := l28Writable_ac ⟨n0, (q : Int) + 1, n1⟩
      cases hfw : wrF ⟨n0, (q : Int) + 1, n1⟩ with
      | false =>
        rw [hfw] at hWr
        clear hRest
        repeat' (first | ((first | apply Ba | (apply Bb; (· rfl); (· rfl)) | (apply Bc; (· exact nxE)) | (apply Bd; (· rfl); (· rfl); (· exact nxE))); (· first | exact Ok.lenD rfl rfl hlt0 | exact Kz rfl rfl (hW) (Ad (Ad An)) | exact Kz rfl rfl (hN) (Ad An) | exact Ez rfl rfl (hCn) (Sw (Sd Sn)) | exact Kz rfl rfl (hWr) (Aa (Ad (Ad (Ad An))) An) | exact Ok.seqS rfl rfl rfl | exact Ok.sneS rfl rfl rfl | exact Ok.slen rfl rfl | exact OpOk.indexD rfl rfl rfl (by decide) rfl (by exact Nat.zero_lt_one) | exact Ok.pe)) | ((first | apply Ca | (apply Cb; (· exact nxE))); (· first | exact Ok.e0)) | refine Sx ?_ | (refine Sy (fun h => ?_) (fun h => ?_) <;> try (exfalso; omega; done)) | refine Sz (fun h => ?_) (fun h => ?_))
        all_goals
          refine Yb ?_
          (apply Le.head [(⟨0, []⟩, _, _)])
          (case' hfr | hob => (repeat' (first | refine La ?_ ?_ | exact Lc | refine Lo ?_ | refine ⟨⟨_, rfl, ?_⟩, ?_⟩ | refine Lx ?_)))
          all_goals (first | exact Ld | (rfl))
      | true =>
        rw [hfw] at hWr
        have hNx := l28Next_ac (chA 1 fs) ⟨n0, (q : Int) + 1, n1⟩ hbd.1 hbd.2 hfw
        have hne := hRest _ hfw
        clear hRest
        generalize nxI (chA 1 fs) ⟨n0, (q : Int) + 1, n1⟩ = nx at *
        generalize chA 1 fs = ch at *
        repeat' (first | ((first | apply Ba | (apply Bb; (· rfl); (· rfl)) | (apply Bc; (· exact nxE)) | (apply Bd; (· rfl); (· rfl); (· exact nxE))); (· first | exact Ok.lenD rfl rfl hlt0 | exact Kz rfl rfl (hW) (Ad (Ad An)) | exact Kz rfl rfl (hN) (Ad An) | exact Ez rfl rfl (hCn) (Sw (Sd Sn)) | exact Kz rfl rfl (hWr) (Aa (Ad (Ad (Ad An))) An) | exact Kz rfl rfl (hNx) (Ad (Aa (Ad (Ad (Ad An))) An)) | exact Ok.seqS rfl rfl rfl | exact Ok.sneS rfl rfl rfl | exact Ok.slen rfl rfl | exact OpOk.indexD rfl rfl rfl (by decide) rfl (by exact Nat.zero_lt_one) | exact Ok.pe)) | ((first | apply Ca | (apply Cb; (· exact nxE))); (· first | exact Ok.e0)) | refine Sx ?_ | (refine Sy (fun h => ?_) (fun h => ?_) <;> try (exfalso; omega; done)) | refine Sz (fun h => ?_) (fun h => ?_))
        all_goals
          refine Yb ?_
          (apply Le.head [(⟨0, []⟩, _, _)])
          (case' hfr | hob => (repeat' (first | refine La ?_ ?_ | exact Lc | refine Lo ?_ | refine ⟨⟨_, rfl, ?_⟩, ?_⟩ | refine Lx ?_)))
          all_goals (first | exact Ld | (rfl))
end Go.Proofs.YtdgodkpobomneaaDoor
end
