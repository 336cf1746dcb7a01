/-
  Walks in the abstract reading, part 5.
-/
import Derived.Test.YtofakjlamoigcaaDoorKeU4
import Derived.Test.YtofakjlamoigcaaDoorKeA3
section
namespace Go.Proofs.YtofakjlamoigcaaDoor
set_option linter.unusedSimpArgs false
set_option linter.unusedVariables false
open Go Go.RowKit
attribute [local irreducible] AL AD AW OpOk Le AC thenQ blockQ EndQ

theorem u8s [Mode] {x : Nat} (h0 : 48 ≤ x) (h1 : x < 256) : IntKind.i64.wrap (IntKind.u8.wrap ((x : Int) - 48)) = ((x - 48 : Nat) : Int) := by
  have e : IntKind.u8.wrap ((x : Int) - 48) = ((x - 48 : Nat) : Int) := by
    unfold IntKind.wrap
    simp [IntKind.signed, IntKind.bits]
    omega
  rw [e]
  exact wrap64_id (by omega) (by omega)
theorem digN_len [Mode] {l : List UInt8} (h : l.length < 1 ∨ 10 < l.length) : digN l = (0, false) := by rw [digN, if_pos h]
theorem digN_bad [Mode] {l : List UInt8} {x : UInt8} (hx : x ∈ l) (h : ¬ (48 ≤ x.toNat ∧ x.toNat ≤ 57)) : digN l = (0, false) := by
  unfold digN
  split
  · rfl
  · rw [if_neg (fun ha => h (ha x hx))]
theorem digN_all [Mode] {l : List UInt8} (h : ¬ (l.length < 1 ∨ 10 < l.length)) (ha : ∀ c ∈ l, 48 ≤ c.toNat ∧ c.toNat ≤ 57) : digN l = ((dgA l : Int), decide (dec (dgA l) = l)) := by
  rw [digN, if_neg h, if_pos ha]
set_option maxHeartbeats 2000000 in
theorem l01Digits_ac [Mode] (l : List UInt8) (hl : l.length ≤ 100000000) : AC Tryd.prog 43 [Str l] H0 (.tup [I (digN l).1, Bo (digN l).2]) H0 := by
  by_cases hlen : l.length < 1 ∨ 10 < l.length
  · rw [digN_len hlen]
    refine AC.of_body 0 Tryd.func43 rfl (fun l h => absurd rfl h) (fun C hC => ?_)
    have hD : ∀ l, ¬ C.D0 l := fun l h => (hC l).1 h rfl
    simp only [startFr, Tryd.ntmps43, List.length_cons, List.length_nil, Nat.reduceAdd, Nat.reduceSub, List.replicate_succ, List.replicate_zero, List.cons_append, List.nil_append]
    repeat' (first | ((first | apply Ba | (apply Bb; (· rfl); (· rfl)) | (apply Bc; (· exact nxE)) | (apply Bd; (· rfl); (· rfl); (· exact nxE))); (· first | exact Ok.seqS rfl rfl rfl | exact Ok.sneS rfl rfl rfl | exact Ok.slen rfl rfl | exact Ok.pe)) | ((first | apply Ca | (apply Cb; (· exact nxE))); (· first | exact Ok.e0)) | refine Sx ?_ | (refine Sy (fun h => ?_) (fun h => ?_) <;> try (exfalso; omega; done)) | refine Sz (fun h => ?_) (fun h => ?_))
    all_goals
      refine Yb ?_
      (apply Le.headZ (hs := []) [] rfl)
      all_goals (try dsimp only [srcs])
      (case' hfr => (repeat' (first | refine La ?_ ?_ | exact Lc | refine Lo ?_ | refine ⟨⟨_, rfl, ?_⟩, ?_⟩ | refine Lx ?_)))
      all_goals (first | exact Ld | exact trivial | (rfl))
  have hl10 : 10 ^ l.length ≤ 10 ^ 10 := Nat.pow_le_pow_right (by decide) (by omega)
  refine AC.of_body 0 Tryd.func43 rfl (fun l h => absurd rfl h) (fun C hC => ?_)
  have hD : ∀ l, ¬ C.D0 l := fun l h => (hC l).1 h rfl
  simp only [startFr, Tryd.ntmps43, List.length_cons, List.length_nil, Nat.reduceAdd, Nat.reduceSub, List.replicate_succ, List.replicate_zero, List.cons_append, List.nil_append]
  repeat' (first | ((first | apply Ba | (apply Bb; (· rfl); (· rfl)) | (apply Bc; (· exact nxE)) | (apply Bd; (· rfl); (· rfl); (· exact nxE))); (· first | exact Ok.seqS rfl rfl rfl | exact Ok.sneS rfl rfl rfl | exact Ok.slen rfl rfl | exact Ok.pe)) | ((first | apply Ca | (apply Cb; (· exact nxE))); (· first | exact Ok.e0)) | refine Sx ?_ | (refine Sy (fun h => ?_) (fun h => ?_) <;> try (exfalso; omega; done)) | refine Sz (fun h => ?_) (fun h => ?_))
  refine AW.loop (X := {k : Nat // k ≤ l.length ∧ ∀ c ∈ l.take k, 48 ≤ c.toNat ∧ c.toNat ≤ 57}) (fun k => ⟨[Str l, Oo, Oo, Oo, I (dgA (l.take (k.1 : Nat)) : Nat), I (k.1 : Nat), Oo, Oo, Oo, Oo, Oo, Oo, Oo, Oo, Oo, Oo, Oo, Oo, Oo, Oo, Oo, Oo, Oo, Oo, Oo, Oo, Oo, Oo, Oo, Oo, Oo, Oo, Oo, Oo, Oo, Oo, Oo, Oo, Oo, Oo, Oo, Oo, Oo], heapL [], 900⟩) (fun k => l.length - k.1) ⟨0, Nat.zero_le _, by simp⟩ ?_ (fun k => ?_)
  ·
    (apply Le.headZ [] rfl)
    all_goals (try dsimp only [srcs])
    (case' hfr | hob => (repeat' (first | refine La ?_ ?_ | exact Lc | refine Lo ?_ | refine ⟨⟨_, rfl, ?_⟩, ?_⟩ | refine Lx ?_)))
    all_goals (first | (rfl) | exact Ld)
  obtain ⟨k, hk, hall⟩ := k
  simp only
  by_cases hlt : k < l.length
  · obtain ⟨x, hx⟩ : ∃ x, l[k]? = some x := ⟨l[k], List.getElem?_eq_getElem hlt⟩
    have hx' : l[((k : Nat) : Int).toNat]? = some x := by rw [Int.toNat_natCast]; exact hx
    have htk : l.take (k + 1) = l.take k ++ [x] := by rw [List.take_add_one, hx]; rfl
    have hxl : x.toNat < 256 := x.toNat_lt
    have hb1 := dgA_lt (l.take k) (fun c hc => (hall c hc).2)
    have hb2 : 10 ^ (l.take k).length ≤ 10 ^ 9 := Nat.pow_le_pow_right (by decide) (by simp; omega)
    by_cases hd : 48 ≤ x.toNat ∧ x.toNat ≤ 57
    · have hcv := u8s hd.1 hxl
      have hs : dgA (l.take (k + 1)) = 10 * dgA (l.take k) + (x.toNat - 48) := by rw [htk, dgA_snoc]
      have hsI : ((dgA (l.take (k + 1)) : Nat) : Int) = 10 * (dgA (l.take k) : Int) + ((x.toNat - 48 : Nat) : Int) := by rw [hs]; omega
      repeat' (first | ((first | apply Ba | (apply Bb; (· rfl); (· rfl)) | (apply Bc; (· exact nxE)) | (apply Bd; (· rfl); (· rfl); (· exact nxE))); (· first | exact Ok.sidx rfl rfl rfl (by omega) hx' | exact Ok.convII rfl rfl Tryd.underlying2 (by rw [Tryd.underlying5]; rfl) hcv | exact Ok.seqS rfl rfl rfl | exact Ok.sneS rfl rfl rfl | exact Ok.slen rfl rfl | exact Ok.pe)) | ((first | apply Ca | (apply Cb; (· exact nxE))); (· first | exact Ok.e0)) | refine Sx ?_ | (refine Sy (fun h => ?_) (fun h => ?_) <;> try (exfalso; omega; done)) | refine Sz (fun h => ?_) (fun h => ?_))
      refine ⟨⟨k + 1, by omega, by rw [htk]; intro c hc; rcases List.mem_append.1 hc with h | h; (· exact hall c h); (· rw [List.mem_singleton.1 h]; exact hd)⟩, ?_, by simp only; omega⟩
      (apply Le.headZ [] rfl)
      all_goals (try dsimp only [srcs])
      (case' hfr | hob => (repeat' (first | refine La ?_ ?_ | exact Lc | refine Lo ?_ | refine ⟨⟨_, rfl, ?_⟩, ?_⟩ | refine Lx ?_)))
      all_goals (first | ((first | (rw [hsI]; done) | omega)) | exact Ld)
    · rw [digN_bad (List.mem_of_getElem? hx) hd]
      repeat' (first | ((first | apply Ba | (apply Bb; (· rfl); (· rfl)) | (apply Bc; (· exact nxE)) | (apply Bd; (· rfl); (· rfl); (· exact nxE))); (· first | exact Ok.sidx rfl rfl rfl (by omega) hx' | exact Ok.seqS rfl rfl rfl | exact Ok.sneS rfl rfl rfl | exact Ok.slen rfl rfl | exact Ok.pe)) | ((first | apply Ca | (apply Cb; (· exact nxE))); (· first | exact Ok.e0)) | refine Sx ?_ | (refine Sy (fun h => ?_) (fun h => ?_) <;> try (exfalso; omega; done)) | refine Sz (fun h => ?_) (fun h => ?_))
      all_goals first
        | (exfalso; omega)
        | skip
      all_goals
        refine Yb ?_
        (apply Le.headZ (hs := []) [] rfl)
        all_goals (try dsimp only [srcs])
        (case' hfr => (repeat' (first | refine La ?_ ?_ | exact Lc | refine Lo ?_ | refine ⟨⟨_, rfl, ?_⟩, ?_⟩ | refine Lx ?_)))
        all_goals (first | exact Ld | exact trivial | (rfl))
  ·
    obtain rfl : k = l.length := by omega
    rw [List.take_length] at hall ⊢
    rw [digN_all hlen hall]
    have hb := dgA_lt l (fun c hc => (hall c hc).2)
    have hDg := l01Dec_ac (dgA l) (by omega)
    repeat' (first | ((first | apply Ba | (apply Bb; (· rfl); (· rfl)) | (apply Bc; (· exact nxE)) | (apply Bd; (· rfl); (· rfl); (· exact nxE))); (· first | exact Kz rfl rfl (hDg) (Ad An) | exact Ok.seqS rfl rfl rfl | exact Ok.sneS rfl rfl rfl | exact Ok.slen rfl rfl | exact Ok.pe)) | ((first | apply Ca | (apply Cb; (· exact nxE))); (· first | exact Ok.e0)) | refine Sx ?_ | (refine Sy (fun h => ?_) (fun h => ?_) <;> try (exfalso; omega; done)) | refine Sz (fun h => ?_) (fun h => ?_))
    refine Yb ?_
    (apply Le.headZ (hs := []) [] rfl)
    all_goals (try dsimp only [srcs])
    (case' hfr => (repeat' (first | refine La ?_ ?_ | exact Lc | refine Lo ?_ | refine ⟨⟨_, rfl, ?_⟩, ?_⟩ | refine Lx ?_)))
    all_goals (first | exact Ld | exact trivial | (rfl))
theorem l01Signed_ac [Mode] (l : List UInt8) (hl : l.length ≤ 100000000) : AC Tryd.prog 68 [Str l] H0 (.tup [I (sgN l).1, Bo (sgN l).2]) H0 := by
  match l with
  | [] =>
    have hDg := l01Digits_ac [] (by simp)
    refine AC.of_body 0 Tryd.func68 rfl (fun l h => absurd rfl h) (fun C hC => ?_)
    have hD : ∀ l, ¬ C.D0 l := fun l h => (hC l).1 h rfl
    simp only [startFr, Tryd.ntmps68, List.length_cons, List.length_nil, Nat.reduceAdd, Nat.reduceSub, List.replicate_succ, List.replicate_zero, List.cons_append, List.nil_append]
    repeat' (first | ((first | apply Ba | (apply Bb; (· rfl); (· rfl)) | (apply Bc; (· exact nxE)) | (apply Bd; (· rfl); (· rfl); (· exact nxE))); (· first | exact Kz rfl rfl (hDg) (Ad An) | exact Ok.seqS rfl rfl rfl | exact Ok.sneS rfl rfl rfl | exact Ok.slen rfl rfl | exact Ok.pe)) | ((first | apply Ca | (apply Cb; (· exact nxE))); (· first | exact Ok.e0)) | refine Sx ?_ | (refine Sy (fun h => ?_) (fun h => ?_) <;> try (exfalso; omega; done)) | refine Sz (fun h => ?_) (fun h => ?_))
    refine Yb ?_
    (apply Le.headZ (hs := []) [] rfl)
    all_goals (try dsimp only [srcs])
    (case' hfr => (repeat' (first | refine La ?_ ?_ | exact Lc | refine Lo ?_ | refine ⟨⟨_, rfl, ?_⟩, ?_⟩ | refine Lx ?_)))
    all_goals (first | exact Ld | exact trivial | (rfl))
  | x :: r =>
    have h0 := digN_nonneg r
    have h1 := digN_lt r
    have hc1 : (x :: r).length = r.length + 1 := rfl
    by_cases hx : x = 45
    · subst hx
      have hDg := l01Digits_ac r (by simp at hl; omega)
      have e : sgN (45 :: r) = (-(digN r).1, (digN r).2 && decide (0 < (digN r).1)) := rfl
      rw [e]
      generalize digN r = q at *
      obtain ⟨q1, q2⟩ := q
      simp only at *
      cases q2
      ·
        refine AC.of_body 0 Tryd.func68 rfl (fun l h => absurd rfl h) (fun C hC => ?_)
        have hD : ∀ l, ¬ C.D0 l := fun l h => (hC l).1 h rfl
        simp only [startFr, Tryd.ntmps68, List.length_cons, List.length_nil, Nat.reduceAdd, Nat.reduceSub, List.replicate_succ, List.replicate_zero, List.cons_append, List.nil_append]
        repeat' (first | ((first | apply Ba | (apply Bb; (· rfl); (· rfl)) | (apply Bc; (· exact nxE)) | (apply Bd; (· rfl); (· rfl); (· exact nxE))); (· first | exact Ok.sidx (a := 45 :: r) (c := 45) rfl rfl rfl (by decide) rfl | exact Ok.sFrom (a := 45 :: r) (j := 1) rfl rfl rfl rfl (by simp) | exact Kz rfl rfl (hDg) (Ad An) | exact Ok.seqS rfl rfl rfl | exact Ok.sneS rfl rfl rfl | exact Ok.slen rfl rfl | exact Ok.pe)) | ((first | apply Ca | (apply Cb; (· exact nxE))); (· first | exact Ok.e0)) | refine Sx ?_ | (refine Sy (fun h => ?_) (fun h => ?_) <;> try (exfalso; omega; done)) | refine Sz (fun h => ?_) (fun h => ?_))
        refine Yb ?_
        (apply Le.headZ (hs := []) [] rfl)
        all_goals (try dsimp only [srcs])
        (case' hfr => (repeat' (first | refine La ?_ ?_ | exact Lc | refine Lo ?_ | refine ⟨⟨_, rfl, ?_⟩, ?_⟩ | refine Lx ?_)))
        all_goals (first | exact Ld | exact trivial | (rfl))
      ·
        refine AC.of_body 0 Tryd.func68 rfl (fun l h => absurd rfl h) (fun C hC => ?_)
        have hD : ∀ l, ¬ C.D0 l := fun l h => (hC l).1 h rfl
        simp only [startFr, Tryd.ntmps68, List.length_cons, List.length_nil, Nat.reduceAdd, Nat.reduceSub, List.replicate_succ, List.replicate_zero, List.cons_append, List.nil_append]
        repeat' (first | ((first | apply Ba | (apply Bb; (· rfl); (· rfl)) | (apply Bc; (· exact nxE)) | (apply Bd; (· rfl); (· rfl); (· exact nxE))); (· first | exact Ok.sidx (a := 45 :: r) (c := 45) rfl rfl rfl (by decide) rfl | exact Ok.sFrom (a := 45 :: r) (j := 1) rfl rfl rfl rfl (by simp) | exact Kz rfl rfl (hDg) (Ad An) | exact Ok.seqS rfl rfl rfl | exact Ok.sneS rfl rfl rfl | exact Ok.slen rfl rfl | exact Ok.pe)) | ((first | apply Ca | (apply Cb; (· exact nxE))); (· first | exact Ok.e0)) | refine Sx ?_ | (refine Sy (fun h => ?_) (fun h => ?_) <;> try (exfalso; omega; done)) | refine Sz (fun h => ?_) (fun h => ?_))
        refine Yb ?_
        (apply Le.headZ (hs := []) [] rfl)
        all_goals (try dsimp only [srcs])
        (case' hfr => (repeat' (first | refine La ?_ ?_ | exact Lc | refine Lo ?_ | refine ⟨⟨_, rfl, ?_⟩, ?_⟩ | refine Lx ?_)))
        all_goals (first | exact Ld | exact trivial | (rfl))
    · have hDg := l01Digits_ac (x :: r) hl
      have e : sgN (x :: r) = digN (x :: r) := by rw [sgN, if_neg (by simpa using hx)]
      rw [e]
      have hne : ¬ ((x.toNat : Int) = 45) := fun e => hx (UInt8.toNat_inj.1 (by simpa using (by omega : x.toNat = 45)))
      refine AC.of_body 0 Tryd.func68 rfl (fun l h => absurd rfl h) (fun C hC => ?_)
      have hD : ∀ l, ¬ C.D0 l := fun l h => (hC l).1 h rfl
      simp only [startFr, Tryd.ntmps68, List.length_cons, List.length_nil, Nat.reduceAdd, Nat.reduceSub, List.replicate_succ, List.replicate_zero, List.cons_append, List.nil_append]
      repeat' (first | ((first | apply Ba | (apply Bb; (· rfl); (· rfl)) | (apply Bc; (· exact nxE)) | (apply Bd; (· rfl); (· rfl); (· exact nxE))); (· first | exact Ok.sidx (a := x :: r) (c := x) rfl rfl rfl (by decide) rfl | exact Kz rfl rfl (hDg) (Ad An) | exact Ok.seqS rfl rfl rfl | exact Ok.sneS rfl rfl rfl | exact Ok.slen rfl rfl | exact Ok.pe)) | ((first | apply Ca | (apply Cb; (· exact nxE))); (· first | exact Ok.e0)) | refine Sx ?_ | (refine Sy (fun h => ?_) (fun h => ?_) <;> try (exfalso; omega; done)) | refine Sz (fun h => ?_) (fun h => ?_))
      refine Yb ?_
      (apply Le.headZ (hs := []) [] rfl)
      all_goals (try dsimp only [srcs])
      (case' hfr => (repeat' (first | refine La ?_ ?_ | exact Lc | refine Lo ?_ | refine ⟨⟨_, rfl, ?_⟩, ?_⟩ | refine Lx ?_)))
      all_goals (first | exact Ld | exact trivial | (rfl))
set_option maxHeartbeats 2000000 in
theorem l01Numbers_yes [Mode] (ws : List (List UInt8)) (hw : ws.length ≤ 2000000) (hl : ∀ w ∈ ws, w.length ≤ 100000000) (h : ∀ w ∈ ws, (sgN w).2 = true) : AC Tryd.prog 53 [SL ws] H0 (.tup [own1 1 ws.length, Bo true]) (hp1 (IO (ws.map fun w => (sgN w).1))) := by
  refine AC.of_body 0 Tryd.func53 rfl (fun l h => absurd rfl h) (fun C hC => ?_)
  have hD : ∀ l, ¬ C.D0 l := fun l h => (hC l).1 h rfl
  simp only [startFr, Tryd.ntmps53, List.length_cons, List.length_nil, Nat.reduceAdd, Nat.reduceSub, List.replicate_succ, List.replicate_zero, List.cons_append, List.nil_append]
  repeat' (first | ((first | apply Ba | (apply Bb; (· rfl); (· rfl)) | (apply Bc; (· exact nxE)) | (apply Bd; (· rfl); (· rfl); (· exact nxE))); (· first | exact Ok.lenD rfl rfl (stR_len ws) | exact Ok.seqS rfl rfl rfl | exact Ok.sneS rfl rfl rfl | exact Ok.slen rfl rfl | exact Ok.pe)) | ((first | apply Ca | (apply Cb; (· exact nxE))); (· first | exact Ok.e0)) | refine Sx ?_ | (refine Sy (fun h => ?_) (fun h => ?_) <;> try (exfalso; omega; done)) | refine Sz (fun h => ?_) (fun h => ?_))
  refine AW.loop (X := {k : Nat // k ≤ ws.length}) (fun k => ⟨[SL ws, Oo, Oo, Oo, .own 1 ⟨0, []⟩ 0 (k.1 : Nat), I (k.1 : Nat), Oo, Oo, Oo, Oo, Oo, Oo, Oo, Oo, Oo, Oo, Oo, Oo, Oo, Oo, Oo, Oo, Oo, Oo, Oo, Oo, Oo, Oo, Oo, Oo], heapL [(⟨0, []⟩, ⟨0, []⟩, IO ((ws.take k.1).map fun w => (sgN w).1))], 900⟩) (fun k => ws.length - k.1) ⟨0, Nat.zero_le _⟩ ?_ (fun k => ?_)
  ·
    (apply Le.headZ [_] rfl)
    all_goals (try dsimp only [srcs])
    (case' hfr | hob => (repeat' (first | refine La ?_ ?_ | exact Lc | refine Lo ?_ | refine ⟨⟨_, rfl, ?_⟩, ?_⟩ | refine Lx ?_)))
    all_goals (first | (rfl) | exact Ld)
  obtain ⟨k, hk⟩ := k
  simp only
  by_cases hlt : k < ws.length
  · obtain ⟨w, hx⟩ : ∃ w, ws[k]? = some w := ⟨ws[k], List.getElem?_eq_getElem hlt⟩
    have hrow := stR_getI hx
    have hmem := List.mem_of_getElem? hx
    have hS := l01Signed_ac w (hl w hmem)
    rw [h w hmem] at hS
    have hol : (IR ((ws.take k).map fun w => (sgN w).1)).length = k := by rw [IR_len, List.length_map, List.length_take]; omega
    have htk : (ws.take (k + 1)).map (fun w => (sgN w).1) = (ws.take k).map (fun w => (sgN w).1) ++ [(sgN w).1] := by rw [List.take_add_one, hx]; simp
    generalize (sgN w).1 = q at *
    repeat' (first | ((first | apply Ba | (apply Bb; (· rfl); (· rfl)) | (apply Bc; (· exact nxE)) | (apply Bd; (· rfl); (· rfl); (· exact nxE))); (· first | exact Ok.lenD rfl rfl (stR_len ws) | exact Kz rfl rfl (hS) (Ad An) | exact Ok.seqS rfl rfl rfl | exact Ok.sneS rfl rfl rfl | exact Ok.slen rfl rfl | exact Ok.append1 (row := [DI q]) rfl rfl (by decide) rfl rfl hol rfl rfl rfl (by rfl) (by omega) (by omega) | exact Ok.pe)) | ((first | apply Ca | (apply Cb; (· exact nxE))); (· first | exact Ok.append1 (row := [DI q]) rfl rfl (by decide) rfl rfl hol rfl rfl rfl (by rfl) (by omega) (by omega) | exact Ok.e0)) | refine Sx ?_ | (refine Sy (fun h => ?_) (fun h => ?_) <;> try (exfalso; omega; done)) | refine Sz (fun h => ?_) (fun h => ?_))
    refine ⟨⟨k + 1, by omega⟩, ?_, by simp only; omega⟩
    (apply Le.headZ [_] rfl)
    all_goals (try dsimp only [srcs])
    (case' hfr | hob => (repeat' (first | refine La ?_ ?_ | exact Lc | refine Lo ?_ | refine ⟨⟨_, rfl, ?_⟩, ?_⟩ | refine Lx ?_)))
    all_goals (first | ((first | (rw [htk, IR_app]; done) | (rw [htk]; simp; done))) | exact Ld)
  ·
    obtain rfl : k = ws.length := by omega
    rw [List.take_length]
    repeat' (first | ((first | apply Ba | (apply Bb; (· rfl); (· rfl)) | (apply Bc; (· exact nxE)) | (apply Bd; (· rfl); (· rfl); (· exact nxE))); (· first | exact Ok.lenD rfl rfl (stR_len ws) | exact Ok.seqS rfl rfl rfl | exact Ok.sneS rfl rfl rfl | exact Ok.slen rfl rfl | exact Ok.pe)) | ((first | apply Ca | (apply Cb; (· exact nxE))); (· first | exact Ok.e0)) | refine Sx ?_ | (refine Sy (fun h => ?_) (fun h => ?_) <;> try (exfalso; omega; done)) | refine Sz (fun h => ?_) (fun h => ?_))
    refine Yb ?_
    (apply Le.head [(⟨0, []⟩, _, _)])
    (case' hfr | hob => (repeat' (first | refine La ?_ ?_ | exact Lc | refine Lo ?_ | refine ⟨⟨_, rfl, ?_⟩, ?_⟩ | refine Lx ?_)))
    all_goals (first | exact Ld | (rfl))
end Go.Proofs.YtofakjlamoigcaaDoor
end

section
namespace Go.Proofs.YtofakjlamoigcaaDoor
set_option linter.unusedSimpArgs false
set_option linter.unusedVariables false
open Go Go.RowKit

/-- How many firings of an event there are. -/
def cnt (fs : List Fi) (e : Int) : Nat := fs.countP fun f => decide (f.e = e)
/-- The firings of the longest beginning of a text that is a trace; r: what is left. -/
structure RecOf (s : List UInt8) (fs : List Fi) (r : List UInt8) : Prop where
  len : fs.length ≤ 500
  wr : fs.all wrF = true
  num : ∀ (k : Nat) (f : Fi), fs[k]? = some f → f.n = cnt (fs.take k) f.e + 1
  txt : s = trT 1 fs ++ r
  stop : fs.length < 500 → ∀ f, wrF f = true → ∀ b, r ≠ trN (chA 1 fs) f ++ b
/-! Lines and words. -/
end Go.Proofs.YtofakjlamoigcaaDoor
end

section
namespace Go.Proofs.YtofakjlamoigcaaDoor
set_option linter.unusedSimpArgs false
set_option linter.unusedVariables false
open Go Go.RowKit
attribute [local irreducible] AL AD AW OpOk Le AC thenQ blockQ EndQ

abbrev nilV : AV := .d (.v (.slice none 0 0))
theorem splP_mem_len [Mode] {c : UInt8} : ∀ {l p w : List UInt8}, w ∈ splP c p l → w.length ≤ p.length + l.length
  | [], p, w, h => by simp only [splP, List.mem_singleton] at h; rw [h]; simp
  | x :: l, p, w, h => by
    rw [splP] at h
    split at h
    · rcases List.mem_cons.1 h with rfl | h
      · omega
      · have := splP_mem_len h
        simp only [List.length_nil, List.length_cons] at *
        omega
    · have := splP_mem_len h
      simp only [List.length_append, List.length_cons, List.length_nil] at *
      omega
theorem spl_mem_len [Mode] {c : UInt8} {l w : List UInt8} (h : w ∈ spl c l) : w.length ≤ l.length := by
  have := splP_mem_len h
  simpa using this
set_option maxHeartbeats 2000000 in
theorem l01Numbers_no [Mode] (ws : List (List UInt8)) (j : Nat) (v : List UInt8) (hw : ws.length ≤ 2000000) (hl : ∀ w ∈ ws, w.length ≤ 100000000) (hj : ws[j]? = some v) (hv : (sgN v).2 = false) (h : ∀ (i : Nat) w, i < j → ws[i]? = some w → (sgN w).2 = true) : AC Tryd.prog 53 [SL ws] H0 (.tup [nilV, Bo false]) H0 := by
  have hjl := (List.getElem?_eq_some_iff.1 hj).1
  refine AC.of_body 0 Tryd.func53 rfl (fun l h => absurd rfl h) (fun C hC => ?_)
  have hD : ∀ l, ¬ C.D0 l := fun l h => (hC l).1 h rfl
  simp only [startFr, Tryd.ntmps53, List.length_cons, List.length_nil, Nat.reduceAdd, Nat.reduceSub, List.replicate_succ, List.replicate_zero, List.cons_append, List.nil_append]
  repeat' (first | ((first | apply Ba | (apply Bb; (· rfl); (· rfl)) | (apply Bc; (· exact nxE)) | (apply Bd; (· rfl); (· rfl); (· exact nxE))); (· first | exact Ok.lenD rfl rfl (stR_len ws) | exact Ok.seqS rfl rfl rfl | exact Ok.sneS rfl rfl rfl | exact Ok.slen rfl rfl | exact OpOk.indexD rfl rfl rfl (by decide) rfl (by exact Nat.zero_lt_one) | exact Ok.pe)) | ((first | apply Ca | (apply Cb; (· exact nxE))); (· first | exact Ok.e0)) | refine Sx ?_ | (refine Sy (fun h => ?_) (fun h => ?_) <;> try (exfalso; omega; done)) | refine Sz (fun h => ?_) (fun h => ?_))
  refine AW.loop (X := {k : Nat // k ≤ j}) (fun k => ⟨[SL ws, Oo, Oo, Oo, .own 1 ⟨0, []⟩ 0 (k.1 : Nat), I (k.1 : Nat), Oo, Oo, Oo, Oo, Oo, Oo, Oo, Oo, Oo, Oo, Oo, Oo, Oo, Oo, Oo, Oo, Oo, Oo, Oo, Oo, Oo, Oo, Oo, Oo], heapL [(⟨0, []⟩, ⟨0, []⟩, IO ((ws.take k.1).map fun w => (sgN w).1))], 900⟩) (fun k => j - k.1) ⟨0, Nat.zero_le _⟩ ?_ (fun k => ?_)
  ·
    (apply Le.headZ [_] rfl)
    all_goals (try dsimp only [srcs])
    (case' hfr | hob => (repeat' (first | refine La ?_ ?_ | exact Lc | refine Lo ?_ | refine ⟨⟨_, rfl, ?_⟩, ?_⟩ | refine Lx ?_)))
    all_goals (first | (rfl) | exact Ld)
  obtain ⟨k, hk⟩ := k
  simp only
  by_cases hlt : k < j
  · obtain ⟨w, hx⟩ : ∃ w, ws[k]? = some w := ⟨ws[k], List.getElem?_eq_getElem (by omega)⟩
    have hrow := stR_getI hx
    have hmem := List.mem_of_getElem? hx
    have hS := l01Signed_ac w (hl w hmem)
    rw [h k w hlt hx] at hS
    have hol : (IR ((ws.take k).map fun w => (sgN w).1)).length = k := by rw [IR_len, List.length_map, List.length_take]; omega
    have htk : (ws.take (k + 1)).map (fun w => (sgN w).1) = (ws.take k).map (fun w => (sgN w).1) ++ [(sgN w).1] := by rw [List.take_add_one, hx]; simp
    generalize (sgN w).1 = q at *
    repeat' (first | ((first | apply Ba | (apply Bb; (· rfl); (· rfl)) | (apply Bc; (· exact nxE)) | (apply Bd; (· rfl); (· rfl); (· exact nxE))); (· first | exact Ok.lenD rfl rfl (stR_len ws) | exact Kz rfl rfl (hS) (Ad An) | exact Ok.seqS rfl rfl rfl | exact Ok.sneS rfl rfl rfl | exact Ok.slen rfl rfl | exact OpOk.indexD rfl rfl rfl (by decide) rfl (by exact Nat.zero_lt_one) | exact Ok.append1 (row := [DI q]) rfl rfl (by decide) rfl rfl hol rfl rfl rfl (by rfl) (by omega) (by omega) | exact Ok.pe)) | ((first | apply Ca | (apply Cb; (· exact nxE))); (· first | exact Ok.append1 (row := [DI q]) rfl rfl (by decide) rfl rfl hol rfl rfl rfl (by rfl) (by omega) (by omega) | exact Ok.e0)) | refine Sx ?_ | (refine Sy (fun h => ?_) (fun h => ?_) <;> try (exfalso; omega; done)) | refine Sz (fun h => ?_) (fun h => ?_))
    refine ⟨⟨k + 1, by omega⟩, ?_, by simp only; omega⟩
    (apply Le.headZ [_] rfl)
    all_goals (try dsimp only [srcs])
    (case' hfr | hob => (repeat' (first | refine La ?_ ?_ | exact Lc | refine Lo ?_ | refine ⟨⟨_, rfl, ?_⟩, ?_⟩ | refine Lx ?_)))
    all_goals (first | ((first | (rw [htk, IR_app]; done) | (rw [htk]; simp; done))) | exact Ld)
  ·
    obtain rfl : k = j := by omega
    have hrow := stR_getI hj
    have hS := l01Signed_ac v (hl v (List.mem_of_getElem? hj))
    rw [hv] at hS
    repeat' (first | ((first | apply Ba | (apply Bb; (· rfl); (· rfl)) | (apply Bc; (· exact nxE)) | (apply Bd; (· rfl); (· rfl); (· exact nxE))); (· first | exact Ok.lenD rfl rfl (stR_len ws) | exact Kz rfl rfl (hS) (Ad An) | exact Ok.seqS rfl rfl rfl | exact Ok.sneS rfl rfl rfl | exact Ok.slen rfl rfl | exact OpOk.indexD rfl rfl rfl (by decide) rfl (by exact Nat.zero_lt_one) | exact Ok.pe)) | ((first | apply Ca | (apply Cb; (· exact nxE))); (· first | exact Ok.e0)) | refine Sx ?_ | (refine Sy (fun h => ?_) (fun h => ?_) <;> try (exfalso; omega; done)) | refine Sz (fun h => ?_) (fun h => ?_))
    refine Yb ?_
    (apply Le.headZ (hs := []) [] rfl)
    all_goals (try dsimp only [srcs])
    (case' hfr => (repeat' (first | refine La ?_ ?_ | exact Lc | refine Lo ?_ | refine ⟨⟨_, rfl, ?_⟩, ?_⟩ | refine Lx ?_)))
    all_goals (first | exact Ld | exact trivial | (rfl))
theorem numbers_frz [Mode] {ws : List (List UInt8)} {ns : List Int} (hw : ws.length ≤ 2000000) (hl : ∀ w ∈ ws, w.length ≤ 100000000) (h : ∀ w ∈ ws, (sgN w).2 = true) (he : ws.map (fun w => (sgN w).1) = ns) : AC Tryd.prog 53 [SL ws] H0 (.tup [IL ns, Bo true]) H0 := by
  subst he
  exact (l01Numbers_yes ws hw hl h).frz (ARs.tup (.cons (AR.whole rfl trivial (by rw [IR_len, List.length_map])) (.cons (.dd _) .nil)))
theorem split_frz [Mode] (l : List UInt8) (c : UInt8) (hl : l.length ≤ 100000000) : AC Tryd.prog 42 [Str l, Byt c] H0 (SL (spl c l)) H0 :=
  (l01Split_ac l c hl).frz (AR.whole rfl trivial (stR_len _))
/-- Either all words are numbers, or there is a first one that is none. -/
theorem words_or [Mode] (ws : List (List UInt8)) : (∀ w ∈ ws, (sgN w).2 = true) ∨ ∃ j v, ws[j]? = some v ∧ (sgN v).2 = false ∧ ∀ (i : Nat) w, i < j → ws[i]? = some w → (sgN w).2 = true := by
  induction ws with
  | nil => exact .inl (by simp)
  | cons w ws ih =>
    cases hw : (sgN w).2 with
    | false => exact .inr ⟨0, w, rfl, hw, fun i w hi => by omega⟩
    | true =>
      rcases ih with h | ⟨j, v, h1, h2, h3⟩
      · exact .inl fun x hx => by rcases List.mem_cons.1 hx with rfl | hx; (· exact hw); (· exact h x hx)
      · refine .inr ⟨j + 1, v, by simpa using h1, h2, fun i x hi hx => ?_⟩
        cases i with
        | zero => simp at hx; subst hx; exact hw
        | succ i => exact h3 i x (by omega) (by simpa using hx)
end Go.Proofs.YtofakjlamoigcaaDoor
end

section
namespace Go.Proofs.YtofakjlamoigcaaDoor
set_option linter.unusedSimpArgs false
set_option linter.unusedVariables false
open Go Go.RowKit
attribute [local irreducible] AL AD AW OpOk Le AC thenQ blockQ EndQ

/-- A place as the reference reads it: the pieces behind the second cut, then the whole. -/
def r11W (a b : List UInt8) (ws : List (List UInt8)) : Pl × Bool :=
  if (∀ w ∈ a :: b :: ws, (sgN w).2 = true) ∧ ws.length = 2 then (⟨(sgN a).1, (sgN b).1, (sgN (ws.getD 0 [])).1, (sgN (ws.getD 1 [])).1⟩, true) else (plZ, false)
def r11B (a : List UInt8) : List (List UInt8) → Pl × Bool
  | [b, z] => r11W a b (spl 42 z)
  | _ => (plZ, false)
def r11 (l : List UInt8) : Pl × Bool := match spl 62 l with
  | [a, y] => r11B a (spl 58 y)
  | _ => (plZ, false)
theorem r11_plT [Mode] {p : Pl} (h : plB 9 p = true) : r11 (plT p) = (p, true) := by
  obtain ⟨a, b, c, d, rfl, h1, h2, h3, h4⟩ := plB_nat h
  rw [plT_nat]
  have e1 : spl 62 (dec a ++ 62 :: (dec b ++ 58 :: (dec c ++ 42 :: dec d))) = [dec a, dec b ++ 58 :: (dec c ++ 42 :: dec d)] := by
    rw [spl_at (dec_no (by decide)), spl_no]
    simp only [List.mem_append, List.mem_cons, not_or]
    exact ⟨dec_no (by decide), by decide, dec_no (by decide), by decide, dec_no (by decide)⟩
  have e2 : spl 58 (dec b ++ 58 :: (dec c ++ 42 :: dec d)) = [dec b, dec c ++ 42 :: dec d] := by
    rw [spl_at (dec_no (by decide)), spl_no]
    simp only [List.mem_append, List.mem_cons, not_or]
    exact ⟨dec_no (by decide), by decide, dec_no (by decide)⟩
  have e3 : spl 42 (dec c ++ 42 :: dec d) = [dec c, dec d] := by
    rw [spl_at (dec_no (by decide)), spl_no (dec_no (by decide))]
  unfold r11
  rw [e1]
  show r11B (dec a) (spl 58 _) = _
  rw [e2]
  show r11W (dec a) (dec b) (spl 42 _) = _
  rw [e3]
  unfold r11W
  rw [if_pos ⟨by simp [sgN_dec (show a < 10000000000 by omega), sgN_dec (show b < 10000000000 by omega), sgN_dec (show c < 10000000000 by omega), sgN_dec (show d < 10000000000 by omega)], rfl⟩]
  simp [sgN_dec (show a < 10000000000 by omega), sgN_dec (show b < 10000000000 by omega), sgN_dec (show c < 10000000000 by omega), sgN_dec (show d < 10000000000 by omega)]
theorem two_or [Mode] {α : Type} (ws : List α) : ws.length ≠ 2 ∨ ∃ a b, ws = [a, b] := by
  match ws with
  | [] => exact .inl (by simp)
  | [_] => exact .inl (by simp)
  | [a, b] => exact .inr ⟨a, b, rfl⟩
  | _ :: _ :: _ :: _ => exact .inl (by simp)
theorem r11B_ne [Mode] {a : List UInt8} {ws : List (List UInt8)} (h : ws.length ≠ 2) : r11B a ws = (plZ, false) := by
  match ws, h with
  | [], _ => rfl
  | [_], _ => rfl
  | [_, _], h => exact absurd rfl h
  | _ :: _ :: _ :: _, _ => rfl
theorem r11_ne [Mode] {l : List UInt8} (h : (spl 62 l).length ≠ 2) : r11 l = (plZ, false) := by
  unfold r11
  generalize spl 62 l = ws at *
  match ws, h with
  | [], _ => rfl
  | [_], _ => rfl
  | [_, _], h => exact absurd rfl h
  | _ :: _ :: _ :: _, _ => rfl
theorem stR_one2 [Mode] : ∀ ss : List (List UInt8), ∀ r ∈ stR ss, r.length = 1 := fun ss r hr => by
  obtain ⟨s, _, rfl⟩ := List.mem_map.1 hr; rfl
theorem stR_one3 [Mode] : ∀ ss : List (List UInt8), ∀ r ∈ stR ss, (r.map AV.d).all AV.one = true := fun ss r hr => by
  obtain ⟨s, _, rfl⟩ := List.mem_map.1 hr; rfl
set_option maxHeartbeats 4000000 in
theorem l11Read_ac [Mode] (l : List UInt8) (hl : l.length ≤ 1100000) : AC Tryd.prog 45 [Str l] H0 (.tup [(r11 l).1.av, Bo (r11 l).2]) H0 := by
  have hS1 := split_frz l 62 (by omega)
  have hwl : (spl 62 l).length ≤ 1100001 := by
    have h2 := stS_len 62 l (l.length + 1)
    rw [stS_end] at h2
    omega
  have hwn : (stR (spl 62 l)).length = (spl 62 l).length := stR_len _
  rcases two_or (spl 62 l) with h2 | ⟨a, y, h2⟩
  · have hq := r11_ne h2
    rw [hq]
    generalize spl 62 l = ws at *
    refine AC.of_body 0 Tryd.func45 rfl (fun l h => absurd rfl h) (fun C hC => ?_)
    have hD : ∀ l, ¬ C.D0 l := fun l h => (hC l).1 h rfl
    simp only [startFr, Tryd.ntmps45, List.length_cons, List.length_nil, Nat.reduceAdd, Nat.reduceSub, List.replicate_succ, List.replicate_zero, List.cons_append, List.nil_append]
    repeat' (first | ((first | apply Ba | (apply Bb; (· rfl); (· rfl)) | (apply Bc; (· exact nxE)) | (apply Bd; (· rfl); (· rfl); (· exact nxE))); (· first | exact Ok.lenD rfl rfl hwn | exact Kz rfl rfl (hS1) (Ad (Ad An)) | exact Ok.seqS rfl rfl rfl | exact Ok.slen rfl rfl | exact OpOk.indexD rfl rfl rfl (by decide) rfl (by exact Nat.zero_lt_one) | exact Ok.pe)) | ((first | apply Ca | (apply Cb; (· exact nxE))); (· first | exact Ok.e0)) | refine Sx ?_ | (refine Sy (fun h => ?_) (fun h => ?_) <;> try (exfalso; omega; done)) | refine Sz (fun h => ?_) (fun h => ?_))
    all_goals
      refine Yb ?_
      (apply Le.headZ (hs := []) [] rfl)
      all_goals (try dsimp only [srcs])
      (case' hfr => (repeat' (first | refine La ?_ ?_ | exact Lc | refine Lo ?_ | refine ⟨⟨_, rfl, ?_⟩, ?_⟩ | refine Lx ?_)))
      all_goals (first | exact Ld | exact trivial | (rfl))
  have hq : r11 l = r11B a (spl 58 y) := by unfold r11; rw [h2]
  have hy : y.length ≤ l.length := spl_mem_len (c := 62) (by rw [h2]; simp)
  have ha : a.length ≤ l.length := spl_mem_len (c := 62) (by rw [h2]; simp)
  rw [hq]
  rw [h2] at hS1
  have hS2 := split_frz y 58 (by omega)
  have hyl : (spl 58 y).length ≤ 1100001 := by
    have h2 := stS_len 58 y (y.length + 1)
    rw [stS_end] at h2
    omega
  have hyn : (stR (spl 58 y)).length = (spl 58 y).length := stR_len _
  rcases two_or (spl 58 y) with h3 | ⟨b, z, h3⟩
  · rw [r11B_ne h3]
    clear hwl hwn hq h2
    generalize spl 58 y = ws at *
    refine AC.of_body 0 Tryd.func45 rfl (fun l h => absurd rfl h) (fun C hC => ?_)
    have hD : ∀ l, ¬ C.D0 l := fun l h => (hC l).1 h rfl
    simp only [startFr, Tryd.ntmps45, List.length_cons, List.length_nil, Nat.reduceAdd, Nat.reduceSub, List.replicate_succ, List.replicate_zero, List.cons_append, List.nil_append]
    repeat' (first | ((first | apply Ba | (apply Bb; (· rfl); (· rfl)) | (apply Bc; (· exact nxE)) | (apply Bd; (· rfl); (· rfl); (· exact nxE))); (· first | exact Ok.lenD rfl rfl hyn | exact Kz rfl rfl (hS1) (Ad (Ad An)) | exact Kz rfl rfl (hS2) (Ad (Ad An)) | exact Ok.seqS rfl rfl rfl | exact Ok.slen rfl rfl | exact OpOk.indexD rfl rfl rfl (by decide) rfl (by exact Nat.zero_lt_one) | exact Ok.pe)) | ((first | apply Ca | (apply Cb; (· exact nxE))); (· first | exact Ok.e0)) | refine Sx ?_ | (refine Sy (fun h => ?_) (fun h => ?_) <;> try (exfalso; omega; done)) | refine Sz (fun h => ?_) (fun h => ?_))
    all_goals
      refine Yb ?_
      (apply Le.headZ (hs := []) [] rfl)
      all_goals (try dsimp only [srcs])
      (case' hfr => (repeat' (first | refine La ?_ ?_ | exact Lc | refine Lo ?_ | refine ⟨⟨_, rfl, ?_⟩, ?_⟩ | refine Lx ?_)))
      all_goals (first | exact Ld | exact trivial | (rfl))
  have hb : b.length ≤ y.length := spl_mem_len (c := 58) (by rw [h3]; simp)
  have hz : z.length ≤ y.length := spl_mem_len (c := 58) (by rw [h3]; simp)
  rw [h3]
  rw [h3] at hS2
  show AC Tryd.prog 45 [Str l] H0 (.tup [(r11W a b (spl 42 z)).1.av, Bo (r11W a b (spl 42 z)).2]) H0
  have hS3 := split_frz z 42 (by omega)
  have hzl : (spl 42 z).length ≤ 1100001 := by
    have h2 := stS_len 42 z (z.length + 1)
    rw [stS_end] at h2
    omega
  have hzn : (stR (spl 42 z)).length = (spl 42 z).length := stR_len _
  have hel : ∀ w ∈ a :: b :: spl 42 z, w.length ≤ 100000000 := fun w hw => by
    rcases List.mem_cons.1 hw with rfl | hw
    · omega
    rcases List.mem_cons.1 hw with rfl | hw
    · omega
    have := spl_mem_len hw
    omega
  have hall : (a :: b :: spl 42 z).length = 2 + (spl 42 z).length := by simp only [List.length_cons]; omega
  clear hwl hwn hq h2 hyl hyn h3
  generalize spl 42 z = ws at *
  have hstA : stR (a :: b :: ws) = stR [a, b] ++ stR ws := rfl
  rcases words_or (a :: b :: ws) with hok | ⟨j, v, hj1, hj2, hj3⟩
  case inr =>
    have hN := l01Numbers_no (a :: b :: ws) j v (by omega) hel hj1 hj2 hj3
    have hq : r11W a b ws = (plZ, false) := by
      unfold r11W
      rw [if_neg]
      rintro ⟨h1, _⟩
      rw [h1 v (List.mem_of_getElem? hj1)] at hj2
      cases hj2
    rw [hq]
    rw [SL, hstA] at hN
    have hLN : (stR [a, b] ++ stR ws).length = 2 + ws.length := by rw [List.length_append, hzn]; rfl
    refine AC.of_body 0 Tryd.func45 rfl (fun l h => absurd rfl h) (fun C hC => ?_)
    have hD : ∀ l, ¬ C.D0 l := fun l h => (hC l).1 h rfl
    simp only [startFr, Tryd.ntmps45, List.length_cons, List.length_nil, Nat.reduceAdd, Nat.reduceSub, List.replicate_succ, List.replicate_zero, List.cons_append, List.nil_append]
    repeat' (first | ((first | apply Ba | (apply Bb; (· rfl); (· rfl)) | (apply Bc; (· exact nxE)) | (apply Bd; (· rfl); (· rfl); (· exact nxE))); (· first | exact Ok.lenD rfl rfl (show (stR [a, y]).length = 2 from rfl) | exact Ok.lenD rfl rfl (show (stR [b, z]).length = 2 from rfl) | exact Kz rfl rfl (hS1) (Ad (Ad An)) | exact Kz rfl rfl (hS2) (Ad (Ad An)) | exact Kz rfl rfl (hS3) (Ad (Ad An)) | exact Ez rfl rfl (hN) (Sw (hn := by assumption) Sn) | exact Ok.seqS rfl rfl rfl | exact Ok.slen rfl rfl | exact OpOk.indexD rfl rfl rfl (by decide) rfl (by exact Nat.zero_lt_one) | exact Ok.bs2 rfl (by conv => lhs; whnf) (by conv => lhs; whnf) (by rfl) (by rfl) (by rfl) (by rfl) (by rfl) (by rfl) (by decide) | exact Ok.appendD (rows := stR [a, b]) rfl rfl (by decide) rfl rfl rfl rfl hzn (stR_one2 ws) (stR_one3 ws) (by omega) (by omega) | exact Ok.pe)) | ((first | apply Ca | (apply Cb; (· exact nxE))); (· first | exact Ok.bs2 rfl (by conv => lhs; whnf) (by conv => lhs; whnf) (by rfl) (by rfl) (by rfl) (by rfl) (by rfl) (by rfl) (by decide) | exact Ok.appendD (rows := stR [a, b]) rfl rfl (by decide) rfl rfl rfl rfl hzn (stR_one2 ws) (stR_one3 ws) (by omega) (by omega) | exact Ok.e0)) | refine Sx ?_ | (refine Sy (fun h => ?_) (fun h => ?_) <;> try (exfalso; omega; done)) | refine Sz (fun h => ?_) (fun h => ?_))
    all_goals
      refine Yb ?_
      (apply Le.headZ (hs := []) [] rfl)
      all_goals (try dsimp only [srcs])
      (case' hfr => (repeat' (first | refine La ?_ ?_ | exact Lc | refine Lo ?_ | refine ⟨⟨_, rfl, ?_⟩, ?_⟩ | refine Lx ?_)))
      all_goals (first | exact Ld | exact trivial | (rfl))
  have hN := numbers_frz (ws := a :: b :: ws) (by omega) hel hok rfl
  rw [SL, hstA] at hN
  have hLN : (stR [a, b] ++ stR ws).length = 2 + ws.length := by rw [List.length_append, hzn]; rfl
  have hIN : (IR ((a :: b :: ws).map fun w => (sgN w).1)).length = 2 + ws.length := by rw [IR_len, List.length_map]; exact hall
  by_cases h4 : ws.length = 2
  case neg =>
    have hq : r11W a b ws = (plZ, false) := by
      unfold r11W
      rw [if_neg]
      rintro ⟨_, h1⟩
      exact h4 h1
    rw [hq]
    generalize (a :: b :: ws).map (fun w => (sgN w).1) = ns at *
    refine AC.of_body 0 Tryd.func45 rfl (fun l h => absurd rfl h) (fun C hC => ?_)
    have hD : ∀ l, ¬ C.D0 l := fun l h => (hC l).1 h rfl
    simp only [startFr, Tryd.ntmps45, List.length_cons, List.length_nil, Nat.reduceAdd, Nat.reduceSub, List.replicate_succ, List.replicate_zero, List.cons_append, List.nil_append]
    repeat' (first | ((first | apply Ba | (apply Bb; (· rfl); (· rfl)) | (apply Bc; (· exact nxE)) | (apply Bd; (· rfl); (· rfl); (· exact nxE))); (· first | exact Ok.lenD rfl rfl (show (stR [a, y]).length = 2 from rfl) | exact Ok.lenD rfl rfl (show (stR [b, z]).length = 2 from rfl) | exact Ok.lenD rfl rfl hIN | exact Kz rfl rfl (hS1) (Ad (Ad An)) | exact Kz rfl rfl (hS2) (Ad (Ad An)) | exact Kz rfl rfl (hS3) (Ad (Ad An)) | exact Zf rfl rfl (hN) (Sw (hn := by assumption) Sn) | exact Ok.seqS rfl rfl rfl | exact Ok.slen rfl rfl | exact OpOk.indexD rfl rfl rfl (by decide) rfl (by exact Nat.zero_lt_one) | exact Ok.bs2 rfl (by conv => lhs; whnf) (by conv => lhs; whnf) (by rfl) (by rfl) (by rfl) (by rfl) (by rfl) (by rfl) (by decide) | exact Ok.appendD (rows := stR [a, b]) rfl rfl (by decide) rfl rfl rfl rfl hzn (stR_one2 ws) (stR_one3 ws) (by omega) (by omega) | exact Ok.pe)) | ((first | apply Ca | (apply Cb; (· exact nxE))); (· first | exact Ok.bs2 rfl (by conv => lhs; whnf) (by conv => lhs; whnf) (by rfl) (by rfl) (by rfl) (by rfl) (by rfl) (by rfl) (by decide) | exact Ok.appendD (rows := stR [a, b]) rfl rfl (by decide) rfl rfl rfl rfl hzn (stR_one2 ws) (stR_one3 ws) (by omega) (by omega) | exact Ok.e0)) | refine Sx ?_ | (refine Sy (fun h => ?_) (fun h => ?_) <;> try (exfalso; omega; done)) | refine Sz (fun h => ?_) (fun h => ?_))
    all_goals
      refine Yb ?_
      (apply Le.headZ (hs := []) [] rfl)
      all_goals (try dsimp only [srcs])
      (case' hfr => (repeat' (first | refine La ?_ ?_ | exact Lc | refine Lo ?_ | refine ⟨⟨_, rfl, ?_⟩, ?_⟩ | refine Lx ?_)))
      all_goals (first | exact Ld | exact trivial | (rfl))
  match ws, h4 with
  | [c, d], _ =>
    have hq : r11W a b [c, d] = (⟨(sgN a).1, (sgN b).1, (sgN c).1, (sgN d).1⟩, true) := if_pos ⟨hok, rfl⟩
    rw [hq]
    simp only [List.map_cons, List.map_nil] at hN hIN
    generalize (sgN a).1 = n1 at *
    generalize (sgN b).1 = n2 at *
    generalize (sgN c).1 = n3 at *
    generalize (sgN d).1 = n4 at *
    refine AC.of_body 0 Tryd.func45 rfl (fun l h => absurd rfl h) (fun C hC => ?_)
    have hD : ∀ l, ¬ C.D0 l := fun l h => (hC l).1 h rfl
    simp only [startFr, Tryd.ntmps45, List.length_cons, List.length_nil, Nat.reduceAdd, Nat.reduceSub, List.replicate_succ, List.replicate_zero, List.cons_append, List.nil_append]
    repeat' (first | ((first | apply Ba | (apply Bb; (· rfl); (· rfl)) | (apply Bc; (· exact nxE)) | (apply Bd; (· rfl); (· rfl); (· exact nxE))); (· first | exact Ok.lenD rfl rfl (show (stR [a, y]).length = 2 from rfl) | exact Ok.lenD rfl rfl (show (stR [b, z]).length = 2 from rfl) | exact Ok.lenD rfl rfl hIN | exact Kz rfl rfl (hS1) (Ad (Ad An)) | exact Kz rfl rfl (hS2) (Ad (Ad An)) | exact Kz rfl rfl (hS3) (Ad (Ad An)) | exact Zf rfl rfl (hN) (Sw (hn := by assumption) Sn) | exact Ok.seqS rfl rfl rfl | exact Ok.slen rfl rfl | exact OpOk.indexD rfl rfl rfl (by decide) rfl (by exact Nat.zero_lt_one) | exact Ok.bs2 rfl (by conv => lhs; whnf) (by conv => lhs; whnf) (by rfl) (by rfl) (by rfl) (by rfl) (by rfl) (by rfl) (by decide) | exact Ok.appendD (rows := stR [a, b]) rfl rfl (by decide) rfl rfl rfl rfl hzn (stR_one2 [c, d]) (stR_one3 [c, d]) (by omega) (by omega) | exact Ok.pe)) | ((first | apply Ca | (apply Cb; (· exact nxE))); (· first | exact Ok.bs2 rfl (by conv => lhs; whnf) (by conv => lhs; whnf) (by rfl) (by rfl) (by rfl) (by rfl) (by rfl) (by rfl) (by decide) | exact Ok.appendD (rows := stR [a, b]) rfl rfl (by decide) rfl rfl rfl rfl hzn (stR_one2 [c, d]) (stR_one3 [c, d]) (by omega) (by omega) | exact Ok.e0)) | refine Sx ?_ | (refine Sy (fun h => ?_) (fun h => ?_) <;> try (exfalso; omega; done)) | refine Sz (fun h => ?_) (fun h => ?_))
    all_goals
      refine Yb ?_
      (apply Le.headZ (hs := []) [] rfl)
      all_goals (try dsimp only [srcs])
      (case' hfr => (repeat' (first | refine La ?_ ?_ | exact Lc | refine Lo ?_ | refine ⟨⟨_, rfl, ?_⟩, ?_⟩ | refine Lx ?_)))
      all_goals (first | exact Ld | exact trivial | (rfl))
end Go.Proofs.YtofakjlamoigcaaDoor
end

section
namespace Go.Proofs.YtofakjlamoigcaaDoor
set_option linter.unusedSimpArgs false
set_option linter.unusedVariables false
open Go Go.RowKit
attribute [local irreducible] AL AD AW OpOk Le AC thenQ blockQ EndQ

theorem cut_len1 [Mode] (l : List UInt8) (c : UInt8) : (Lib.cut l [c]).1.length ≤ l.length ∧ (Lib.cut l [c]).2.1.length ≤ l.length := by
  rcases first_byte c l with h1 | ⟨a, b, rfl, h1⟩
  · rw [cut_no h1]; simp
  · rw [cut_at h1]; simp only [List.length_append, List.length_cons]; omega
/-- The array of numbers, so far filled. -/
def arC (a b c d : Int) : Nat → List AV
  | 0 => [I 0, I 0, I 0, I 0]
  | 1 => [I a, I 0, I 0, I 0]
  | 2 => [I a, I b, I 0, I 0]
  | 3 => [I a, I b, I c, I 0]
  | _ => [I a, I b, I c, I d]
/-- The first of four that fails, or four. -/
def badK (a b c d : Bool) : Nat := if a = false then 0 else if b = false then 1 else if c = false then 2 else if d = false then 3 else 4
set_option maxHeartbeats 4000000 in
theorem readPlace_ac [Mode] [HasTab] [HasErr] [HasLen] (l : List UInt8) (hl : l.length ≤ 100000000) : AC Tryd.prog 39 [Str l] H0 (.tup [(rpN l).1.av, Bo (rpN l).2]) H0 := by
  have hC1 := cut_ac l [62] (by omega)
  have hC2 := cut_ac (rpR l) [58] (by have := (cut_len1 l 62).2; unfold rpR; omega)
  have hC3 := cut_ac (rpS l) [42] (by have := (cut_len1 l 62).2; have := (cut_len1 (rpR l) 58).2; unfold rpS; unfold rpR at *; omega)
  have w1 : (rpA l).length ≤ 100000000 := by have := (cut_len1 l 62).1; unfold rpA; omega
  have w2 : (rpB l).length ≤ 100000000 := by have := (cut_len1 l 62).2; have := (cut_len1 (rpR l) 58).1; unfold rpB; unfold rpR at *; omega
  have w3 : (rpC l).length ≤ 100000000 := by have := (cut_len1 l 62).2; have := (cut_len1 (rpR l) 58).2; have := (cut_len1 (rpS l) 42).1; unfold rpC; unfold rpS rpR at *; omega
  have w4 : (rpD l).length ≤ 100000000 := by have := (cut_len1 l 62).2; have := (cut_len1 (rpR l) 58).2; have := (cut_len1 (rpS l) 42).2; unfold rpD; unfold rpS rpR at *; omega
  have hN1 := readNumber_ac (rpA l) w1
  have hN2 := readNumber_ac (rpB l) w2
  have hN3 := readNumber_ac (rpC l) w3
  have hN4 := readNumber_ac (rpD l) w4
  have hres : rpN l = if (rdN (rpA l)).2 = true ∧ (rdN (rpB l)).2 = true ∧ (rdN (rpC l)).2 = true ∧ (rdN (rpD l)).2 = true then (⟨(rdN (rpA l)).1, (rdN (rpB l)).1, (rdN (rpC l)).1, (rdN (rpD l)).1⟩, true) else (⟨0, 0, 0, 0⟩, false) := rfl
  change AC Tryd.prog 37 [Str l, Str [62]] H0 (.tup [Str (rpA l), Str (rpR l), Bo (Lib.cut l [62]).2.2]) H0 at hC1
  change AC Tryd.prog 37 [Str (rpR l), Str [58]] H0 (.tup [Str (rpB l), Str (rpS l), Bo (Lib.cut (rpR l) [58]).2.2]) H0 at hC2
  change AC Tryd.prog 37 [Str (rpS l), Str [42]] H0 (.tup [Str (rpC l), Str (rpD l), Bo (Lib.cut (rpS l) [42]).2.2]) H0 at hC3
  generalize (Lib.cut l [62]).2.2 = f1 at *
  generalize (Lib.cut (rpR l) [58]).2.2 = f2 at *
  generalize (Lib.cut (rpS l) [42]).2.2 = f3 at *
  generalize rdN (rpA l) = q1 at *
  generalize rdN (rpB l) = q2 at *
  generalize rdN (rpC l) = q3 at *
  generalize rdN (rpD l) = q4 at *
  generalize rpA l = A at *
  generalize rpB l = B at *
  generalize rpC l = D at *
  generalize rpD l = E at *
  generalize rpR l = R at *
  generalize rpS l = S at *
  obtain ⟨n1, b1⟩ := q1
  obtain ⟨n2, b2⟩ := q2
  obtain ⟨n3, b3⟩ := q3
  obtain ⟨n4, b4⟩ := q4
  simp only at hN1 hN2 hN3 hN4 hres
  obtain ⟨m, hm⟩ : ∃ m, badK b1 b2 b3 b4 = m := ⟨_, rfl⟩
  have hm4 : m ≤ 4 := by unfold badK at hm; (repeat' split at hm) <;> omega
  generalize rpN l = q at *
  obtain ⟨p, b⟩ := q
  simp only
  refine AC.of_body 0 Tryd.func39 rfl (fun l h => absurd rfl h) (fun C hC => ?_)
  have hD : ∀ l, ¬ C.D0 l := fun l h => (hC l).1 h rfl
  simp only [startFr, Tryd.ntmps39, List.length_cons, List.length_nil, Nat.reduceAdd, Nat.reduceSub, List.replicate_succ, List.replicate_zero, List.cons_append, List.nil_append]
  repeat' (first | ((first | apply Ba | (apply Bb; (· rfl); (· rfl)) | (apply Bc; (· exact nxE)) | (apply Bd; (· rfl); (· rfl); (· exact nxE))); (· first | exact Kz rfl rfl (hC1) (Ad (Ad An)) | exact Kz rfl rfl (hC2) (Ad (Ad An)) | exact Kz rfl rfl (hC3) (Ad (Ad An)) | exact Ok.abuild4 rfl rfl rfl rfl rfl Tryd.underlying93 rfl rfl rfl rfl | exact Ok.seqS rfl rfl rfl | exact Ok.slen rfl rfl | exact Ok.pe)) | ((first | apply Ca | (apply Cb; (· exact nxE))); (· first | exact Ok.e0)) | refine Sx ?_ | (refine Sy (fun h => ?_) (fun h => ?_) <;> try (exfalso; omega; done)) | refine Sz (fun h => ?_) (fun h => ?_))
  refine AW.loop (X := {k : Nat // k ≤ m}) (fun k => ⟨[Oo, Oo, Bx 4 0, Oo, Oo, Oo, Oo, Oo, Oo, Oo, Oo, Oo, Bx 4 1, Oo, Oo, Oo, Oo, Oo, Oo, Oo, Oo, Oo, Oo, Oo, Oo, Oo, Oo, Oo, Oo, Oo, Oo, Oo, Oo, Oo, Oo, Oo, Oo, Oo, Oo, .agg [Str A, Str B, Str D, Str E], I (k.1 : Nat), Oo, Oo, Oo, Oo, Oo, Oo, Oo, Oo, Oo, Oo, Oo, Oo, Oo, Oo, Oo, Oo, Oo, Oo, Oo, Oo, Oo, Oo, Oo, Oo], heapL [(⟨0, []⟩, ⟨0, []⟩, ⟨4, [[I 0, I 0, I 0, I 0]]⟩), (⟨1, []⟩, ⟨1, []⟩, ⟨4, [arC n1 n2 n3 n4 k.1]⟩)], 900⟩) (fun k => m - k.1) ⟨0, Nat.zero_le _⟩ ?_ (fun k => ?_)
  ·
    (apply Le.headZ [_, _] rfl)
    all_goals (try dsimp only [srcs])
    (case' hfr | hob => (repeat' (first | refine La ?_ ?_ | exact Lc | refine Lo ?_ | refine ⟨⟨_, rfl, ?_⟩, ?_⟩ | refine Lx ?_)))
    all_goals (first | (rfl) | exact Ld)
  obtain ⟨k, hk⟩ := k
  simp only
  have hcase : (k = 0 ∧ b1 = true ∧ 1 ≤ m) ∨ (k = 0 ∧ b1 = false) ∨ (k = 1 ∧ b2 = true ∧ 2 ≤ m) ∨ (k = 1 ∧ b2 = false) ∨ (k = 2 ∧ b3 = true ∧ 3 ≤ m) ∨ (k = 2 ∧ b3 = false) ∨ (k = 3 ∧ b4 = true ∧ 4 ≤ m) ∨ (k = 3 ∧ b4 = false) ∨ (k = 4 ∧ b1 = true ∧ b2 = true ∧ b3 = true ∧ b4 = true) := by
    subst hm
    unfold badK at hk ⊢
    cases b1 <;> cases b2 <;> cases b3 <;> cases b4 <;> simp at hk ⊢ <;> omega
  rcases hcase with ⟨rfl, rfl, h9⟩ | ⟨rfl, rfl⟩ | ⟨rfl, rfl, h9⟩ | ⟨rfl, rfl⟩ | ⟨rfl, rfl, h9⟩ | ⟨rfl, rfl⟩ | ⟨rfl, rfl, h9⟩ | ⟨rfl, rfl⟩ | ⟨rfl, rfl, rfl, rfl, rfl⟩
  · simp only [arC]
    repeat' (first | ((first | apply Ba | (apply Bb; (· rfl); (· rfl)) | (apply Bc; (· exact nxE)) | (apply Bd; (· rfl); (· rfl); (· exact nxE))); (· first | exact Kz rfl rfl (hN1) (Ad An) | exact Ok.aidx rfl rfl rfl Tryd.underlying93 (by decide) (by decide) rfl | exact Ok.aptrN (j' := 0) rfl rfl rfl Tryd.underlying92 (by decide) (by decide) rfl | exact Ok.seqS rfl rfl rfl | exact Ok.slen rfl rfl | exact Ok.pe)) | ((first | apply Ca | (apply Cb; (· exact nxE))); (· first | exact Ok.e0)) | refine Sx ?_ | (refine Sy (fun h => ?_) (fun h => ?_) <;> try (exfalso; omega; done)) | refine Sz (fun h => ?_) (fun h => ?_))
    refine ⟨⟨1, by omega⟩, ?_, by simp only; omega⟩
    (apply Le.headZ [_, _] rfl)
    all_goals (try dsimp only [srcs])
    (case' hfr | hob => (repeat' (first | refine La ?_ ?_ | exact Lc | refine Lo ?_ | refine ⟨⟨_, rfl, ?_⟩, ?_⟩ | refine Lx ?_)))
    all_goals (first | (rfl) | exact Ld)
  · have hpb : p = ⟨0, 0, 0, 0⟩ ∧ b = false := by simpa using hres
    obtain ⟨rfl, rfl⟩ := hpb
    repeat' (first | ((first | apply Ba | (apply Bb; (· rfl); (· rfl)) | (apply Bc; (· exact nxE)) | (apply Bd; (· rfl); (· rfl); (· exact nxE))); (· first | exact Kz rfl rfl (hN1) (Ad An) | exact Ok.aidx rfl rfl rfl Tryd.underlying93 (by decide) (by decide) rfl | exact Ok.aptr rfl rfl rfl Tryd.underlying92 (by decide) (by decide) | exact Ok.seqS rfl rfl rfl | exact Ok.slen rfl rfl | exact Ok.pe)) | ((first | apply Ca | (apply Cb; (· exact nxE))); (· first | exact Ok.e0)) | refine Sx ?_ | (refine Sy (fun h => ?_) (fun h => ?_) <;> try (exfalso; omega; done)) | refine Sz (fun h => ?_) (fun h => ?_))
    all_goals
      refine Yb ?_
      (apply Le.headZ (hs := []) [] rfl)
      all_goals (try dsimp only [srcs])
      (case' hfr => (repeat' (first | refine La ?_ ?_ | exact Lc | refine Lo ?_ | refine ⟨⟨_, rfl, ?_⟩, ?_⟩ | refine Lx ?_)))
      all_goals (first | exact Ld | exact trivial | (rfl))
  · simp only [arC]
    repeat' (first | ((first | apply Ba | (apply Bb; (· rfl); (· rfl)) | (apply Bc; (· exact nxE)) | (apply Bd; (· rfl); (· rfl); (· exact nxE))); (· first | exact Kz rfl rfl (hN2) (Ad An) | exact Ok.aidx rfl rfl rfl Tryd.underlying93 (by decide) (by decide) rfl | exact Ok.aptrN (j' := 1) rfl rfl rfl Tryd.underlying92 (by decide) (by decide) rfl | exact Ok.seqS rfl rfl rfl | exact Ok.slen rfl rfl | exact Ok.pe)) | ((first | apply Ca | (apply Cb; (· exact nxE))); (· first | exact Ok.e0)) | refine Sx ?_ | (refine Sy (fun h => ?_) (fun h => ?_) <;> try (exfalso; omega; done)) | refine Sz (fun h => ?_) (fun h => ?_))
    refine ⟨⟨2, by omega⟩, ?_, by simp only; omega⟩
    (apply Le.headZ [_, _] rfl)
    all_goals (try dsimp only [srcs])
    (case' hfr | hob => (repeat' (first | refine La ?_ ?_ | exact Lc | refine Lo ?_ | refine ⟨⟨_, rfl, ?_⟩, ?_⟩ | refine Lx ?_)))
    all_goals (first | (rfl) | exact Ld)
  · have hpb : p = ⟨0, 0, 0, 0⟩ ∧ b = false := by simpa using hres
    obtain ⟨rfl, rfl⟩ := hpb
    repeat' (first | ((first | apply Ba | (apply Bb; (· rfl); (· rfl)) | (apply Bc; (· exact nxE)) | (apply Bd; (· rfl); (· rfl); (· exact nxE))); (· first | exact Kz rfl rfl (hN2) (Ad An) | exact Ok.aidx rfl rfl rfl Tryd.underlying93 (by decide) (by decide) rfl | exact Ok.aptr rfl rfl rfl Tryd.underlying92 (by decide) (by decide) | exact Ok.seqS rfl rfl rfl | exact Ok.slen rfl rfl | exact Ok.pe)) | ((first | apply Ca | (apply Cb; (· exact nxE))); (· first | exact Ok.e0)) | refine Sx ?_ | (refine Sy (fun h => ?_) (fun h => ?_) <;> try (exfalso; omega; done)) | refine Sz (fun h => ?_) (fun h => ?_))
    all_goals
      refine Yb ?_
      (apply Le.headZ (hs := []) [] rfl)
      all_goals (try dsimp only [srcs])
      (case' hfr => (repeat' (first | refine La ?_ ?_ | exact Lc | refine Lo ?_ | refine ⟨⟨_, rfl, ?_⟩, ?_⟩ | refine Lx ?_)))
      all_goals (first | exact Ld | exact trivial | (rfl))
  · simp only [arC]
    repeat' (first | ((first | apply Ba | (apply Bb; (· rfl); (· rfl)) | (apply Bc; (· exact nxE)) | (apply Bd; (· rfl); (· rfl); (· exact nxE))); (· first | exact Kz rfl rfl (hN3) (Ad An) | exact Ok.aidx rfl rfl rfl Tryd.underlying93 (by decide) (by decide) rfl | exact Ok.aptrN (j' := 2) rfl rfl rfl Tryd.underlying92 (by decide) (by decide) rfl | exact Ok.seqS rfl rfl rfl | exact Ok.slen rfl rfl | exact Ok.pe)) | ((first | apply Ca | (apply Cb; (· exact nxE))); (· first | exact Ok.e0)) | refine Sx ?_ | (refine Sy (fun h => ?_) (fun h => ?_) <;> try (exfalso; omega; done)) | refine Sz (fun h => ?_) (fun h => ?_))
    refine ⟨⟨3, by omega⟩, ?_, by simp only; omega⟩
    (apply Le.headZ [_, _] rfl)
    all_goals (try dsimp only [srcs])
    (case' hfr | hob => (repeat' (first | refine La ?_ ?_ | exact Lc | refine Lo ?_ | refine ⟨⟨_, rfl, ?_⟩, ?_⟩ | refine Lx ?_)))
    all_goals (first | (rfl) | exact Ld)
  · have hpb : p = ⟨0, 0, 0, 0⟩ ∧ b = false := by simpa using hres
    obtain ⟨rfl, rfl⟩ := hpb
    repeat' (first | ((first | apply Ba | (apply Bb; (· rfl); (· rfl)) | (apply Bc; (· exact nxE)) | (apply Bd; (· rfl); (· rfl); (· exact nxE))); (· first | exact Kz rfl rfl (hN3) (Ad An) | exact Ok.aidx rfl rfl rfl Tryd.underlying93 (by decide) (by decide) rfl | exact Ok.aptr rfl rfl rfl Tryd.underlying92 (by decide) (by decide) | exact Ok.seqS rfl rfl rfl | exact Ok.slen rfl rfl | exact Ok.pe)) | ((first | apply Ca | (apply Cb; (· exact nxE))); (· first | exact Ok.e0)) | refine Sx ?_ | (refine Sy (fun h => ?_) (fun h => ?_) <;> try (exfalso; omega; done)) | refine Sz (fun h => ?_) (fun h => ?_))
    all_goals
      refine Yb ?_
      (apply Le.headZ (hs := []) [] rfl)
      all_goals (try dsimp only [srcs])
      (case' hfr => (repeat' (first | refine La ?_ ?_ | exact Lc | refine Lo ?_ | refine ⟨⟨_, rfl, ?_⟩, ?_⟩ | refine Lx ?_)))
      all_goals (first | exact Ld | exact trivial | (rfl))
  · simp only [arC]
    repeat' (first | ((first | apply Ba | (apply Bb; (· rfl); (· rfl)) | (apply Bc; (· exact nxE)) | (apply Bd; (· rfl); (· rfl); (· exact nxE))); (· first | exact Kz rfl rfl (hN4) (Ad An) | exact Ok.aidx rfl rfl rfl Tryd.underlying93 (by decide) (by decide) rfl | exact Ok.aptrN (j' := 3) rfl rfl rfl Tryd.underlying92 (by decide) (by decide) rfl | exact Ok.seqS rfl rfl rfl | exact Ok.slen rfl rfl | exact Ok.pe)) | ((first | apply Ca | (apply Cb; (· exact nxE))); (· first | exact Ok.e0)) | refine Sx ?_ | (refine Sy (fun h => ?_) (fun h => ?_) <;> try (exfalso; omega; done)) | refine Sz (fun h => ?_) (fun h => ?_))
    refine ⟨⟨4, by omega⟩, ?_, by simp only; omega⟩
    (apply Le.headZ [_, _] rfl)
    all_goals (try dsimp only [srcs])
    (case' hfr | hob => (repeat' (first | refine La ?_ ?_ | exact Lc | refine Lo ?_ | refine ⟨⟨_, rfl, ?_⟩, ?_⟩ | refine Lx ?_)))
    all_goals (first | (rfl) | exact Ld)
  · have hpb : p = ⟨0, 0, 0, 0⟩ ∧ b = false := by simpa using hres
    obtain ⟨rfl, rfl⟩ := hpb
    repeat' (first | ((first | apply Ba | (apply Bb; (· rfl); (· rfl)) | (apply Bc; (· exact nxE)) | (apply Bd; (· rfl); (· rfl); (· exact nxE))); (· first | exact Kz rfl rfl (hN4) (Ad An) | exact Ok.aidx rfl rfl rfl Tryd.underlying93 (by decide) (by decide) rfl | exact Ok.aptr rfl rfl rfl Tryd.underlying92 (by decide) (by decide) | exact Ok.seqS rfl rfl rfl | exact Ok.slen rfl rfl | exact Ok.pe)) | ((first | apply Ca | (apply Cb; (· exact nxE))); (· first | exact Ok.e0)) | refine Sx ?_ | (refine Sy (fun h => ?_) (fun h => ?_) <;> try (exfalso; omega; done)) | refine Sz (fun h => ?_) (fun h => ?_))
    all_goals
      refine Yb ?_
      (apply Le.headZ (hs := []) [] rfl)
      all_goals (try dsimp only [srcs])
      (case' hfr => (repeat' (first | refine La ?_ ?_ | exact Lc | refine Lo ?_ | refine ⟨⟨_, rfl, ?_⟩, ?_⟩ | refine Lx ?_)))
      all_goals (first | exact Ld | exact trivial | (rfl))
  · have hpb : p = ⟨n1, n2, n3, n4⟩ ∧ b = true := by simpa using hres
    obtain ⟨rfl, rfl⟩ := hpb
    repeat' (first | ((first | apply Ba | (apply Bb; (· rfl); (· rfl)) | (apply Bc; (· exact nxE)) | (apply Bd; (· rfl); (· rfl); (· exact nxE))); (· first | exact Ok.aidx rfl rfl rfl Tryd.underlying93 (by decide) (by decide) rfl | exact Ok.aptr rfl rfl rfl Tryd.underlying92 (by decide) (by decide) | exact Ok.seqS rfl rfl rfl | exact Ok.slen rfl rfl | exact Ok.pe)) | ((first | apply Ca | (apply Cb; (· exact nxE))); (· first | exact Ok.e0)) | refine Sx ?_ | (refine Sy (fun h => ?_) (fun h => ?_) <;> try (exfalso; omega; done)) | refine Sz (fun h => ?_) (fun h => ?_))
    all_goals
      refine Yb ?_
      (apply Le.headZ (hs := []) [] rfl)
      all_goals (try dsimp only [srcs])
      (case' hfr => (repeat' (first | refine La ?_ ?_ | exact Lc | refine Lo ?_ | refine ⟨⟨_, rfl, ?_⟩, ?_⟩ | refine Lx ?_)))
      all_goals (first | exact Ld | exact trivial | (rfl))
end Go.Proofs.YtofakjlamoigcaaDoor
end
