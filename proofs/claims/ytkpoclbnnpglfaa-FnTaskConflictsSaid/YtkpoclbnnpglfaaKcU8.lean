/-
  Walks in the abstract reading, part 8.
-/
import Derived.Test.YtkpoclbnnpglfaaKcU7
import Derived.Test.YtkpoclbnnpglfaaKcU4
import Derived.Test.YtkpoclbnnpglfaaKcU6
import Derived.Test.YtkpoclbnnpglfaaKcU5
section
namespace Go.Proofs.Ytkpoclbnnpglfaa
set_option linter.unusedSimpArgs false
set_option linter.unusedVariables false
open Go Go.RowKit
attribute [local irreducible] AL AD AW OpOk Le AC thenQ blockQ EndQ

theorem take_eq_succ [Mode] {α : Type} {xs ys : List α} {k : Nat} {x y : α} (h : xs.take k = ys.take k) (hx : xs[k]? = some x) (hy : ys[k]? = some y) (e : x = y) : xs.take (k + 1) = ys.take (k + 1) := by
  obtain ⟨h1, rfl⟩ := List.getElem?_eq_some_iff.1 hx
  obtain ⟨h2, rfl⟩ := List.getElem?_eq_some_iff.1 hy
  rw [List.take_succ_eq_append_getElem h1, List.take_succ_eq_append_getElem h2, h, e]
theorem ne_at [Mode] {α : Type} {xs ys : List α} {k : Nat} {x y : α} (hx : xs[k]? = some x) (hy : ys[k]? = some y) (e : x ≠ y) : xs ≠ ys := fun h => by
  subst h
  rw [hx] at hy
  exact e (Option.some.inj hy)
theorem l01SameD_ac [Mode] (xs ys : List Int) (hn : xs.length ≤ 100000000) (hm : ys.length ≤ 100000000) : AC Try.prog 119 [IL xs, IL ys] H0 (Bo (decide (xs = ys))) H0 := by
  by_cases hl : xs.length = ys.length
  case neg =>
    rw [decide_eq_false (fun e => hl (by rw [e]))]
    refine AC.of_body 0 Try.func119 rfl (fun l h => absurd rfl h) (fun C hC => ?_)
    have hD : ∀ l, ¬ C.D0 l := fun l h => (hC l).1 h rfl
    simp only [startFr, Try.ntmps119, List.length_cons, List.length_nil, Nat.reduceAdd, Nat.reduceSub, List.replicate_succ, List.replicate_zero, List.cons_append, List.nil_append]
    repeat' (first | ((first | apply Ba | (apply Bb; (· rfl); (· rfl)) | (apply Bc; (· exact nxE)) | (apply Bd; (· rfl); (· rfl); (· exact nxE))); (· first | exact Ok.pe)) | ((first | apply Ca | (apply Cb; (· exact nxE))); (· first | exact Ok.e0)) | refine Sx ?_ | (refine Sy (fun h => ?_) (fun h => ?_) <;> try (exfalso; omega; done)) | refine Sz (fun h => ?_) (fun h => ?_))
    refine Ya ?_
    (apply Le.headZ (hs := []) [] rfl)
    all_goals (try dsimp only [srcs])
    (case' hfr => (repeat' (first | refine La ?_ ?_ | exact Lc | refine Lo ?_ | refine ⟨⟨_, rfl, ?_⟩, ?_⟩ | refine Lx ?_)))
    all_goals (first | exact Ld | exact trivial | (rfl))
  refine AC.of_body 0 Try.func119 rfl (fun l h => absurd rfl h) (fun C hC => ?_)
  have hD : ∀ l, ¬ C.D0 l := fun l h => (hC l).1 h rfl
  simp only [startFr, Try.ntmps119, List.length_cons, List.length_nil, Nat.reduceAdd, Nat.reduceSub, List.replicate_succ, List.replicate_zero, List.cons_append, List.nil_append]
  repeat' (first | ((first | apply Ba | (apply Bb; (· rfl); (· rfl)) | (apply Bc; (· exact nxE)) | (apply Bd; (· rfl); (· rfl); (· exact nxE))); (· first | exact Ok.pe)) | ((first | apply Ca | (apply Cb; (· exact nxE))); (· first | exact Ok.e0)) | refine Sx ?_ | (refine Sy (fun h => ?_) (fun h => ?_) <;> try (exfalso; omega; done)) | refine Sz (fun h => ?_) (fun h => ?_))
  refine AW.loop (X := {k : Nat // k ≤ xs.length ∧ xs.take k = ys.take k}) (fun k => ⟨[IL xs, IL ys, Oo, Oo, Oo, I (k.1 : Nat), Oo, Oo, Oo, Oo, Oo, Oo, Oo, Oo, Oo, Oo, Oo, Oo, Oo, Oo, Oo, Oo, Oo, Oo, Oo, Oo], heapL [], 900⟩) (fun k => xs.length - k.1) ⟨0, Nat.zero_le _, by simp⟩ ?_ (fun k => ?_)
  ·
    (apply Le.headZ [] rfl)
    all_goals (try dsimp only [srcs])
    (case' hfr | hob => (repeat' (first | refine La ?_ ?_ | exact Lc | refine Lo ?_ | refine ⟨⟨_, rfl, ?_⟩, ?_⟩ | refine Lx ?_)))
    all_goals (first | (rfl) | exact Ld)
  obtain ⟨k, hk, hq⟩ := k
  simp only
  by_cases hlt : k < xs.length
  · obtain ⟨x, hx⟩ : ∃ x, xs[k]? = some x := ⟨xs[k], by simp⟩
    obtain ⟨y, hy⟩ : ∃ y, ys[k]? = some y := ⟨ys[k]'(by omega), List.getElem?_eq_getElem _⟩
    have hrow := IR_get hx
    have hrow2 := IR_get hy
    by_cases e : x = y
    · have hs := take_eq_succ hq hx hy e
      repeat' (first | ((first | apply Ba | (apply Bb; (· rfl); (· rfl)) | (apply Bc; (· exact nxE)) | (apply Bd; (· rfl); (· rfl); (· exact nxE))); (· first | exact Ok.pe)) | ((first | apply Ca | (apply Cb; (· exact nxE))); (· first | exact Ok.e0)) | refine Sx ?_ | (refine Sy (fun h => ?_) (fun h => ?_) <;> try (exfalso; omega; done)) | refine Sz (fun h => ?_) (fun h => ?_))
      refine ⟨⟨k + 1, by omega, hs⟩, ?_, by simp only; omega⟩
      (apply Le.headZ [] rfl)
      all_goals (try dsimp only [srcs])
      (case' hfr | hob => (repeat' (first | refine La ?_ ?_ | exact Lc | refine Lo ?_ | refine ⟨⟨_, rfl, ?_⟩, ?_⟩ | refine Lx ?_)))
      all_goals (first | (rfl) | exact Ld)
    · rw [decide_eq_false (ne_at hx hy e)]
      repeat' (first | ((first | apply Ba | (apply Bb; (· rfl); (· rfl)) | (apply Bc; (· exact nxE)) | (apply Bd; (· rfl); (· rfl); (· exact nxE))); (· first | exact Ok.pe)) | ((first | apply Ca | (apply Cb; (· exact nxE))); (· first | exact Ok.e0)) | refine Sx ?_ | (refine Sy (fun h => ?_) (fun h => ?_) <;> try (exfalso; omega; done)) | refine Sz (fun h => ?_) (fun h => ?_))
      refine Ya ?_
      (apply Le.headZ (hs := []) [] rfl)
      all_goals (try dsimp only [srcs])
      (case' hfr => (repeat' (first | refine La ?_ ?_ | exact Lc | refine Lo ?_ | refine ⟨⟨_, rfl, ?_⟩, ?_⟩ | refine Lx ?_)))
      all_goals (first | exact Ld | exact trivial | (rfl))
  · obtain rfl : k = xs.length := by omega
    rw [List.take_length, List.take_of_length_le (by omega)] at hq
    rw [decide_eq_true hq]
    repeat' (first | ((first | apply Ba | (apply Bb; (· rfl); (· rfl)) | (apply Bc; (· exact nxE)) | (apply Bd; (· rfl); (· rfl); (· exact nxE))); (· first | exact Ok.pe)) | ((first | apply Ca | (apply Cb; (· exact nxE))); (· first | exact Ok.e0)) | refine Sx ?_ | (refine Sy (fun h => ?_) (fun h => ?_) <;> try (exfalso; omega; done)) | refine Sz (fun h => ?_) (fun h => ?_))
    refine Ya ?_
    (apply Le.headZ (hs := []) [] rfl)
    all_goals (try dsimp only [srcs])
    (case' hfr => (repeat' (first | refine La ?_ ?_ | exact Lc | refine Lo ?_ | refine ⟨⟨_, rfl, ?_⟩, ?_⟩ | refine Lx ?_)))
    all_goals (first | exact Ld | exact trivial | (rfl))
theorem l02SameD_ac [Mode] (t u : List (List Int)) (ht : t.length ≤ 100000000) (hr : ∀ r ∈ t, r.length ≤ 100000000) (hu : u.length ≤ 100000000) (hs : ∀ r ∈ u, r.length ≤ 100000000) : AC Try.prog 82 [TL t, TL u] H0 (Bo (decide (t = u))) H0 := by
  by_cases hl : t.length = u.length
  case neg =>
    rw [decide_eq_false (fun e => hl (by rw [e]))]
    refine AC.of_body 0 Try.func82 rfl (fun l h => absurd rfl h) (fun C hC => ?_)
    have hD : ∀ l, ¬ C.D0 l := fun l h => (hC l).1 h rfl
    simp only [startFr, Try.ntmps82, List.length_cons, List.length_nil, Nat.reduceAdd, Nat.reduceSub, List.replicate_succ, List.replicate_zero, List.cons_append, List.nil_append]
    repeat' (first | ((first | apply Ba | (apply Bb; (· rfl); (· rfl)) | (apply Bc; (· exact nxE)) | (apply Bd; (· rfl); (· rfl); (· exact nxE))); (· first | exact Ok.pe)) | ((first | apply Ca | (apply Cb; (· exact nxE))); (· first | exact Ok.e0)) | refine Sx ?_ | (refine Sy (fun h => ?_) (fun h => ?_) <;> try (exfalso; omega; done)) | refine Sz (fun h => ?_) (fun h => ?_))
    refine Ya ?_
    (apply Le.headZ (hs := []) [] rfl)
    all_goals (try dsimp only [srcs])
    (case' hfr => (repeat' (first | refine La ?_ ?_ | exact Lc | refine Lo ?_ | refine ⟨⟨_, rfl, ?_⟩, ?_⟩ | refine Lx ?_)))
    all_goals (first | exact Ld | exact trivial | (rfl))
  refine AC.of_body 0 Try.func82 rfl (fun l h => absurd rfl h) (fun C hC => ?_)
  have hD : ∀ l, ¬ C.D0 l := fun l h => (hC l).1 h rfl
  simp only [startFr, Try.ntmps82, List.length_cons, List.length_nil, Nat.reduceAdd, Nat.reduceSub, List.replicate_succ, List.replicate_zero, List.cons_append, List.nil_append]
  repeat' (first | ((first | apply Ba | (apply Bb; (· rfl); (· rfl)) | (apply Bc; (· exact nxE)) | (apply Bd; (· rfl); (· rfl); (· exact nxE))); (· first | exact Ok.pe)) | ((first | apply Ca | (apply Cb; (· exact nxE))); (· first | exact Ok.e0)) | refine Sx ?_ | (refine Sy (fun h => ?_) (fun h => ?_) <;> try (exfalso; omega; done)) | refine Sz (fun h => ?_) (fun h => ?_))
  refine AW.loop (X := {k : Nat // k ≤ t.length ∧ t.take k = u.take k}) (fun k => ⟨[TL t, TL u, Oo, Oo, Oo, I (k.1 : Nat), Oo, Oo, Oo, Oo, Oo, Oo, Oo, Oo, Oo, Oo, Oo, Oo, Oo, Oo, Oo, Oo, Oo, Oo, Oo, Oo, Oo], heapL [], 900⟩) (fun k => t.length - k.1) ⟨0, Nat.zero_le _, by simp⟩ ?_ (fun k => ?_)
  ·
    (apply Le.headZ [] rfl)
    all_goals (try dsimp only [srcs])
    (case' hfr | hob => (repeat' (first | refine La ?_ ?_ | exact Lc | refine Lo ?_ | refine ⟨⟨_, rfl, ?_⟩, ?_⟩ | refine Lx ?_)))
    all_goals (first | (rfl) | exact Ld)
  obtain ⟨k, hk, hq⟩ := k
  simp only
  by_cases hlt : k < t.length
  · obtain ⟨x, hx⟩ : ∃ x, t[k]? = some x := ⟨t[k], by simp⟩
    obtain ⟨y, hy⟩ : ∃ y, u[k]? = some y := ⟨u[k]'(by omega), List.getElem?_eq_getElem _⟩
    have hrow := TR_get hx
    have hrow2 := TR_get hy
    have hSa := l01SameD_ac x y (hr x (List.mem_of_getElem? hx)) (hs y (List.mem_of_getElem? hy))
    by_cases e : x = y
    · have hs := take_eq_succ hq hx hy e
      rw [decide_eq_true e] at hSa
      repeat' (first | ((first | apply Ba | (apply Bb; (· rfl); (· rfl)) | (apply Bc; (· exact nxE)) | (apply Bd; (· rfl); (· rfl); (· exact nxE))); (· first | exact Kz rfl rfl (hSa) (Ad (Ad An)) | exact Ok.pe)) | ((first | apply Ca | (apply Cb; (· exact nxE))); (· first | exact Ok.e0)) | refine Sx ?_ | (refine Sy (fun h => ?_) (fun h => ?_) <;> try (exfalso; omega; done)) | refine Sz (fun h => ?_) (fun h => ?_))
      refine ⟨⟨k + 1, by omega, hs⟩, ?_, by simp only; omega⟩
      (apply Le.headZ [] rfl)
      all_goals (try dsimp only [srcs])
      (case' hfr | hob => (repeat' (first | refine La ?_ ?_ | exact Lc | refine Lo ?_ | refine ⟨⟨_, rfl, ?_⟩, ?_⟩ | refine Lx ?_)))
      all_goals (first | (rfl) | exact Ld)
    · rw [decide_eq_false (ne_at hx hy e)]
      rw [decide_eq_false e] at hSa
      repeat' (first | ((first | apply Ba | (apply Bb; (· rfl); (· rfl)) | (apply Bc; (· exact nxE)) | (apply Bd; (· rfl); (· rfl); (· exact nxE))); (· first | exact Kz rfl rfl (hSa) (Ad (Ad An)) | exact Ok.pe)) | ((first | apply Ca | (apply Cb; (· exact nxE))); (· first | exact Ok.e0)) | refine Sx ?_ | (refine Sy (fun h => ?_) (fun h => ?_) <;> try (exfalso; omega; done)) | refine Sz (fun h => ?_) (fun h => ?_))
      refine Ya ?_
      (apply Le.headZ (hs := []) [] rfl)
      all_goals (try dsimp only [srcs])
      (case' hfr => (repeat' (first | refine La ?_ ?_ | exact Lc | refine Lo ?_ | refine ⟨⟨_, rfl, ?_⟩, ?_⟩ | refine Lx ?_)))
      all_goals (first | exact Ld | exact trivial | (rfl))
  · obtain rfl : k = t.length := by omega
    rw [List.take_length, List.take_of_length_le (by omega)] at hq
    rw [decide_eq_true hq]
    repeat' (first | ((first | apply Ba | (apply Bb; (· rfl); (· rfl)) | (apply Bc; (· exact nxE)) | (apply Bd; (· rfl); (· rfl); (· exact nxE))); (· first | exact Ok.pe)) | ((first | apply Ca | (apply Cb; (· exact nxE))); (· first | exact Ok.e0)) | refine Sx ?_ | (refine Sy (fun h => ?_) (fun h => ?_) <;> try (exfalso; omega; done)) | refine Sz (fun h => ?_) (fun h => ?_))
    refine Ya ?_
    (apply Le.headZ (hs := []) [] rfl)
    all_goals (try dsimp only [srcs])
    (case' hfr => (repeat' (first | refine La ?_ ?_ | exact Lc | refine Lo ?_ | refine ⟨⟨_, rfl, ?_⟩, ?_⟩ | refine Lx ?_)))
    all_goals (first | exact Ld | exact trivial | (rfl))
/-- A matrix whose star may not be there. -/
structure StarB (t : List (List Int)) (n : Nat) : Prop where
  rc : Rc t n n
  n0 : 0 < n
  nn : n ≤ 10
  bnd : ∀ u v, entN t v u ≠ BOT → -100000000000 ≤ entN t v u ∧ entN t v u ≤ 100000000000
theorem StarB.m [Mode] {t : List (List Int)} {n : Nat} (h : StarB t n) (hp : NoPos (entN t) n) : StarM t n := ⟨h.rc, h.n0, h.nn, h.bnd, hp⟩
section
variable {t : List (List Int)} {n : Nat} (h : StarB t n)
include h
theorem StarB.fwx [Mode] : ∀ k, k ≤ n → (∀ j, j < k → fwN (entN t) j j j ≤ 0) → FWX (entN t) n 100000000000 k (fwN (entN t) k)
  | 0, _, _ => FWX.start (by decide) (by decide) h.bnd
  | k + 1, hk, hd => by
    have h2 := pow_le10 (show k + 1 ≤ 10 by have := h.nn; omega)
    have ih := StarB.fwx k (by omega) (fun j hj => hd j (by omega))
    have d1 := hd k (by omega)
    have d2 := (ih.dia k (by omega)).2
    exact (FWX.step (by decide) (by omega) (by omega) ih (by omega)).1
theorem StarB.cells [Mode] {k : Nat} (hk : k ≤ n) (hd : ∀ j, j < k → fwN (entN t) j j j ≤ 0) {i j : Nat} (hi : i < n) (hj : j < n) : fwN (entN t) k i j = BOT ∨ (-102400000000000 ≤ fwN (entN t) k i j ∧ fwN (entN t) k i j ≤ 102400000000000) := by
  by_cases e : fwN (entN t) k i j = BOT
  · exact .inl e
  · have := (h.fwx k hk hd).bnd j i hj hi e
    have := pow_le10 (show k ≤ 10 by have := h.nn; omega)
    right; omega
theorem StarB.px [Mode] {m : Nat} (hm : m ≤ n + 1) : PX (entN t) n 100000000000 m (powN (entN t) n m) :=
  powN_px (by decide) h.bnd m (by have := h.nn; omega)
theorem StarB.mul [Mode] {m : Nat} (hm : m ≤ n) : AC Try.prog 66 [TL t, TL (tabF n n (powN (entN t) n m))] H0 (own1 1 n) (hpM 1 (TR (tabF n n (mulF t (tabF n n (powN (entN t) n m)) n)))) := by
  have hn := h.nn
  refine l02Multiply_ac n t _ h.rc tabF_rc (by omega) h.n0 (fun i q j hi hq hj h1 h2 => ?_)
  rw [tabF_ent hq hj] at h2 ⊢
  have g1 := h.bnd q i h1
  have g2 := (h.px (show m ≤ n + 1 by omega)).bnd j q hj hq h2
  omega
theorem StarB.add [Mode] {m : Nat} : AC Try.prog 81 [TL (tabF n n unitF), TL (tabF n n (mulF t (tabF n n (powN (entN t) n m)) n))] H0 (own1 1 n) (hpM 1 (TR (tabF n n (powN (entN t) n (m + 1))))) := by
  have hn := h.nn
  have hA := l02Add_ac n n (tabF n n unitF) (tabF n n (mulF t (tabF n n (powN (entN t) n m)) n)) tabF_rc tabF_rc (by omega) (by omega)
  have e : tabF n n (addF (tabF n n unitF) (tabF n n (mulF t (tabF n n (powN (entN t) n m)) n))) = tabF n n (powN (entN t) n (m + 1)) := tabF_congr fun i j hi hj => by
    unfold addF
    rw [tabF_ent hi hj, tabF_ent hi hj]
    show _ = powS (entN t) n (powN (entN t) n m) i j
    unfold powS mulF
    rw [maxN_congr (g := fun q => timesB (entN t i q) (powN (entN t) n m q j)) (fun q hq => by show timesB (entN t i q) (entN (tabF n n (powN (entN t) n m)) q j) = _; rw [tabF_ent hq hj])]
  rw [← e]
  exact hA
theorem StarB.diff [Mode] (hp : ¬ NoPos (entN t) n) : tabF n n (powN (entN t) n (n + 1)) ≠ tabF n n (powN (entN t) n n) := fun e => hp (by
  have hn := h.nn
  refine powS_np (x := powN (entN t) n n) (fun u v hu hv => ?_) (fun u v hu hv => ?_) h.bnd
  · have h1 := tabF_ent (f := powN (entN t) n (n + 1)) hv hu
    rw [e, tabF_ent hv hu] at h1
    exact h1.symm
  · by_cases eb : powN (entN t) n n v u = BOT
    · exact .inl eb
    · have := (h.px (show n ≤ n + 1 by omega)).bnd u v hu hv eb
      right; omega)
end
set_option maxHeartbeats 4000000 in
theorem l03Star_no [Mode] (t : List (List Int)) (n : Nat) (h : StarB t n) (hp : ¬ NoPos (entN t) n) : AC Try.prog 32 [TL t] H0 (.tup [own1 1 n, Bo false]) (hpM 1 (TR (tabF n n (powN (entN t) n n)))) := by
  have hn := h.nn
  have h0 := h.n0
  have htl := h.rc.l
  have hU := l02Unit_ac n (by omega)
  have hul : (tabF n n unitF).length = n := tabF_len
  have hL : (mRows 1 (TR t)).length = n := by rw [mTR_len, htl]
  refine AC.of_body 0 Try.func32 rfl (fun l h => absurd rfl h) (fun C hC => ?_)
  have hD : ∀ l, ¬ C.D0 l := fun l h => (hC l).1 h rfl
  simp only [startFr, Try.ntmps32, List.length_cons, List.length_nil, Nat.reduceAdd, Nat.reduceSub, List.replicate_succ, List.replicate_zero, List.cons_append, List.nil_append]
  repeat' (first | ((first | apply Ba | (apply Bb; (· rfl); (· rfl)) | (apply Bc; (· exact nxE)) | (apply Bd; (· rfl); (· rfl); (· exact nxE))); (· first | exact Ok.lenD rfl rfl hL | exact Tb rfl rfl (hU) (Sd Sn) | exact Ok.pe)) | ((first | apply Ca | (apply Cb; (· exact nxE))); (· first | exact Tb rfl rfl (hU) (Sd Sn) | exact Ok.e0)) | refine Sx ?_ | (refine Sy (fun h => ?_) (fun h => ?_) <;> try (exfalso; omega; done)) | refine Sz (fun h => ?_) (fun h => ?_))
  refine AW.loop (X := {k : Nat // k ≤ n}) (fun k => ⟨[TL t, Oo, Oo, Oo, I n, .own 1 ⟨1, []⟩ 0 n, I (k.1 : Nat), Oo, Oo, Oo, Oo, Oo, Oo, Oo, Oo, Oo, Oo, Oo, Oo, Oo, Oo, Oo, Oo, Oo, Oo, Oo, Oo, Oo, Oo, Oo, Oo, Oo, Oo], heapX [] [mi1 ⟨1, []⟩ (TR (tabF n n (powN (entN t) n k.1)))], 900⟩) (fun k => n - k.1) ⟨0, Nat.zero_le _⟩ ?_ (fun k => ?_)
  ·
    (apply Le.headG [] [{ l := ⟨1, []⟩, k := 1, R := TR (tabF n n (powN (entN t) n 0)), src := ⟨6, [0]⟩, base := ⟨6, [0]⟩ }] (fun _ => False))
    (case' hlen => rfl)
    (case' hms => rfl)
    all_goals (try dsimp only [srcs])
    (case' hfr | hob => (repeat' (first | refine La ?_ ?_ | exact Lc | refine Lo ?_ | refine ⟨⟨_, rfl, ?_⟩, ?_⟩ | refine Lx ?_)))
    (case' hok => first | exact ⟨MI.ok_same rfl (Cg), trivial⟩ | exact trivial)
    (case' hN => rfl)
    (case' hS => rfl)
    all_goals (first | exact Ld | (rfl))
  obtain ⟨m, hk⟩ := k
  simp only
  have hM := h.mul hk
  have hA := h.add (m := m)
  have hpl : (tabF n n (powN (entN t) n m)).length = n := tabF_len
  have hml : (tabF n n (mulF t (tabF n n (powN (entN t) n m)) n)).length = n := tabF_len
  by_cases hlt : m < n
  ·
    repeat' (first | ((first | apply Ba | (apply Bb; (· rfl); (· rfl)) | (apply Bc; (· exact nxE)) | (apply Bd; (· rfl); (· rfl); (· exact nxE))); (· first | exact Tb rfl rfl (hU) (Sd Sn) | exact Tb rfl rfl (hM) (Sd (Sm Sn)) | exact Tb rfl rfl (hA) (Sm (Sm Sn)) | exact Ok.pe)) | ((first | apply Ca | (apply Cb; (· exact nxE))); (· first | exact Tb rfl rfl (hU) (Sd Sn) | exact Tb rfl rfl (hM) (Sd (Sm Sn)) | exact Tb rfl rfl (hA) (Sm (Sm Sn)) | exact Ok.e0)) | refine Sx ?_ | (refine Sy (fun h => ?_) (fun h => ?_) <;> try (exfalso; omega; done)) | refine Sz (fun h => ?_) (fun h => ?_))
    refine ⟨⟨m + 1, by omega⟩, ?_, by simp only; omega⟩
    (apply Le.headG [] [{ l := ⟨1, []⟩, k := 1, R := TR (tabF n n (powN (entN t) n (m + 1))), src := ⟨908, [0]⟩, base := ⟨908, [0]⟩ }] (fun _ => False))
    (case' hlen => rfl)
    (case' hms => rfl)
    all_goals (try dsimp only [srcs])
    (case' hfr | hob => (repeat' (first | refine La ?_ ?_ | exact Lc | refine Lo ?_ | refine ⟨⟨_, rfl, ?_⟩, ?_⟩ | refine Lx ?_)))
    (case' hok => first | exact ⟨MI.ok_same rfl (Cg), trivial⟩ | exact trivial)
    (case' hN => rfl)
    (case' hS => rfl)
    all_goals (first | exact Ld | (rfl))
  ·
    obtain rfl : n = m := by omega
    have hd := h.diff hp
    have hS := l02SameD_ac (tabF n n (powN (entN t) n (n + 1))) (tabF n n (powN (entN t) n n)) (by rw [tabF_len]; omega) (fun r hr => by rw [tabF_rc.r r hr]; omega) (by rw [tabF_len]; omega) (fun r hr => by rw [tabF_rc.r r hr]; omega)
    rw [decide_eq_false hd] at hS
    have hql : (tabF n n (powN (entN t) n (n + 1))).length = n := tabF_len
    repeat' (first | ((first | apply Ba | (apply Bb; (· rfl); (· rfl)) | (apply Bc; (· exact nxE)) | (apply Bd; (· rfl); (· rfl); (· exact nxE))); (· first | exact Ez rfl rfl (hS) (Sm (Sm Sn)) | exact Tb rfl rfl (hU) (Sd Sn) | exact Tb rfl rfl (hM) (Sd (Sm Sn)) | exact Tb rfl rfl (hA) (Sm (Sm Sn)) | exact Ok.pe)) | ((first | apply Ca | (apply Cb; (· exact nxE))); (· first | exact Tb rfl rfl (hU) (Sd Sn) | exact Tb rfl rfl (hM) (Sd (Sm Sn)) | exact Tb rfl rfl (hA) (Sm (Sm Sn)) | exact Ok.e0)) | refine Sx ?_ | (refine Sy (fun h => ?_) (fun h => ?_) <;> try (exfalso; omega; done)) | refine Sz (fun h => ?_) (fun h => ?_))
    refine Yb ?_
    (apply Le.headG [] [{ l := ⟨0, []⟩, k := 1, R := TR (tabF n n (powN (entN t) n n)), src := ⟨1, []⟩, base := ⟨1, []⟩ }] (fun _ => False))
    (case' hlen => rfl)
    (case' hms => rfl)
    all_goals (try dsimp only [srcs])
    (case' hfr | hob => (repeat' (first | refine La ?_ ?_ | exact Lc | refine Lo ?_ | refine ⟨⟨_, rfl, ?_⟩, ?_⟩ | refine Lx ?_)))
    (case' hok => first | exact ⟨MI.ok_same rfl (Cg), trivial⟩ | exact trivial)
    (case' hN => rfl)
    (case' hS => rfl)
    all_goals (first | exact Ld | (rfl))
set_option maxHeartbeats 4000000 in
theorem starOf_no [Mode] (t : List (List Int)) (n : Nat) (h : StarB t n) (hp : ¬ NoPos (entN t) n) : AC Try.prog 29 [TL t] H0 (.tup [TL [], Bo false]) H0 := by
  have hn := h.nn
  have h0 := h.n0
  have htl := h.rc.l
  have hU := unitMatrix_ac n (by omega)
  have hA := addMatrices_ac n n t (tabF n n unitF) h.rc tabF_rc h0 (by omega) (by omega)
  have hA0 : tabF n n (addF t (tabF n n unitF)) = tabF n n (fwN (entN t) 0) := tabF_congr fun i j hi hj => by
    unfold addF fwN
    rw [tabF_ent hi hj]
    rfl
  rw [hA0] at hA
  have hul : (tabF n n unitF).length = n := tabF_len
  have hL : (mRows 1 (TR t)).length = n := by rw [mTR_len, htl]
  refine AC.of_body 0 Try.func29 rfl (fun l h => absurd rfl h) (fun C hC => ?_)
  have hD : ∀ l, ¬ C.D0 l := fun l h => (hC l).1 h rfl
  simp only [startFr, Try.ntmps29, List.length_cons, List.length_nil, Nat.reduceAdd, Nat.reduceSub, List.replicate_succ, List.replicate_zero, List.cons_append, List.nil_append]
  repeat' (first | ((first | apply Ba | (apply Bb; (· rfl); (· rfl)) | (apply Bc; (· exact nxE)) | (apply Bd; (· rfl); (· rfl); (· exact nxE))); (· first | exact Ok.lenD rfl rfl hL | exact Tb rfl rfl (hU) (Sd Sn) | exact Tb rfl rfl (hA) (Sd (Sm Sn)) | exact Ok.pe)) | ((first | apply Ca | (apply Cb; (· exact nxE))); (· first | exact Tb rfl rfl (hU) (Sd Sn) | exact Tb rfl rfl (hA) (Sd (Sm Sn)) | exact Ok.e0)) | refine Sx ?_ | (refine Sy (fun h => ?_) (fun h => ?_) <;> try (exfalso; omega; done)) | refine Sz (fun h => ?_) (fun h => ?_))
  refine AW.loop (X := {k : Nat // k ≤ n ∧ ∀ j, j < k → fwN (entN t) j j j ≤ 0}) (fun k => ⟨[Oo, Oo, Oo, Oo, .own 1 ⟨1, []⟩ 0 n, Oo, Oo, Oo, Oo, Oo, Oo, Oo, Oo, Oo, Oo, I n, I (k.1 : Nat), Oo, Oo, Oo, Oo, Oo, Oo, Oo, Oo, Oo, Oo, Oo, Oo, Oo, Oo, Oo, Oo, Oo, Oo, Oo, Oo, Oo, Oo, Oo, Oo, Oo, Oo, Oo, Oo, Oo, Oo, Oo, Oo, Oo, Oo, Oo, Oo, Oo, Oo, Oo, Oo, Oo, Oo, Oo, Oo, Oo, Oo, Oo, Oo, Oo, Oo, Oo, Oo, Oo, Oo, Oo, Oo, Oo, Oo, Oo, Oo, Oo, Oo, Oo, Oo, Oo, Oo, Oo], heapX [] [mi1 ⟨1, []⟩ (TR (tabF n n (fwN (entN t) k.1)))], 900⟩) (fun k => n - k.1) ⟨0, Nat.zero_le _, by intro j hj; omega⟩ ?_ (fun k => ?_)
  ·
    (apply Le.headG [] [{ l := ⟨1, []⟩, k := 1, R := TR (tabF n n (fwN (entN t) 0)), src := ⟨6, [0]⟩, base := ⟨6, [0]⟩ }] (fun _ => False))
    (case' hlen => rfl)
    (case' hms => rfl)
    all_goals (try dsimp only [srcs])
    (case' hfr | hob => (repeat' (first | refine La ?_ ?_ | exact Lc | refine Lo ?_ | refine ⟨⟨_, rfl, ?_⟩, ?_⟩ | refine Lx ?_)))
    (case' hok => first | exact ⟨MI.ok_same rfl (Cg), trivial⟩ | exact trivial)
    (case' hN => rfl)
    (case' hS => rfl)
    all_goals (first | exact Ld | (rfl))
  obtain ⟨p, hk, hdj⟩ := k
  simp only
  have hf := h.fwx p hk hdj
  have hcell := fun {i j} => h.cells hk hdj (i := i) (j := j)
  by_cases hlt : p < n
  ·
    have hst : fwN (entN t) (p + 1) = fwS (fwN (entN t) p) p := rfl
    have hnext : fwN (entN t) p p p ≤ 0 → ∀ j, j < p + 1 → fwN (entN t) j j j ≤ 0 := fun h0 j hj => by
      by_cases e : j = p
      · subst e; exact h0
      · exact hdj j (by omega)
    have hdia := (hf.dia p hlt).2
    have hstep := fun (e : fwN (entN t) p p p = 0) => FWX.step (by decide) (by have := pow_le10 (show p + 1 ≤ 10 by omega); omega) hlt hf e
    generalize fwN (entN t) p = s at *
    clear hf hA hA0 hU
    have hrk := TRF_get (n := n) (f := s) hlt
    have hrkl : (IR (rowF n (s p))).length = n := by rw [IR_len, rowF_len]
    have hck := IRF_get (g := s p) hlt
    by_cases hpos : 0 < s p p
    ·
      repeat' (first | ((first | apply Ba | (apply Bb; (· rfl); (· rfl)) | (apply Bc; (· exact nxE)) | (apply Bd; (· rfl); (· rfl); (· exact nxE))); (· first | exact Ok.ldTn rfl rfl rfl hrk hrkl | exact Ok.ld1 rfl rfl (congrArg (Option.map (dobj 1)) hrk) hck | exact Ok.pe)) | ((first | apply Ca | (apply Cb; (· exact nxE))); (· first | exact Ok.e0)) | refine Sx ?_ | (refine Sy (fun h => ?_) (fun h => ?_) <;> try (exfalso; omega; done)) | refine Sz (fun h => ?_) (fun h => ?_))
      refine Yb ?_
      (apply Le.headZ (hs := []) [] rfl)
      all_goals (try dsimp only [srcs])
      (case' hfr => (repeat' (first | refine La ?_ ?_ | exact Lc | refine Lo ?_ | refine ⟨⟨_, rfl, ?_⟩, ?_⟩ | refine Lx ?_)))
      all_goals (first | exact Ld | exact trivial | (rfl))
    have hkk : s p p = 0 := by omega
    obtain ⟨_, hcol, hrw⟩ := hstep hkk
    have hnext := hnext (by omega)
    rw [hkk] at hck
    repeat' (first | ((first | apply Ba | (apply Bb; (· rfl); (· rfl)) | (apply Bc; (· exact nxE)) | (apply Bd; (· rfl); (· rfl); (· exact nxE))); (· first | exact Ok.ldTn rfl rfl rfl hrk hrkl | exact Ok.ld1 rfl rfl (congrArg (Option.map (dobj 1)) hrk) hck | exact Ok.pe)) | ((first | apply Ca | (apply Cb; (· exact nxE))); (· first | exact Ok.e0)) | refine Sx ?_ | (refine Sy (fun h => ?_) (fun h => ?_) <;> try (exfalso; omega; done)) | refine Sz (fun h => ?_) (fun h => ?_))
    refine AW.loop (X := {k : Nat // k ≤ n}) (fun k => ⟨[Oo, Oo, Oo, Oo, .own 1 ⟨1, []⟩ 0 n, I p, Oo, Oo, Oo, Oo, Oo, Oo, Oo, Oo, Oo, I n, I p, Oo, Oo, Oo, Oo, Oo, Oo, Oo, Oo, Oo, Oo, Oo, I n, I (k.1 : Nat), Oo, Oo, Oo, Oo, Oo, Oo, Oo, Oo, Oo, Oo, Oo, Oo, Oo, Oo, Oo, Oo, Oo, Oo, Oo, Oo, Oo, Oo, Oo, Oo, Oo, Oo, Oo, Oo, Oo, Oo, Oo, Oo, Oo, Oo, Oo, Oo, Oo, Oo, Oo, Oo, Oo, Oo, Oo, Oo, Oo, Oo, Oo, Oo, Oo, Oo, Oo, Oo, Oo, Oo], heapX [] [mi1 ⟨1, []⟩ (TR (tabF n n (mixF (fwS s p) s k.1 0)))], 900⟩) (fun k => n - k.1) ⟨0, Nat.zero_le _⟩ ?_ (fun k => ?_)
    ·
      (apply Le.headG [] [mi1 ⟨1, []⟩ (TR (tabF n n (mixF (fwS s p) s 0 0)))] (fun _ => False))
      (case' hlen => rfl)
      (case' hms => rfl)
      all_goals (try dsimp only [srcs])
      (case' hfr | hob => (repeat' (first | refine La ?_ ?_ | exact Lc | refine Lo ?_ | refine ⟨⟨_, rfl, ?_⟩, ?_⟩ | refine Lx ?_)))
      (case' hok => first | exact ⟨by rw [mixF_0]; exact MI.ok_same rfl (Cg), trivial⟩ | exact trivial)
      (case' hN => rfl)
      (case' hS => rfl)
      all_goals (first | exact Ld | (rfl))
    obtain ⟨i, hi⟩ := k
    simp only
    by_cases hlt2 : i < n
    ·
      repeat' (first | ((first | apply Ba | (apply Bb; (· rfl); (· rfl)) | (apply Bc; (· exact nxE)) | (apply Bd; (· rfl); (· rfl); (· exact nxE))); (· first | exact Ok.pe)) | ((first | apply Ca | (apply Cb; (· exact nxE))); (· first | exact Ok.e0)) | refine Sx ?_ | (refine Sy (fun h => ?_) (fun h => ?_) <;> try (exfalso; omega; done)) | refine Sz (fun h => ?_) (fun h => ?_))
      refine AW.loop (X := {k : Nat // k ≤ n}) (fun k => ⟨[Oo, Oo, Oo, Oo, .own 1 ⟨1, []⟩ 0 n, I p, I i, Oo, Oo, Oo, Oo, Oo, Oo, Oo, Oo, I n, I p, Oo, Oo, Oo, Oo, Oo, Oo, Oo, Oo, Oo, Oo, Oo, I n, I i, Oo, Oo, Oo, I n, I (k.1 : Nat), Oo, Oo, Oo, Oo, Oo, Oo, Oo, Oo, Oo, Oo, Oo, Oo, Oo, Oo, Oo, Oo, Oo, Oo, Oo, Oo, Oo, Oo, Oo, Oo, Oo, Oo, Oo, Oo, Oo, Oo, Oo, Oo, Oo, Oo, Oo, Oo, Oo, Oo, Oo, Oo, Oo, Oo, Oo, Oo, Oo, Oo, Oo, Oo, Oo], heapX [] [mi1 ⟨1, []⟩ (TR (tabF n n (mixF (fwS s p) s i k.1)))], 900⟩) (fun k => n - k.1) ⟨0, Nat.zero_le _⟩ ?_ (fun k => ?_)
      ·
        (apply Le.headG [] [mi1 ⟨1, []⟩ (TR (tabF n n (mixF (fwS s p) s i 0)))] (fun _ => False))
        (case' hlen => rfl)
        (case' hms => rfl)
        all_goals (try dsimp only [srcs])
        (case' hfr | hob => (repeat' (first | refine La ?_ ?_ | exact Lc | refine Lo ?_ | refine ⟨⟨_, rfl, ?_⟩, ?_⟩ | refine Lx ?_)))
        (case' hok => first | exact ⟨MI.ok_same rfl (Cg), trivial⟩ | exact trivial)
        (case' hN => rfl)
        (case' hS => rfl)
        all_goals (first | exact Ld | (rfl))
      obtain ⟨j, hj⟩ := k
      simp only
      by_cases hlt3 : j < n
      ·
        have hrwi := TRF_get (n := n) (f := mixF (fwS s p) s i j) hlt2
        have hrwk := TRF_get (n := n) (f := mixF (fwS s p) s i j) hlt
        have hli : (IR (rowF n (mixF (fwS s p) s i j i))).length = n := by rw [IR_len, rowF_len]
        have hlk : (IR (rowF n (mixF (fwS s p) s i j p))).length = n := by rw [IR_len, rowF_len]
        have hij := IRF_get (g := mixF (fwS s p) s i j i) hlt3
        have hik := IRF_get (g := mixF (fwS s p) s i j i) hlt
        have hkj := IRF_get (g := mixF (fwS s p) s i j p) hlt3
        rw [show mixF (fwS s p) s i j i j = s i j by unfold mixF; rw [if_neg (by omega)]] at hij
        rw [show mixF (fwS s p) s i j i p = s i p by unfold mixF; split <;> first | exact hcol i hlt2 | rfl] at hik
        rw [show mixF (fwS s p) s i j p j = s p j by unfold mixF; split <;> first | exact hrw j hlt3 | rfl] at hkj
        have hT := times_ac (s i p) (s p j) (fun e1 e2 => by
          have h1 := (hcell hlt2 hlt).resolve_left e1
          have h2 := (hcell hlt hlt3).resolve_left e2
          omega)
        have hset : (IR (rowF n (mixF (fwS s p) s i j i))).set j [DI (max (s i j) (timesB (s i p) (s p j)))] = IR ((rowF n (mixF (fwS s p) s i j i)).set j (fwS s p i j)) := IR_set
        repeat' (first | ((first | apply Ba | (apply Bb; (· rfl); (· rfl)) | (apply Bc; (· exact nxE)) | (apply Bd; (· rfl); (· rfl); (· exact nxE))); (· first | exact Ok.ldTn rfl rfl rfl hrwi hli | exact Ok.ldTn rfl rfl rfl hrwk hlk | exact Ok.ld1 rfl rfl (congrArg (Option.map (dobj 1)) hrwi) hij | exact Ok.ld1 rfl rfl (congrArg (Option.map (dobj 1)) hrwi) hik | exact Ok.ld1 rfl rfl (congrArg (Option.map (dobj 1)) hrwk) hkj | exact Kz rfl rfl (hT) (Ad (Ad An)) | exact Ok.st1 rfl rfl (congrArg (Option.map (dobj 1)) hrwi) (by simp [rowF_len]; omega) (by rw [hij]; rfl) rfl rfl hset | exact Ok.pe)) | ((first | apply Ca | (apply Cb; (· exact nxE))); (· first | exact Ok.st1 rfl rfl (congrArg (Option.map (dobj 1)) hrwi) (by simp [rowF_len]; omega) (by rw [hij]; rfl) rfl rfl hset | exact Ok.e0)) | refine Sx ?_ | (refine Sy (fun h => ?_) (fun h => ?_) <;> try (exfalso; omega; done)) | refine Sz (fun h => ?_) (fun h => ?_))
        refine ⟨⟨j + 1, by omega⟩, ?_, by simp only; omega⟩
        (apply Le.headG [] [mi1 ⟨1, []⟩ (TR (tabF n n (mixF (fwS s p) s i (j + 1))))] (fun _ => False))
        (case' hlen => rfl)
        (case' hms => rfl)
        all_goals (try dsimp only [srcs])
        (case' hfr | hob => (repeat' (first | refine La ?_ ?_ | exact Lc | refine Lo ?_ | refine ⟨⟨_, rfl, ?_⟩, ?_⟩ | refine Lx ?_)))
        (case' hok => first | exact ⟨MI.ok_row (tabF_set (fun a b _ _ => mixF_set)) hrwi (by simp) rfl (Cg), trivial⟩ | exact trivial)
        (case' hN => rfl)
        (case' hS => rfl)
        all_goals (first | exact Ld | (rfl))
      ·
        obtain rfl : j = n := by omega
        rw [mixF_row]
        repeat' (first | ((first | apply Ba | (apply Bb; (· rfl); (· rfl)) | (apply Bc; (· exact nxE)) | (apply Bd; (· rfl); (· rfl); (· exact nxE))); (· first | exact Ok.pe)) | ((first | apply Ca | (apply Cb; (· exact nxE))); (· first | exact Ok.e0)) | refine Sx ?_ | (refine Sy (fun h => ?_) (fun h => ?_) <;> try (exfalso; omega; done)) | refine Sz (fun h => ?_) (fun h => ?_))
        refine ⟨⟨i + 1, by omega⟩, ?_, by simp only; omega⟩
        (apply Le.headG [] [mi1 ⟨1, []⟩ (TR (tabF j j (mixF (fwS s p) s (i + 1) 0)))] (fun _ => False))
        (case' hlen => rfl)
        (case' hms => rfl)
        all_goals (try dsimp only [srcs])
        (case' hfr | hob => (repeat' (first | refine La ?_ ?_ | exact Lc | refine Lo ?_ | refine ⟨⟨_, rfl, ?_⟩, ?_⟩ | refine Lx ?_)))
        (case' hok => first | exact ⟨MI.ok_same rfl (Cg), trivial⟩ | exact trivial)
        (case' hN => rfl)
        (case' hS => rfl)
        all_goals (first | exact Ld | (rfl))
    ·
      obtain rfl : i = n := by omega
      rw [mixF_all]
      repeat' (first | ((first | apply Ba | (apply Bb; (· rfl); (· rfl)) | (apply Bc; (· exact nxE)) | (apply Bd; (· rfl); (· rfl); (· exact nxE))); (· first | exact Ok.pe)) | ((first | apply Ca | (apply Cb; (· exact nxE))); (· first | exact Ok.e0)) | refine Sx ?_ | (refine Sy (fun h => ?_) (fun h => ?_) <;> try (exfalso; omega; done)) | refine Sz (fun h => ?_) (fun h => ?_))
      refine ⟨⟨p + 1, by omega, hnext⟩, ?_, by simp only; omega⟩
      simp only
      rw [hst]
      (apply Le.headG [] [mi1 ⟨1, []⟩ (TR (tabF i i (fwS s p)))] (fun _ => False))
      (case' hlen => rfl)
      (case' hms => rfl)
      all_goals (try dsimp only [srcs])
      (case' hfr | hob => (repeat' (first | refine La ?_ ?_ | exact Lc | refine Lo ?_ | refine ⟨⟨_, rfl, ?_⟩, ?_⟩ | refine Lx ?_)))
      (case' hok => first | exact ⟨MI.ok_same rfl (Cg), trivial⟩ | exact trivial)
      (case' hN => rfl)
      (case' hS => rfl)
      all_goals (first | exact Ld | (rfl))
  ·
    obtain rfl : n = p := by omega
    have hno : ¬ ∀ u, u < n → fwN (entN t) n u u ≤ 0 := fun h0 => hp (hf.np h0)
    generalize fwN (entN t) n = s at *
    clear hf hA hA0 hU
    repeat' (first | ((first | apply Ba | (apply Bb; (· rfl); (· rfl)) | (apply Bc; (· exact nxE)) | (apply Bd; (· rfl); (· rfl); (· exact nxE))); (· first | exact Ok.pe)) | ((first | apply Ca | (apply Cb; (· exact nxE))); (· first | exact Ok.e0)) | refine Sx ?_ | (refine Sy (fun h => ?_) (fun h => ?_) <;> try (exfalso; omega; done)) | refine Sz (fun h => ?_) (fun h => ?_))
    refine AW.loop (X := {k : Nat // k ≤ n ∧ ∀ j, j < k → s j j ≤ 0}) (fun k => ⟨[Oo, Oo, Oo, Oo, .own 1 ⟨1, []⟩ 0 n, Oo, Oo, Oo, Oo, Oo, Oo, Oo, Oo, Oo, Oo, Oo, Oo, Oo, Oo, Oo, Oo, Oo, Oo, Oo, Oo, Oo, Oo, Oo, Oo, Oo, Oo, Oo, Oo, Oo, Oo, Oo, Oo, Oo, Oo, Oo, Oo, Oo, Oo, Oo, Oo, Oo, Oo, Oo, Oo, Oo, Oo, Oo, Oo, Oo, Oo, Oo, Oo, Oo, Oo, Oo, Oo, Oo, Oo, Oo, Oo, Oo, Oo, Oo, Oo, Oo, I n, I (k.1 : Nat), Oo, Oo, Oo, Oo, Oo, Oo, Oo, Oo, Oo, Oo, Oo, Oo], heapX [] [mi1 ⟨1, []⟩ (TR (tabF n n s))], 900⟩) (fun k => n - k.1) ⟨0, Nat.zero_le _, by intro j hj; omega⟩ ?_ (fun k => ?_)
    ·
      (apply Le.headG [] [mi1 ⟨1, []⟩ (TR (tabF n n s))] (fun _ => False))
      (case' hlen => rfl)
      (case' hms => rfl)
      all_goals (try dsimp only [srcs])
      (case' hfr | hob => (repeat' (first | refine La ?_ ?_ | exact Lc | refine Lo ?_ | refine ⟨⟨_, rfl, ?_⟩, ?_⟩ | refine Lx ?_)))
      (case' hok => first | exact ⟨MI.ok_same rfl (Cg), trivial⟩ | exact trivial)
      (case' hN => rfl)
      (case' hS => rfl)
      all_goals (first | exact Ld | (rfl))
    obtain ⟨i, hi, hdi⟩ := k
    simp only
    by_cases hlt2 : i < n
    ·
      have hrk := TRF_get (n := n) (f := s) hlt2
      have hrkl : (IR (rowF n (s i))).length = n := by rw [IR_len, rowF_len]
      have hck := IRF_get (g := s i) hlt2
      by_cases hpos : 0 < s i i
      ·
        repeat' (first | ((first | apply Ba | (apply Bb; (· rfl); (· rfl)) | (apply Bc; (· exact nxE)) | (apply Bd; (· rfl); (· rfl); (· exact nxE))); (· first | exact Ok.ldTn rfl rfl rfl hrk hrkl | exact Ok.ld1 rfl rfl (congrArg (Option.map (dobj 1)) hrk) hck | exact Ok.pe)) | ((first | apply Ca | (apply Cb; (· exact nxE))); (· first | exact Ok.e0)) | refine Sx ?_ | (refine Sy (fun h => ?_) (fun h => ?_) <;> try (exfalso; omega; done)) | refine Sz (fun h => ?_) (fun h => ?_))
        refine Yb ?_
        (apply Le.headZ (hs := []) [] rfl)
        all_goals (try dsimp only [srcs])
        (case' hfr => (repeat' (first | refine La ?_ ?_ | exact Lc | refine Lo ?_ | refine ⟨⟨_, rfl, ?_⟩, ?_⟩ | refine Lx ?_)))
        all_goals (first | exact Ld | exact trivial | (rfl))
      have hdn : ∀ j, j < i + 1 → s j j ≤ 0 := fun j hj => by
        by_cases e : j = i
        · subst e; omega
        · exact hdi j (by omega)
      repeat' (first | ((first | apply Ba | (apply Bb; (· rfl); (· rfl)) | (apply Bc; (· exact nxE)) | (apply Bd; (· rfl); (· rfl); (· exact nxE))); (· first | exact Ok.ldTn rfl rfl rfl hrk hrkl | exact Ok.ld1 rfl rfl (congrArg (Option.map (dobj 1)) hrk) hck | exact Ok.pe)) | ((first | apply Ca | (apply Cb; (· exact nxE))); (· first | exact Ok.e0)) | refine Sx ?_ | (refine Sy (fun h => ?_) (fun h => ?_) <;> try (exfalso; omega; done)) | refine Sz (fun h => ?_) (fun h => ?_))
      refine ⟨⟨i + 1, by omega, hdn⟩, ?_, by simp only; omega⟩
      (apply Le.headG [] [mi1 ⟨1, []⟩ (TR (tabF n n s))] (fun _ => False))
      (case' hlen => rfl)
      (case' hms => rfl)
      all_goals (try dsimp only [srcs])
      (case' hfr | hob => (repeat' (first | refine La ?_ ?_ | exact Lc | refine Lo ?_ | refine ⟨⟨_, rfl, ?_⟩, ?_⟩ | refine Lx ?_)))
      (case' hok => first | exact ⟨MI.ok_same rfl (Cg), trivial⟩ | exact trivial)
      (case' hN => rfl)
      (case' hS => rfl)
      all_goals (first | exact Ld | (rfl))
    ·
      obtain rfl : n = i := by omega
      exact absurd hdi hno
end Go.Proofs.Ytkpoclbnnpglfaa
end

section
namespace Go.Proofs.Ytkpoclbnnpglfaa
set_option linter.unusedSimpArgs false
set_option linter.unusedVariables false

/-- A walk from u along the nodes of a list. -/
def kP (W : Nat → Nat → Int) : Nat → List Nat → Prop
  | _, [] => True
  | u, v :: l => W v u ≠ BOT ∧ kP W v l
def kW (W : Nat → Nat → Int) : Nat → List Nat → Int
  | _, [] => 0
  | u, v :: l => W v u + kW W v l
/-- Its last node. -/
def kE : Nat → List Nat → Nat
  | u, [] => u
  | _, v :: l => kE v l
theorem kE_app : ∀ (a b : List Nat) (u : Nat), kE u (a ++ b) = kE (kE u a) b
  | [], _, _ => rfl
  | v :: a, b, u => kE_app a b v
theorem kP_app {W : Nat → Nat → Int} : ∀ (a b : List Nat) (u : Nat), kP W u (a ++ b) ↔ kP W u a ∧ kP W (kE u a) b
  | [], b, u => by simp [kP, kE]
  | v :: a, b, u => by
    simp only [List.cons_append, kP, kE, kP_app a b v, and_assoc]
theorem kW_app {W : Nat → Nat → Int} : ∀ (a b : List Nat) (u : Nat), kW W u (a ++ b) = kW W u a + kW W (kE u a) b
  | [], b, u => by simp [kW, kE]
  | v :: a, b, u => by
    simp only [List.cons_append, kW, kE, kW_app a b v]; omega
theorem kE_lt {n : Nat} : ∀ {l : List Nat} {u : Nat}, u < n → (∀ x ∈ l, x < n) → kE u l < n
  | [], _, hu, _ => hu
  | v :: l, _, _, hl => kE_lt (l := l) (u := v) (hl v (by simp)) fun x hx => hl x (by simp [hx])
theorem kW_bnd {W : Nat → Nat → Int} {M : Int} (hW : ∀ u v, W v u ≠ BOT → -M ≤ W v u ∧ W v u ≤ M) : ∀ {l : List Nat} {u : Nat}, kP W u l → -(M * l.length) ≤ kW W u l ∧ kW W u l ≤ M * l.length
  | [], _, _ => by simp [kW]
  | v :: l, u, h => by
    have h1 := hW u v h.1
    have h2 := kW_bnd hW (l := l) h.2
    simp only [kW, List.length_cons]
    rw [show ((l.length + 1 : Nat) : Int) = (l.length : Int) + 1 by omega, Int.mul_add]
    omega
/-- Weight and number of arcs at once. -/
def kV (W : Nat → Nat → Int) (p q : Int) (u : Nat) (l : List Nat) : Int := q * kW W u l - p * l.length
/-- A list with a node twice. -/
theorem dup_at : ∀ {l : List Nat}, ¬ l.Nodup → ∃ a x b c, l = a ++ x :: (b ++ x :: c)
  | [], h => absurd List.nodup_nil h
  | y :: l, h => by
    rw [List.nodup_cons] at h
    by_cases hy : y ∈ l
    · obtain ⟨b, c, rfl⟩ := List.append_of_mem hy
      exact ⟨[], y, b, c, rfl⟩
    · obtain ⟨a, x, b, c, rfl⟩ := dup_at (l := l) (fun hl => h ⟨hy, hl⟩)
      exact ⟨y :: a, x, b, c, rfl⟩
/-- p / q is the greatest mean of a closed walk. -/
structure KMean (W : Nat → Nat → Int) (n : Nat) (p q : Int) : Prop where
  pos : 0 < q
  le : ∀ u l, u < n → (∀ x ∈ l, x < n) → kP W u l → kE u l = u → kV W p q u l ≤ 0
  eq : ∃ u l, u < n ∧ (∀ x ∈ l, x < n) ∧ l ≠ [] ∧ kP W u l ∧ kE u l = u ∧ kV W p q u l = 0
theorem snoc_of {l : List Nat} (h : l ≠ []) : ∃ a v, l = a ++ [v] := ⟨l.dropLast, l.getLast h, (List.dropLast_concat_getLast h).symm⟩
section
variable {W : Nat → Nat → Int} {n : Nat} {M : Int} (hM : 0 ≤ M) (hW : ∀ u v, W v u ≠ BOT → -M ≤ W v u ∧ W v u ≤ M)
include hM hW
omit hM hW in
omit hM hW in
omit hM hW in
omit hM hW in
omit hM hW in
end
end Go.Proofs.Ytkpoclbnnpglfaa
end

section
namespace Go.Proofs.Ytkpoclbnnpglfaa
set_option linter.unusedSimpArgs false
set_option linter.unusedVariables false

/-- A written cycle: its first node is its least one; it weighs more than some number. -/
structure CyW (a : Nat → Nat → Int) (n : Nat) (over : Int) (f : Nat) (r : List Nat) : Prop where
  lt : f < n
  gt : ∀ x ∈ r, f < x ∧ x < n
  nd : (f :: r).Nodup
  path : kP a f r
  close : a f (kE f r) ≠ BOT
  more : over < kW a f r + a f (kE f r)
theorem lsN_kE : ∀ {r : List Nat} {f : Nat}, lsN (f :: r) = kE f r
  | [], _ => rfl
  | v :: r, f => by
    have := lsN_kE (r := r) (f := v)
    simp only [kE]
    rw [← this]
    simp [lsN]
theorem CyW.len {a : Nat → Nat → Int} {n : Nat} {over : Int} {f : Nat} {r : List Nat} (h : CyW a n over f r) : r.length + 1 ≤ n := by
  have := nodup_le n (f :: r) h.nd (fun x hx => by
    rcases List.mem_cons.1 hx with rfl | hx
    · exact h.lt
    · exact (h.gt x hx).2)
  simpa using this
theorem growF_w {a : Nat → Nat → Int} {n : Nat} {over : Int} : ∀ (k : Nat) (f : Nat) (r : List Nat) (w : Int), f < n → (∀ x ∈ r, f < x ∧ x < n) → (f :: r).Nodup → kP a f r → w = kW a f r → growF a n over k (f :: r) w ≠ [] → ∃ r', growF a n over k (f :: r) w = f :: r' ∧ CyW a n over f r'
  | 0, _, _, _, _, _, _, _, _, h => absurd rfl h
  | k + 1, f, r, w, hf, hr, hn, hp, hw, h => by
    unfold growF at h ⊢
    have hhd : hdN (f :: r) = f := rfl
    rw [hhd, lsN_kE] at h ⊢
    by_cases hc : a f (kE f r) ≠ BOT ∧ over < w + a f (kE f r)
    · rw [if_pos hc]
      exact ⟨r, rfl, hf, hr, hn, hp, hc.1, by rw [← hw]; exact hc.2⟩
    · rw [if_neg hc] at h ⊢
      obtain ⟨v, hv, h3, h4⟩ := tryAll_mem h
      rw [h4]
      split at h3
      · exact absurd rfl h3
      · rename_i hno
        rw [if_neg hno]
        rw [List.mem_range'_1] at hv
        have hvm : v ∉ f :: r := fun e => hno (.inr e)
        have hva : a v (kE f r) ≠ BOT := fun e => hno (.inl e)
        refine growF_w k f (r ++ [v]) _ hf (fun x hx => ?_) ?_ ((kP_app r [v] f).2 ⟨hp, hva, trivial⟩) ?_ h3
        · rcases List.mem_append.1 hx with hx | hx
          · exact hr x hx
          · simp at hx; omega
        · rw [← List.cons_append, List.nodup_append]
          exact ⟨hn, by simp, fun x hx y hy e => by simp at hy; subst hy; subst e; exact hvm hx⟩
        · rw [kW_app, hw]; simp [kW]
theorem growF_f {a : Nat → Nat → Int} {n : Nat} {over : Int} : ∀ (k : Nat) (f : Nat) (e r : List Nat), CyW a n over f (r ++ e) → e.length + 1 ≤ k → growF a n over k (f :: r) (kW a f r) ≠ []
  | 0, _, _, _, _, hk => by omega
  | k + 1, f, e, r, h, hk => by
    unfold growF
    have hhd : hdN (f :: r) = f := rfl
    rw [hhd, lsN_kE]
    by_cases hc : a f (kE f r) ≠ BOT ∧ over < kW a f r + a f (kE f r)
    · rw [if_pos hc]; simp
    · rw [if_neg hc]
      cases e with
      | nil =>
        rw [List.append_nil] at h
        exact absurd ⟨h.close, h.more⟩ hc
      | cons v e =>
        have hp := h.path
        rw [kP_app] at hp
        have hv := h.gt v (by simp)
        have hva : a v (kE f r) ≠ BOT := hp.2.1
        have hvm : v ∉ f :: r := fun hm => by
          have hnd := h.nd
          rw [← List.cons_append, List.nodup_append] at hnd
          exact hnd.2.2 v hm v (by simp) rfl
        rw [tryAll_ne]
        refine ⟨v, by rw [List.mem_range'_1]; omega, ?_⟩
        rw [if_neg (by rintro (h1 | h1); exact hva h1; exact hvm h1)]
        have := growF_f k f e (r ++ [v]) (by rw [List.append_assoc]; exact h) (by simp at hk; omega)
        rw [kW_app] at this
        simp only [kW, Int.add_zero] at this
        exact this
theorem overF_w {a : Nat → Nat → Int} {n : Nat} {over : Int} (h : overF a n over ≠ []) : ∃ f r, overF a n over = f :: r ∧ CyW a n over f r := by
  obtain ⟨v, hv, h3, h4⟩ := tryAll_mem h
  rw [List.mem_range'_1] at hv
  unfold overF
  rw [h4]
  obtain ⟨r', e, hc⟩ := growF_w n v [] 0 (by omega) (by simp) (by simp) trivial rfl h3
  exact ⟨v, r', e, hc⟩
theorem overF_f {a : Nat → Nat → Int} {n : Nat} {over : Int} {f : Nat} {r : List Nat} (h : CyW a n over f r) : overF a n over ≠ [] := by
  unfold overF
  rw [tryAll_ne]
  refine ⟨f, by rw [List.mem_range'_1]; have := h.lt; omega, ?_⟩
  exact growF_f n f r [] h h.len
/-- A closed walk that weighs more holds a written cycle that weighs more. -/
theorem cyw_of {a : Nat → Nat → Int} {n : Nat} {over : Int} (hov : over = 0 ∨ over = -1) : ∀ (m : Nat) (z : Nat) (L : List Nat), L.length ≤ m → z < n → (∀ x ∈ L, x < n) → L ≠ [] → kP a z L → kE z L = z → over < kW a z L → ∃ f r, CyW a n over f r := by
  intro m
  induction m with
  | zero =>
    intro z L hm _ _ h0 _ _ _
    exact absurd (List.length_eq_zero_iff.1 (by omega)) h0
  | succ m ih =>
    intro z L hm hz hL h0 hp he hw
    obtain ⟨L', y, rfl⟩ := snoc_of h0
    have hy : y = z := by rw [kE_app] at he; exact he
    subst hy
    by_cases hn : (y :: L').Nodup
    · -- turned so that the least node is the first one
      have hmin : ∀ (l : List Nat), l ≠ [] → ∃ f, f ∈ l ∧ ∀ x ∈ l, f ≤ x := by
        intro l
        induction l with
        | nil => intro h; exact absurd rfl h
        | cons b l ihl =>
          intro _
          by_cases hl : l = []
          · subst hl; exact ⟨b, by simp, fun x hx => by simp at hx; omega⟩
          · obtain ⟨f, f1, f2⟩ := ihl hl
            by_cases hbf : b ≤ f
            · exact ⟨b, by simp, fun x hx => by
                rcases List.mem_cons.1 hx with rfl | hx
                · exact Nat.le_refl _
                · exact Nat.le_trans hbf (f2 x hx)⟩
            · exact ⟨f, by simp [f1], fun x hx => by
                rcases List.mem_cons.1 hx with rfl | hx
                · omega
                · exact f2 x hx⟩
      obtain ⟨f, f1, f2⟩ := hmin (y :: L') (by simp)
      rcases List.mem_cons.1 f1 with rfl | f1
      · rw [kP_app] at hp
        rw [kW_app] at hw
        refine ⟨f, L', hz, fun x hx => ?_, hn, hp.1, hp.2.1, by simpa [kW] using hw⟩
        have := f2 x (by simp [hx])
        have hne : f ≠ x := fun e => (List.nodup_cons.1 hn).1 (by rw [e]; exact hx)
        have := hL x (by simp [hx])
        omega
      · obtain ⟨A, B, rfl⟩ := List.append_of_mem f1
        have hp1 : kP a f (B ++ [y] ++ (A ++ [f])) ∧ kW a f (B ++ [y] ++ (A ++ [f])) = kW a y (A ++ f :: B ++ [y]) ∧ kE f (B ++ [y]) = y := by
          have e1 : A ++ f :: B ++ [y] = (A ++ [f]) ++ (B ++ [y]) := by simp
          rw [e1, kP_app] at hp
          rw [e1, kE_app] at he
          have e2 : kE y (A ++ [f]) = f := by rw [kE_app]; rfl
          rw [e2] at hp he
          refine ⟨(kP_app _ _ _).2 ⟨hp.2, by rw [he]; exact hp.1⟩, ?_, he⟩
          rw [e1, kW_app (B ++ [y]) (A ++ [f]) f, kW_app (A ++ [f]) (B ++ [y]) y, e2, he]; omega
        obtain ⟨hp1, hw1, he1⟩ := hp1
        have e3 : B ++ [y] ++ (A ++ [f]) = (B ++ [y] ++ A) ++ [f] := by simp
        rw [e3, kP_app] at hp1
        rw [← hw1, e3, kW_app] at hw
        have hmem : ∀ x ∈ B ++ [y] ++ A, x ∈ y :: (A ++ f :: B) ∧ x ≠ f := fun x hx => by
          have hnd := hn
          rw [List.nodup_cons, List.nodup_append, List.nodup_cons] at hnd
          obtain ⟨n1, n2, n3, n4⟩ := hnd
          rcases List.mem_append.1 hx with hx | hx
          · rcases List.mem_append.1 hx with hx | hx
            · exact ⟨by simp [hx], fun e => n3.1 (by rw [← e]; exact hx)⟩
            · simp at hx; subst hx; exact ⟨by simp, fun e => n1 (by rw [e]; simp)⟩
          · exact ⟨by simp [hx], fun e => n4 x hx f (by simp) e⟩
        refine ⟨f, B ++ [y] ++ A, hL f (by simp), fun x hx => ?_, ?_, hp1.1, hp1.2.1, by simpa [kW] using hw⟩
        · obtain ⟨g1, g2⟩ := hmem x hx
          have := f2 x g1
          have : x < n := by
            rcases List.mem_cons.1 g1 with rfl | g1
            · exact hz
            · exact hL x (by simp at g1 ⊢; rcases g1 with g1 | g1 | g1 <;> simp [g1])
          omega
        · have hperm : (f :: (B ++ [y] ++ A)).Perm (y :: (A ++ f :: B)) := by
            have h1 : (f :: (B ++ [y] ++ A)) = (f :: B) ++ (y :: A) := by simp
            have h2 : (y :: (A ++ f :: B)) = (y :: A) ++ (f :: B) := by simp
            rw [h1, h2]
            exact List.perm_append_comm
          exact hperm.nodup_iff.2 hn
    · -- parted in two
      obtain ⟨A, x, B, C, e⟩ := dup_at hn
      have key : ∃ a1 b1 c1, L' ++ [y] = a1 ++ (b1 ++ c1) ∧ b1 ≠ [] ∧ c1 ≠ [] ∧ kE (kE y a1) b1 = kE y a1 := by
        cases A with
        | nil =>
          simp only [List.nil_append, List.cons.injEq] at e
          obtain ⟨rfl, rfl⟩ := e
          exact ⟨[], B ++ [y], C ++ [y], by simp, by simp, by simp, by simp only [kE]; rw [kE_app]; rfl⟩
        | cons t A =>
          simp only [List.cons_append, List.cons.injEq] at e
          obtain ⟨rfl, rfl⟩ := e
          exact ⟨A ++ [x], B ++ [x], C ++ [y], by simp, by simp, by simp, by simp only [kE_app, kE]⟩
      obtain ⟨a1, b1, c1, e1, hb, hc, hr⟩ := key
      rw [e1] at hm hL hp he hw
      rw [kP_app, kP_app, hr] at hp
      rw [kE_app, kE_app, hr] at he
      rw [kW_app, kW_app, hr] at hw
      have ha : ∀ t ∈ a1, t < n := fun t ht => hL t (by simp [ht])
      have hbm : ∀ t ∈ b1, t < n := fun t ht => hL t (by simp [ht])
      have hcm : ∀ t ∈ c1, t < n := fun t ht => hL t (by simp [ht])
      have hb0 := List.length_pos_iff.2 hb
      have hc0 := List.length_pos_iff.2 hc
      simp only [List.length_append] at hm
      have hsum : kW a y (a1 ++ c1) = kW a y a1 + kW a (kE y a1) c1 := kW_app _ _ _
      by_cases h1 : over < kW a (kE y a1) b1
      · exact ih (kE y a1) b1 (by omega) (kE_lt hz ha) hbm hb hp.2.1 hr h1
      · refine ih y (a1 ++ c1) (by simp; omega) hz (fun t ht => by
          rcases List.mem_append.1 ht with ht | ht
          · exact ha t ht
          · exact hcm t ht) (by simp [hc]) ((kP_app a1 c1 y).2 ⟨hp.1, hp.2.2⟩) (by rw [kE_app]; exact he) (by rw [hsum]; omega)
/-! ### Shifted matrices -/
section
variable {W : Nat → Nat → Int} {n : Nat} {p q : Int} (hs : ∀ u v, W v u ≠ BOT → q * W v u - p ≠ BOT)
include hs
omit hs in
end
end Go.Proofs.Ytkpoclbnnpglfaa
end

section
namespace Go.Proofs.Ytkpoclbnnpglfaa
set_option linter.unusedSimpArgs false
set_option linter.unusedVariables false

/-- What is held of the star of a matrix without positive cycles. -/
structure KStar (W : Nat → Nat → Int) (n : Nat) (s : Nat → Nat → Int) : Prop where
  at' : ∀ u v, u < n → v < n → s v u = BOT ∨ ∃ l, (∀ x ∈ l, x < n) ∧ kP W u l ∧ kE u l = v ∧ kW W u l = s v u
  ge : ∀ u l, u < n → (∀ x ∈ l, x < n) → kP W u l → s (kE u l) u ≠ BOT ∧ kW W u l ≤ s (kE u l) u
  np : ∀ u l, u < n → (∀ x ∈ l, x < n) → kP W u l → kE u l = u → kW W u l ≤ 0
/-- The arc from u to v is critical. -/
def crit (W s : Nat → Nat → Int) (v u : Nat) : Prop := W v u ≠ BOT ∧ s u v ≠ BOT ∧ W v u + s u v = 0
def kC (W s : Nat → Nat → Int) : Nat → List Nat → Prop
  | _, [] => True
  | u, v :: l => crit W s v u ∧ kC W s v l
theorem kC_path {W s : Nat → Nat → Int} : ∀ {l : List Nat} {u : Nat}, kC W s u l → kP W u l
  | [], _, _ => trivial
  | _ :: _, _, h => ⟨h.1.1, kC_path h.2⟩
section
variable {W s : Nat → Nat → Int} {n : Nat} (h : KStar W n s)
include h
theorem KStar.super {u m v : Nat} (hu : u < n) (hm : m < n) (hv : v < n) (h1 : s m u ≠ BOT) (h2 : s v m ≠ BOT) : s v u ≠ BOT ∧ s m u + s v m ≤ s v u := by
  rcases h.at' u m hu hm with e | ⟨a, a1, a2, a3, a4⟩
  · exact absurd e h1
  · rcases h.at' m v hm hv with e | ⟨b, b1, b2, b3, b4⟩
    · exact absurd e h2
    · have := h.ge u (a ++ b) hu (fun x hx => by
        rcases List.mem_append.1 hx with hx | hx
        · exact a1 x hx
        · exact b1 x hx) ((kP_app a b u).2 ⟨a2, by rw [a3]; exact b2⟩)
      rw [kE_app, a3, b3, kW_app, a3, a4, b4] at this
      exact this
theorem KStar.dia {u : Nat} (hu : u < n) : s u u ≠ BOT ∧ s u u = 0 := by
  have h1 := h.ge u [] hu (by simp) trivial
  simp only [kE, kW] at h1
  refine ⟨h1.1, ?_⟩
  rcases h.at' u u hu hu with e | ⟨l, l1, l2, l3, l4⟩
  · exact absurd e h1.1
  · have := h.np u l hu l1 l2 l3
    omega
theorem KStar.back : ∀ {l : List Nat} {u : Nat}, u < n → (∀ x ∈ l, x < n) → kC W s u l → s u (kE u l) ≠ BOT ∧ - kW W u l ≤ s u (kE u l)
  | [], u, hu, _, _ => by
    have := h.dia hu
    simp only [kE, kW]
    exact ⟨this.1, by omega⟩
  | v :: l, u, hu, hl, hc => by
    have hv := hl v (by simp)
    have hl' : ∀ x ∈ l, x < n := fun x hx => hl x (by simp [hx])
    obtain ⟨g1, g2⟩ := KStar.back (l := l) hv hl' hc.2
    have h3 := h.super (kE_lt hv hl') hv hu g1 hc.1.2.1
    have := hc.1.2.2
    simp only [kE, kW]
    exact ⟨h3.1, by omega⟩
theorem KStar.zero {u : Nat} {l : List Nat} (hu : u < n) (hl : ∀ x ∈ l, x < n) (hc : kC W s u l) (he : kE u l = u) : kW W u l = 0 := by
  have h1 := (h.back hu hl hc).2
  rw [he, (h.dia hu).2] at h1
  have := h.np u l hu hl (kC_path hc) he
  omega
theorem KStar.arc {v u : Nat} (hu : u < n) (hv : v < n) (ha : W v u ≠ BOT) (hs : s u v ≠ BOT) : W v u + s u v ≤ 0 := by
  rcases h.at' v u hv hu with e | ⟨l, l1, l2, l3, l4⟩
  · exact absurd e hs
  · have := h.np u (v :: l) hu (fun x hx => by
      rcases List.mem_cons.1 hx with rfl | hx
      · exact hv
      · exact l1 x hx) ⟨ha, l2⟩ l3
    simp only [kW] at this
    omega
theorem KStar.crit : ∀ {b a : List Nat} {u : Nat}, u < n → (∀ x ∈ a ++ b, x < n) → kP W u (a ++ b) → kE u (a ++ b) = u → kW W u (a ++ b) = 0 → kC W s (kE u a) b
  | [], _, _, _, _, _, _, _ => trivial
  | v :: b, a, u, hu, hl, hp, he, hw => by
    have hv := hl v (by simp)
    have ha : ∀ x ∈ a, x < n := fun x hx => hl x (by simp [hx])
    have hb : ∀ x ∈ b, x < n := fun x hx => hl x (by simp [hx])
    have hp2 := (kP_app a (v :: b) u).1 hp
    have he2 := he
    have hw2 := hw
    rw [kE_app] at he2
    rw [kW_app] at hw2
    simp only [kE] at he2
    simp only [kW] at hw2
    have hm := kE_lt hu ha
    have hge := h.ge v (b ++ a) hv (fun x hx => by
      rcases List.mem_append.1 hx with hx | hx
      · exact hb x hx
      · exact ha x hx) ((kP_app b a v).2 ⟨hp2.2.2, by rw [he2]; exact hp2.1⟩)
    rw [kE_app, he2, kW_app, he2] at hge
    have harc := h.arc hm hv hp2.2.1 hge.1
    refine ⟨⟨hp2.2.1, hge.1, by omega⟩, ?_⟩
    have e : a ++ v :: b = (a ++ [v]) ++ b := by simp
    have := KStar.crit (b := b) (a := a ++ [v]) hu (by rw [← e]; exact hl) (by rw [← e]; exact hp) (by rw [← e]; exact he) (by rw [← e]; exact hw)
    rw [kE_app] at this
    exact this
end
section
variable {W s C : Nat → Nat → Int} {n : Nat} (h : KStar W n s) (hC : ∀ u v, u < n → v < n → (C v u ≠ BOT ↔ crit W s v u))
include h
include hC
end
end Go.Proofs.Ytkpoclbnnpglfaa
end

section
namespace Go.Proofs.Ytkpoclbnnpglfaa
set_option linter.unusedSimpArgs false
set_option linter.unusedVariables false
open Go Go.RowKit
attribute [local irreducible] AL AD AW OpOk Le AC thenQ blockQ EndQ

/-- Ratios whose products fit. -/
def smallR (a : Int × Int) : Prop := (0 ≤ a.1 ∧ a.1 ≤ 1000000) ∧ (0 ≤ a.2 ∧ a.2 ≤ 1000000)
theorem smallR.mul [Mode] {a b : Int × Int} (h : smallR a) (k : smallR b) : (0 ≤ a.1 * b.2 ∧ a.1 * b.2 ≤ 1000000000000) ∧ (0 ≤ b.1 * a.2 ∧ b.1 * a.2 ≤ 1000000000000) :=
  ⟨mul_in h.1 k.2, mul_in k.1 h.2⟩
/-! ### Graphs with a faster place -/
end Go.Proofs.Ytkpoclbnnpglfaa
end

section
namespace Go.Proofs.Ytkpoclbnnpglfaa
set_option linter.unusedSimpArgs false
set_option linter.unusedVariables false
open Go Go.RowKit
attribute [local irreducible] AL AD AW OpOk Le AC thenQ blockQ EndQ

end Go.Proofs.Ytkpoclbnnpglfaa
end

section
namespace Go.Proofs.Ytkpoclbnnpglfaa
set_option linter.unusedSimpArgs false
set_option linter.unusedVariables false
open Go Go.RowKit

structure LsOk (D : Nat → Nat → Int) (n v K : Nat) (l : Int × Int) : Prop where
  pos : 0 < l.2
  red : Int.gcd l.1 l.2 = 1
  at' : ∃ k, k < K ∧ D k v ≠ BOT ∧ l = redR (D n v - D k v) ((n : Int) - k)
  le : ∀ k, k < K → D k v ≠ BOT → l.1 * ((n : Int) - k) ≤ (D n v - D k v) * l.2
end Go.Proofs.Ytkpoclbnnpglfaa
end

section
namespace Go.Proofs.Ytkpoclbnnpglfaa
set_option linter.unusedSimpArgs false
set_option linter.unusedVariables false
open Go Go.RowKit

structure MatOk (t : List (List Int)) (n : Nat) : Prop where
  sq : Sq t n
  pos : 1 ≤ n
  le : n ≤ 10
  b : ∀ u v, entN t v u ≠ BOT → -1000000 ≤ entN t v u ∧ entN t v u ≤ 1000000
section
variable {W : Nat → Nat → Int} {n : Nat} (hW : ∀ u v, W v u ≠ BOT → -1000000 ≤ W v u ∧ W v u ≤ 1000000) (hn : n ≤ 10)
include hW hn
omit hn in
omit hn in
end
end Go.Proofs.Ytkpoclbnnpglfaa
end
