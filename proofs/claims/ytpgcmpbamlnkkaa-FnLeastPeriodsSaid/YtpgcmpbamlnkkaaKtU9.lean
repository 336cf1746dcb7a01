/-
  Walks in the abstract reading, part 9.
-/
import Derived.Test.YtpgcmpbamlnkkaaKtU7
import Derived.Test.YtpgcmpbamlnkkaaKtU8
import Derived.Test.YtpgcmpbamlnkkaaKtU6
section
namespace Go.Proofs.Ytpgcmpbamlnkkaa
set_option linter.unusedSimpArgs false
set_option linter.unusedVariables false
open Go Go.RowKit
attribute [local irreducible] AL AD AW OpOk Le AC thenQ blockQ EndQ

theorem take_eq_succ {α : Type} {xs ys : List α} {k : Nat} {x y : α} (h : xs.take k = ys.take k) (hx : xs[k]? = some x) (hy : ys[k]? = some y) (e : x = y) : xs.take (k + 1) = ys.take (k + 1) := by
  obtain ⟨h1, rfl⟩ := List.getElem?_eq_some_iff.1 hx
  obtain ⟨h2, rfl⟩ := List.getElem?_eq_some_iff.1 hy
  rw [List.take_succ_eq_append_getElem h1, List.take_succ_eq_append_getElem h2, h, e]
theorem ne_at {α : Type} {xs ys : List α} {k : Nat} {x y : α} (hx : xs[k]? = some x) (hy : ys[k]? = some y) (e : x ≠ y) : xs ≠ ys := fun h => by
  subst h
  rw [hx] at hy
  exact e (Option.some.inj hy)
theorem l01SameD_ac (xs ys : List Int) (hn : xs.length ≤ 100000000) (hm : ys.length ≤ 100000000) : AC Try.prog 256 [IL xs, IL ys] H0 (Bo (decide (xs = ys))) H0 := by
  by_cases hl : xs.length = ys.length
  case neg =>
    rw [decide_eq_false (fun e => hl (by rw [e]))]
    refine AC.of_body 0 Try.func256 rfl (fun l h => absurd rfl h) (fun C hC => ?_)
    have hD : ∀ l, ¬ C.D0 l := fun l h => (hC l).1 h rfl
    simp only [startFr, Try.ntmps256, List.length_cons, List.length_nil, Nat.reduceAdd, Nat.reduceSub, List.replicate_succ, List.replicate_zero, List.cons_append, List.nil_append]
    repeat' (first | ((first | apply Ba | (apply Bb; (· rfl); (· rfl)) | (apply Bc; (· exact nxE)) | (apply Bd; (· rfl); (· rfl); (· exact nxE))); (· first | exact Ok.pe)) | ((first | apply Ca | (apply Cb; (· exact nxE))); (· first | exact Ok.e0)) | refine Sx ?_ | (refine Sy (fun h => ?_) (fun h => ?_) <;> try (exfalso; omega; done)) | refine Sz (fun h => ?_) (fun h => ?_))
    refine Ya ?_
    (apply Le.headZ (hs := []) [] rfl)
    all_goals (try dsimp only [srcs])
    (case' hfr => (repeat' (first | refine La ?_ ?_ | exact Lc | refine Lo ?_ | refine ⟨⟨_, rfl, ?_⟩, ?_⟩ | refine Lx ?_)))
    all_goals (first | exact Ld | exact trivial | (rfl))
  refine AC.of_body 0 Try.func256 rfl (fun l h => absurd rfl h) (fun C hC => ?_)
  have hD : ∀ l, ¬ C.D0 l := fun l h => (hC l).1 h rfl
  simp only [startFr, Try.ntmps256, List.length_cons, List.length_nil, Nat.reduceAdd, Nat.reduceSub, List.replicate_succ, List.replicate_zero, List.cons_append, List.nil_append]
  repeat' (first | ((first | apply Ba | (apply Bb; (· rfl); (· rfl)) | (apply Bc; (· exact nxE)) | (apply Bd; (· rfl); (· rfl); (· exact nxE))); (· first | exact Ok.pe)) | ((first | apply Ca | (apply Cb; (· exact nxE))); (· first | exact Ok.e0)) | refine Sx ?_ | (refine Sy (fun h => ?_) (fun h => ?_) <;> try (exfalso; omega; done)) | refine Sz (fun h => ?_) (fun h => ?_))
  refine AW.loop (X := {k : Nat // k ≤ xs.length ∧ xs.take k = ys.take k}) (fun k => ⟨[IL xs, IL ys, Oo, Oo, Oo, I (k.1 : Nat), Oo, Oo, Oo, Oo, Oo, Oo, Oo, Oo, Oo, Oo, Oo, Oo, Oo, Oo, Oo, Oo, Oo, Oo, Oo, Oo], heapL [], 900⟩) (fun k => xs.length - k.1) ⟨0, Nat.zero_le _, by simp⟩ ?_ (fun k => ?_)
  ·
    (apply Le.headZ [] rfl)
    all_goals (try dsimp only [srcs])
    (case' hfr | hob => (repeat' (first | refine La ?_ ?_ | exact Lc | refine Lo ?_ | refine ⟨⟨_, rfl, ?_⟩, ?_⟩ | refine Lx ?_)))
    all_goals (first | (rfl) | exact Ld)
  obtain ⟨k, hk, hq⟩ := k
  simp only
  by_cases hlt : k < xs.length
  · obtain ⟨x, hx⟩ : ∃ x, xs[k]? = some x := ⟨xs[k], by simp⟩
    obtain ⟨y, hy⟩ : ∃ y, ys[k]? = some y := ⟨ys[k]'(by omega), List.getElem?_eq_getElem _⟩
    have hrow := IR_get hx
    have hrow2 := IR_get hy
    by_cases e : x = y
    · have hs := take_eq_succ hq hx hy e
      repeat' (first | ((first | apply Ba | (apply Bb; (· rfl); (· rfl)) | (apply Bc; (· exact nxE)) | (apply Bd; (· rfl); (· rfl); (· exact nxE))); (· first | exact Ok.pe)) | ((first | apply Ca | (apply Cb; (· exact nxE))); (· first | exact Ok.e0)) | refine Sx ?_ | (refine Sy (fun h => ?_) (fun h => ?_) <;> try (exfalso; omega; done)) | refine Sz (fun h => ?_) (fun h => ?_))
      refine ⟨⟨k + 1, by omega, hs⟩, ?_, by simp only; omega⟩
      (apply Le.headZ [] rfl)
      all_goals (try dsimp only [srcs])
      (case' hfr | hob => (repeat' (first | refine La ?_ ?_ | exact Lc | refine Lo ?_ | refine ⟨⟨_, rfl, ?_⟩, ?_⟩ | refine Lx ?_)))
      all_goals (first | (rfl) | exact Ld)
    · rw [decide_eq_false (ne_at hx hy e)]
      repeat' (first | ((first | apply Ba | (apply Bb; (· rfl); (· rfl)) | (apply Bc; (· exact nxE)) | (apply Bd; (· rfl); (· rfl); (· exact nxE))); (· first | exact Ok.pe)) | ((first | apply Ca | (apply Cb; (· exact nxE))); (· first | exact Ok.e0)) | refine Sx ?_ | (refine Sy (fun h => ?_) (fun h => ?_) <;> try (exfalso; omega; done)) | refine Sz (fun h => ?_) (fun h => ?_))
      refine Ya ?_
      (apply Le.headZ (hs := []) [] rfl)
      all_goals (try dsimp only [srcs])
      (case' hfr => (repeat' (first | refine La ?_ ?_ | exact Lc | refine Lo ?_ | refine ⟨⟨_, rfl, ?_⟩, ?_⟩ | refine Lx ?_)))
      all_goals (first | exact Ld | exact trivial | (rfl))
  · obtain rfl : k = xs.length := by omega
    rw [List.take_length, List.take_of_length_le (by omega)] at hq
    rw [decide_eq_true hq]
    repeat' (first | ((first | apply Ba | (apply Bb; (· rfl); (· rfl)) | (apply Bc; (· exact nxE)) | (apply Bd; (· rfl); (· rfl); (· exact nxE))); (· first | exact Ok.pe)) | ((first | apply Ca | (apply Cb; (· exact nxE))); (· first | exact Ok.e0)) | refine Sx ?_ | (refine Sy (fun h => ?_) (fun h => ?_) <;> try (exfalso; omega; done)) | refine Sz (fun h => ?_) (fun h => ?_))
    refine Ya ?_
    (apply Le.headZ (hs := []) [] rfl)
    all_goals (try dsimp only [srcs])
    (case' hfr => (repeat' (first | refine La ?_ ?_ | exact Lc | refine Lo ?_ | refine ⟨⟨_, rfl, ?_⟩, ?_⟩ | refine Lx ?_)))
    all_goals (first | exact Ld | exact trivial | (rfl))
theorem l02SameD_ac (t u : List (List Int)) (ht : t.length ≤ 100000000) (hr : ∀ r ∈ t, r.length ≤ 100000000) (hu : u.length ≤ 100000000) (hs : ∀ r ∈ u, r.length ≤ 100000000) : AC Try.prog 211 [TL t, TL u] H0 (Bo (decide (t = u))) H0 := by
  by_cases hl : t.length = u.length
  case neg =>
    rw [decide_eq_false (fun e => hl (by rw [e]))]
    refine AC.of_body 0 Try.func211 rfl (fun l h => absurd rfl h) (fun C hC => ?_)
    have hD : ∀ l, ¬ C.D0 l := fun l h => (hC l).1 h rfl
    simp only [startFr, Try.ntmps211, List.length_cons, List.length_nil, Nat.reduceAdd, Nat.reduceSub, List.replicate_succ, List.replicate_zero, List.cons_append, List.nil_append]
    repeat' (first | ((first | apply Ba | (apply Bb; (· rfl); (· rfl)) | (apply Bc; (· exact nxE)) | (apply Bd; (· rfl); (· rfl); (· exact nxE))); (· first | exact Ok.pe)) | ((first | apply Ca | (apply Cb; (· exact nxE))); (· first | exact Ok.e0)) | refine Sx ?_ | (refine Sy (fun h => ?_) (fun h => ?_) <;> try (exfalso; omega; done)) | refine Sz (fun h => ?_) (fun h => ?_))
    refine Ya ?_
    (apply Le.headZ (hs := []) [] rfl)
    all_goals (try dsimp only [srcs])
    (case' hfr => (repeat' (first | refine La ?_ ?_ | exact Lc | refine Lo ?_ | refine ⟨⟨_, rfl, ?_⟩, ?_⟩ | refine Lx ?_)))
    all_goals (first | exact Ld | exact trivial | (rfl))
  refine AC.of_body 0 Try.func211 rfl (fun l h => absurd rfl h) (fun C hC => ?_)
  have hD : ∀ l, ¬ C.D0 l := fun l h => (hC l).1 h rfl
  simp only [startFr, Try.ntmps211, List.length_cons, List.length_nil, Nat.reduceAdd, Nat.reduceSub, List.replicate_succ, List.replicate_zero, List.cons_append, List.nil_append]
  repeat' (first | ((first | apply Ba | (apply Bb; (· rfl); (· rfl)) | (apply Bc; (· exact nxE)) | (apply Bd; (· rfl); (· rfl); (· exact nxE))); (· first | exact Ok.pe)) | ((first | apply Ca | (apply Cb; (· exact nxE))); (· first | exact Ok.e0)) | refine Sx ?_ | (refine Sy (fun h => ?_) (fun h => ?_) <;> try (exfalso; omega; done)) | refine Sz (fun h => ?_) (fun h => ?_))
  refine AW.loop (X := {k : Nat // k ≤ t.length ∧ t.take k = u.take k}) (fun k => ⟨[TL t, TL u, Oo, Oo, Oo, I (k.1 : Nat), Oo, Oo, Oo, Oo, Oo, Oo, Oo, Oo, Oo, Oo, Oo, Oo, Oo, Oo, Oo, Oo, Oo, Oo, Oo, Oo, Oo], heapL [], 900⟩) (fun k => t.length - k.1) ⟨0, Nat.zero_le _, by simp⟩ ?_ (fun k => ?_)
  ·
    (apply Le.headZ [] rfl)
    all_goals (try dsimp only [srcs])
    (case' hfr | hob => (repeat' (first | refine La ?_ ?_ | exact Lc | refine Lo ?_ | refine ⟨⟨_, rfl, ?_⟩, ?_⟩ | refine Lx ?_)))
    all_goals (first | (rfl) | exact Ld)
  obtain ⟨k, hk, hq⟩ := k
  simp only
  by_cases hlt : k < t.length
  · obtain ⟨x, hx⟩ : ∃ x, t[k]? = some x := ⟨t[k], by simp⟩
    obtain ⟨y, hy⟩ : ∃ y, u[k]? = some y := ⟨u[k]'(by omega), List.getElem?_eq_getElem _⟩
    have hrow := TR_get hx
    have hrow2 := TR_get hy
    have hSa := l01SameD_ac x y (hr x (List.mem_of_getElem? hx)) (hs y (List.mem_of_getElem? hy))
    by_cases e : x = y
    · have hs := take_eq_succ hq hx hy e
      rw [decide_eq_true e] at hSa
      repeat' (first | ((first | apply Ba | (apply Bb; (· rfl); (· rfl)) | (apply Bc; (· exact nxE)) | (apply Bd; (· rfl); (· rfl); (· exact nxE))); (· first | exact Kz rfl rfl (hSa) (Ad (Ad An)) | exact Ok.pe)) | ((first | apply Ca | (apply Cb; (· exact nxE))); (· first | exact Ok.e0)) | refine Sx ?_ | (refine Sy (fun h => ?_) (fun h => ?_) <;> try (exfalso; omega; done)) | refine Sz (fun h => ?_) (fun h => ?_))
      refine ⟨⟨k + 1, by omega, hs⟩, ?_, by simp only; omega⟩
      (apply Le.headZ [] rfl)
      all_goals (try dsimp only [srcs])
      (case' hfr | hob => (repeat' (first | refine La ?_ ?_ | exact Lc | refine Lo ?_ | refine ⟨⟨_, rfl, ?_⟩, ?_⟩ | refine Lx ?_)))
      all_goals (first | (rfl) | exact Ld)
    · rw [decide_eq_false (ne_at hx hy e)]
      rw [decide_eq_false e] at hSa
      repeat' (first | ((first | apply Ba | (apply Bb; (· rfl); (· rfl)) | (apply Bc; (· exact nxE)) | (apply Bd; (· rfl); (· rfl); (· exact nxE))); (· first | exact Kz rfl rfl (hSa) (Ad (Ad An)) | exact Ok.pe)) | ((first | apply Ca | (apply Cb; (· exact nxE))); (· first | exact Ok.e0)) | refine Sx ?_ | (refine Sy (fun h => ?_) (fun h => ?_) <;> try (exfalso; omega; done)) | refine Sz (fun h => ?_) (fun h => ?_))
      refine Ya ?_
      (apply Le.headZ (hs := []) [] rfl)
      all_goals (try dsimp only [srcs])
      (case' hfr => (repeat' (first | refine La ?_ ?_ | exact Lc | refine Lo ?_ | refine ⟨⟨_, rfl, ?_⟩, ?_⟩ | refine Lx ?_)))
      all_goals (first | exact Ld | exact trivial | (rfl))
  · obtain rfl : k = t.length := by omega
    rw [List.take_length, List.take_of_length_le (by omega)] at hq
    rw [decide_eq_true hq]
    repeat' (first | ((first | apply Ba | (apply Bb; (· rfl); (· rfl)) | (apply Bc; (· exact nxE)) | (apply Bd; (· rfl); (· rfl); (· exact nxE))); (· first | exact Ok.pe)) | ((first | apply Ca | (apply Cb; (· exact nxE))); (· first | exact Ok.e0)) | refine Sx ?_ | (refine Sy (fun h => ?_) (fun h => ?_) <;> try (exfalso; omega; done)) | refine Sz (fun h => ?_) (fun h => ?_))
    refine Ya ?_
    (apply Le.headZ (hs := []) [] rfl)
    all_goals (try dsimp only [srcs])
    (case' hfr => (repeat' (first | refine La ?_ ?_ | exact Lc | refine Lo ?_ | refine ⟨⟨_, rfl, ?_⟩, ?_⟩ | refine Lx ?_)))
    all_goals (first | exact Ld | exact trivial | (rfl))
/-- A matrix whose star may not be there. -/
structure StarB (t : List (List Int)) (n : Nat) : Prop where
  rc : Rc t n n
  n0 : 0 < n
  nn : n ≤ 10
  bnd : ∀ u v, entN t v u ≠ BOT → -100000000000 ≤ entN t v u ∧ entN t v u ≤ 100000000000
theorem StarB.m {t : List (List Int)} {n : Nat} (h : StarB t n) (hp : NoPos (entN t) n) : StarM t n := ⟨h.rc, h.n0, h.nn, h.bnd, hp⟩
section
variable {t : List (List Int)} {n : Nat} (h : StarB t n)
include h
theorem StarB.fwx : ∀ k, k ≤ n → (∀ j, j < k → fwN (entN t) j j j ≤ 0) → FWX (entN t) n 100000000000 k (fwN (entN t) k)
  | 0, _, _ => FWX.start (by decide) (by decide) h.bnd
  | k + 1, hk, hd => by
    have h2 := pow_le10 (show k + 1 ≤ 10 by have := h.nn; omega)
    have ih := StarB.fwx k (by omega) (fun j hj => hd j (by omega))
    have d1 := hd k (by omega)
    have d2 := (ih.dia k (by omega)).2
    exact (FWX.step (by decide) (by omega) (by omega) ih (by omega)).1
theorem StarB.cells {k : Nat} (hk : k ≤ n) (hd : ∀ j, j < k → fwN (entN t) j j j ≤ 0) {i j : Nat} (hi : i < n) (hj : j < n) : fwN (entN t) k i j = BOT ∨ (-102400000000000 ≤ fwN (entN t) k i j ∧ fwN (entN t) k i j ≤ 102400000000000) := by
  by_cases e : fwN (entN t) k i j = BOT
  · exact .inl e
  · have := (h.fwx k hk hd).bnd j i hj hi e
    have := pow_le10 (show k ≤ 10 by have := h.nn; omega)
    right; omega
theorem StarB.px {m : Nat} (hm : m ≤ n + 1) : PX (entN t) n 100000000000 m (powN (entN t) n m) :=
  powN_px (by decide) h.bnd m (by have := h.nn; omega)
theorem StarB.mul {m : Nat} (hm : m ≤ n) : AC Try.prog 174 [TL t, TL (tabF n n (powN (entN t) n m))] H0 (own1 1 n) (hpM 1 (TR (tabF n n (mulF t (tabF n n (powN (entN t) n m)) n)))) := by
  have hn := h.nn
  refine l02Multiply_ac n t _ h.rc tabF_rc (by omega) h.n0 (fun i q j hi hq hj h1 h2 => ?_)
  rw [tabF_ent hq hj] at h2 ⊢
  have g1 := h.bnd q i h1
  have g2 := (h.px (show m ≤ n + 1 by omega)).bnd j q hj hq h2
  omega
theorem StarB.add {m : Nat} : AC Try.prog 210 [TL (tabF n n unitF), TL (tabF n n (mulF t (tabF n n (powN (entN t) n m)) n))] H0 (own1 1 n) (hpM 1 (TR (tabF n n (powN (entN t) n (m + 1))))) := by
  have hn := h.nn
  have hA := l02Add_ac n n (tabF n n unitF) (tabF n n (mulF t (tabF n n (powN (entN t) n m)) n)) tabF_rc tabF_rc (by omega) (by omega)
  have e : tabF n n (addF (tabF n n unitF) (tabF n n (mulF t (tabF n n (powN (entN t) n m)) n))) = tabF n n (powN (entN t) n (m + 1)) := tabF_congr fun i j hi hj => by
    unfold addF
    rw [tabF_ent hi hj, tabF_ent hi hj]
    show _ = powS (entN t) n (powN (entN t) n m) i j
    unfold powS mulF
    rw [maxN_congr (g := fun q => timesB (entN t i q) (powN (entN t) n m q j)) (fun q hq => by show timesB (entN t i q) (entN (tabF n n (powN (entN t) n m)) q j) = _; rw [tabF_ent hq hj])]
  rw [← e]
  exact hA
theorem StarB.diff (hp : ¬ NoPos (entN t) n) : tabF n n (powN (entN t) n (n + 1)) ≠ tabF n n (powN (entN t) n n) := fun e => hp (by
  have hn := h.nn
  refine powS_np (x := powN (entN t) n n) (fun u v hu hv => ?_) (fun u v hu hv => ?_) h.bnd
  · have h1 := tabF_ent (f := powN (entN t) n (n + 1)) hv hu
    rw [e, tabF_ent hv hu] at h1
    exact h1.symm
  · by_cases eb : powN (entN t) n n v u = BOT
    · exact .inl eb
    · have := (h.px (show n ≤ n + 1 by omega)).bnd u v hu hv eb
      right; omega)
end
set_option maxHeartbeats 4000000 in
theorem l03Star_no (t : List (List Int)) (n : Nat) (h : StarB t n) (hp : ¬ NoPos (entN t) n) : AC Try.prog 113 [TL t] H0 (.tup [own1 1 n, Bo false]) (hpM 1 (TR (tabF n n (powN (entN t) n n)))) := by
  have hn := h.nn
  have h0 := h.n0
  have htl := h.rc.l
  have hU := l02Unit_ac n (by omega)
  have hul : (tabF n n unitF).length = n := tabF_len
  have hL : (mRows 1 (TR t)).length = n := by rw [mTR_len, htl]
  refine AC.of_body 0 Try.func113 rfl (fun l h => absurd rfl h) (fun C hC => ?_)
  have hD : ∀ l, ¬ C.D0 l := fun l h => (hC l).1 h rfl
  simp only [startFr, Try.ntmps113, List.length_cons, List.length_nil, Nat.reduceAdd, Nat.reduceSub, List.replicate_succ, List.replicate_zero, List.cons_append, List.nil_append]
  repeat' (first | ((first | apply Ba | (apply Bb; (· rfl); (· rfl)) | (apply Bc; (· exact nxE)) | (apply Bd; (· rfl); (· rfl); (· exact nxE))); (· first | exact Ok.lenD rfl rfl hL | exact Tb rfl rfl (hU) (Sd Sn) | exact Ok.pe)) | ((first | apply Ca | (apply Cb; (· exact nxE))); (· first | exact Tb rfl rfl (hU) (Sd Sn) | exact Ok.e0)) | refine Sx ?_ | (refine Sy (fun h => ?_) (fun h => ?_) <;> try (exfalso; omega; done)) | refine Sz (fun h => ?_) (fun h => ?_))
  refine AW.loop (X := {k : Nat // k ≤ n}) (fun k => ⟨[TL t, Oo, Oo, Oo, I n, .own 1 ⟨1, []⟩ 0 n, I (k.1 : Nat), Oo, Oo, Oo, Oo, Oo, Oo, Oo, Oo, Oo, Oo, Oo, Oo, Oo, Oo, Oo, Oo, Oo, Oo, Oo, Oo, Oo, Oo, Oo, Oo, Oo, Oo], heapX [] [mi1 ⟨1, []⟩ (TR (tabF n n (powN (entN t) n k.1)))], 900⟩) (fun k => n - k.1) ⟨0, Nat.zero_le _⟩ ?_ (fun k => ?_)
  ·
    (apply Le.headG [] [{ l := ⟨1, []⟩, k := 1, R := TR (tabF n n (powN (entN t) n 0)), src := ⟨6, [0]⟩, base := ⟨6, [0]⟩ }] (fun _ => False))
    (case' hlen => rfl)
    (case' hms => rfl)
    all_goals (try dsimp only [srcs])
    (case' hfr | hob => (repeat' (first | refine La ?_ ?_ | exact Lc | refine Lo ?_ | refine ⟨⟨_, rfl, ?_⟩, ?_⟩ | refine Lx ?_)))
    (case' hok => first | exact ⟨MI.ok_same rfl (Cg), trivial⟩ | exact trivial)
    (case' hN => rfl)
    (case' hS => rfl)
    all_goals (first | exact Ld | (rfl))
  obtain ⟨m, hk⟩ := k
  simp only
  have hM := h.mul hk
  have hA := h.add (m := m)
  have hpl : (tabF n n (powN (entN t) n m)).length = n := tabF_len
  have hml : (tabF n n (mulF t (tabF n n (powN (entN t) n m)) n)).length = n := tabF_len
  by_cases hlt : m < n
  ·
    repeat' (first | ((first | apply Ba | (apply Bb; (· rfl); (· rfl)) | (apply Bc; (· exact nxE)) | (apply Bd; (· rfl); (· rfl); (· exact nxE))); (· first | exact Tb rfl rfl (hU) (Sd Sn) | exact Tb rfl rfl (hM) (Sd (Sm Sn)) | exact Tb rfl rfl (hA) (Sm (Sm Sn)) | exact Ok.pe)) | ((first | apply Ca | (apply Cb; (· exact nxE))); (· first | exact Tb rfl rfl (hU) (Sd Sn) | exact Tb rfl rfl (hM) (Sd (Sm Sn)) | exact Tb rfl rfl (hA) (Sm (Sm Sn)) | exact Ok.e0)) | refine Sx ?_ | (refine Sy (fun h => ?_) (fun h => ?_) <;> try (exfalso; omega; done)) | refine Sz (fun h => ?_) (fun h => ?_))
    refine ⟨⟨m + 1, by omega⟩, ?_, by simp only; omega⟩
    (apply Le.headG [] [{ l := ⟨1, []⟩, k := 1, R := TR (tabF n n (powN (entN t) n (m + 1))), src := ⟨908, [0]⟩, base := ⟨908, [0]⟩ }] (fun _ => False))
    (case' hlen => rfl)
    (case' hms => rfl)
    all_goals (try dsimp only [srcs])
    (case' hfr | hob => (repeat' (first | refine La ?_ ?_ | exact Lc | refine Lo ?_ | refine ⟨⟨_, rfl, ?_⟩, ?_⟩ | refine Lx ?_)))
    (case' hok => first | exact ⟨MI.ok_same rfl (Cg), trivial⟩ | exact trivial)
    (case' hN => rfl)
    (case' hS => rfl)
    all_goals (first | exact Ld | (rfl))
  ·
    obtain rfl : n = m := by omega
    have hd := h.diff hp
    have hS := l02SameD_ac (tabF n n (powN (entN t) n (n + 1))) (tabF n n (powN (entN t) n n)) (by rw [tabF_len]; omega) (fun r hr => by rw [tabF_rc.r r hr]; omega) (by rw [tabF_len]; omega) (fun r hr => by rw [tabF_rc.r r hr]; omega)
    rw [decide_eq_false hd] at hS
    have hql : (tabF n n (powN (entN t) n (n + 1))).length = n := tabF_len
    repeat' (first | ((first | apply Ba | (apply Bb; (· rfl); (· rfl)) | (apply Bc; (· exact nxE)) | (apply Bd; (· rfl); (· rfl); (· exact nxE))); (· first | exact Ez rfl rfl (hS) (Sm (Sm Sn)) | exact Tb rfl rfl (hU) (Sd Sn) | exact Tb rfl rfl (hM) (Sd (Sm Sn)) | exact Tb rfl rfl (hA) (Sm (Sm Sn)) | exact Ok.pe)) | ((first | apply Ca | (apply Cb; (· exact nxE))); (· first | exact Tb rfl rfl (hU) (Sd Sn) | exact Tb rfl rfl (hM) (Sd (Sm Sn)) | exact Tb rfl rfl (hA) (Sm (Sm Sn)) | exact Ok.e0)) | refine Sx ?_ | (refine Sy (fun h => ?_) (fun h => ?_) <;> try (exfalso; omega; done)) | refine Sz (fun h => ?_) (fun h => ?_))
    refine Yb ?_
    (apply Le.headG [] [{ l := ⟨0, []⟩, k := 1, R := TR (tabF n n (powN (entN t) n n)), src := ⟨1, []⟩, base := ⟨1, []⟩ }] (fun _ => False))
    (case' hlen => rfl)
    (case' hms => rfl)
    all_goals (try dsimp only [srcs])
    (case' hfr | hob => (repeat' (first | refine La ?_ ?_ | exact Lc | refine Lo ?_ | refine ⟨⟨_, rfl, ?_⟩, ?_⟩ | refine Lx ?_)))
    (case' hok => first | exact ⟨MI.ok_same rfl (Cg), trivial⟩ | exact trivial)
    (case' hN => rfl)
    (case' hS => rfl)
    all_goals (first | exact Ld | (rfl))
set_option maxHeartbeats 4000000 in
theorem starOf_no (t : List (List Int)) (n : Nat) (h : StarB t n) (hp : ¬ NoPos (entN t) n) : AC Try.prog 186 [TL t] H0 (.tup [TL [], Bo false]) H0 := by
  have hn := h.nn
  have h0 := h.n0
  have htl := h.rc.l
  have hU := unitMatrix_ac n (by omega)
  have hA := addMatrices_ac n n t (tabF n n unitF) h.rc tabF_rc h0 (by omega) (by omega)
  have hA0 : tabF n n (addF t (tabF n n unitF)) = tabF n n (fwN (entN t) 0) := tabF_congr fun i j hi hj => by
    unfold addF fwN
    rw [tabF_ent hi hj]
    rfl
  rw [hA0] at hA
  have hul : (tabF n n unitF).length = n := tabF_len
  have hL : (mRows 1 (TR t)).length = n := by rw [mTR_len, htl]
  refine AC.of_body 0 Try.func186 rfl (fun l h => absurd rfl h) (fun C hC => ?_)
  have hD : ∀ l, ¬ C.D0 l := fun l h => (hC l).1 h rfl
  simp only [startFr, Try.ntmps186, List.length_cons, List.length_nil, Nat.reduceAdd, Nat.reduceSub, List.replicate_succ, List.replicate_zero, List.cons_append, List.nil_append]
  repeat' (first | ((first | apply Ba | (apply Bb; (· rfl); (· rfl)) | (apply Bc; (· exact nxE)) | (apply Bd; (· rfl); (· rfl); (· exact nxE))); (· first | exact Ok.lenD rfl rfl hL | exact Tb rfl rfl (hU) (Sd Sn) | exact Tb rfl rfl (hA) (Sd (Sm Sn)) | exact Ok.pe)) | ((first | apply Ca | (apply Cb; (· exact nxE))); (· first | exact Tb rfl rfl (hU) (Sd Sn) | exact Tb rfl rfl (hA) (Sd (Sm Sn)) | exact Ok.e0)) | refine Sx ?_ | (refine Sy (fun h => ?_) (fun h => ?_) <;> try (exfalso; omega; done)) | refine Sz (fun h => ?_) (fun h => ?_))
  refine AW.loop (X := {k : Nat // k ≤ n ∧ ∀ j, j < k → fwN (entN t) j j j ≤ 0}) (fun k => ⟨[Oo, Oo, Oo, Oo, .own 1 ⟨1, []⟩ 0 n, Oo, Oo, Oo, Oo, Oo, Oo, Oo, Oo, Oo, Oo, I n, I (k.1 : Nat), Oo, Oo, Oo, Oo, Oo, Oo, Oo, Oo, Oo, Oo, Oo, Oo, Oo, Oo, Oo, Oo, Oo, Oo, Oo, Oo, Oo, Oo, Oo, Oo, Oo, Oo, Oo, Oo, Oo, Oo, Oo, Oo, Oo, Oo, Oo, Oo, Oo, Oo, Oo, Oo, Oo, Oo, Oo, Oo, Oo, Oo, Oo, Oo, Oo, Oo, Oo, Oo, Oo, Oo, Oo, Oo, Oo, Oo, Oo, Oo, Oo, Oo, Oo, Oo, Oo, Oo, Oo], heapX [] [mi1 ⟨1, []⟩ (TR (tabF n n (fwN (entN t) k.1)))], 900⟩) (fun k => n - k.1) ⟨0, Nat.zero_le _, by intro j hj; omega⟩ ?_ (fun k => ?_)
  ·
    (apply Le.headG [] [{ l := ⟨1, []⟩, k := 1, R := TR (tabF n n (fwN (entN t) 0)), src := ⟨6, [0]⟩, base := ⟨6, [0]⟩ }] (fun _ => False))
    (case' hlen => rfl)
    (case' hms => rfl)
    all_goals (try dsimp only [srcs])
    (case' hfr | hob => (repeat' (first | refine La ?_ ?_ | exact Lc | refine Lo ?_ | refine ⟨⟨_, rfl, ?_⟩, ?_⟩ | refine Lx ?_)))
    (case' hok => first | exact ⟨MI.ok_same rfl (Cg), trivial⟩ | exact trivial)
    (case' hN => rfl)
    (case' hS => rfl)
    all_goals (first | exact Ld | (rfl))
  obtain ⟨p, hk, hdj⟩ := k
  simp only
  have hf := h.fwx p hk hdj
  have hcell := fun {i j} => h.cells hk hdj (i := i) (j := j)
  by_cases hlt : p < n
  ·
    have hst : fwN (entN t) (p + 1) = fwS (fwN (entN t) p) p := rfl
    have hnext : fwN (entN t) p p p ≤ 0 → ∀ j, j < p + 1 → fwN (entN t) j j j ≤ 0 := fun h0 j hj => by
      by_cases e : j = p
      · subst e; exact h0
      · exact hdj j (by omega)
    have hdia := (hf.dia p hlt).2
    have hstep := fun (e : fwN (entN t) p p p = 0) => FWX.step (by decide) (by have := pow_le10 (show p + 1 ≤ 10 by omega); omega) hlt hf e
    generalize fwN (entN t) p = s at *
    clear hf hA hA0 hU
    have hrk := TRF_get (n := n) (f := s) hlt
    have hrkl : (IR (rowF n (s p))).length = n := by rw [IR_len, rowF_len]
    have hck := IRF_get (g := s p) hlt
    by_cases hpos : 0 < s p p
    ·
      repeat' (first | ((first | apply Ba | (apply Bb; (· rfl); (· rfl)) | (apply Bc; (· exact nxE)) | (apply Bd; (· rfl); (· rfl); (· exact nxE))); (· first | exact Ok.ldTn rfl rfl rfl hrk hrkl | exact Ok.ld1 rfl rfl (congrArg (Option.map (dobj 1)) hrk) hck | exact Ok.pe)) | ((first | apply Ca | (apply Cb; (· exact nxE))); (· first | exact Ok.e0)) | refine Sx ?_ | (refine Sy (fun h => ?_) (fun h => ?_) <;> try (exfalso; omega; done)) | refine Sz (fun h => ?_) (fun h => ?_))
      refine Yb ?_
      (apply Le.headZ (hs := []) [] rfl)
      all_goals (try dsimp only [srcs])
      (case' hfr => (repeat' (first | refine La ?_ ?_ | exact Lc | refine Lo ?_ | refine ⟨⟨_, rfl, ?_⟩, ?_⟩ | refine Lx ?_)))
      all_goals (first | exact Ld | exact trivial | (rfl))
    have hkk : s p p = 0 := by omega
    obtain ⟨_, hcol, hrw⟩ := hstep hkk
    have hnext := hnext (by omega)
    rw [hkk] at hck
    repeat' (first | ((first | apply Ba | (apply Bb; (· rfl); (· rfl)) | (apply Bc; (· exact nxE)) | (apply Bd; (· rfl); (· rfl); (· exact nxE))); (· first | exact Ok.ldTn rfl rfl rfl hrk hrkl | exact Ok.ld1 rfl rfl (congrArg (Option.map (dobj 1)) hrk) hck | exact Ok.pe)) | ((first | apply Ca | (apply Cb; (· exact nxE))); (· first | exact Ok.e0)) | refine Sx ?_ | (refine Sy (fun h => ?_) (fun h => ?_) <;> try (exfalso; omega; done)) | refine Sz (fun h => ?_) (fun h => ?_))
    refine AW.loop (X := {k : Nat // k ≤ n}) (fun k => ⟨[Oo, Oo, Oo, Oo, .own 1 ⟨1, []⟩ 0 n, I p, Oo, Oo, Oo, Oo, Oo, Oo, Oo, Oo, Oo, I n, I p, Oo, Oo, Oo, Oo, Oo, Oo, Oo, Oo, Oo, Oo, Oo, I n, I (k.1 : Nat), Oo, Oo, Oo, Oo, Oo, Oo, Oo, Oo, Oo, Oo, Oo, Oo, Oo, Oo, Oo, Oo, Oo, Oo, Oo, Oo, Oo, Oo, Oo, Oo, Oo, Oo, Oo, Oo, Oo, Oo, Oo, Oo, Oo, Oo, Oo, Oo, Oo, Oo, Oo, Oo, Oo, Oo, Oo, Oo, Oo, Oo, Oo, Oo, Oo, Oo, Oo, Oo, Oo, Oo], heapX [] [mi1 ⟨1, []⟩ (TR (tabF n n (mixF (fwS s p) s k.1 0)))], 900⟩) (fun k => n - k.1) ⟨0, Nat.zero_le _⟩ ?_ (fun k => ?_)
    ·
      (apply Le.headG [] [mi1 ⟨1, []⟩ (TR (tabF n n (mixF (fwS s p) s 0 0)))] (fun _ => False))
      (case' hlen => rfl)
      (case' hms => rfl)
      all_goals (try dsimp only [srcs])
      (case' hfr | hob => (repeat' (first | refine La ?_ ?_ | exact Lc | refine Lo ?_ | refine ⟨⟨_, rfl, ?_⟩, ?_⟩ | refine Lx ?_)))
      (case' hok => first | exact ⟨by rw [mixF_0]; exact MI.ok_same rfl (Cg), trivial⟩ | exact trivial)
      (case' hN => rfl)
      (case' hS => rfl)
      all_goals (first | exact Ld | (rfl))
    obtain ⟨i, hi⟩ := k
    simp only
    by_cases hlt2 : i < n
    ·
      repeat' (first | ((first | apply Ba | (apply Bb; (· rfl); (· rfl)) | (apply Bc; (· exact nxE)) | (apply Bd; (· rfl); (· rfl); (· exact nxE))); (· first | exact Ok.pe)) | ((first | apply Ca | (apply Cb; (· exact nxE))); (· first | exact Ok.e0)) | refine Sx ?_ | (refine Sy (fun h => ?_) (fun h => ?_) <;> try (exfalso; omega; done)) | refine Sz (fun h => ?_) (fun h => ?_))
      refine AW.loop (X := {k : Nat // k ≤ n}) (fun k => ⟨[Oo, Oo, Oo, Oo, .own 1 ⟨1, []⟩ 0 n, I p, I i, Oo, Oo, Oo, Oo, Oo, Oo, Oo, Oo, I n, I p, Oo, Oo, Oo, Oo, Oo, Oo, Oo, Oo, Oo, Oo, Oo, I n, I i, Oo, Oo, Oo, I n, I (k.1 : Nat), Oo, Oo, Oo, Oo, Oo, Oo, Oo, Oo, Oo, Oo, Oo, Oo, Oo, Oo, Oo, Oo, Oo, Oo, Oo, Oo, Oo, Oo, Oo, Oo, Oo, Oo, Oo, Oo, Oo, Oo, Oo, Oo, Oo, Oo, Oo, Oo, Oo, Oo, Oo, Oo, Oo, Oo, Oo, Oo, Oo, Oo, Oo, Oo, Oo], heapX [] [mi1 ⟨1, []⟩ (TR (tabF n n (mixF (fwS s p) s i k.1)))], 900⟩) (fun k => n - k.1) ⟨0, Nat.zero_le _⟩ ?_ (fun k => ?_)
      ·
        (apply Le.headG [] [mi1 ⟨1, []⟩ (TR (tabF n n (mixF (fwS s p) s i 0)))] (fun _ => False))
        (case' hlen => rfl)
        (case' hms => rfl)
        all_goals (try dsimp only [srcs])
        (case' hfr | hob => (repeat' (first | refine La ?_ ?_ | exact Lc | refine Lo ?_ | refine ⟨⟨_, rfl, ?_⟩, ?_⟩ | refine Lx ?_)))
        (case' hok => first | exact ⟨MI.ok_same rfl (Cg), trivial⟩ | exact trivial)
        (case' hN => rfl)
        (case' hS => rfl)
        all_goals (first | exact Ld | (rfl))
      obtain ⟨j, hj⟩ := k
      simp only
      by_cases hlt3 : j < n
      ·
        have hrwi := TRF_get (n := n) (f := mixF (fwS s p) s i j) hlt2
        have hrwk := TRF_get (n := n) (f := mixF (fwS s p) s i j) hlt
        have hli : (IR (rowF n (mixF (fwS s p) s i j i))).length = n := by rw [IR_len, rowF_len]
        have hlk : (IR (rowF n (mixF (fwS s p) s i j p))).length = n := by rw [IR_len, rowF_len]
        have hij := IRF_get (g := mixF (fwS s p) s i j i) hlt3
        have hik := IRF_get (g := mixF (fwS s p) s i j i) hlt
        have hkj := IRF_get (g := mixF (fwS s p) s i j p) hlt3
        rw [show mixF (fwS s p) s i j i j = s i j by unfold mixF; rw [if_neg (by omega)]] at hij
        rw [show mixF (fwS s p) s i j i p = s i p by unfold mixF; split <;> first | exact hcol i hlt2 | rfl] at hik
        rw [show mixF (fwS s p) s i j p j = s p j by unfold mixF; split <;> first | exact hrw j hlt3 | rfl] at hkj
        have hT := times_ac (s i p) (s p j) (fun e1 e2 => by
          have h1 := (hcell hlt2 hlt).resolve_left e1
          have h2 := (hcell hlt hlt3).resolve_left e2
          omega)
        have hset : (IR (rowF n (mixF (fwS s p) s i j i))).set j [DI (max (s i j) (timesB (s i p) (s p j)))] = IR ((rowF n (mixF (fwS s p) s i j i)).set j (fwS s p i j)) := IR_set
        repeat' (first | ((first | apply Ba | (apply Bb; (· rfl); (· rfl)) | (apply Bc; (· exact nxE)) | (apply Bd; (· rfl); (· rfl); (· exact nxE))); (· first | exact Ok.ldTn rfl rfl rfl hrwi hli | exact Ok.ldTn rfl rfl rfl hrwk hlk | exact Ok.ld1 rfl rfl (congrArg (Option.map (dobj 1)) hrwi) hij | exact Ok.ld1 rfl rfl (congrArg (Option.map (dobj 1)) hrwi) hik | exact Ok.ld1 rfl rfl (congrArg (Option.map (dobj 1)) hrwk) hkj | exact Kz rfl rfl (hT) (Ad (Ad An)) | exact Ok.st1 rfl rfl (congrArg (Option.map (dobj 1)) hrwi) (by simp [rowF_len]; omega) (by rw [hij]; rfl) rfl rfl hset | exact Ok.pe)) | ((first | apply Ca | (apply Cb; (· exact nxE))); (· first | exact Ok.st1 rfl rfl (congrArg (Option.map (dobj 1)) hrwi) (by simp [rowF_len]; omega) (by rw [hij]; rfl) rfl rfl hset | exact Ok.e0)) | refine Sx ?_ | (refine Sy (fun h => ?_) (fun h => ?_) <;> try (exfalso; omega; done)) | refine Sz (fun h => ?_) (fun h => ?_))
        refine ⟨⟨j + 1, by omega⟩, ?_, by simp only; omega⟩
        (apply Le.headG [] [mi1 ⟨1, []⟩ (TR (tabF n n (mixF (fwS s p) s i (j + 1))))] (fun _ => False))
        (case' hlen => rfl)
        (case' hms => rfl)
        all_goals (try dsimp only [srcs])
        (case' hfr | hob => (repeat' (first | refine La ?_ ?_ | exact Lc | refine Lo ?_ | refine ⟨⟨_, rfl, ?_⟩, ?_⟩ | refine Lx ?_)))
        (case' hok => first | exact ⟨MI.ok_row (tabF_set (fun a b _ _ => mixF_set)) hrwi (by simp) rfl (Cg), trivial⟩ | exact trivial)
        (case' hN => rfl)
        (case' hS => rfl)
        all_goals (first | exact Ld | (rfl))
      ·
        obtain rfl : j = n := by omega
        rw [mixF_row]
        repeat' (first | ((first | apply Ba | (apply Bb; (· rfl); (· rfl)) | (apply Bc; (· exact nxE)) | (apply Bd; (· rfl); (· rfl); (· exact nxE))); (· first | exact Ok.pe)) | ((first | apply Ca | (apply Cb; (· exact nxE))); (· first | exact Ok.e0)) | refine Sx ?_ | (refine Sy (fun h => ?_) (fun h => ?_) <;> try (exfalso; omega; done)) | refine Sz (fun h => ?_) (fun h => ?_))
        refine ⟨⟨i + 1, by omega⟩, ?_, by simp only; omega⟩
        (apply Le.headG [] [mi1 ⟨1, []⟩ (TR (tabF j j (mixF (fwS s p) s (i + 1) 0)))] (fun _ => False))
        (case' hlen => rfl)
        (case' hms => rfl)
        all_goals (try dsimp only [srcs])
        (case' hfr | hob => (repeat' (first | refine La ?_ ?_ | exact Lc | refine Lo ?_ | refine ⟨⟨_, rfl, ?_⟩, ?_⟩ | refine Lx ?_)))
        (case' hok => first | exact ⟨MI.ok_same rfl (Cg), trivial⟩ | exact trivial)
        (case' hN => rfl)
        (case' hS => rfl)
        all_goals (first | exact Ld | (rfl))
    ·
      obtain rfl : i = n := by omega
      rw [mixF_all]
      repeat' (first | ((first | apply Ba | (apply Bb; (· rfl); (· rfl)) | (apply Bc; (· exact nxE)) | (apply Bd; (· rfl); (· rfl); (· exact nxE))); (· first | exact Ok.pe)) | ((first | apply Ca | (apply Cb; (· exact nxE))); (· first | exact Ok.e0)) | refine Sx ?_ | (refine Sy (fun h => ?_) (fun h => ?_) <;> try (exfalso; omega; done)) | refine Sz (fun h => ?_) (fun h => ?_))
      refine ⟨⟨p + 1, by omega, hnext⟩, ?_, by simp only; omega⟩
      simp only
      rw [hst]
      (apply Le.headG [] [mi1 ⟨1, []⟩ (TR (tabF i i (fwS s p)))] (fun _ => False))
      (case' hlen => rfl)
      (case' hms => rfl)
      all_goals (try dsimp only [srcs])
      (case' hfr | hob => (repeat' (first | refine La ?_ ?_ | exact Lc | refine Lo ?_ | refine ⟨⟨_, rfl, ?_⟩, ?_⟩ | refine Lx ?_)))
      (case' hok => first | exact ⟨MI.ok_same rfl (Cg), trivial⟩ | exact trivial)
      (case' hN => rfl)
      (case' hS => rfl)
      all_goals (first | exact Ld | (rfl))
  ·
    obtain rfl : n = p := by omega
    have hno : ¬ ∀ u, u < n → fwN (entN t) n u u ≤ 0 := fun h0 => hp (hf.np h0)
    generalize fwN (entN t) n = s at *
    clear hf hA hA0 hU
    repeat' (first | ((first | apply Ba | (apply Bb; (· rfl); (· rfl)) | (apply Bc; (· exact nxE)) | (apply Bd; (· rfl); (· rfl); (· exact nxE))); (· first | exact Ok.pe)) | ((first | apply Ca | (apply Cb; (· exact nxE))); (· first | exact Ok.e0)) | refine Sx ?_ | (refine Sy (fun h => ?_) (fun h => ?_) <;> try (exfalso; omega; done)) | refine Sz (fun h => ?_) (fun h => ?_))
    refine AW.loop (X := {k : Nat // k ≤ n ∧ ∀ j, j < k → s j j ≤ 0}) (fun k => ⟨[Oo, Oo, Oo, Oo, .own 1 ⟨1, []⟩ 0 n, Oo, Oo, Oo, Oo, Oo, Oo, Oo, Oo, Oo, Oo, Oo, Oo, Oo, Oo, Oo, Oo, Oo, Oo, Oo, Oo, Oo, Oo, Oo, Oo, Oo, Oo, Oo, Oo, Oo, Oo, Oo, Oo, Oo, Oo, Oo, Oo, Oo, Oo, Oo, Oo, Oo, Oo, Oo, Oo, Oo, Oo, Oo, Oo, Oo, Oo, Oo, Oo, Oo, Oo, Oo, Oo, Oo, Oo, Oo, Oo, Oo, Oo, Oo, Oo, Oo, I n, I (k.1 : Nat), Oo, Oo, Oo, Oo, Oo, Oo, Oo, Oo, Oo, Oo, Oo, Oo], heapX [] [mi1 ⟨1, []⟩ (TR (tabF n n s))], 900⟩) (fun k => n - k.1) ⟨0, Nat.zero_le _, by intro j hj; omega⟩ ?_ (fun k => ?_)
    ·
      (apply Le.headG [] [mi1 ⟨1, []⟩ (TR (tabF n n s))] (fun _ => False))
      (case' hlen => rfl)
      (case' hms => rfl)
      all_goals (try dsimp only [srcs])
      (case' hfr | hob => (repeat' (first | refine La ?_ ?_ | exact Lc | refine Lo ?_ | refine ⟨⟨_, rfl, ?_⟩, ?_⟩ | refine Lx ?_)))
      (case' hok => first | exact ⟨MI.ok_same rfl (Cg), trivial⟩ | exact trivial)
      (case' hN => rfl)
      (case' hS => rfl)
      all_goals (first | exact Ld | (rfl))
    obtain ⟨i, hi, hdi⟩ := k
    simp only
    by_cases hlt2 : i < n
    ·
      have hrk := TRF_get (n := n) (f := s) hlt2
      have hrkl : (IR (rowF n (s i))).length = n := by rw [IR_len, rowF_len]
      have hck := IRF_get (g := s i) hlt2
      by_cases hpos : 0 < s i i
      ·
        repeat' (first | ((first | apply Ba | (apply Bb; (· rfl); (· rfl)) | (apply Bc; (· exact nxE)) | (apply Bd; (· rfl); (· rfl); (· exact nxE))); (· first | exact Ok.ldTn rfl rfl rfl hrk hrkl | exact Ok.ld1 rfl rfl (congrArg (Option.map (dobj 1)) hrk) hck | exact Ok.pe)) | ((first | apply Ca | (apply Cb; (· exact nxE))); (· first | exact Ok.e0)) | refine Sx ?_ | (refine Sy (fun h => ?_) (fun h => ?_) <;> try (exfalso; omega; done)) | refine Sz (fun h => ?_) (fun h => ?_))
        refine Yb ?_
        (apply Le.headZ (hs := []) [] rfl)
        all_goals (try dsimp only [srcs])
        (case' hfr => (repeat' (first | refine La ?_ ?_ | exact Lc | refine Lo ?_ | refine ⟨⟨_, rfl, ?_⟩, ?_⟩ | refine Lx ?_)))
        all_goals (first | exact Ld | exact trivial | (rfl))
      have hdn : ∀ j, j < i + 1 → s j j ≤ 0 := fun j hj => by
        by_cases e : j = i
        · subst e; omega
        · exact hdi j (by omega)
      repeat' (first | ((first | apply Ba | (apply Bb; (· rfl); (· rfl)) | (apply Bc; (· exact nxE)) | (apply Bd; (· rfl); (· rfl); (· exact nxE))); (· first | exact Ok.ldTn rfl rfl rfl hrk hrkl | exact Ok.ld1 rfl rfl (congrArg (Option.map (dobj 1)) hrk) hck | exact Ok.pe)) | ((first | apply Ca | (apply Cb; (· exact nxE))); (· first | exact Ok.e0)) | refine Sx ?_ | (refine Sy (fun h => ?_) (fun h => ?_) <;> try (exfalso; omega; done)) | refine Sz (fun h => ?_) (fun h => ?_))
      refine ⟨⟨i + 1, by omega, hdn⟩, ?_, by simp only; omega⟩
      (apply Le.headG [] [mi1 ⟨1, []⟩ (TR (tabF n n s))] (fun _ => False))
      (case' hlen => rfl)
      (case' hms => rfl)
      all_goals (try dsimp only [srcs])
      (case' hfr | hob => (repeat' (first | refine La ?_ ?_ | exact Lc | refine Lo ?_ | refine ⟨⟨_, rfl, ?_⟩, ?_⟩ | refine Lx ?_)))
      (case' hok => first | exact ⟨MI.ok_same rfl (Cg), trivial⟩ | exact trivial)
      (case' hN => rfl)
      (case' hS => rfl)
      all_goals (first | exact Ld | (rfl))
    ·
      obtain rfl : n = i := by omega
      exact absurd hdi hno
end Go.Proofs.Ytpgcmpbamlnkkaa
end

section
namespace Go.Proofs.Ytpgcmpbamlnkkaa
set_option linter.unusedSimpArgs false
set_option linter.unusedVariables false

/-- A walk along places, arc by arc. -/
theorem wk_walk {n : Nat} {xs : List Pl} {r : Int × Int} {t : List (List Int)} (h : WmOk n xs r t) (hv : ∀ p ∈ xs, okPl n p) : ∀ {c : List Nat} {u v : Nat}, c ≠ [] → Wk xs (u : Int) c (v : Int) → ∃ d, (∀ x ∈ d, x < n) ∧ WM (entN t) u d v ∧ wgt xs r.1 r.2 c ≤ wM (entN t) u d v
  | [], u, v, hc, _ => absurd rfl hc
  | [i], u, v, _, hw => by
    obtain ⟨hi, hf, ht⟩ := hw
    simp only [Wk] at ht
    have e : plA xs i = xs[i] := by simp [plA, hi]
    have hp := h.all (plA xs i) (by rw [e]; exact List.getElem_mem hi)
    have e1 : (plA xs i).t.toNat = v := by omega
    have e2 : (plA xs i).f.toNat = u := by omega
    rw [e1, e2] at hp
    exact ⟨[], (fun x hx => by cases hx), hp.1, by simp only [wgt, wM]; omega⟩
  | i :: j :: c, u, v, _, hw => by
    obtain ⟨hi, hf, hw⟩ := hw
    have e : plA xs i = xs[i] := by simp [plA, hi]
    have hm0 : plA xs i ∈ xs := by rw [e]; exact List.getElem_mem hi
    have hp := h.all (plA xs i) hm0
    obtain ⟨_, ⟨g3, g4⟩, _⟩ := hv _ hm0
    obtain ⟨m, hm⟩ : ∃ m : Nat, (plA xs i).t = m := ⟨(plA xs i).t.toNat, by omega⟩
    rw [hm] at hw
    obtain ⟨d, g5, g6, g7⟩ := wk_walk h hv (u := m) (v := v) (by simp) hw
    have e1 : (plA xs i).t.toNat = m := by omega
    have e2 : (plA xs i).f.toNat = u := by omega
    rw [e1, e2] at hp
    refine ⟨m :: d, fun x hx => ?_, ⟨hp.1, g6⟩, ?_⟩
    · rcases List.mem_cons.1 hx with rfl | hx
      · omega
      · exact g5 x hx
    · simp only [wgt, wM] at g7 ⊢
      omega
theorem wm_pos_iff {n : Nat} {xs : List Pl} {r : Int × Int} {t : List (List Int)} (h : WmOk n xs r t) (hv : ∀ p ∈ xs, okPl n p) : NoPos (entN t) n ↔ ∀ c, Circ xs c → wgt xs r.1 r.2 c ≤ 0 := by
  constructor
  · intro hn c hc
    cases c with
    | nil => simp [wgt]
    | cons i c =>
      have hw := hc.wk
      obtain ⟨hi, hf, _⟩ := id hw
      have e : plA xs i = xs[i] := by simp [plA, hi]
      have hm0 : plA xs i ∈ xs := by rw [e]; exact List.getElem_mem hi
      obtain ⟨⟨g3, g4⟩, _⟩ := hv _ hm0
      rw [hf] at g3 g4
      obtain ⟨u, hu⟩ : ∃ u : Nat, firstF xs (i :: c) = u := ⟨(firstF xs (i :: c)).toNat, by omega⟩
      rw [hu] at hw g4
      obtain ⟨d, g5, g6, g7⟩ := wk_walk h hv (by simp) hw
      have := hn u d (by omega) g5 g6
      omega
  · intro hle u c hu hc hw
    obtain ⟨d, h1, h2, h3⟩ := wm_walk h hu hu hc hw
    rw [← h3]
    apply Classical.byContradiction
    intro hn
    obtain ⟨c', h4, h5⟩ := circ_of_walk1 (rn := r.1) (rd := r.2) d.length d u (Nat.le_refl _) h2 h1 (by omega)
    have := hle c' h4
    omega
theorem MaxR.below {xs : List Pl} {s r : Int × Int} (ht : ∀ c, Circ xs c → 0 < sumT xs c) (h1 : MaxR xs s) (hr : 0 < r.2) : (∀ c, Circ xs c → wgt xs r.1 r.2 c ≤ 0) ↔ s.1 * r.2 ≤ r.1 * s.2 := by
  constructor
  · intro hle2
    obtain ⟨c, hc, e⟩ := h1.eq
    have hk := ht c hc
    have hle := hle2 c hc
    rw [wgt_sums] at e hle
    have e1 : s.2 * sumD xs c = s.1 * sumT xs c := by omega
    have h3 : r.2 * sumD xs c ≤ r.1 * sumT xs c := by omega
    have h4 := Int.mul_le_mul_of_nonneg_left h3 (Int.le_of_lt h1.pos)
    have h5 : s.2 * (r.2 * sumD xs c) = r.2 * (s.1 * sumT xs c) := by rw [← e1]; rw [← Int.mul_assoc, ← Int.mul_assoc, Int.mul_comm s.2 r.2]
    rw [h5] at h4
    have h6 : (s.1 * r.2) * sumT xs c ≤ (r.1 * s.2) * sumT xs c := by
      rw [show s.1 * r.2 * sumT xs c = r.2 * (s.1 * sumT xs c) by rw [Int.mul_comm s.1 r.2, Int.mul_assoc], show r.1 * s.2 * sumT xs c = s.2 * (r.1 * sumT xs c) by rw [Int.mul_comm r.1 s.2, Int.mul_assoc]]
      exact h4
    exact Int.le_of_mul_le_mul_right h6 hk
  · intro hle c hc
    have hk := ht c hc
    have h2 := h1.le c hc
    rw [wgt_sums] at h2 ⊢
    have h3 : s.2 * sumD xs c ≤ s.1 * sumT xs c := by omega
    have h4 := Int.mul_le_mul_of_nonneg_left h3 (Int.le_of_lt hr)
    have h5 := Int.mul_le_mul_of_nonneg_right hle (Int.le_of_lt hk)
    have h6 : s.2 * (r.2 * sumD xs c) ≤ s.2 * (r.1 * sumT xs c) := by
      rw [show s.2 * (r.2 * sumD xs c) = r.2 * (s.2 * sumD xs c) by rw [← Int.mul_assoc, ← Int.mul_assoc, Int.mul_comm s.2 r.2], show s.2 * (r.1 * sumT xs c) = r.1 * s.2 * sumT xs c by rw [← Int.mul_assoc, Int.mul_comm s.2 r.1]]
      have h7 : r.2 * (s.1 * sumT xs c) = s.1 * r.2 * sumT xs c := by rw [← Int.mul_assoc, Int.mul_comm r.2 s.1]
      omega
    have := Int.le_of_mul_le_mul_left h6 h1.pos
    omega
end Go.Proofs.Ytpgcmpbamlnkkaa
end

section
namespace Go.Proofs.Ytpgcmpbamlnkkaa
set_option linter.unusedSimpArgs false
set_option linter.unusedVariables false
open Go Go.RowKit
attribute [local irreducible] AL AD AW OpOk Le AC thenQ blockQ EndQ

theorem frzV2 {P : Program} {f : FuncId} {args : List AV} {n : Nat} {d : D} {xs : List Int} (hc : AC P f args H0 (.tup [own1 1 n, .d d]) (hp1 (IO xs))) (hn : xs.length = n) : AC P f args H0 (.tup [IL xs, .d d]) H0 :=
  hc.frz (ARs.tup (.cons (AR.whole rfl trivial (by rw [IR_len]; exact hn)) (.cons (.dd _) .nil)))
theorem mulK {u k : Int} (h1 : -2000000 ≤ u ∧ u ≤ 2000000) (h2 : 0 ≤ k ∧ k ≤ 5) : -10000000 ≤ u * k ∧ u * k ≤ 10000000 := by
  have := mulB (q := k) (w := u) (Q := 5) (M := 2000000) h2.1 h2.2 h1.1 h1.2 (by decide)
  rw [Int.mul_comm]
  omega
theorem plW_leG {n : Nat} {xs : List Pl} {u1 u2 : Int} (hv : ∀ p ∈ xs, okPl n p) (hu1 : -2000000 ≤ u1 ∧ u1 ≤ 2000000) (hu2 : 0 ≤ u2 ∧ u2 ≤ 1000000) (i : Nat) (hi : i < xs.length) : (0 ≤ u2 * (plA xs i).d ∧ u2 * (plA xs i).d ≤ 10000000000) ∧ (-10000000 ≤ u1 * (plA xs i).k ∧ u1 * (plA xs i).k ≤ 10000000) := by
  have ho := okPl_at hv i hi
  have h1 := mul_in hu2 ho.2.2.1
  exact ⟨by omega, mulK hu1 ho.2.2.2⟩
theorem wm_bndG {n : Nat} {xs : List Pl} (hv : ∀ p ∈ xs, okPl n p) {u1 u2 : Int} (h1 : -2000000 ≤ u1 ∧ u1 ≤ 2000000) (h2 : 0 ≤ u2 ∧ u2 ≤ 1000000) (p : Pl) (hp : p ∈ xs) : -20000000000 ≤ pw u1 u2 p ∧ pw u1 u2 p ≤ 20000000000 := by
  obtain ⟨i, hi, rfl⟩ := List.getElem_of_mem hp
  have := plW_leG hv h1 h2 i hi
  have e : plA xs i = xs[i] := by simp [plA, hi]
  rw [e] at this
  unfold pw; omega
theorem wm_okG {n : Nat} {xs : List Pl} {r : Int × Int} (hv : ∀ p ∈ xs, okPl n p) (h1 : -2000000 ≤ r.1 ∧ r.1 ≤ 2000000) (h2 : 0 ≤ r.2 ∧ r.2 ≤ 1000000) : WmOk n xs r (wmT n xs r) :=
  wm_ok (M := 20000000000) (by decide) xs (fun p hp => ⟨hv p hp, (wm_bndG hv h1 h2 p hp).1⟩)
theorem starB_wm {n : Nat} {xs : List Pl} {r : Int × Int} (hn : n ≤ 10) (h0 : 0 < n) (hv : ∀ p ∈ xs, okPl n p) (h1 : -2000000 ≤ r.1 ∧ r.1 ≤ 2000000) (h2 : 0 ≤ r.2 ∧ r.2 ≤ 1000000) : StarB (wmT n xs r) n := by
  have hb := wm_bndG hv h1 h2
  have hw := wm_okG hv h1 h2
  have hrc : Rc (wmT n xs r) n n := ⟨hw.sq.l, hw.sq.r⟩
  refine ⟨hrc, h0, hn, fun u v hne => ?_⟩
  by_cases hvn : v < n
  · by_cases hun : u < n
    · rcases hw.some u v hun hvn with e | ⟨p, hp, e1, e2, e3⟩
      · exact absurd e hne
      · have := hb p hp
        rw [← e3]; omega
    · rw [entN_out hrc hvn hun]; decide
  · rw [entN_out2 hrc hvn]; decide
set_option maxHeartbeats 2000000 in
theorem l15WeightsG_ac (n : Nat) (xs : List Pl) (u1 u2 : Int) (hn : n ≤ 10) (hx : xs.length ≤ 1000) (hv : ∀ p ∈ xs, okPl n p) (h1 : -2000000 ≤ u1 ∧ u1 ≤ 2000000) (h2 : 0 ≤ u2 ∧ u2 ≤ 1000000) : AC Try.prog 114 [grD n xs, .agg [I u1, I u2]] H0 (own1 1 n) (hpM 1 (TR (wmT n xs (u1, u2)))) := by
  have hB := l02Bottom_ac n n (by omega) (by omega)
  refine AC.of_body 0 Try.func114 rfl (fun l h => absurd rfl h) (fun C hC => ?_)
  have hD : ∀ l, ¬ C.D0 l := fun l h => (hC l).1 h rfl
  simp only [startFr, Try.ntmps114, List.length_cons, List.length_nil, Nat.reduceAdd, Nat.reduceSub, List.replicate_succ, List.replicate_zero, List.cons_append, List.nil_append]
  repeat' (first | ((first | apply Ba | (apply Bb; (· rfl); (· rfl)) | (apply Bc; (· exact nxE)) | (apply Bd; (· rfl); (· rfl); (· exact nxE))); (· first | exact Tb rfl rfl (hB) (Sd (Sd Sn)) | exact Ok.pe)) | ((first | apply Ca | (apply Cb; (· exact nxE))); (· first | exact Tb rfl rfl (hB) (Sd (Sd Sn)) | exact Ok.e0)) | refine Sx ?_ | (refine Sy (fun h => ?_) (fun h => ?_) <;> try (exfalso; omega; done)) | refine Sz (fun h => ?_) (fun h => ?_))
  refine AW.loop (X := {k : Nat // k ≤ xs.length}) (fun k => ⟨[Oo, Oo, Bx 2 0, Bx 2 1, Oo, .own 1 ⟨2, []⟩ 0 n, I (k.1 : Nat), Oo, Oo, Oo, Oo, Oo, Oo, Oo, Oo, Oo, Oo, Oo, Oo, Oo, Oo, Oo, Oo, Oo, Oo, Oo, Oo, Oo, Oo, Oo, Oo, Oo, Oo, Oo, Oo, Oo, Oo, Oo, Oo, Oo, Oo, Oo, Oo, Oo, Oo, Oo, Oo, Oo, Oo, Oo, Oo, Oo, Oo, Oo, Oo], heapX [(⟨0, []⟩, ⟨0, []⟩, ⟨2, [[I n, PL xs]]⟩), (⟨1, []⟩, ⟨1, []⟩, ⟨2, [[I u1, I u2]]⟩)] [mi1 ⟨2, []⟩ (TR ((xs.take k.1).foldl (wmS (u1, u2)) (botT n n)))], 900⟩) (fun k => xs.length - k.1) ⟨0, Nat.zero_le _⟩ ?_ (fun k => ?_)
  ·
    (apply Le.headG [_, _] [{ l := ⟨2, []⟩, k := 1, R := TR (botT n n), src := ⟨7, [0]⟩, base := ⟨7, [0]⟩ }] (fun _ => False))
    (case' hlen => rfl)
    (case' hms => rfl)
    all_goals (try dsimp only [srcs])
    (case' hfr | hob => (repeat' (first | refine La ?_ ?_ | exact Lc | refine Lo ?_ | refine ⟨⟨_, rfl, ?_⟩, ?_⟩ | refine Lx ?_)))
    (case' hok => first | exact ⟨MI.ok_same rfl (Cg), trivial⟩ | exact trivial)
    (case' hN => rfl)
    (case' hS => rfl)
    all_goals (first | exact Ld | (rfl))
  obtain ⟨k, hk⟩ := k
  simp only
  by_cases hlt : k < xs.length
  · have hrow := pl_row (n := 0) hlt
    have hst := wm_take (r := (u1, u2)) (n := n) hlt
    have hpw := plW_leG hv h1 h2 k hlt
    obtain ⟨⟨g1, g2⟩, ⟨g3, g4⟩, _⟩ := okPl_at hv k hlt
    have hsq : Sq ((xs.take k).foldl (wmS (u1, u2)) (botT n n)) n := wm_sq (Sq.bot n)
    generalize hT : (xs.take k).foldl (wmS (u1, u2)) (botT n n) = T at hst hsq
    generalize plA xs k = p at *
    obtain ⟨pf, pt, pd, pk⟩ := p
    obtain ⟨f, rfl⟩ : ∃ f : Nat, pf = f := ⟨pf.toNat, by simp at g1; omega⟩
    obtain ⟨t, rfl⟩ : ∃ t : Nat, pt = t := ⟨pt.toNat, by simp at g3; omega⟩
    simp only [Int.toNat_natCast] at hrow g2 g4 hpw
    obtain ⟨r, hr1, hr2, hr3⟩ := hsq.get (show t < n by omega) (show f < n by omega)
    have hr1' : (TR T)[t]? = some (IR r) := by simp [hr1]
    have hrl : (IR r).length = n := by rw [IR_len, hr3]
    have hrf : (IR r)[f]? = some [DI (entN T t f)] := by simp [hr2]
    repeat' (first | ((first | apply Ba | (apply Bb; (· rfl); (· rfl)) | (apply Bc; (· exact nxE)) | (apply Bd; (· rfl); (· rfl); (· exact nxE))); (· first | exact Ok.ldTn rfl rfl rfl hr1' hrl | exact Ok.ld1 rfl rfl (congrArg (Option.map (dobj 1)) hr1') hrf | exact Ok.st1 rfl rfl (congrArg (Option.map (dobj 1)) hr1') (by omega) (by rw [hrf]; rfl) rfl rfl IR_set | exact Ok.pe)) | ((first | apply Ca | (apply Cb; (· exact nxE))); (· first | exact Ok.st1 rfl rfl (congrArg (Option.map (dobj 1)) hr1') (by omega) (by rw [hrf]; rfl) rfl rfl IR_set | exact Ok.e0)) | refine Sx ?_ | (refine Sy (fun h => ?_) (fun h => ?_) <;> try (exfalso; omega; done)) | refine Sz (fun h => ?_) (fun h => ?_))
    refine ⟨⟨k + 1, by omega⟩, ?_, by simp only; omega⟩
    (apply Le.headG [_, _] [{ l := ⟨2, []⟩, k := 1, R := TR ((xs.take (k + 1)).foldl (wmS (u1, u2)) (botT n n)), src := ⟨2, []⟩, base := ⟨2, []⟩ }] (fun _ => False))
    (case' hlen => rfl)
    (case' hms => rfl)
    all_goals (try dsimp only [srcs])
    (case' hfr | hob => (repeat' (first | refine La ?_ ?_ | exact Lc | refine Lo ?_ | refine ⟨⟨_, rfl, ?_⟩, ?_⟩ | refine Lx ?_)))
    (case' hok => first | exact ⟨MI.ok_row (r0 := IR r) (r := IR (r.set f (max (entN T t f) (u2 * pd - u1 * pk)))) (by rw [hst, wmS]; exact setT_TR hr1) hr1' (by simp) rfl (Cg), trivial⟩ | exact trivial)
    (case' hN => rfl)
    (case' hS => rfl)
    all_goals (first | exact Ld | (rfl))
  ·
    obtain rfl : k = xs.length := by omega
    rw [List.take_length]
    repeat' (first | ((first | apply Ba | (apply Bb; (· rfl); (· rfl)) | (apply Bc; (· exact nxE)) | (apply Bd; (· rfl); (· rfl); (· exact nxE))); (· first | exact Ok.pe)) | ((first | apply Ca | (apply Cb; (· exact nxE))); (· first | exact Ok.e0)) | refine Sx ?_ | (refine Sy (fun h => ?_) (fun h => ?_) <;> try (exfalso; omega; done)) | refine Sz (fun h => ?_) (fun h => ?_))
    refine Ya ?_
    (apply Le.headG [] [{ l := ⟨0, []⟩, k := 1, R := TR (wmT n xs (u1, u2)), src := ⟨2, []⟩, base := ⟨2, []⟩ }] (fun _ => False))
    (case' hlen => rfl)
    (case' hms => rfl)
    all_goals (try dsimp only [srcs])
    (case' hfr | hob => (repeat' (first | refine La ?_ ?_ | exact Lc | refine Lo ?_ | refine ⟨⟨_, rfl, ?_⟩, ?_⟩ | refine Lx ?_)))
    (case' hok => first | exact ⟨MI.ok_same rfl (Cg), trivial⟩ | exact trivial)
    (case' hN => rfl)
    (case' hS => rfl)
    all_goals (first | exact Ld | (rfl))
theorem placeWeightG_ac (p : Pl) (u1 u2 : Int) (h1 : 0 ≤ u2 * p.d ∧ u2 * p.d ≤ 10000000000) (h2 : -10000000 ≤ u1 * p.k ∧ u1 * p.k ≤ 10000000) : AC Try.prog 212 [p.av, .agg [I u1, I u2]] H0 (I (pw u1 u2 p)) H0 := by
  unfold pw
  obtain ⟨pf, pt, pd, pk⟩ := p
  simp only at h1 h2 ⊢
  refine AC.of_body 0 Try.func212 rfl (fun l h => absurd rfl h) (fun C hC => ?_)
  have hD : ∀ l, ¬ C.D0 l := fun l h => (hC l).1 h rfl
  simp only [startFr, Try.ntmps212, List.length_cons, List.length_nil, Nat.reduceAdd, Nat.reduceSub, List.replicate_succ, List.replicate_zero, List.cons_append, List.nil_append]
  repeat' (first | ((first | apply Ba | (apply Bb; (· rfl); (· rfl)) | (apply Bc; (· exact nxE)) | (apply Bd; (· rfl); (· rfl); (· exact nxE))); (· first | exact Ok.pe)) | ((first | apply Ca | (apply Cb; (· exact nxE))); (· first | exact Ok.e0)) | refine Sx ?_ | (refine Sy (fun h => ?_) (fun h => ?_) <;> try (exfalso; omega; done)) | refine Sz (fun h => ?_) (fun h => ?_))
  refine Ya ?_
  (apply Le.headZ (hs := []) [] rfl)
  all_goals (try dsimp only [srcs])
  (case' hfr => (repeat' (first | refine La ?_ ?_ | exact Lc | refine Lo ?_ | refine ⟨⟨_, rfl, ?_⟩, ?_⟩ | refine Lx ?_)))
  all_goals (first | exact Ld | exact trivial | (rfl))
set_option maxHeartbeats 2000000 in
theorem weightMatrixG_ac (n : Nat) (xs : List Pl) (u1 u2 : Int) (hn : n ≤ 10) (hx : xs.length ≤ 1000) (hv : ∀ p ∈ xs, okPl n p) (h1 : -2000000 ≤ u1 ∧ u1 ≤ 2000000) (h2 : 0 ≤ u2 ∧ u2 ≤ 1000000) : AC Try.prog 209 [grD n xs, .agg [I u1, I u2]] H0 (own1 1 n) (hpM 1 (TR (wmT n xs (u1, u2)))) := by
  have hB := bottomMatrix_ac n (by omega)
  refine AC.of_body 0 Try.func209 rfl (fun l h => absurd rfl h) (fun C hC => ?_)
  have hD : ∀ l, ¬ C.D0 l := fun l h => (hC l).1 h rfl
  simp only [startFr, Try.ntmps209, List.length_cons, List.length_nil, Nat.reduceAdd, Nat.reduceSub, List.replicate_succ, List.replicate_zero, List.cons_append, List.nil_append]
  repeat' (first | ((first | apply Ba | (apply Bb; (· rfl); (· rfl)) | (apply Bc; (· exact nxE)) | (apply Bd; (· rfl); (· rfl); (· exact nxE))); (· first | exact Tb rfl rfl (hB) (Sd (Sd Sn)) | exact Ok.pe)) | ((first | apply Ca | (apply Cb; (· exact nxE))); (· first | exact Tb rfl rfl (hB) (Sd (Sd Sn)) | exact Ok.e0)) | refine Sx ?_ | (refine Sy (fun h => ?_) (fun h => ?_) <;> try (exfalso; omega; done)) | refine Sz (fun h => ?_) (fun h => ?_))
  refine AW.loop (X := {k : Nat // k ≤ xs.length}) (fun k => ⟨[Oo, Oo, Oo, Bx 2 1, Oo, .own 1 ⟨2, []⟩ 0 n, Oo, Oo, Oo, Oo, Oo, Oo, Oo, Oo, PL xs, I xs.length, I (k.1 : Nat), Oo, Oo, Oo, Oo, Oo, Oo, Oo, Oo, Oo, Oo, Oo, Oo, Oo, Oo, Oo, Oo, Oo, Oo, Oo, Oo, Oo, Oo, Oo, Oo, Oo, Oo], heapX [(⟨1, []⟩, ⟨1, []⟩, ⟨2, [[I u1, I u2]]⟩)] [mi1 ⟨2, []⟩ (TR ((xs.take k.1).foldl (wmS (u1, u2)) (botT n n)))], 900⟩) (fun k => xs.length - k.1) ⟨0, Nat.zero_le _⟩ ?_ (fun k => ?_)
  ·
    (apply Le.headG [_] [{ l := ⟨2, []⟩, k := 1, R := TR (botT n n), src := ⟨7, [0]⟩, base := ⟨7, [0]⟩ }] (fun _ => False))
    (case' hlen => rfl)
    (case' hms => rfl)
    all_goals (try dsimp only [srcs])
    (case' hfr | hob => (repeat' (first | refine La ?_ ?_ | exact Lc | refine Lo ?_ | refine ⟨⟨_, rfl, ?_⟩, ?_⟩ | refine Lx ?_)))
    (case' hok => first | exact ⟨MI.ok_same rfl (Cg), trivial⟩ | exact trivial)
    (case' hN => rfl)
    (case' hS => rfl)
    all_goals (first | exact Ld | (rfl))
  obtain ⟨k, hk⟩ := k
  simp only
  by_cases hlt : k < xs.length
  · have hrow := pl_row (n := 0) hlt
    have hst := wm_take (r := (u1, u2)) (n := n) hlt
    have hpw := plW_leG hv h1 h2 k hlt
    have hPW := placeWeightG_ac (plA xs k) u1 u2 (by omega) (by omega)
    obtain ⟨⟨g1, g2⟩, ⟨g3, g4⟩, _⟩ := okPl_at hv k hlt
    have hsq : Sq ((xs.take k).foldl (wmS (u1, u2)) (botT n n)) n := wm_sq (Sq.bot n)
    generalize hT : (xs.take k).foldl (wmS (u1, u2)) (botT n n) = T at hst hsq
    generalize hw : pw u1 u2 (plA xs k) = w at hPW
    rw [show wmS (u1, u2) T (plA xs k) = setT T (plA xs k).t.toNat (plA xs k).f.toNat (max (entN T (plA xs k).t.toNat (plA xs k).f.toNat) (pw u1 u2 (plA xs k))) from rfl, hw] at hst
    generalize plA xs k = p at *
    obtain ⟨pf, pt, pd, pk⟩ := p
    obtain ⟨f, rfl⟩ : ∃ f : Nat, pf = f := ⟨pf.toNat, by simp at g1; omega⟩
    obtain ⟨t, rfl⟩ : ∃ t : Nat, pt = t := ⟨pt.toNat, by simp at g3; omega⟩
    simp only [Int.toNat_natCast] at hrow g2 g4 hpw hst
    obtain ⟨r, hr1, hr2, hr3⟩ := hsq.get (show t < n by omega) (show f < n by omega)
    have hr1' : (TR T)[t]? = some (IR r) := by simp [hr1]
    have hrl : (IR r).length = n := by rw [IR_len, hr3]
    have hrf : (IR r)[f]? = some [DI (entN T t f)] := by simp [hr2]
    repeat' (first | ((first | apply Ba | (apply Bb; (· rfl); (· rfl)) | (apply Bc; (· exact nxE)) | (apply Bd; (· rfl); (· rfl); (· exact nxE))); (· first | exact Kz rfl rfl (hPW) (Aa (Ad (Ad (Ad (Ad An)))) (Aa (Ad (Ad An)) An)) | exact Ok.ldTn rfl rfl rfl hr1' hrl | exact Ok.ld1 rfl rfl (congrArg (Option.map (dobj 1)) hr1') hrf | exact Ok.st1 rfl rfl (congrArg (Option.map (dobj 1)) hr1') (by omega) (by rw [hrf]; rfl) rfl rfl IR_set | exact Ok.pe)) | ((first | apply Ca | (apply Cb; (· exact nxE))); (· first | exact Ok.st1 rfl rfl (congrArg (Option.map (dobj 1)) hr1') (by omega) (by rw [hrf]; rfl) rfl rfl IR_set | exact Ok.e0)) | refine Sx ?_ | (refine Sy (fun h => ?_) (fun h => ?_) <;> try (exfalso; omega; done)) | refine Sz (fun h => ?_) (fun h => ?_))
    refine ⟨⟨k + 1, by omega⟩, ?_, by simp only; omega⟩
    (apply Le.headG [_] [{ l := ⟨2, []⟩, k := 1, R := TR ((xs.take (k + 1)).foldl (wmS (u1, u2)) (botT n n)), src := ⟨2, []⟩, base := ⟨2, []⟩ }] (fun _ => False))
    (case' hlen => rfl)
    (case' hms => rfl)
    all_goals (try dsimp only [srcs])
    (case' hfr | hob => (repeat' (first | refine La ?_ ?_ | exact Lc | refine Lo ?_ | refine ⟨⟨_, rfl, ?_⟩, ?_⟩ | refine Lx ?_)))
    (case' hok => first | exact ⟨MI.ok_row (r0 := IR r) (r := IR (r.set f (max (entN T t f) w))) (by rw [hst]; exact setT_TR hr1) hr1' (by simp) rfl (Cg), trivial⟩ | exact trivial)
    (case' hN => rfl)
    (case' hS => rfl)
    all_goals (first | exact Ld | (rfl))
  ·
    obtain rfl : k = xs.length := by omega
    rw [List.take_length]
    repeat' (first | ((first | apply Ba | (apply Bb; (· rfl); (· rfl)) | (apply Bc; (· exact nxE)) | (apply Bd; (· rfl); (· rfl); (· exact nxE))); (· first | exact Ok.pe)) | ((first | apply Ca | (apply Cb; (· exact nxE))); (· first | exact Ok.e0)) | refine Sx ?_ | (refine Sy (fun h => ?_) (fun h => ?_) <;> try (exfalso; omega; done)) | refine Sz (fun h => ?_) (fun h => ?_))
    refine Ya ?_
    (apply Le.headG [] [{ l := ⟨0, []⟩, k := 1, R := TR (wmT n xs (u1, u2)), src := ⟨2, []⟩, base := ⟨2, []⟩ }] (fun _ => False))
    (case' hlen => rfl)
    (case' hms => rfl)
    all_goals (try dsimp only [srcs])
    (case' hfr | hob => (repeat' (first | refine La ?_ ?_ | exact Lc | refine Lo ?_ | refine ⟨⟨_, rfl, ?_⟩, ?_⟩ | refine Lx ?_)))
    (case' hok => first | exact ⟨MI.ok_same rfl (Cg), trivial⟩ | exact trivial)
    (case' hN => rfl)
    (case' hS => rfl)
    all_goals (first | exact Ld | (rfl))
/-! ### The least time potential -/
/-- A ratio that is drawn. -/
structure DrT (r : Int × Int) : Prop where
  n : -2000000 ≤ r.1 ∧ r.1 ≤ 2000000
  d : -1 ≤ r.2 ∧ r.2 ≤ 1000000
/-- timePotential of the program, for any ratio. -/
noncomputable def npB (n : Nat) (xs : List Pl) (r : Int × Int) : Bool := open Classical in decide (NoPos (entN (wmT n xs r)) n)
theorem npB_no {n : Nat} {xs : List Pl} {r : Int × Int} (h : ¬ NoPos (entN (wmT n xs r)) n) : npB n xs r = false := open Classical in decide_eq_false h
theorem npB_yes {n : Nat} {xs : List Pl} {r : Int × Int} (h : NoPos (entN (wmT n xs r)) n) : npB n xs r = true := open Classical in decide_eq_true h
theorem npB_iff {n : Nat} {xs : List Pl} {r : Int × Int} : npB n xs r = true ↔ NoPos (entN (wmT n xs r)) n := open Classical in decide_eq_true_iff
set_option maxHeartbeats 4000000 in
theorem timePotentialG_ac (n : Nat) (xs : List Pl) (r : Int × Int) (h0 : 1 ≤ n) (hn : n ≤ 10) (hx : xs.length ≤ 1000) (hv : ∀ p ∈ xs, okPl n p) (h1 : -2000000 ≤ r.1 ∧ r.1 ≤ 2000000) (h2 : 0 ≤ r.2 ∧ r.2 ≤ 1000000) : AC Try.prog 111 [grD n xs, .agg [I r.1, I r.2]] H0 (.tup [IL (if npB n xs r = true then ptL n xs r else []), Bo (npB n xs r)]) H0 := by
  have hB := starB_wm (r := r) hn (by omega) hv h1 h2
  have hW := (weightMatrixG_ac n xs r.1 r.2 hn hx hv h1 h2).frzT (by rw [TR_len]; exact hB.rc.l)
  have hWl : (mRows 1 (TR (wmT n xs r))).length = n := by rw [mTR_len]; exact hB.rc.l
  rw [show ((r.1, r.2) : Int × Int) = r from rfl] at hW
  by_cases hnp : NoPos (entN (wmT n xs r)) n
  case neg =>
    rw [npB_no hnp]
    simp only [Bool.false_eq_true, if_false]
    have hS := starOf_no (wmT n xs r) n hB hnp
    generalize wmT n xs r = wm at *
    refine AC.of_body 0 Try.func111 rfl (fun l h => absurd rfl h) (fun C hC => ?_)
    have hD : ∀ l, ¬ C.D0 l := fun l h => (hC l).1 h rfl
    simp only [startFr, Try.ntmps111, List.length_cons, List.length_nil, Nat.reduceAdd, Nat.reduceSub, List.replicate_succ, List.replicate_zero, List.cons_append, List.nil_append]
    repeat' (first | ((first | apply Ba | (apply Bb; (· rfl); (· rfl)) | (apply Bc; (· exact nxE)) | (apply Bd; (· rfl); (· rfl); (· exact nxE))); (· first | exact Kz rfl rfl (hW) (Aa (Ad (Ad An)) (Aa (Ad (Ad An)) An)) | exact Kz rfl rfl (hS) (Ad An) | exact Ok.pe)) | ((first | apply Ca | (apply Cb; (· exact nxE))); (· first | exact Ok.e0)) | refine Sx ?_ | (refine Sy (fun h => ?_) (fun h => ?_) <;> try (exfalso; omega; done)) | refine Sz (fun h => ?_) (fun h => ?_))
    refine Yb ?_
    (apply Le.headZ (hs := []) [] rfl)
    all_goals (try dsimp only [srcs])
    (case' hfr => (repeat' (first | refine La ?_ ?_ | exact Lc | refine Lo ?_ | refine ⟨⟨_, rfl, ?_⟩, ?_⟩ | refine Lx ?_)))
    all_goals (first | exact Ld | exact trivial | (rfl))
  rw [npB_yes hnp, if_pos rfl]
  have hst := hB.m hnp
  have hS := (starOf_ac (wmT n xs r) n hst).frzT2 (by rw [TR_len, tabF_len])
  have hT : AC Try.prog 143 [TL (tabF n n (starF (entN (wmT n xs r)) n)), .d (.sl 1 (List.replicate n [DI 0]))] H0 (own1 1 n) (hp1 (IO (ptL n xs r))) := by
    rw [← zeroRow]
    exact timesVector_ac (tabF n n (starF (entN (wmT n xs r)) n)) n n (fun _ => 0) tabF_rc (by omega) (by omega) (apOk_star hst)
  have hpl : (ptL n xs r).length = n := rowF_len
  generalize ptL n xs r = pt at *
  generalize starF (entN (wmT n xs r)) n = s at *
  generalize wmT n xs r = wm at *
  clear hst hB hnp
  refine frzV2 ?_ hpl
  refine AC.of_body 0 Try.func111 rfl (fun l h => absurd rfl h) (fun C hC => ?_)
  have hD : ∀ l, ¬ C.D0 l := fun l h => (hC l).1 h rfl
  simp only [startFr, Try.ntmps111, List.length_cons, List.length_nil, Nat.reduceAdd, Nat.reduceSub, List.replicate_succ, List.replicate_zero, List.cons_append, List.nil_append]
  repeat' (first | ((first | apply Ba | (apply Bb; (· rfl); (· rfl)) | (apply Bc; (· exact nxE)) | (apply Bd; (· rfl); (· rfl); (· exact nxE))); (· first | exact Kz rfl rfl (hW) (Aa (Ad (Ad An)) (Aa (Ad (Ad An)) An)) | exact Kz rfl rfl (hS) (Ad An) | exact Eo rfl rfl (hT) (Sd (Sw Sn)) | exact Ok.pe)) | ((first | apply Ca | (apply Cb; (· exact nxE))); (· first | exact Eo rfl rfl (hT) (Sd (Sw Sn)) | exact Ok.e0)) | refine Sx ?_ | (refine Sy (fun h => ?_) (fun h => ?_) <;> try (exfalso; omega; done)) | refine Sz (fun h => ?_) (fun h => ?_))
  refine Yb ?_
  (apply Le.head [(⟨0, []⟩, _, _)])
  (case' hfr | hob => (repeat' (first | refine La ?_ ?_ | exact Lc | refine Lo ?_ | refine ⟨⟨_, rfl, ?_⟩, ?_⟩ | refine Lx ?_)))
  all_goals (first | exact Ld | (rfl))
end Go.Proofs.Ytpgcmpbamlnkkaa
end
