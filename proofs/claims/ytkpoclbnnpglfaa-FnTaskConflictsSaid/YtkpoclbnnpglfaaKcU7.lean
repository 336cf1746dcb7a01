/-
  Walks in the abstract reading, part 7.
-/
import Derived.Test.YtkpoclbnnpglfaaKcU5
import Derived.Test.YtkpoclbnnpglfaaKcU6
import Derived.Test.YtkpoclbnnpglfaaKcU2
import Derived.Test.YtkpoclbnnpglfaaKcA3
import Derived.Test.YtkpoclbnnpglfaaKcU3
import Derived.Test.YtkpoclbnnpglfaaKcA2
import Derived.Test.YtkpoclbnnpglfaaKcU4
section
namespace Go.Proofs.Ytkpoclbnnpglfaa
set_option linter.unusedSimpArgs false
set_option linter.unusedVariables false
open Go Go.RowKit
attribute [local irreducible] AL AD AW OpOk Le AC thenQ blockQ EndQ

theorem l01Same_ac [Mode] (xs : List Int) (hn : xs.length ≤ 100000000) : AC Try.prog 119 [IL xs, IL xs] H0 (Bo true) H0 := by
  refine AC.of_body 0 Try.func119 rfl (fun l h => absurd rfl h) (fun C hC => ?_)
  have hD : ∀ l, ¬ C.D0 l := fun l h => (hC l).1 h rfl
  simp only [startFr, Try.ntmps119, List.length_cons, List.length_nil, Nat.reduceAdd, Nat.reduceSub, List.replicate_succ, List.replicate_zero, List.cons_append, List.nil_append]
  repeat' (first | ((first | apply Ba | (apply Bb; (· rfl); (· rfl)) | (apply Bc; (· exact nxE)) | (apply Bd; (· rfl); (· rfl); (· exact nxE))); (· first | exact Ok.pe)) | ((first | apply Ca | (apply Cb; (· exact nxE))); (· first | exact Ok.e0)) | refine Sx ?_ | (refine Sy (fun h => ?_) (fun h => ?_) <;> try (exfalso; omega; done)) | refine Sz (fun h => ?_) (fun h => ?_))
  refine AW.loop (X := {k : Nat // k ≤ xs.length}) (fun k => ⟨[IL xs, IL xs, Oo, Oo, Oo, I (k.1 : Nat), Oo, Oo, Oo, Oo, Oo, Oo, Oo, Oo, Oo, Oo, Oo, Oo, Oo, Oo, Oo, Oo, Oo, Oo, Oo, Oo], heapL [], 900⟩) (fun k => xs.length - k.1) ⟨0, Nat.zero_le _⟩ ?_ (fun k => ?_)
  ·
    (apply Le.headZ [] rfl)
    all_goals (try dsimp only [srcs])
    (case' hfr | hob => (repeat' (first | refine La ?_ ?_ | exact Lc | refine Lo ?_ | refine ⟨⟨_, rfl, ?_⟩, ?_⟩ | refine Lx ?_)))
    all_goals (first | (rfl) | exact Ld)
  obtain ⟨k, hk⟩ := k
  simp only
  by_cases hlt : k < xs.length
  · obtain ⟨x, hx⟩ : ∃ x, xs[k]? = some x := ⟨xs[k], by simp⟩
    have hrow := IR_get hx
    repeat' (first | ((first | apply Ba | (apply Bb; (· rfl); (· rfl)) | (apply Bc; (· exact nxE)) | (apply Bd; (· rfl); (· rfl); (· exact nxE))); (· first | exact Ok.pe)) | ((first | apply Ca | (apply Cb; (· exact nxE))); (· first | exact Ok.e0)) | refine Sx ?_ | (refine Sy (fun h => ?_) (fun h => ?_) <;> try (exfalso; omega; done)) | refine Sz (fun h => ?_) (fun h => ?_))
    refine ⟨⟨k + 1, by omega⟩, ?_, by simp only; omega⟩
    (apply Le.headZ [] rfl)
    all_goals (try dsimp only [srcs])
    (case' hfr | hob => (repeat' (first | refine La ?_ ?_ | exact Lc | refine Lo ?_ | refine ⟨⟨_, rfl, ?_⟩, ?_⟩ | refine Lx ?_)))
    all_goals (first | (rfl) | exact Ld)
  ·
    repeat' (first | ((first | apply Ba | (apply Bb; (· rfl); (· rfl)) | (apply Bc; (· exact nxE)) | (apply Bd; (· rfl); (· rfl); (· exact nxE))); (· first | exact Ok.pe)) | ((first | apply Ca | (apply Cb; (· exact nxE))); (· first | exact Ok.e0)) | refine Sx ?_ | (refine Sy (fun h => ?_) (fun h => ?_) <;> try (exfalso; omega; done)) | refine Sz (fun h => ?_) (fun h => ?_))
    refine Ya ?_
    (apply Le.headZ (hs := []) [] rfl)
    all_goals (try dsimp only [srcs])
    (case' hfr => (repeat' (first | refine La ?_ ?_ | exact Lc | refine Lo ?_ | refine ⟨⟨_, rfl, ?_⟩, ?_⟩ | refine Lx ?_)))
    all_goals (first | exact Ld | exact trivial | (rfl))
theorem l02Same_ac [Mode] (t : List (List Int)) (hn : t.length ≤ 100000000) (hr : ∀ r ∈ t, r.length ≤ 100000000) : AC Try.prog 82 [TL t, TL t] H0 (Bo true) H0 := by
  refine AC.of_body 0 Try.func82 rfl (fun l h => absurd rfl h) (fun C hC => ?_)
  have hD : ∀ l, ¬ C.D0 l := fun l h => (hC l).1 h rfl
  simp only [startFr, Try.ntmps82, List.length_cons, List.length_nil, Nat.reduceAdd, Nat.reduceSub, List.replicate_succ, List.replicate_zero, List.cons_append, List.nil_append]
  repeat' (first | ((first | apply Ba | (apply Bb; (· rfl); (· rfl)) | (apply Bc; (· exact nxE)) | (apply Bd; (· rfl); (· rfl); (· exact nxE))); (· first | exact Ok.pe)) | ((first | apply Ca | (apply Cb; (· exact nxE))); (· first | exact Ok.e0)) | refine Sx ?_ | (refine Sy (fun h => ?_) (fun h => ?_) <;> try (exfalso; omega; done)) | refine Sz (fun h => ?_) (fun h => ?_))
  refine AW.loop (X := {k : Nat // k ≤ t.length}) (fun k => ⟨[TL t, TL t, Oo, Oo, Oo, I (k.1 : Nat), Oo, Oo, Oo, Oo, Oo, Oo, Oo, Oo, Oo, Oo, Oo, Oo, Oo, Oo, Oo, Oo, Oo, Oo, Oo, Oo, Oo], heapL [], 900⟩) (fun k => t.length - k.1) ⟨0, Nat.zero_le _⟩ ?_ (fun k => ?_)
  ·
    (apply Le.headZ [] rfl)
    all_goals (try dsimp only [srcs])
    (case' hfr | hob => (repeat' (first | refine La ?_ ?_ | exact Lc | refine Lo ?_ | refine ⟨⟨_, rfl, ?_⟩, ?_⟩ | refine Lx ?_)))
    all_goals (first | (rfl) | exact Ld)
  obtain ⟨k, hk⟩ := k
  simp only
  by_cases hlt : k < t.length
  · obtain ⟨r, hr1⟩ : ∃ r, t[k]? = some r := ⟨t[k], by simp⟩
    have hrow := TR_get hr1
    repeat' (first | ((first | apply Ba | (apply Bb; (· rfl); (· rfl)) | (apply Bc; (· exact nxE)) | (apply Bd; (· rfl); (· rfl); (· exact nxE))); (· first | exact Kz rfl rfl (l01Same_ac r (hr r (List.mem_of_getElem? hr1))) (Ad (Ad An)) | exact Ok.pe)) | ((first | apply Ca | (apply Cb; (· exact nxE))); (· first | exact Ok.e0)) | refine Sx ?_ | (refine Sy (fun h => ?_) (fun h => ?_) <;> try (exfalso; omega; done)) | refine Sz (fun h => ?_) (fun h => ?_))
    refine ⟨⟨k + 1, by omega⟩, ?_, by simp only; omega⟩
    (apply Le.headZ [] rfl)
    all_goals (try dsimp only [srcs])
    (case' hfr | hob => (repeat' (first | refine La ?_ ?_ | exact Lc | refine Lo ?_ | refine ⟨⟨_, rfl, ?_⟩, ?_⟩ | refine Lx ?_)))
    all_goals (first | (rfl) | exact Ld)
  ·
    repeat' (first | ((first | apply Ba | (apply Bb; (· rfl); (· rfl)) | (apply Bc; (· exact nxE)) | (apply Bd; (· rfl); (· rfl); (· exact nxE))); (· first | exact Ok.pe)) | ((first | apply Ca | (apply Cb; (· exact nxE))); (· first | exact Ok.e0)) | refine Sx ?_ | (refine Sy (fun h => ?_) (fun h => ?_) <;> try (exfalso; omega; done)) | refine Sz (fun h => ?_) (fun h => ?_))
    refine Ya ?_
    (apply Le.headZ (hs := []) [] rfl)
    all_goals (try dsimp only [srcs])
    (case' hfr => (repeat' (first | refine La ?_ ?_ | exact Lc | refine Lo ?_ | refine ⟨⟨_, rfl, ?_⟩, ?_⟩ | refine Lx ?_)))
    all_goals (first | exact Ld | exact trivial | (rfl))
theorem maxN_congr [Mode] {f g : Nat → Int} : ∀ {n : Nat}, (∀ k, k < n → f k = g k) → maxN f n = maxN g n
  | 0, _ => rfl
  | n + 1, h => by simp only [maxN]; rw [maxN_congr (fun k hk => h k (by omega)), h n (by omega)]
theorem StarM.px [Mode] {t : List (List Int)} {n : Nat} (h : StarM t n) {m : Nat} (hm : m ≤ n + 1) : PX (entN t) n 100000000000 m (powN (entN t) n m) :=
  powN_px (by decide) h.bnd m (by have := h.nn; omega)
theorem StarM.pow [Mode] {t : List (List Int)} {n : Nat} (h : StarM t n) {m : Nat} (hm : m ≤ n + 1) (hl : n ≤ m) : tabF n n (powN (entN t) n m) = tabF n n (starF (entN t) n) :=
  tabF_congr fun i j hi hj => (starF_eq ((h.px hm).star h.np hl) hj hi).symm
theorem StarM.mul [Mode] {t : List (List Int)} {n : Nat} (h : StarM t n) {m : Nat} (hm : m ≤ n) : AC Try.prog 66 [TL t, TL (tabF n n (powN (entN t) n m))] H0 (own1 1 n) (hpM 1 (TR (tabF n n (mulF t (tabF n n (powN (entN t) n m)) n)))) := by
  have hn := h.nn
  refine l02Multiply_ac n t _ h.rc tabF_rc (by omega) h.n0 (fun i q j hi hq hj h1 h2 => ?_)
  rw [tabF_ent hq hj] at h2 ⊢
  have g1 := h.bnd q i h1
  have g2 := (h.px (show m ≤ n + 1 by omega)).bnd j q hj hq h2
  omega
theorem StarM.add [Mode] {t : List (List Int)} {n : Nat} (h : StarM t n) {m : Nat} : AC Try.prog 81 [TL (tabF n n unitF), TL (tabF n n (mulF t (tabF n n (powN (entN t) n m)) n))] H0 (own1 1 n) (hpM 1 (TR (tabF n n (powN (entN t) n (m + 1))))) := by
  have hn := h.nn
  have hA := l02Add_ac n n (tabF n n unitF) (tabF n n (mulF t (tabF n n (powN (entN t) n m)) n)) tabF_rc tabF_rc (by omega) (by omega)
  have e : tabF n n (addF (tabF n n unitF) (tabF n n (mulF t (tabF n n (powN (entN t) n m)) n))) = tabF n n (powN (entN t) n (m + 1)) := tabF_congr fun i j hi hj => by
    unfold addF
    rw [tabF_ent hi hj, tabF_ent hi hj]
    show _ = powS (entN t) n (powN (entN t) n m) i j
    unfold powS mulF
    rw [maxN_congr (g := fun q => timesB (entN t i q) (powN (entN t) n m q j)) (fun q hq => by show timesB (entN t i q) (entN (tabF n n (powN (entN t) n m)) q j) = _; rw [tabF_ent hq hj])]
  rw [← e]
  exact hA
set_option maxHeartbeats 4000000 in
theorem l03Star_ac [Mode] (t : List (List Int)) (n : Nat) (h : StarM t n) : AC Try.prog 32 [TL t] H0 (.tup [own1 1 n, Bo true]) (hpM 1 (TR (tabF n n (starF (entN t) n)))) := by
  have hn := h.nn
  have h0 := h.n0
  have htl := h.rc.l
  have hU := l02Unit_ac n (by omega)
  have hul : (tabF n n unitF).length = n := tabF_len
  have hL : (mRows 1 (TR t)).length = n := by rw [mTR_len, htl]
  refine AC.of_body 0 Try.func32 rfl (fun l h => absurd rfl h) (fun C hC => ?_)
  have hD : ∀ l, ¬ C.D0 l := fun l h => (hC l).1 h rfl
  simp only [startFr, Try.ntmps32, List.length_cons, List.length_nil, Nat.reduceAdd, Nat.reduceSub, List.replicate_succ, List.replicate_zero, List.cons_append, List.nil_append]
  repeat' (first | ((first | apply Ba | (apply Bb; (· rfl); (· rfl)) | (apply Bc; (· exact nxE)) | (apply Bd; (· rfl); (· rfl); (· exact nxE))); (· first | exact Ok.lenD rfl rfl hL | exact Tb rfl rfl (hU) (Sd Sn) | exact Ok.pe)) | ((first | apply Ca | (apply Cb; (· exact nxE))); (· first | exact Tb rfl rfl (hU) (Sd Sn) | exact Ok.e0)) | refine Sx ?_ | (refine Sy (fun h => ?_) (fun h => ?_) <;> try (exfalso; omega; done)) | refine Sz (fun h => ?_) (fun h => ?_))
  refine AW.loop (X := {k : Nat // k ≤ n}) (fun k => ⟨[TL t, Oo, Oo, Oo, I n, .own 1 ⟨1, []⟩ 0 n, I (k.1 : Nat), Oo, Oo, Oo, Oo, Oo, Oo, Oo, Oo, Oo, Oo, Oo, Oo, Oo, Oo, Oo, Oo, Oo, Oo, Oo, Oo, Oo, Oo, Oo, Oo, Oo, Oo], heapX [] [mi1 ⟨1, []⟩ (TR (tabF n n (powN (entN t) n k.1)))], 900⟩) (fun k => n - k.1) ⟨0, Nat.zero_le _⟩ ?_ (fun k => ?_)
  ·
    (apply Le.headG [] [{ l := ⟨1, []⟩, k := 1, R := TR (tabF n n (powN (entN t) n 0)), src := ⟨6, [0]⟩, base := ⟨6, [0]⟩ }] (fun _ => False))
    (case' hlen => rfl)
    (case' hms => rfl)
    all_goals (try dsimp only [srcs])
    (case' hfr | hob => (repeat' (first | refine La ?_ ?_ | exact Lc | refine Lo ?_ | refine ⟨⟨_, rfl, ?_⟩, ?_⟩ | refine Lx ?_)))
    (case' hok => first | exact ⟨MI.ok_same rfl (Cg), trivial⟩ | exact trivial)
    (case' hN => rfl)
    (case' hS => rfl)
    all_goals (first | exact Ld | (rfl))
  obtain ⟨m, hk⟩ := k
  simp only
  have hM := h.mul hk
  have hA := h.add (m := m)
  have hpl : (tabF n n (powN (entN t) n m)).length = n := tabF_len
  have hml : (tabF n n (mulF t (tabF n n (powN (entN t) n m)) n)).length = n := tabF_len
  by_cases hlt : m < n
  ·
    repeat' (first | ((first | apply Ba | (apply Bb; (· rfl); (· rfl)) | (apply Bc; (· exact nxE)) | (apply Bd; (· rfl); (· rfl); (· exact nxE))); (· first | exact Tb rfl rfl (hU) (Sd Sn) | exact Tb rfl rfl (hM) (Sd (Sm Sn)) | exact Tb rfl rfl (hA) (Sm (Sm Sn)) | exact Ok.pe)) | ((first | apply Ca | (apply Cb; (· exact nxE))); (· first | exact Tb rfl rfl (hU) (Sd Sn) | exact Tb rfl rfl (hM) (Sd (Sm Sn)) | exact Tb rfl rfl (hA) (Sm (Sm Sn)) | exact Ok.e0)) | refine Sx ?_ | (refine Sy (fun h => ?_) (fun h => ?_) <;> try (exfalso; omega; done)) | refine Sz (fun h => ?_) (fun h => ?_))
    refine ⟨⟨m + 1, by omega⟩, ?_, by simp only; omega⟩
    (apply Le.headG [] [{ l := ⟨1, []⟩, k := 1, R := TR (tabF n n (powN (entN t) n (m + 1))), src := ⟨908, [0]⟩, base := ⟨908, [0]⟩ }] (fun _ => False))
    (case' hlen => rfl)
    (case' hms => rfl)
    all_goals (try dsimp only [srcs])
    (case' hfr | hob => (repeat' (first | refine La ?_ ?_ | exact Lc | refine Lo ?_ | refine ⟨⟨_, rfl, ?_⟩, ?_⟩ | refine Lx ?_)))
    (case' hok => first | exact ⟨MI.ok_same rfl (Cg), trivial⟩ | exact trivial)
    (case' hN => rfl)
    (case' hS => rfl)
    all_goals (first | exact Ld | (rfl))
  ·
    obtain rfl : n = m := by omega
    have hS := l02Same_ac (tabF n n (starF (entN t) n)) (by rw [tabF_len]; omega) (fun r hr => by rw [tabF_rc.r r hr]; omega)
    rw [h.pow (Nat.le_refl _) (by omega)] at hA
    rw [h.pow (by omega) (Nat.le_refl _)] at hM hA hpl hml ⊢
    repeat' (first | ((first | apply Ba | (apply Bb; (· rfl); (· rfl)) | (apply Bc; (· exact nxE)) | (apply Bd; (· rfl); (· rfl); (· exact nxE))); (· first | exact Ez rfl rfl (hS) (Sm (Sm Sn)) | exact Tb rfl rfl (hU) (Sd Sn) | exact Tb rfl rfl (hM) (Sd (Sm Sn)) | exact Tb rfl rfl (hA) (Sm (Sm Sn)) | exact Ok.pe)) | ((first | apply Ca | (apply Cb; (· exact nxE))); (· first | exact Tb rfl rfl (hU) (Sd Sn) | exact Tb rfl rfl (hM) (Sd (Sm Sn)) | exact Tb rfl rfl (hA) (Sm (Sm Sn)) | exact Ok.e0)) | refine Sx ?_ | (refine Sy (fun h => ?_) (fun h => ?_) <;> try (exfalso; omega; done)) | refine Sz (fun h => ?_) (fun h => ?_))
    refine Yb ?_
    (apply Le.headG [] [{ l := ⟨0, []⟩, k := 1, R := TR (tabF n n (starF (entN t) n)), src := ⟨1, []⟩, base := ⟨1, []⟩ }] (fun _ => False))
    (case' hlen => rfl)
    (case' hms => rfl)
    all_goals (try dsimp only [srcs])
    (case' hfr | hob => (repeat' (first | refine La ?_ ?_ | exact Lc | refine Lo ?_ | refine ⟨⟨_, rfl, ?_⟩, ?_⟩ | refine Lx ?_)))
    (case' hok => first | exact ⟨MI.ok_same rfl (Cg), trivial⟩ | exact trivial)
    (case' hN => rfl)
    (case' hS => rfl)
    all_goals (first | exact Ld | (rfl))
end Go.Proofs.Ytkpoclbnnpglfaa
end

section
namespace Go.Proofs.Ytkpoclbnnpglfaa
set_option linter.unusedSimpArgs false
set_option linter.unusedVariables false
open Go Go.RowKit
attribute [local irreducible] AL AD AW OpOk Le AC thenQ blockQ EndQ

end Go.Proofs.Ytkpoclbnnpglfaa
end

section
namespace Go.Proofs.Ytkpoclbnnpglfaa
set_option linter.unusedSimpArgs false
set_option linter.unusedVariables false
open Go Go.RowKit
attribute [local irreducible] AL AD AW OpOk Le AC thenQ blockQ EndQ

theorem rowF_succ [Mode] {g : Nat → Int} {k : Nat} : rowF (k + 1) g = rowF k g ++ [g k] := by simp [rowF, List.range_succ]
theorem rowF_next [Mode] {g : Nat → Int} {k : Nat} {v : Int} (h : g k = v) : rowF (k + 1) g = rowF k g ++ [v] := by rw [rowF_succ, h]
end Go.Proofs.Ytkpoclbnnpglfaa
end

section
namespace Go.Proofs.Ytkpoclbnnpglfaa
set_option linter.unusedSimpArgs false
set_option linter.unusedVariables false
open Go Go.RowKit
attribute [local irreducible] AL AD AW OpOk Le AC thenQ blockQ EndQ

end Go.Proofs.Ytkpoclbnnpglfaa
end

section
namespace Go.Proofs.Ytkpoclbnnpglfaa
set_option linter.unusedSimpArgs false
set_option linter.unusedVariables false
open Go Go.RowKit
attribute [local irreducible] AL AD AW OpOk Le AC thenQ blockQ EndQ

end Go.Proofs.Ytkpoclbnnpglfaa
end

section
namespace Go.Proofs.Ytkpoclbnnpglfaa
set_option linter.unusedSimpArgs false
set_option linter.unusedVariables false
open Go Go.RowKit
attribute [local irreducible] AL AD AW OpOk Le AC thenQ blockQ EndQ

end Go.Proofs.Ytkpoclbnnpglfaa
end

section
namespace Go.Proofs.Ytkpoclbnnpglfaa
set_option linter.unusedSimpArgs false
set_option linter.unusedVariables false
open Go Go.RowKit
attribute [local irreducible] AL AD AW OpOk Le AC thenQ blockQ EndQ

end Go.Proofs.Ytkpoclbnnpglfaa
end

section
namespace Go.Proofs.Ytkpoclbnnpglfaa
set_option linter.unusedSimpArgs false
set_option linter.unusedVariables false
open Go Go.RowKit
attribute [local irreducible] AL AD AW OpOk Le AC thenQ blockQ EndQ

end Go.Proofs.Ytkpoclbnnpglfaa
end

section
namespace Go.Proofs.Ytkpoclbnnpglfaa
set_option linter.unusedSimpArgs false
set_option linter.unusedVariables false
open Go Go.RowKit

theorem gap_nn [Mode] {n : Nat} {xs : List Pl} {r : Int × Int} {t : List (List Int)} (hw : WmOk n xs r t) (hnp : NoPos (entN t) n) {s : Nat → Nat → Int} (hs : StarOk (entN t) n s) {f u : Nat} (hf : f < n) (hu : u < n) {p : Pl} (hp : p ∈ xs) (h1 : p.f = f) (h2 : p.t = u) (hne : s f u ≠ BOT) : pw r.1 r.2 p + s f u ≤ 0 := by
  have ha := hw.all p hp
  rw [h1, h2, Int.toNat_natCast, Int.toNat_natCast] at ha
  have hwm : WM (entN t) f [] u := ha.1
  have hwv : wM (entN t) f [] u = entN t u f := rfl
  rcases hs.some u f hu hf with e | ⟨e1, e2⟩ | ⟨c, c1, c2, c3⟩
  · exact absurd e hne
  · subst e1
    have := hnp u [] hu (by simp) hwm
    omega
  · have h3 : WM (entN t) u (c ++ f :: []) u := WM.app.2 ⟨c1, hwm⟩
    have h4 := hnp u _ hu (fun x hx => by
      rcases List.mem_append.1 hx with h | h
      · exact c2 x h
      · simp at h; omega) h3
    rw [wM_app] at h4
    omega
end Go.Proofs.Ytkpoclbnnpglfaa
end

section
namespace Go.Proofs.Ytkpoclbnnpglfaa
set_option linter.unusedSimpArgs false
set_option linter.unusedVariables false
open Go Go.RowKit
attribute [local irreducible] AL AD AW OpOk Le AC thenQ blockQ EndQ

end Go.Proofs.Ytkpoclbnnpglfaa
end

section
namespace Go.Proofs.Ytkpoclbnnpglfaa
set_option linter.unusedSimpArgs false
set_option linter.unusedVariables false
open Go Go.RowKit
attribute [local irreducible] AL AD AW OpOk Le AC thenQ blockQ EndQ

def mkF (k : Int) : Nat → Int := fun j => k + (j : Int)
def mixR (f g : Nat → Int) (K : Nat) : Nat → Int := fun j => if j < K then f j else g j
theorem mixR_0 [Mode] {f g : Nat → Int} {n : Nat} : rowF n (mixR f g 0) = rowF n g := rowF_congr fun j _ => by simp [mixR]
theorem mixR_all [Mode] {f g : Nat → Int} {n : Nat} : rowF n (mixR f g n) = rowF n f := rowF_congr fun j hj => by simp [mixR, hj]
theorem mixR_set [Mode] {f g : Nat → Int} {n K : Nat} : (rowF n (mixR f g K)).set K (f K) = rowF n (mixR f g (K + 1)) := by
  rw [rowF_set]
  refine rowF_congr fun b _ => ?_
  unfold mixR
  by_cases e : b = K
  · subst e; simp
  · rw [if_neg e]
    by_cases h : b < K
    · rw [if_pos h, if_pos (by omega)]
    · rw [if_neg h, if_neg (by omega)]
def offT (t : List (List Int)) (i : Nat) : Nat := ((t.take i).map List.length).sum
def mkRow (k : Int) (r : List Int) : List Int := rowF r.length (mkF k)
def mkAt (t : List (List Int)) (k : Int) (i : Nat) : List (List Int) := t.mapIdx fun j r => if j < i then mkRow (k + offT t j) r else r
theorem mkAt_len [Mode] {t : List (List Int)} {k : Int} {i : Nat} : (mkAt t k i).length = t.length := by simp [mkAt]
end Go.Proofs.Ytkpoclbnnpglfaa
end

section
namespace Go.Proofs.Ytkpoclbnnpglfaa
set_option linter.unusedSimpArgs false
set_option linter.unusedVariables false
open Go Go.RowKit
attribute [local irreducible] AL AD AW OpOk Le AC thenQ blockQ EndQ

theorem mgF_0 [Mode] {n : Nat} {f : Nat → Int} : dobj 1 (List.replicate n [DI 0]) = IO (rowF n (mixR f (fun _ => 0) 0)) := by
  rw [mixR_0]
  unfold IO dobj
  simp [rowF, List.map_const']
end Go.Proofs.Ytkpoclbnnpglfaa
end

section
namespace Go.Proofs.Ytkpoclbnnpglfaa
set_option linter.unusedSimpArgs false
set_option linter.unusedVariables false
open Go Go.RowKit
attribute [local irreducible] AL AD AW OpOk Le AC thenQ blockQ EndQ

def isCr (s : Nat → Nat → Int) (u1 u2 : Int) (p : Pl) : Bool := !decide (s p.f.toNat p.t.toNat = BOT) && decide (pw u1 u2 p + s p.f.toNat p.t.toNat = 0)
end Go.Proofs.Ytkpoclbnnpglfaa
end

section
namespace Go.Proofs.Ytkpoclbnnpglfaa
set_option linter.unusedSimpArgs false
set_option linter.unusedVariables false
open Go Go.RowKit

theorem growC_pre {xs : List Pl} {rn rd over : Int} : ∀ {k : Nat} {l : List Nat}, growC xs rn rd over k l ≠ [] → ∃ e, growC xs rn rd over k l = l ++ e
  | 0, _, h => by simp [growC] at h
  | k + 1, l, h => by
    unfold growC at h ⊢
    split
    · rename_i h1
      rw [if_pos h1] at h
      split
      · exact ⟨[], by simp⟩
      · rename_i h2; rw [if_neg h2] at h; exact absurd rfl h
    · rename_i h1
      rw [if_neg h1] at h
      obtain ⟨i, hi, h2, h3⟩ := tryAll_mem h
      rw [h3]
      split at h2
      · exact absurd rfl h2
      · rename_i hs
        rw [if_neg hs]
        obtain ⟨e, he⟩ := growC_pre h2
        exact ⟨i :: e, by rw [he]; simp⟩
theorem star_super {W : Nat → Nat → Int} {n : Nat} {s : Nat → Nat → Int} (hs : StarOk W n s) {u m v : Nat} (hu : u < n) (hm : m < n) (hv : v < n) (h1 : s m u ≠ BOT) (h2 : s v m ≠ BOT) : s v u ≠ BOT ∧ s m u + s v m ≤ s v u := by
  rcases hs.some u m hu hm with e | ⟨e, e2⟩ | ⟨c, c1, c2, c3⟩
  · exact absurd e h1
  · subst e; exact ⟨h2, by omega⟩
  · rcases hs.some m v hm hv with e | ⟨e, e2⟩ | ⟨c', d1, d2, d3⟩
    · exact absurd e h2
    · subst e; exact ⟨h1, by omega⟩
    · have := hs.all u v (c ++ m :: c') hu hv (fun x hx => by
        rcases List.mem_append.1 hx with h | h
        · exact c2 x h
        · rcases List.mem_cons.1 h with rfl | h
          · exact hm
          · exact d2 x h) (WM.app.2 ⟨c1, d1⟩)
      rw [wM_app] at this
      exact ⟨this.1, by omega⟩
theorem wk_wm {n : Nat} {xs : List Pl} {r : Int × Int} {t : List (List Int)} (hw : WmOk n xs r t) (hv : ∀ p ∈ xs, okPl n p) : ∀ {c : List Nat} {u v : Int}, Wk xs u c v → c ≠ [] → ∃ c', WM (entN t) u.toNat c' v.toNat ∧ (∀ x ∈ c', x < n) ∧ wgt xs r.1 r.2 c ≤ wM (entN t) u.toNat c' v.toNat
  | [], _, _, _, h => absurd rfl h
  | [i], u, v, ⟨h1, h2, h3⟩, _ => by
    have hp : plA xs i ∈ xs := by
      have e : plA xs i = xs[i] := by simp [plA, h1]
      rw [e]; exact List.getElem_mem h1
    have ha := hw.all _ hp
    have h3' : (plA xs i).t = v := h3
    subst h2 h3'
    exact ⟨[], ha.1, by simp, by simp only [wgt, wM]; omega⟩
  | i :: j :: c, u, v, ⟨h1, h2, h3⟩, _ => by
    have hp : plA xs i ∈ xs := by
      have e : plA xs i = xs[i] := by simp [plA, h1]
      rw [e]; exact List.getElem_mem h1
    have ha := hw.all _ hp
    obtain ⟨c', g1, g2, g3⟩ := wk_wm hw hv h3 (by simp)
    obtain ⟨_, ⟨k1, k2⟩, _⟩ := hv _ hp
    subst h2
    refine ⟨(plA xs i).t.toNat :: c', ⟨ha.1, g1⟩, fun x hx => ?_, ?_⟩
    · rcases List.mem_cons.1 hx with rfl | h
      · omega
      · exact g2 x h
    · have e : wgt xs r.1 r.2 (i :: j :: c) = pw r.1 r.2 (plA xs i) + wgt xs r.1 r.2 (j :: c) := rfl
      rw [e]
      simp only [wM]
      omega
/-- What is held of the weights, their star and the greatest ratio. -/
structure CrOk (xs : List Pl) (n : Nat) (r : Int × Int) (s : Nat → Nat → Int) : Prop where
  v : ∀ p ∈ xs, okPl n p
  mx : MaxR xs r
  w : WmOk n xs r (wmT n xs r)
  np : NoPos (entN (wmT n xs r)) n
  st : StarOk (entN (wmT n xs r)) n s
abbrev crB (xs : List Pl) (r : Int × Int) (s : Nat → Nat → Int) (i : Nat) : Bool := isCr s r.1 r.2 (plA xs i)
theorem crB_iff {xs : List Pl} {r : Int × Int} {s : Nat → Nat → Int} {i : Nat} : crB xs r s i = true ↔ s (plA xs i).f.toNat (plA xs i).t.toNat ≠ BOT ∧ pw r.1 r.2 (plA xs i) + s (plA xs i).f.toNat (plA xs i).t.toNat = 0 := by
  unfold crB isCr
  simp
theorem CrOk.at {xs : List Pl} {n : Nat} {r : Int × Int} {s : Nat → Nat → Int} (h : CrOk xs n r s) {i : Nat} (hi : i < xs.length) : (0 ≤ (plA xs i).f ∧ (plA xs i).f.toNat < n) ∧ (0 ≤ (plA xs i).t ∧ (plA xs i).t.toNat < n) ∧ plA xs i ∈ xs := by
  have hp : plA xs i ∈ xs := by
    have e : plA xs i = xs[i] := by simp [plA, hi]
    rw [e]; exact List.getElem_mem hi
  obtain ⟨⟨k1, k2⟩, ⟨k3, k4⟩, _⟩ := h.v _ hp
  exact ⟨⟨k1, by omega⟩, ⟨k3, by omega⟩, hp⟩
theorem CrOk.crit {xs : List Pl} {n : Nat} {r : Int × Int} {s : Nat → Nat → Int} (h : CrOk xs n r s) {c : List Nat} (hc : Circ xs c) (hz : wgt xs r.1 r.2 c = 0) {i : Nat} (hi : i ∈ c) : crB xs r s i = true := by
  have hil := hc.wk.lt i hi
  obtain ⟨⟨k1, k2⟩, ⟨k3, k4⟩, hp⟩ := h.at hil
  obtain ⟨a, b, rfl⟩ := List.append_of_mem hi
  obtain ⟨m, w1, w2, w3, w4⟩ := Wk.app.1 hc.wk
  have hwk : Wk xs (plA xs i).t (b ++ a) (plA xs i).f := Wk.app.2 ⟨_, w4, w3 ▸ w1⟩
  have hwt : wgt xs r.1 r.2 (b ++ a) = - pw r.1 r.2 (plA xs i) := by
    rw [wgt_app] at hz ⊢
    have e : wgt xs r.1 r.2 (i :: b) = pw r.1 r.2 (plA xs i) + wgt xs r.1 r.2 b := rfl
    omega
  rw [crB_iff]
  by_cases hne : b ++ a = []
  · rw [hne] at hwk hwt
    have e : (plA xs i).t = (plA xs i).f := hwk
    have hd := star_dia0 h.np h.st.some h.st.dia k2
    have hd2 := (h.st.dia _ k2).1
    rw [e, hd]
    have e0 : wgt xs r.1 r.2 ([] : List Nat) = 0 := rfl
    exact ⟨by decide, by omega⟩
  · obtain ⟨c', g1, g2, g3⟩ := wk_wm h.w h.v hwk hne
    have ha := h.st.all _ _ c' k4 k2 g2 g1
    have hg := gap_nn h.w h.np h.st (f := (plA xs i).f.toNat) (u := (plA xs i).t.toNat) k2 k4 hp (by omega) (by omega) ha.1
    exact ⟨ha.1, by omega⟩
theorem CrOk.back {xs : List Pl} {n : Nat} {r : Int × Int} {s : Nat → Nat → Int} (h : CrOk xs n r s) : ∀ {c : List Nat} {u v : Int}, Wk xs u c v → c ≠ [] → (∀ i ∈ c, crB xs r s i = true) → (v.toNat < n) ∧ s u.toNat v.toNat ≠ BOT ∧ - wgt xs r.1 r.2 c ≤ s u.toNat v.toNat
  | [], _, _, _, hn, _ => absurd rfl hn
  | [i], u, v, ⟨h1, h2, h3⟩, _, ha => by
    have h3' : (plA xs i).t = v := h3
    subst h2 h3'
    have hcr := crB_iff.1 (ha i (by simp))
    refine ⟨(h.at h1).2.1.2, hcr.1, ?_⟩
    have e : wgt xs r.1 r.2 [i] = pw r.1 r.2 (plA xs i) + 0 := rfl
    omega
  | i :: j :: c, u, v, ⟨h1, h2, h3⟩, _, ha => by
    obtain ⟨g0, g1, g2⟩ := h.back h3 (by simp) (fun x hx => ha x (by simp [hx]))
    obtain ⟨⟨k1, k2⟩, ⟨k3, k4⟩, hp⟩ := h.at h1
    have hcr := crB_iff.1 (ha i (by simp))
    subst h2
    have := star_super h.st (u := v.toNat) (m := (plA xs i).t.toNat) (v := (plA xs i).f.toNat) g0 k4 k2 g1 hcr.1
    have e : wgt xs r.1 r.2 (i :: j :: c) = pw r.1 r.2 (plA xs i) + wgt xs r.1 r.2 (j :: c) := rfl
    exact ⟨g0, this.1, by omega⟩
theorem CrOk.zero {xs : List Pl} {n : Nat} {r : Int × Int} {s : Nat → Nat → Int} (h : CrOk xs n r s) {c : List Nat} (hc : Circ xs c) (ha : ∀ i ∈ c, crB xs r s i = true) : wgt xs r.1 r.2 c = 0 := by
  obtain ⟨g0, g1, g2⟩ := h.back hc.wk hc.ne ha
  have hd := star_dia0 h.np h.st.some h.st.dia g0
  have := h.mx.le c hc
  omega
theorem CrOk.none {xs : List Pl} {n : Nat} {r : Int × Int} {s : Nat → Nat → Int} (h : CrOk xs n r s) {k : Nat} {l : List Nat} (hp : PathC xs l) {i : Nat} (hi : i ∈ l) (hcr : crB xs r s i = false) : growC xs r.1 r.2 (-1) k l = [] := by
  refine Classical.byContradiction fun hne => ?_
  obtain ⟨g1, g2⟩ := growC_sound hp hne
  obtain ⟨e, he⟩ := growC_pre hne
  have hz : wgt xs r.1 r.2 (growC xs r.1 r.2 (-1) k l) = 0 := by
    have := h.mx.le _ g1; omega
  have := h.crit g1 hz (i := i) (by rw [he]; simp [hi])
  rw [hcr] at this; cases this
theorem PathC.circ {xs : List Pl} {l : List Nat} (hp : PathC xs l) (h : lastT xs l = firstF xs l) : Circ xs l := ⟨hp.ne, by have := hp.wk; rwa [h] at this, hp.nd, hp.mn⟩
end Go.Proofs.Ytkpoclbnnpglfaa
end

section
namespace Go.Proofs.Ytkpoclbnnpglfaa
set_option linter.unusedSimpArgs false
set_option linter.unusedVariables false
open Go Go.RowKit
attribute [local irreducible] AL AD AW OpOk Le AC thenQ blockQ EndQ

/-- A row of truth values. -/
def boR (n : Nat) (g : Nat → Bool) : List (List D) := (List.range n).map fun e => [D.v (.bool (g e))]
theorem boR_len [Mode] {n : Nat} {g : Nat → Bool} : (boR n g).length = n := by simp [boR]
theorem boR_get [Mode] {n e : Nat} {g : Nat → Bool} (h : e < n) : (boR n g)[e]? = some [D.v (.bool (g e))] := by simp [boR, h]
theorem boR_congr [Mode] {n : Nat} {f g : Nat → Bool} (h : ∀ j, j < n → f j = g j) : boR n f = boR n g := List.map_congr_left fun j hj => by rw [h j (List.mem_range.1 hj)]
theorem boR_set [Mode] {n j : Nat} {g : Nat → Bool} {v : Bool} : (boR n g).set j [D.v (.bool v)] = boR n (fun b => if b = j then v else g b) := by
  unfold boR
  apply List.ext_getElem?
  intro i
  rw [List.getElem?_set]
  by_cases hi : i < n
  · by_cases e : j = i
    · subst e; simp [hi]
    · simp [hi, e, Ne.symm e]
  · by_cases e : j = i
    · subst e; simp [hi]
    · simp [hi, e]
theorem boR_0 [Mode] {n : Nat} : dobj 1 (List.replicate n [D.v (.bool false)]) = dobj 1 (boR n fun _ => false) := by
  unfold boR; simp [List.map_const']
theorem tryAll_no [Mode] {α : Type} {F : Nat → List α} {j m : Nat} (h : j < m) (h0 : F j = []) : tryAll F (List.range' j (m - j)) = tryAll F (List.range' (j + 1) (m - (j + 1))) := by
  rw [range'_cons h, tryAll, if_neg (by rw [h0]; simp)]
theorem tryAll_yes [Mode] {α : Type} {F : Nat → List α} {j m : Nat} (h : j < m) (h0 : F j ≠ []) : tryAll F (List.range' j (m - j)) = F j := by
  rw [range'_cons h, tryAll, if_pos h0]
end Go.Proofs.Ytkpoclbnnpglfaa
end

section
namespace Go.Proofs.Ytkpoclbnnpglfaa
set_option linter.unusedSimpArgs false
set_option linter.unusedVariables false
open Go Go.RowKit
attribute [local irreducible] AL AD AW OpOk Le AC thenQ blockQ EndQ

section
variable {P : Program} {o : Oper} {A : Operand → AV} {H : Heap} {new : Nat}
end
/-- A path of the search. -/
structure PathN (n : Nat) (l : List Nat) : Prop where
  ne : l ≠ []
  lt : ∀ v ∈ l, v < n
  nd : l.Nodup
  tl : ∀ v ∈ l.tail, hdN l < v
theorem PathN.snoc [Mode] {n : Nat} {l : List Nat} (h : PathN n l) {v : Nat} (hv : v < n) (h0 : hdN l < v) (hm : v ∉ l) : PathN n (l ++ [v]) := by
  refine ⟨by simp, fun x hx => ?_, ?_, fun x hx => ?_⟩
  · rcases List.mem_append.1 hx with hx | hx
    · exact h.lt x hx
    · simp at hx; omega
  · rw [List.nodup_append]
    exact ⟨h.nd, by simp, fun x hx y hy e => by simp at hy; subst hy; subst e; exact hm hx⟩
  · rw [hdN_app h.ne]
    rw [List.tail_append_of_ne_nil h.ne] at hx
    rcases List.mem_append.1 hx with hx | hx
    · exact h.tl x hx
    · simp at hx; omega
theorem PathN.mem [Mode] {n : Nat} {l : List Nat} (h : PathN n l) {v : Nat} (h0 : hdN l < v) : v ∈ l ↔ v ∈ l.tail := by
  cases l with
  | nil => exact absurd rfl h.ne
  | cons x l =>
    have e : hdN (x :: l) = x := rfl
    rw [e] at h0
    simp only [List.tail_cons, List.mem_cons]
    exact ⟨fun h => h.resolve_left (by omega), .inr⟩
abbrev usV (l : List Nat) : Nat → Bool := fun v => decide (v ∈ l.tail)
abbrev cyD (T : List (List Int)) (F : FuncId) : List AV := [TL T, .clo (.func F) [] []]
abbrev cyH (T : List (List Int)) (F : FuncId) (n : Nat) (l : List Nat) : Heap :=
  upd (upd (upd H0 ⟨2, []⟩ (some (dobj 1 (boR n (usV l))))) ⟨1, []⟩ (some (IO (cN l)))) ⟨0, []⟩ (some ⟨4, [cyD T F ++ [.own 1 ⟨1, []⟩ 0 l.length, .own 1 ⟨2, []⟩ 0 n]]⟩)
abbrev cyHF (T : List (List Int)) (F : FuncId) (n : Nat) (l : List Nat) : Heap :=
  upd (upd (upd H0 ⟨2, []⟩ (some (dobj 1 (boR n (usV l))))) ⟨3, []⟩ (some (IO (cN l)))) ⟨0, []⟩ (some ⟨4, [cyD T F ++ [.own 1 ⟨3, []⟩ 0 l.length, .own 1 ⟨2, []⟩ 0 n]]⟩)
abbrev cyHT (T : List (List Int)) (F : FuncId) (l : List Nat) : Heap :=
  upd (upd (upd H0 ⟨2, []⟩ none) ⟨3, []⟩ (some (IO (cN l)))) ⟨0, []⟩ (some ⟨4, [cyD T F ++ [.own 1 ⟨3, []⟩ 0 l.length, .dead]]⟩)
theorem cyHT_eq [Mode] {T : List (List Int)} {F : FuncId} {l : List Nat} : cyHT T F l = heapL [(⟨0, []⟩, ⟨0, []⟩, ⟨4, [[TL T, .clo (.func F) [] [], .own 1 ⟨3, []⟩ 0 l.length, .dead]]⟩), (⟨3, []⟩, ⟨3, []⟩, IO (cN l))] := by
  have e : upd H0 ⟨2, []⟩ none = H0 := by funext l; simp [upd]
  unfold cyHT; rw [e]; rfl
theorem cyD_ar [Mode] {T : List (List Int)} {F : FuncId} : ∀ c ∈ cyD T F, ∀ H lent τ L, AR H lent τ L c c := fun c hc H lent τ L => by
  simp only [List.mem_cons, List.not_mem_nil, or_false] at hc
  rcases hc with rfl | rfl
  · exact .dd _
  · exact AR.clo' ARs.nil ARs.nil
theorem cyD_rn [Mode] {T : List (List Int)} {F : FuncId} : ∀ c ∈ cyD T F, ∀ g, rn g c = c := fun c hc g => by
  simp only [List.mem_cons, List.not_mem_nil, or_false] at hc
  rcases hc with rfl | rfl <;> simp [rn]
theorem cNr_get [Mode] {l : List Nat} {i : Nat} {v : Nat} (h : l[i]? = some v) : (dobj 1 (IR (cN l))).rows[0 + i]? = some [I (v : Nat)] := by
  rw [Nat.zero_add]; simp [dobj, cN, h]
end Go.Proofs.Ytkpoclbnnpglfaa
end

section
namespace Go.Proofs.Ytkpoclbnnpglfaa
set_option linter.unusedSimpArgs false
set_option linter.unusedVariables false
open Go Go.RowKit
attribute [local irreducible] AL AD AW OpOk Le AC thenQ blockQ EndQ

end Go.Proofs.Ytkpoclbnnpglfaa
end

section
namespace Go.Proofs.Ytkpoclbnnpglfaa
set_option linter.unusedSimpArgs false
set_option linter.unusedVariables false
open Go Go.RowKit
attribute [local irreducible] AL AD AW OpOk Le AC thenQ blockQ EndQ

section
variable {P : Program} {o : Oper} {A : Operand → AV} {H : Heap} {new : Nat}
end
theorem tabF_row2 [Mode] {m n : Nat} {f : Nat → Nat → Int} : ∀ r ∈ tabF m n f, r.length = n := tabF_rc.r
end Go.Proofs.Ytkpoclbnnpglfaa
end

section
namespace Go.Proofs.Ytkpoclbnnpglfaa
set_option linter.unusedSimpArgs false
set_option linter.unusedVariables false
open Go Go.RowKit
attribute [local irreducible] AL AD AW OpOk Le AC thenQ blockQ EndQ

end Go.Proofs.Ytkpoclbnnpglfaa
end

section
namespace Go.Proofs.Ytkpoclbnnpglfaa
set_option linter.unusedSimpArgs false
set_option linter.unusedVariables false
open Go Go.RowKit
def bmS (t : List (List Int)) (b : Bn) : List (List Int) := setT t b.t.toNat b.f.toNat (max (entN t b.t.toNat b.f.toNat) b.l)
def bmT (n : Nat) (bs : List Bn) : List (List Int) := bs.foldl bmS (botT n n)
theorem bm_sqF [Mode] {n : Nat} : ∀ {bs : List Bn} {t : List (List Int)}, Sq t n → Sq (bs.foldl bmS t) n
  | [], _, h => h
  | _ :: bs, _, h => bm_sqF (bs := bs) h.setT
theorem bmT_sq [Mode] (n : Nat) (bs : List Bn) : Sq (bmT n bs) n := bm_sqF (Sq.bot n)
abbrev bdB (n : Nat) (b : Bn) : Prop := (0 ≤ b.f ∧ b.f < n) ∧ (0 ≤ b.t ∧ b.t < n) ∧ (-1000000 ≤ b.l ∧ b.l ≤ 1000000)
theorem bm_bndF [Mode] {n : Nat} : ∀ {bs : List Bn} {t : List (List Int)}, Sq t n → (∀ b ∈ bs, bdB n b) → (∀ i j, i < n → j < n → entN t i j = BOT ∨ (-1000000 ≤ entN t i j ∧ entN t i j ≤ 1000000)) → ∀ i j, i < n → j < n → entN (bs.foldl bmS t) i j = BOT ∨ (-1000000 ≤ entN (bs.foldl bmS t) i j ∧ entN (bs.foldl bmS t) i j ≤ 1000000)
  | [], _, _, _, h => h
  | b :: bs, t, hs, hb, h => by
    obtain ⟨⟨g1, g2⟩, ⟨g3, g4⟩, g5, g6⟩ := hb b (by simp)
    refine bm_bndF (bs := bs) hs.setT (fun x hx => hb x (List.mem_cons_of_mem _ hx)) (fun i j hi hj => ?_)
    have e : entN (bmS t b) i j = _ := entN_setT (v := max (entN t b.t.toNat b.f.toNat) b.l) hs (show b.t.toNat < n by omega) (show b.f.toNat < n by omega) i j
    rw [e]
    split
    · have h1 := h b.t.toNat b.f.toNat (by omega) (by omega)
      right
      unfold BOT at h1
      omega
    · exact h i j hi hj
theorem bmT_bnd [Mode] {n : Nat} {bs : List Bn} (hb : ∀ b ∈ bs, bdB n b) : ∀ i j, i < n → j < n → entN (bmT n bs) i j = BOT ∨ (-1000000 ≤ entN (bmT n bs) i j ∧ entN (bmT n bs) i j ≤ 1000000) :=
  bm_bndF (Sq.bot n) hb (fun i j hi hj => .inl (entN_bot hi hj))
attribute [local irreducible] AL AD AW OpOk Le AC thenQ blockQ EndQ

set_option maxHeartbeats 4000000 in
theorem bondMatrix_ac [Mode] (n : Nat) (ws : List Wn) (bs : List Bn) (hw : ws.length = n) (hn : n ≤ 10) (hbl : bs.length ≤ 1000) (hb : ∀ b ∈ bs, bdB n b) : AC Try.prog 28 [WNL ws, BNL bs] H0 (own1 1 n) (hpM 1 (TR (bmT n bs))) := by
  have hB := bottomMatrix_ac n (by omega)
  have hwl : (ws.map Wn.row).length = n := by rw [WN_len, hw]
  refine AC.of_body 0 Try.func28 rfl (fun l h => absurd rfl h) (fun C hC => ?_)
  have hD : ∀ l, ¬ C.D0 l := fun l h => (hC l).1 h rfl
  simp only [startFr, Try.ntmps28, List.length_cons, List.length_nil, Nat.reduceAdd, Nat.reduceSub, List.replicate_succ, List.replicate_zero, List.cons_append, List.nil_append]
  repeat' (first | ((first | apply Ba | (apply Bb; (· rfl); (· rfl)) | (apply Bc; (· exact nxE)) | (apply Bd; (· rfl); (· rfl); (· exact nxE))); (· first | exact Ok.lenD rfl rfl hwl | exact Ok.lenD rfl rfl WN_len | exact Ok.lenD rfl rfl BN_len | exact Tb rfl rfl (hB) (Sd (Sd Sn)) | exact Ok.pe)) | ((first | apply Ca | (apply Cb; (· exact nxE))); (· first | exact Tb rfl rfl (hB) (Sd (Sd Sn)) | exact Ok.e0)) | refine Sx ?_ | (refine Sy (fun h => ?_) (fun h => ?_) <;> try (exfalso; omega; done)) | refine Sz (fun h => ?_) (fun h => ?_))
  refine AW.loop (X := {k : Nat // k ≤ bs.length}) (fun k => ⟨[Oo, Oo, Oo, Oo, Oo, .own 1 ⟨1, []⟩ 0 n, Oo, Oo, Oo, Oo, Oo, Oo, Oo, BNL bs, I bs.length, I (k.1 : Nat), Oo, Oo, Oo, Oo, Oo, Oo, Oo, Oo, Oo, Oo, Oo, Oo, Oo, Oo, Oo, Oo, Oo, Oo, Oo, Oo, Oo, Oo, Oo, Oo, Oo], heapX [] [mi1 ⟨1, []⟩ (TR ((bs.take k.1).foldl bmS (botT n n)))], 900⟩) (fun k => bs.length - k.1) ⟨0, Nat.zero_le _⟩ ?_ (fun k => ?_)
  ·
    (apply Le.headG [] [{ l := ⟨1, []⟩, k := 1, R := TR (botT n n), src := ⟨5, [0]⟩, base := ⟨5, [0]⟩ }] (fun _ => False))
    (case' hlen => rfl)
    (case' hms => rfl)
    all_goals (try dsimp only [srcs])
    (case' hfr | hob => (repeat' (first | refine La ?_ ?_ | exact Lc | refine Lo ?_ | refine ⟨⟨_, rfl, ?_⟩, ?_⟩ | refine Lx ?_)))
    (case' hok => first | exact ⟨MI.ok_same rfl (Cg), trivial⟩ | exact trivial)
    (case' hN => rfl)
    (case' hS => rfl)
    all_goals (first | exact Ld | (rfl))
  obtain ⟨k, hk⟩ := k
  simp only
  by_cases hlt : k < bs.length
  · obtain ⟨b, hbk⟩ : ∃ b, bs[k]? = some b := ⟨bs[k], List.getElem?_eq_getElem hlt⟩
    have hrow : (bs.map Bn.row)[((k : Nat) : Int).toNat]? = some [DI b.f, DI b.t, DI b.l] := row_get hbk
    have hst : (bs.take (k + 1)).foldl bmS (botT n n) = bmS ((bs.take k).foldl bmS (botT n n)) b := take_fold hbk
    obtain ⟨⟨g1, g2⟩, ⟨g3, g4⟩, g5, g6⟩ := hb b (List.mem_of_getElem? hbk)
    have hsq : Sq ((bs.take k).foldl bmS (botT n n)) n := bm_sqF (Sq.bot n)
    generalize hT : (bs.take k).foldl bmS (botT n n) = T at hst hsq
    obtain ⟨bf, bt, bl⟩ := b
    rw [show bmS T ⟨bf, bt, bl⟩ = setT T bt.toNat bf.toNat (max (entN T bt.toNat bf.toNat) bl) from rfl] at hst
    simp only at g1 g2 g3 g4 g5 g6 hrow hst
    obtain ⟨f, rfl⟩ : ∃ f : Nat, bf = f := ⟨bf.toNat, by omega⟩
    obtain ⟨t, rfl⟩ : ∃ t : Nat, bt = t := ⟨bt.toNat, by omega⟩
    simp only [Int.toNat_natCast] at hst
    obtain ⟨r, hr1, hr2, hr3⟩ := hsq.get (show t < n by omega) (show f < n by omega)
    have hr1' : (TR T)[t]? = some (IR r) := by simp [hr1]
    have hRR : TR ((bs.take (k + 1)).foldl bmS (botT n n)) = (TR T).set t (IR (r.set f (max (entN T t f) bl))) := by rw [hst]; exact setT_TR hr1
    have hrl : (IR r).length = n := by rw [IR_len, hr3]
    have hrf : (IR r)[f]? = some [DI (entN T t f)] := by simp [hr2]
    repeat' (first | ((first | apply Ba | (apply Bb; (· rfl); (· rfl)) | (apply Bc; (· exact nxE)) | (apply Bd; (· rfl); (· rfl); (· exact nxE))); (· first | exact Ok.ldTn rfl rfl rfl hr1' hrl | exact Ok.ld1 rfl rfl (congrArg (Option.map (dobj 1)) hr1') hrf | exact Ok.lenD rfl rfl WN_len | exact Ok.lenD rfl rfl BN_len | exact Ok.st1 rfl rfl (congrArg (Option.map (dobj 1)) hr1') (by omega) (by rw [hrf]; rfl) rfl rfl IR_set | exact Ok.pe)) | ((first | apply Ca | (apply Cb; (· exact nxE))); (· first | exact Ok.st1 rfl rfl (congrArg (Option.map (dobj 1)) hr1') (by omega) (by rw [hrf]; rfl) rfl rfl IR_set | exact Ok.e0)) | refine Sx ?_ | (refine Sy (fun h => ?_) (fun h => ?_) <;> try (exfalso; omega; done)) | refine Sz (fun h => ?_) (fun h => ?_))
    refine ⟨⟨k + 1, by omega⟩, ?_, by simp only; omega⟩
    (apply Le.headG [] [{ l := ⟨1, []⟩, k := 1, R := TR ((bs.take (k + 1)).foldl bmS (botT n n)), src := ⟨1, []⟩, base := ⟨1, []⟩ }] (fun _ => False))
    (case' hlen => rfl)
    (case' hms => rfl)
    all_goals (try dsimp only [srcs])
    (case' hfr | hob => (repeat' (first | refine La ?_ ?_ | exact Lc | refine Lo ?_ | refine ⟨⟨_, rfl, ?_⟩, ?_⟩ | refine Lx ?_)))
    (case' hok => first | exact ⟨MI.ok_row (r0 := IR r) (r := IR (r.set f (max (entN T t f) bl))) hRR hr1' (by simp) rfl (Cg), trivial⟩ | exact trivial)
    (case' hN => rfl)
    (case' hS => rfl)
    all_goals (first | exact Ld | (rfl))
  · obtain rfl : k = bs.length := by omega
    rw [List.take_length]
    repeat' (first | ((first | apply Ba | (apply Bb; (· rfl); (· rfl)) | (apply Bc; (· exact nxE)) | (apply Bd; (· rfl); (· rfl); (· exact nxE))); (· first | exact Ok.lenD rfl rfl WN_len | exact Ok.lenD rfl rfl BN_len | exact Ok.pe)) | ((first | apply Ca | (apply Cb; (· exact nxE))); (· first | exact Ok.e0)) | refine Sx ?_ | (refine Sy (fun h => ?_) (fun h => ?_) <;> try (exfalso; omega; done)) | refine Sz (fun h => ?_) (fun h => ?_))
    refine Ya ?_
    (apply Le.headG [] [{ l := ⟨0, []⟩, k := 1, R := TR (bmT n bs), src := ⟨1, []⟩, base := ⟨1, []⟩ }] (fun _ => False))
    (case' hlen => rfl)
    (case' hms => rfl)
    all_goals (try dsimp only [srcs])
    (case' hfr | hob => (repeat' (first | refine La ?_ ?_ | exact Lc | refine Lo ?_ | refine ⟨⟨_, rfl, ?_⟩, ?_⟩ | refine Lx ?_)))
    (case' hok => first | exact ⟨MI.ok_same rfl (Cg), trivial⟩ | exact trivial)
    (case' hN => rfl)
    (case' hS => rfl)
    all_goals (first | exact Ld | (rfl))
set_option maxHeartbeats 4000000 in
theorem l23Matrix_ac [Mode] (n : Nat) (bs : List Bn) (hn : n ≤ 10) (hbl : bs.length ≤ 1000) (hb : ∀ b ∈ bs, bdB n b) : AC Try.prog 31 [I n, BNL bs] H0 (own1 1 n) (hpM 1 (TR (bmT n bs))) := by
  have hB := l02Bottom_ac n n (by omega) (by omega)
  refine AC.of_body 0 Try.func31 rfl (fun l h => absurd rfl h) (fun C hC => ?_)
  have hD : ∀ l, ¬ C.D0 l := fun l h => (hC l).1 h rfl
  simp only [startFr, Try.ntmps31, List.length_cons, List.length_nil, Nat.reduceAdd, Nat.reduceSub, List.replicate_succ, List.replicate_zero, List.cons_append, List.nil_append]
  repeat' (first | ((first | apply Ba | (apply Bb; (· rfl); (· rfl)) | (apply Bc; (· exact nxE)) | (apply Bd; (· rfl); (· rfl); (· exact nxE))); (· first | exact Ok.lenD rfl rfl WN_len | exact Ok.lenD rfl rfl BN_len | exact Tb rfl rfl (hB) (Sd (Sd Sn)) | exact Ok.pe)) | ((first | apply Ca | (apply Cb; (· exact nxE))); (· first | exact Tb rfl rfl (hB) (Sd (Sd Sn)) | exact Ok.e0)) | refine Sx ?_ | (refine Sy (fun h => ?_) (fun h => ?_) <;> try (exfalso; omega; done)) | refine Sz (fun h => ?_) (fun h => ?_))
  refine AW.loop (X := {k : Nat // k ≤ bs.length}) (fun k => ⟨[Oo, BNL bs, Oo, Oo, Oo, .own 1 ⟨1, []⟩ 0 n, I (k.1 : Nat), Oo, Oo, Oo, Oo, Oo, Oo, Oo, Oo, Oo, Oo, Oo, Oo, Oo, Oo, Oo, Oo, Oo, Oo, Oo, Oo, Oo, Oo, Oo, Oo, Oo, Oo, Oo, Oo, Oo, Oo, Oo, Oo, Oo, Oo, Oo], heapX [] [mi1 ⟨1, []⟩ (TR ((bs.take k.1).foldl bmS (botT n n)))], 900⟩) (fun k => bs.length - k.1) ⟨0, Nat.zero_le _⟩ ?_ (fun k => ?_)
  ·
    (apply Le.headG [] [{ l := ⟨1, []⟩, k := 1, R := TR (botT n n), src := ⟨3, [0]⟩, base := ⟨3, [0]⟩ }] (fun _ => False))
    (case' hlen => rfl)
    (case' hms => rfl)
    all_goals (try dsimp only [srcs])
    (case' hfr | hob => (repeat' (first | refine La ?_ ?_ | exact Lc | refine Lo ?_ | refine ⟨⟨_, rfl, ?_⟩, ?_⟩ | refine Lx ?_)))
    (case' hok => first | exact ⟨MI.ok_same rfl (Cg), trivial⟩ | exact trivial)
    (case' hN => rfl)
    (case' hS => rfl)
    all_goals (first | exact Ld | (rfl))
  obtain ⟨k, hk⟩ := k
  simp only
  by_cases hlt : k < bs.length
  · obtain ⟨b, hbk⟩ : ∃ b, bs[k]? = some b := ⟨bs[k], List.getElem?_eq_getElem hlt⟩
    have hrow : (bs.map Bn.row)[((k : Nat) : Int).toNat]? = some [DI b.f, DI b.t, DI b.l] := row_get hbk
    have hst : (bs.take (k + 1)).foldl bmS (botT n n) = bmS ((bs.take k).foldl bmS (botT n n)) b := take_fold hbk
    obtain ⟨⟨g1, g2⟩, ⟨g3, g4⟩, g5, g6⟩ := hb b (List.mem_of_getElem? hbk)
    have hsq : Sq ((bs.take k).foldl bmS (botT n n)) n := bm_sqF (Sq.bot n)
    generalize hT : (bs.take k).foldl bmS (botT n n) = T at hst hsq
    obtain ⟨bf, bt, bl⟩ := b
    rw [show bmS T ⟨bf, bt, bl⟩ = setT T bt.toNat bf.toNat (max (entN T bt.toNat bf.toNat) bl) from rfl] at hst
    simp only at g1 g2 g3 g4 g5 g6 hrow hst
    obtain ⟨f, rfl⟩ : ∃ f : Nat, bf = f := ⟨bf.toNat, by omega⟩
    obtain ⟨t, rfl⟩ : ∃ t : Nat, bt = t := ⟨bt.toNat, by omega⟩
    simp only [Int.toNat_natCast] at hst
    obtain ⟨r, hr1, hr2, hr3⟩ := hsq.get (show t < n by omega) (show f < n by omega)
    have hr1' : (TR T)[t]? = some (IR r) := by simp [hr1]
    have hRR : TR ((bs.take (k + 1)).foldl bmS (botT n n)) = (TR T).set t (IR (r.set f (max (entN T t f) bl))) := by rw [hst]; exact setT_TR hr1
    have hrl : (IR r).length = n := by rw [IR_len, hr3]
    have hrf : (IR r)[f]? = some [DI (entN T t f)] := by simp [hr2]
    repeat' (first | ((first | apply Ba | (apply Bb; (· rfl); (· rfl)) | (apply Bc; (· exact nxE)) | (apply Bd; (· rfl); (· rfl); (· exact nxE))); (· first | exact Ok.ldTn rfl rfl rfl hr1' hrl | exact Ok.ld1 rfl rfl (congrArg (Option.map (dobj 1)) hr1') hrf | exact Ok.lenD rfl rfl WN_len | exact Ok.lenD rfl rfl BN_len | exact Ok.st1 rfl rfl (congrArg (Option.map (dobj 1)) hr1') (by omega) (by rw [hrf]; rfl) rfl rfl IR_set | exact Ok.pe)) | ((first | apply Ca | (apply Cb; (· exact nxE))); (· first | exact Ok.st1 rfl rfl (congrArg (Option.map (dobj 1)) hr1') (by omega) (by rw [hrf]; rfl) rfl rfl IR_set | exact Ok.e0)) | refine Sx ?_ | (refine Sy (fun h => ?_) (fun h => ?_) <;> try (exfalso; omega; done)) | refine Sz (fun h => ?_) (fun h => ?_))
    refine ⟨⟨k + 1, by omega⟩, ?_, by simp only; omega⟩
    (apply Le.headG [] [{ l := ⟨1, []⟩, k := 1, R := TR ((bs.take (k + 1)).foldl bmS (botT n n)), src := ⟨1, []⟩, base := ⟨1, []⟩ }] (fun _ => False))
    (case' hlen => rfl)
    (case' hms => rfl)
    all_goals (try dsimp only [srcs])
    (case' hfr | hob => (repeat' (first | refine La ?_ ?_ | exact Lc | refine Lo ?_ | refine ⟨⟨_, rfl, ?_⟩, ?_⟩ | refine Lx ?_)))
    (case' hok => first | exact ⟨MI.ok_row (r0 := IR r) (r := IR (r.set f (max (entN T t f) bl))) hRR hr1' (by simp) rfl (Cg), trivial⟩ | exact trivial)
    (case' hN => rfl)
    (case' hS => rfl)
    all_goals (first | exact Ld | (rfl))
  · obtain rfl : k = bs.length := by omega
    rw [List.take_length]
    repeat' (first | ((first | apply Ba | (apply Bb; (· rfl); (· rfl)) | (apply Bc; (· exact nxE)) | (apply Bd; (· rfl); (· rfl); (· exact nxE))); (· first | exact Ok.lenD rfl rfl WN_len | exact Ok.lenD rfl rfl BN_len | exact Ok.pe)) | ((first | apply Ca | (apply Cb; (· exact nxE))); (· first | exact Ok.e0)) | refine Sx ?_ | (refine Sy (fun h => ?_) (fun h => ?_) <;> try (exfalso; omega; done)) | refine Sz (fun h => ?_) (fun h => ?_))
    refine Ya ?_
    (apply Le.headG [] [{ l := ⟨0, []⟩, k := 1, R := TR (bmT n bs), src := ⟨1, []⟩, base := ⟨1, []⟩ }] (fun _ => False))
    (case' hlen => rfl)
    (case' hms => rfl)
    all_goals (try dsimp only [srcs])
    (case' hfr | hob => (repeat' (first | refine La ?_ ?_ | exact Lc | refine Lo ?_ | refine ⟨⟨_, rfl, ?_⟩, ?_⟩ | refine Lx ?_)))
    (case' hok => first | exact ⟨MI.ok_same rfl (Cg), trivial⟩ | exact trivial)
    (case' hN => rfl)
    (case' hS => rfl)
    all_goals (first | exact Ld | (rfl))
end Go.Proofs.Ytkpoclbnnpglfaa
end

section
namespace Go.Proofs.Ytkpoclbnnpglfaa
set_option linter.unusedSimpArgs false
set_option linter.unusedVariables false

structure FWX (W : Nat → Nat → Int) (n : Nat) (M : Int) (k : Nat) (s : Nat → Nat → Int) : Prop where
  bnd : ∀ u v, u < n → v < n → s v u ≠ BOT → -(M * 2 ^ k) ≤ s v u ∧ s v u ≤ M * 2 ^ k
  dia : ∀ u, u < n → s u u ≠ BOT ∧ 0 ≤ s u u
  arc : ∀ u v, u < n → v < n → W v u ≠ BOT → s v u ≠ BOT ∧ W v u ≤ s v u
  tr : ∀ u m v, u < n → m < k → m < n → v < n → s m u ≠ BOT → s v m ≠ BOT → s v u ≠ BOT ∧ s m u + s v m ≤ s v u
section
variable {W : Nat → Nat → Int} {n : Nat} {M : Int}
theorem FWX.start (hM : 0 ≤ M) (hMb : M < 1000000000000000) (hW : ∀ u v, W v u ≠ BOT → -M ≤ W v u ∧ W v u ≤ M) : FWX W n M 0 (fun i j => max (W i j) (if i = j then 0 else BOT)) := by
  have hb : ∀ u v, W v u = BOT ∨ (-M ≤ W v u ∧ W v u ≤ M) := fun u v => by
    by_cases h : W v u = BOT
    · exact .inl h
    · exact .inr (hW u v h)
  refine ⟨fun u v _ _ h => ?_, fun u _ => ?_, fun u v _ _ h => ?_, fun u m v _ h => by omega⟩
  · rw [Int.pow_zero, Int.mul_one]
    have h1 := hb u v
    revert h
    unfold BOT at *
    split <;> omega
  · have h1 := hb u u
    simp only [if_true]
    unfold BOT at *
    omega
  · have h1 := hW u v h
    unfold BOT at *
    split <;> omega
variable {k : Nat} {s : Nat → Nat → Int}
theorem FWX.step (hM : 0 ≤ M) (hMb : M * 2 ^ (k + 1) < 1000000000000000) (hk : k < n) (h : FWX W n M k s) (hkk : s k k = 0) : FWX W n M (k + 1) (fwS s k) ∧ (∀ i, i < n → fwS s k i k = s i k) ∧ ∀ j, j < n → fwS s k k j = s k j := by
  have hpow : M * 2 ^ (k + 1) = M * 2 ^ k * 2 := by rw [Int.pow_succ, Int.mul_assoc]
  have hp0 : 0 ≤ M * 2 ^ k := Int.mul_nonneg hM (Int.pow_nonneg (by omega))
  obtain ⟨hb, hd, ha, ht⟩ := h
  generalize M * 2 ^ k = B at *
  rw [hpow] at hMb
  have hc : ∀ v u, u < n → v < n → s v u = BOT ∨ (s v u ≠ BOT ∧ -B ≤ s v u ∧ s v u ≤ B) := fun v u hu hv => by
    by_cases e : s v u = BOT
    · exact .inl e
    · exact .inr ⟨e, hb u v hu hv e⟩
  have g1 : ∀ v u, u < n → v < n → s v u ≠ BOT → fwS s k v u ≠ BOT ∧ s v u ≤ fwS s k v u := fun v u hu hv h => by
    have := hb u v hu hv h
    unfold fwS BOT at *
    omega
  have g2 : ∀ v u, u < n → v < n → s v k ≠ BOT → s k u ≠ BOT → fwS s k v u ≠ BOT ∧ s v k + s k u ≤ fwS s k v u := fun v u hu hv h1 h2 => by
    have a1 := hb k v hk hv h1
    have a2 := hb u k hu hk h2
    unfold fwS
    rw [timesB_ne h1 h2]
    unfold BOT at *
    omega
  have g3 : ∀ v u, u < n → v < n → fwS s k v u ≠ BOT → (s v u ≠ BOT ∧ fwS s k v u = s v u) ∨ (s v k ≠ BOT ∧ s k u ≠ BOT ∧ fwS s k v u = s v k + s k u) := fun v u hu hv h => by
    have a0 := hc v u hu hv
    by_cases h1 : s v k = BOT
    · have e : fwS s k v u = max (s v u) BOT := by unfold fwS timesB; rw [if_pos (.inl h1)]
      rw [e] at h ⊢
      left; unfold BOT at *; omega
    · by_cases h2 : s k u = BOT
      · have e : fwS s k v u = max (s v u) BOT := by unfold fwS timesB; rw [if_pos (.inr h2)]
        rw [e] at h ⊢
        left; unfold BOT at *; omega
      · have a1 := hb k v hk hv h1
        have a2 := hb u k hu hk h2
        have e : fwS s k v u = max (s v u) (s v k + s k u) := by unfold fwS; rw [timesB_ne h1 h2]
        rw [e] at h ⊢
        by_cases h3 : s v u = BOT
        · right; refine ⟨h1, h2, ?_⟩; unfold BOT at *; omega
        · by_cases h4 : s v k + s k u ≤ s v u
          · left; exact ⟨h3, by omega⟩
          · right; exact ⟨h1, h2, by omega⟩
  refine ⟨⟨fun u v hu hv h => ?_, fun u hu => ?_, fun u v hu hv h => ?_, fun u m v hu hm hmn hv h1 h2 => ?_⟩, fun i hi => ?_, fun j hj => ?_⟩
  · rw [hpow]
    rcases g3 v u hu hv h with ⟨a, e⟩ | ⟨a, b, e⟩
    · have := hb u v hu hv a; omega
    · have := hb k v hk hv a
      have := hb u k hu hk b
      omega
  · obtain ⟨a, b⟩ := hd u hu
    have := g1 u u hu hu a
    exact ⟨this.1, by omega⟩
  · obtain ⟨a, b⟩ := ha u v hu hv h
    have := g1 v u hu hv a
    exact ⟨this.1, by omega⟩
  · by_cases e : m = k
    · subst e
      have e1 : fwS s m m u = s m u := by unfold fwS; rw [hkk, timesB_0']; omega
      have e2 : fwS s m v m = s v m := by unfold fwS; rw [hkk, timesB_0]; omega
      rw [e1] at h1 ⊢
      rw [e2] at h2 ⊢
      have := g2 v u hu hv h2 h1
      exact ⟨this.1, by omega⟩
    · have ih := fun u v hu hv => ht u m v hu (by omega) hmn hv
      rcases g3 m u hu hmn h1 with ⟨a, ea⟩ | ⟨a, a', ea⟩ <;> rcases g3 v m hmn hv h2 with ⟨b, eb⟩ | ⟨b, b', eb⟩
      · obtain ⟨i1, i2⟩ := ih u v hu hv a b
        have := g1 v u hu hv i1
        exact ⟨this.1, by omega⟩
      · obtain ⟨i1, i2⟩ := ih u k hu hk a b'
        have := g2 v u hu hv b i1
        exact ⟨this.1, by omega⟩
      · obtain ⟨i1, i2⟩ := ih k v hk hv a b
        have := g2 v u hu hv i1 a'
        exact ⟨this.1, by omega⟩
      · obtain ⟨i1, i2⟩ := ih k k hk hk a b'
        have := g2 v u hu hv b a'
        exact ⟨this.1, by omega⟩
  · unfold fwS; rw [hkk, timesB_0]; omega
  · unfold fwS; rw [hkk, timesB_0']; omega
theorem FWX.walk (h : FWX W n M n s) : ∀ (c : List Nat) (u v : Nat), u < n → v < n → (∀ x ∈ c, x < n) → WM W u c v → s v u ≠ BOT ∧ wM W u c v ≤ s v u
  | [], u, v, hu, hv, _, hw => h.arc u v hu hv hw
  | m :: c, u, v, hu, hv, hc, hw => by
    have hm := hc m (by simp)
    obtain ⟨a1, a2⟩ := h.arc u m hu hm hw.1
    obtain ⟨b1, b2⟩ := h.walk c m v hm hv (fun x hx => hc x (by simp [hx])) hw.2
    obtain ⟨c1, c2⟩ := h.tr u m v hu hm hm hv a1 b1
    exact ⟨c1, by simp only [wM]; omega⟩
/-- Where no diagonal is positive there is no positive cycle. -/
theorem FWX.np (h : FWX W n M n s) (h0 : ∀ u, u < n → s u u ≤ 0) : NoPos W n := fun u c hu hc hw => by
  have := h.walk c u u hu hu hc hw
  have := h0 u hu
  omega
/-- Powers that stay as they are: there is no positive cycle. -/
theorem powS_np {x : Nat → Nat → Int} (hx : ∀ u v, u < n → v < n → powS W n x v u = x v u) (hb : ∀ u v, u < n → v < n → x v u = BOT ∨ (-400000000000000 ≤ x v u ∧ x v u ≤ 400000000000000)) (hW : ∀ u v, W v u ≠ BOT → -100000000000 ≤ W v u ∧ W v u ≤ 100000000000) : NoPos W n := by
  have hge : ∀ u v q, u < n → v < n → q < n → W v q ≠ BOT → x q u ≠ BOT → x v u ≠ BOT ∧ W v q + x q u ≤ x v u := fun u v q hu hv hq h1 h2 => by
    have e := hx u v hu hv
    have g : timesB (W v q) (x q u) ≤ maxN (fun k => timesB (W v k) (x k u)) n := maxN_ge (f := fun k => timesB (W v k) (x k u)) hq
    rw [timesB_ne h1 h2] at g
    unfold powS at e
    have w1 := hW q v h1
    have w2 := (hb u q hu hq).resolve_left h2
    have : W v q + x q u ≤ x v u := by rw [← e]; omega
    refine ⟨?_, this⟩
    unfold BOT at *
    omega
  have key : ∀ (c : List Nat) (a u v : Nat), u < n → a < n → v < n → (∀ y ∈ c, y < n) → WM W a c v → x a u ≠ BOT → x v u ≠ BOT ∧ wM W a c v + x a u ≤ x v u := by
    intro c
    induction c with
    | nil => intro a u v hu ha hv _ hw h; exact hge u v a hu hv ha hw h
    | cons m c ih =>
      intro a u v hu ha hv hc hw h
      have hm := hc m (by simp)
      obtain ⟨a1, a2⟩ := hge u m a hu hm ha hw.1 h
      obtain ⟨b1, b2⟩ := ih m u v hu hm hv (fun y hy => hc y (by simp [hy])) hw.2 a1
      exact ⟨b1, by simp only [wM]; omega⟩
  intro u c hu hc hw
  have e := hx u u hu hu
  have h0 : x u u ≠ BOT := by
    unfold powS unitF at e
    simp only [if_true] at e
    unfold BOT
    omega
  have := (key c u u u hu hu hu hc hw h0).2
  omega
end
end Go.Proofs.Ytkpoclbnnpglfaa
end
