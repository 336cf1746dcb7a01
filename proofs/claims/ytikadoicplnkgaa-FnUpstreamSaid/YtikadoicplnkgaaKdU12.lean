/-
  Walks in the abstract reading, part 12.
-/
import Derived.Test.YtikadoicplnkgaaKdU11
section
namespace Go.Proofs.Ytikadoicplnkgaa
set_option linter.unusedSimpArgs false
set_option linter.unusedVariables false
open Go Go.RowKit
attribute [local irreducible] AL AD AW OpOk Le AC thenQ blockQ EndQ

def mixW (f g : Nat → Nat → Bool) (K J : Nat) : Nat → Nat → Bool := fun a b => if a < K ∨ (a = K ∧ b < J) then f a b else g a b
def zzW : Nat → Nat → Bool := fun _ _ => false
theorem brF_congr {n : Nat} {f g : Nat → Bool} (h : ∀ j, j < n → f j = g j) : brF n f = brF n g := List.map_congr_left fun j hj => by rw [h j (List.mem_range.1 hj)]
theorem btF_congr {m n : Nat} {f g : Nat → Nat → Bool} (h : ∀ i j, i < m → j < n → f i j = g i j) : btF m n f = btF m n g := List.map_congr_left fun i hi => brF_congr fun j hj => h i j (List.mem_range.1 hi) hj
theorem mixW_0 {f g : Nat → Nat → Bool} {m n : Nat} : btF m n (mixW f g 0 0) = btF m n g := btF_congr fun i j _ _ => by simp [mixW]
theorem mixW_row {f g : Nat → Nat → Bool} {m n K : Nat} : btF m n (mixW f g K n) = btF m n (mixW f g (K + 1) 0) := btF_congr fun i j _ hj => by
  unfold mixW
  by_cases h : i < K ∨ (i = K ∧ j < n)
  · rw [if_pos h, if_pos (by omega)]
  · rw [if_neg h, if_neg (by omega)]
theorem mixW_all {f g : Nat → Nat → Bool} {m n : Nat} : btF m n (mixW f g m 0) = btF m n f := btF_congr fun i j hi _ => by simp [mixW, hi]
theorem mixW_set {f g : Nat → Nat → Bool} {K J a b : Nat} : mixW f g K (J + 1) a b = if a = K ∧ b = J then f K J else mixW f g K J a b := by
  unfold mixW
  by_cases h : a = K ∧ b = J
  · obtain ⟨rfl, rfl⟩ := h; simp
  · rw [if_neg h]
    by_cases h2 : a < K ∨ (a = K ∧ b < J)
    · rw [if_pos h2, if_pos (by omega)]
    · rw [if_neg h2, if_neg (by omega)]
theorem mixW_at {f g : Nat → Nat → Bool} {i j : Nat} : mixW f g i j i j = g i j := by simp [mixW]
/-- One row of truth values written. -/
theorem btF_setT {m n i : Nat} {F F' : Nat → Nat → Bool} (h : ∀ a b, a ≠ i → F' a b = F a b) : btF m n F' = (btF m n F).set i (brF n (F' i)) := by
  apply List.ext_getElem?
  intro a
  rw [List.getElem?_set]
  by_cases ha : a < m
  · rw [btF_get ha]
    by_cases e : i = a
    · subst e; rw [if_pos rfl, if_pos (by rw [btF_len]; exact ha)]
    · rw [if_neg e, btF_get ha]
      congr 1
      exact brF_congr fun b _ => h a b (fun h => e h.symm)
  · rw [List.getElem?_eq_none (by rw [btF_len]; omega)]
    split
    · rw [if_neg (by rw [btF_len]; omega)]
    · rw [List.getElem?_eq_none (by rw [btF_len]; omega)]
theorem zzW_snoc {f : Nat → Nat → Bool} {i n : Nat} : btF (i + 1) n (mixW f zzW i 0) = btF i n (mixW f zzW i 0) ++ [List.replicate n [DB false]] := by
  rw [btF_succ, brF_0]
  congr 2
  exact brF_congr fun j _ => by simp [mixW, zzW]
theorem mixW_step {f g : Nat → Nat → Bool} {i j n : Nat} {v : Bool} (h : f i j = v) : (brF n (mixW f g i j i)).set j [DB v] = brF n (mixW f g i (j + 1) i) := by
  subst h
  exact brF_set fun b => by
    rw [mixW_set]
    by_cases e : b = j
    · subst e; simp
    · rw [if_neg (fun h => e h.2), if_neg e]
theorem mixW_other {f g : Nat → Nat → Bool} {i j a b : Nat} (h : a ≠ i) : mixW f g i (j + 1) a b = mixW f g i j a b := by rw [mixW_set, if_neg (fun h' => h h'.1)]
set_option maxHeartbeats 8000000 in
theorem reaching_ac (T : List (List Int)) (n : Nat) (hT : Sq T n) (hn : n ≤ 1000) : AC Try.prog 99 [TL T] H0 (own1 1 n) (hpM 1 (btF n n (wsB (entN T) n))) := by
  have htl := hT.l
  have hsg := fun i j (hi : i < n) (hj : j < n) => hT.get hi hj
  have hlen : (mRows 1 (TR T)).length = n := by rw [mTR_len, htl]
  have hE : ∀ i j, wsE (entN T) i j = (decide (i = j) || decide (entN T j i ≠ BOT)) := fun _ _ => rfl
  have hstp : ∀ k, wsB (entN T) (k + 1) = fun u v => wsB (entN T) k u v || (wsB (entN T) k u k && wsB (entN T) k k v) := fun _ => rfl
  have hcol := fun k u => wsB_col (W := entN T) (k := k) (u := u)
  have hrowk := fun k u => wsB_row (W := entN T) (k := k) (v := u)
  have hw0 : wsB (entN T) 0 = wsE (entN T) := rfl
  generalize entN T = a at *
  generalize wsB a = B at *
  generalize wsE a = E0 at *
  refine AC.of_body 0 Try.func99 rfl (fun l h => absurd rfl h) (fun C hC => ?_)
  have hD : ∀ l, ¬ C.D0 l := fun l h => (hC l).1 h rfl
  simp only [startFr, Try.ntmps99, List.length_cons, List.length_nil, Nat.reduceAdd, Nat.reduceSub, List.replicate_succ, List.replicate_zero, List.cons_append, List.nil_append]
  repeat' (first | ((first | apply Ba | (apply Bb; (· rfl); (· rfl)) | (apply Bc; (· exact nxE)) | (apply Bd; (· rfl); (· rfl); (· exact nxE))); (· first | exact Ok.lenD rfl rfl hlen | exact Ok.pe)) | ((first | apply Ca | (apply Cb; (· exact nxE))); (· first | exact Ok.e0)) | refine Sx ?_ | (refine Sy (fun h => ?_) (fun h => ?_) <;> try (exfalso; omega; done)) | refine Sz (fun h => ?_) (fun h => ?_))
  refine AW.loop (X := {k : Nat // k ≤ n}) (fun k => ⟨[TL T, Oo, Oo, I n, .own 1 ⟨1, []⟩ 0 n, Oo, Oo, Oo, Oo, Oo, Oo, Oo, Oo, Oo, Oo, I n, I (k.1 : Nat), Oo, Oo, Oo, Oo, Oo, Oo, Oo, Oo, Oo, Oo, Oo, Oo, Oo, Oo, Oo, Oo, Oo, Oo, Oo, Oo, Oo, Oo, Oo, Oo, Oo, Oo, Oo, Oo, Oo, Oo, Oo, Oo, Oo, Oo, Oo, Oo, Oo, Oo, Oo, Oo, Oo, Oo, Oo, Oo, Oo, Oo, Oo, Oo, Oo, Oo, Oo, Oo, Oo, Oo, Oo, Oo, Oo, Oo, Oo, Oo, Oo, Oo, Oo, Oo, Oo, Oo, Oo, Oo, Oo, Oo, Oo, Oo, Oo, Oo, Oo, Oo, Oo, Oo, Oo], heapX [] [{ l := ⟨1, []⟩, k := 1, R := btF k.1 n (mixW E0 zzW k.1 0), nils := n - k.1, src := ⟨1, []⟩, base := ⟨1, []⟩ }], 900⟩) (fun k => n - k.1) ⟨0, Nat.zero_le _⟩ ?_ (fun k => ?_)
  ·
    (apply Le.headG [] [{ l := ⟨1, []⟩, k := 1, R := [], nils := n, src := ⟨5, []⟩, base := ⟨5, []⟩ }] (fun _ => False))
    (case' hlen => rfl)
    (case' hms => rfl)
    all_goals (try dsimp only [srcs])
    (case' hfr | hob => (repeat' (first | refine La ?_ ?_ | exact Lc | refine Lo ?_ | refine ⟨⟨_, rfl, ?_⟩, ?_⟩ | refine Lx ?_)))
    (case' hok => first | exact ⟨MI.ok_make rfl, trivial⟩ | exact trivial)
    (case' hN => rfl)
    (case' hS => rfl)
    all_goals (first | exact Ld | (rfl))
  obtain ⟨i, hi⟩ := k
  simp only
  by_cases hlt : i < n
  case neg =>
    obtain rfl : i = n := by omega
    rw [Nat.sub_self, mixW_all, ← hw0]
    repeat' (first | ((first | apply Ba | (apply Bb; (· rfl); (· rfl)) | (apply Bc; (· exact nxE)) | (apply Bd; (· rfl); (· rfl); (· exact nxE))); (· first | exact Ok.pe)) | ((first | apply Ca | (apply Cb; (· exact nxE))); (· first | exact Ok.e0)) | refine Sx ?_ | (refine Sy (fun h => ?_) (fun h => ?_) <;> try (exfalso; omega; done)) | refine Sz (fun h => ?_) (fun h => ?_))
    refine AW.loop (X := {k : Nat // k ≤ i}) (fun k => ⟨[Oo, Oo, Oo, I i, .own 1 ⟨1, []⟩ 0 i, Oo, Oo, Oo, Oo, Oo, Oo, Oo, Oo, Oo, Oo, Oo, Oo, Oo, Oo, Oo, Oo, Oo, Oo, Oo, Oo, Oo, Oo, Oo, Oo, Oo, Oo, Oo, Oo, Oo, Oo, Oo, Oo, Oo, Oo, Oo, Oo, Oo, Oo, Oo, Oo, Oo, Oo, Oo, Oo, I i, I (k.1 : Nat), Oo, Oo, Oo, Oo, Oo, Oo, Oo, Oo, Oo, Oo, Oo, Oo, Oo, Oo, Oo, Oo, Oo, Oo, Oo, Oo, Oo, Oo, Oo, Oo, Oo, Oo, Oo, Oo, Oo, Oo, Oo, Oo, Oo, Oo, Oo, Oo, Oo, Oo, Oo, Oo, Oo, Oo, Oo, Oo, Oo], heapX [] [mi1 ⟨1, []⟩ (btF i i (B k.1))], 900⟩) (fun k => i - k.1) ⟨0, Nat.zero_le _⟩ ?_ (fun k => ?_)
    ·
      (apply Le.headG [] [mi1 ⟨1, []⟩ (btF i i (B 0))] (fun _ => False))
      (case' hlen => rfl)
      (case' hms => rfl)
      all_goals (try dsimp only [srcs])
      (case' hfr | hob => (repeat' (first | refine La ?_ ?_ | exact Lc | refine Lo ?_ | refine ⟨⟨_, rfl, ?_⟩, ?_⟩ | refine Lx ?_)))
      (case' hok => first | exact ⟨MI.ok_same rfl (Cg), trivial⟩ | exact trivial)
      (case' hN => rfl)
      (case' hS => rfl)
      all_goals (first | exact Ld | (rfl))
    obtain ⟨c, hk⟩ := k
    simp only
    by_cases hltk : c < i
    case neg =>
      obtain rfl : c = i := by omega
      repeat' (first | ((first | apply Ba | (apply Bb; (· rfl); (· rfl)) | (apply Bc; (· exact nxE)) | (apply Bd; (· rfl); (· rfl); (· exact nxE))); (· first | exact Ok.pe)) | ((first | apply Ca | (apply Cb; (· exact nxE))); (· first | exact Ok.e0)) | refine Sx ?_ | (refine Sy (fun h => ?_) (fun h => ?_) <;> try (exfalso; omega; done)) | refine Sz (fun h => ?_) (fun h => ?_))
      refine Ya ?_
      (apply Le.headG [] [{ l := ⟨0, []⟩, k := 1, R := btF c c (B c), src := ⟨1, []⟩, base := ⟨1, []⟩ }] (fun _ => False))
      (case' hlen => rfl)
      (case' hms => rfl)
      all_goals (try dsimp only [srcs])
      (case' hfr | hob => (repeat' (first | refine La ?_ ?_ | exact Lc | refine Lo ?_ | refine ⟨⟨_, rfl, ?_⟩, ?_⟩ | refine Lx ?_)))
      (case' hok => first | exact ⟨MI.ok_same rfl (Cg), trivial⟩ | exact trivial)
      (case' hN => rfl)
      (case' hS => rfl)
      all_goals (first | exact Ld | (rfl))
    have hst := hstp c
    have hco := hcol c
    have hro := hrowk c
    generalize hP' : B (c + 1) = P' at hst hco hro
    generalize hP : B c = P at *
    repeat' (first | ((first | apply Ba | (apply Bb; (· rfl); (· rfl)) | (apply Bc; (· exact nxE)) | (apply Bd; (· rfl); (· rfl); (· exact nxE))); (· first | exact Ok.pe)) | ((first | apply Ca | (apply Cb; (· exact nxE))); (· first | exact Ok.e0)) | refine Sx ?_ | (refine Sy (fun h => ?_) (fun h => ?_) <;> try (exfalso; omega; done)) | refine Sz (fun h => ?_) (fun h => ?_))
    refine AW.loop (X := {k : Nat // k ≤ i}) (fun k => ⟨[Oo, Oo, Oo, I i, .own 1 ⟨1, []⟩ 0 i, Oo, Oo, I c, Oo, Oo, Oo, Oo, Oo, Oo, Oo, Oo, Oo, Oo, Oo, Oo, Oo, Oo, Oo, Oo, Oo, Oo, Oo, Oo, Oo, Oo, Oo, Oo, Oo, Oo, Oo, Oo, Oo, Oo, Oo, Oo, Oo, Oo, Oo, Oo, Oo, Oo, Oo, Oo, Oo, I i, I c, Oo, Oo, I i, I (k.1 : Nat), Oo, Oo, Oo, Oo, Oo, Oo, Oo, Oo, Oo, Oo, Oo, Oo, Oo, Oo, Oo, Oo, Oo, Oo, Oo, Oo, Oo, Oo, Oo, Oo, Oo, Oo, Oo, Oo, Oo, Oo, Oo, Oo, Oo, Oo, Oo, Oo, Oo, Oo, Oo, Oo, Oo], heapX [] [mi1 ⟨1, []⟩ (btF i i (mixW P' P k.1 0))], 900⟩) (fun k => i - k.1) ⟨0, Nat.zero_le _⟩ ?_ (fun k => ?_)
    ·
      (apply Le.headG [] [mi1 ⟨1, []⟩ (btF i i (mixW P' P 0 0))] (fun _ => False))
      (case' hlen => rfl)
      (case' hms => rfl)
      all_goals (try dsimp only [srcs])
      (case' hfr | hob => (repeat' (first | refine La ?_ ?_ | exact Lc | refine Lo ?_ | refine ⟨⟨_, rfl, ?_⟩, ?_⟩ | refine Lx ?_)))
      (case' hok => first | exact ⟨by rw [mixW_0]; exact MI.ok_same rfl (Cg), trivial⟩ | exact trivial)
      (case' hN => rfl)
      (case' hS => rfl)
      all_goals (first | exact Ld | (rfl))
    obtain ⟨u, hu⟩ := k
    simp only
    by_cases hltu : u < i
    case neg =>
      obtain rfl : u = i := by omega
      rw [mixW_all]
      repeat' (first | ((first | apply Ba | (apply Bb; (· rfl); (· rfl)) | (apply Bc; (· exact nxE)) | (apply Bd; (· rfl); (· rfl); (· exact nxE))); (· first | exact Ok.pe)) | ((first | apply Ca | (apply Cb; (· exact nxE))); (· first | exact Ok.e0)) | refine Sx ?_ | (refine Sy (fun h => ?_) (fun h => ?_) <;> try (exfalso; omega; done)) | refine Sz (fun h => ?_) (fun h => ?_))
      refine ⟨⟨c + 1, by omega⟩, ?_, by simp only; omega⟩
      simp only [hP']
      (apply Le.headG [] [mi1 ⟨1, []⟩ (btF u u P')] (fun _ => False))
      (case' hlen => rfl)
      (case' hms => rfl)
      all_goals (try dsimp only [srcs])
      (case' hfr | hob => (repeat' (first | refine La ?_ ?_ | exact Lc | refine Lo ?_ | refine ⟨⟨_, rfl, ?_⟩, ?_⟩ | refine Lx ?_)))
      (case' hok => first | exact ⟨MI.ok_same rfl (Cg), trivial⟩ | exact trivial)
      (case' hN => rfl)
      (case' hS => rfl)
      all_goals (first | exact Ld | (rfl))
    repeat' (first | ((first | apply Ba | (apply Bb; (· rfl); (· rfl)) | (apply Bc; (· exact nxE)) | (apply Bd; (· rfl); (· rfl); (· exact nxE))); (· first | exact Ok.pe)) | ((first | apply Ca | (apply Cb; (· exact nxE))); (· first | exact Ok.e0)) | refine Sx ?_ | (refine Sy (fun h => ?_) (fun h => ?_) <;> try (exfalso; omega; done)) | refine Sz (fun h => ?_) (fun h => ?_))
    refine AW.loop (X := {k : Nat // k ≤ i}) (fun k => ⟨[Oo, Oo, Oo, I i, .own 1 ⟨1, []⟩ 0 i, Oo, Oo, I c, I u, Oo, Oo, Oo, Oo, Oo, Oo, Oo, Oo, Oo, Oo, Oo, Oo, Oo, Oo, Oo, Oo, Oo, Oo, Oo, Oo, Oo, Oo, Oo, Oo, Oo, Oo, Oo, Oo, Oo, Oo, Oo, Oo, Oo, Oo, Oo, Oo, Oo, Oo, Oo, Oo, I i, I c, Oo, Oo, I i, I u, Oo, Oo, I i, I (k.1 : Nat), Oo, Oo, Oo, Oo, Oo, Oo, Oo, Oo, Oo, Oo, Oo, Oo, Oo, Oo, Oo, Oo, Oo, Oo, Oo, Oo, Oo, Oo, Oo, Oo, Oo, Oo, Oo, Oo, Oo, Oo, Oo, Oo, Oo, Oo, Oo, Oo, Oo], heapX [] [mi1 ⟨1, []⟩ (btF i i (mixW P' P u k.1))], 900⟩) (fun k => i - k.1) ⟨0, Nat.zero_le _⟩ ?_ (fun k => ?_)
    ·
      (apply Le.headG [] [mi1 ⟨1, []⟩ (btF i i (mixW P' P u 0))] (fun _ => False))
      (case' hlen => rfl)
      (case' hms => rfl)
      all_goals (try dsimp only [srcs])
      (case' hfr | hob => (repeat' (first | refine La ?_ ?_ | exact Lc | refine Lo ?_ | refine ⟨⟨_, rfl, ?_⟩, ?_⟩ | refine Lx ?_)))
      (case' hok => first | exact ⟨MI.ok_same rfl (Cg), trivial⟩ | exact trivial)
      (case' hN => rfl)
      (case' hS => rfl)
      all_goals (first | exact Ld | (rfl))
    obtain ⟨v, hv⟩ := k
    simp only
    by_cases hltv : v < i
    case neg =>
      obtain rfl : v = i := by omega
      rw [mixW_row]
      repeat' (first | ((first | apply Ba | (apply Bb; (· rfl); (· rfl)) | (apply Bc; (· exact nxE)) | (apply Bd; (· rfl); (· rfl); (· exact nxE))); (· first | exact Ok.pe)) | ((first | apply Ca | (apply Cb; (· exact nxE))); (· first | exact Ok.e0)) | refine Sx ?_ | (refine Sy (fun h => ?_) (fun h => ?_) <;> try (exfalso; omega; done)) | refine Sz (fun h => ?_) (fun h => ?_))
      refine ⟨⟨u + 1, by omega⟩, ?_, by simp only; omega⟩
      (apply Le.headG [] [mi1 ⟨1, []⟩ (btF v v (mixW P' P (u + 1) 0))] (fun _ => False))
      (case' hlen => rfl)
      (case' hms => rfl)
      all_goals (try dsimp only [srcs])
      (case' hfr | hob => (repeat' (first | refine La ?_ ?_ | exact Lc | refine Lo ?_ | refine ⟨⟨_, rfl, ?_⟩, ?_⟩ | refine Lx ?_)))
      (case' hok => first | exact ⟨MI.ok_same rfl (Cg), trivial⟩ | exact trivial)
      (case' hN => rfl)
      (case' hS => rfl)
      all_goals (first | exact Ld | (rfl))
    have huv : mixW P' P u v u v = P u v := mixW_at
    have huk : mixW P' P u v u c = P u c := by unfold mixW; split; exact hco u; rfl
    have hkv : mixW P' P u v c v = P c v := by unfold mixW; split; exact hro v; rfl
    have hval : P' u v = (P u v || (P u c && P c v)) := by rw [hst]
    have hri := btF_get (n := i) (F := mixW P' P u v) hltu
    have hrk := btF_get (n := i) (F := mixW P' P u v) hltk
    have hil : (brF i (mixW P' P u v u)).length = i := brF_len
    have hkl : (brF i (mixW P' P u v c)).length = i := brF_len
    have h1 := brF_get (g := mixW P' P u v u) hltv
    have h2 := brF_get (g := mixW P' P u v u) hltk
    have h3 := brF_get (g := mixW P' P u v c) hltv
    have hset := fun y (h : P' u v = y) => mixW_step (g := P) (n := i) (j := v) h
    rw [huv] at h1
    rw [huk] at h2
    rw [hkv] at h3
    generalize P u v = x at *
    generalize P u c = y at *
    generalize P c v = z at *
    have hset := hset _ hval
    have hcs : x = true ∨ (x = false ∧ y = false) ∨ (x = false ∧ y = true) := by cases x <;> cases y <;> simp
    rcases hcs with rfl | ⟨rfl, rfl⟩ | ⟨rfl, rfl⟩ <;> simp only [Bool.true_or, Bool.false_or, Bool.and_false, Bool.and_true, Bool.true_and, Bool.false_and, Bool.or_self] at hset
    all_goals
      repeat' (first | ((first | apply Ba | (apply Bb; (· rfl); (· rfl)) | (apply Bc; (· exact nxE)) | (apply Bd; (· rfl); (· rfl); (· exact nxE))); (· first | exact Ok.ldTn rfl rfl rfl hri hil | exact Ok.ldTn rfl rfl rfl hrk hkl | exact Ok.ld1 rfl rfl (congrArg (Option.map (dobj 1)) hri) h1 | exact Ok.ld1 rfl rfl (congrArg (Option.map (dobj 1)) hri) h2 | exact Ok.ld1 rfl rfl (congrArg (Option.map (dobj 1)) hrk) h3 | exact Ok.st1 rfl rfl (congrArg (Option.map (dobj 1)) hri) (by rw [brF_len]; exact hltv) (by rw [h1]; rfl) rfl rfl hset | exact Ok.pe)) | ((first | apply Ca | (apply Cb; (· exact nxE))); (· first | exact Ok.st1 rfl rfl (congrArg (Option.map (dobj 1)) hri) (by rw [brF_len]; exact hltv) (by rw [h1]; rfl) rfl rfl hset | exact Ok.e0)) | refine Sx ?_ | (refine Sy (fun h => ?_) (fun h => ?_) <;> try (exfalso; omega; done)) | refine Sz (fun h => ?_) (fun h => ?_))
      refine ⟨⟨v + 1, by omega⟩, ?_, by simp only; omega⟩
      (apply Le.headG [] [mi1 ⟨1, []⟩ (btF i i (mixW P' P u (v + 1)))] (fun _ => False))
      (case' hlen => rfl)
      (case' hms => rfl)
      all_goals (try dsimp only [srcs])
      (case' hfr | hob => (repeat' (first | refine La ?_ ?_ | exact Lc | refine Lo ?_ | refine ⟨⟨_, rfl, ?_⟩, ?_⟩ | refine Lx ?_)))
      (case' hok => first | exact ⟨MI.ok_row (btF_setT fun a b h => mixW_other h) hri (by rw [brF_len, brF_len]) rfl (Cg), trivial⟩ | exact trivial)
      (case' hN => rfl)
      (case' hS => rfl)
      all_goals (first | exact Ld | (rfl))
  have hti : (btF i n (mixW E0 zzW i 0)).length = i := btF_len
  rw [show n - i = (n - (i + 1)) + 1 by omega]
  repeat' (first | ((first | apply Ba | (apply Bb; (· rfl); (· rfl)) | (apply Bc; (· exact nxE)) | (apply Bd; (· rfl); (· rfl); (· exact nxE))); (· first | exact OpOk.loadCell rfl rfl rfl rfl (set_at (by simp only [outer_len]; rw [hti]; omega)) rfl | exact Ok.stT rfl rfl rfl (by dsimp only; rw [hti]; omega) rfl | exact Ok.pe)) | ((first | apply Ca | (apply Cb; (· exact nxE))); (· first | exact Ok.stT rfl rfl rfl (by dsimp only; rw [hti]; omega) rfl | exact Ok.e0)) | refine Sx ?_ | (refine Sy (fun h => ?_) (fun h => ?_) <;> try (exfalso; omega; done)) | refine Sz (fun h => ?_) (fun h => ?_))
  refine AW.loop (X := {k : Nat // k ≤ n}) (fun k => ⟨[TL T, Oo, Oo, I n, .own 1 ⟨1, []⟩ 0 n, I i, Oo, Oo, Oo, Oo, Oo, Oo, Oo, Oo, Oo, I n, I i, Oo, Oo, Oo, Oo, Oo, Oo, Oo, I n, I (k.1 : Nat), Oo, Oo, Oo, Oo, Oo, Oo, Oo, Oo, Oo, Oo, Oo, Oo, Oo, Oo, Oo, Oo, Oo, Oo, Oo, Oo, Oo, Oo, Oo, Oo, Oo, Oo, Oo, Oo, Oo, Oo, Oo, Oo, Oo, Oo, Oo, Oo, Oo, Oo, Oo, Oo, Oo, Oo, Oo, Oo, Oo, Oo, Oo, Oo, Oo, Oo, Oo, Oo, Oo, Oo, Oo, Oo, Oo, Oo, Oo, Oo, Oo, Oo, Oo, Oo, Oo, Oo, Oo, Oo, Oo, Oo], heapX [] [{ l := ⟨1, []⟩, k := 1, R := btF (i + 1) n (mixW E0 zzW i k.1), nils := n - (i + 1), src := ⟨1, []⟩, base := ⟨1, []⟩ }], 900⟩) (fun k => n - k.1) ⟨0, Nat.zero_le _⟩ ?_ (fun k => ?_)
  ·
    (apply Le.headG [] [{ l := ⟨1, []⟩, k := 1, R := btF (i + 1) n (mixW E0 zzW i 0), nils := n - (i + 1), src := ⟨1, []⟩, base := ⟨1, []⟩, cut := i, ext := some ⟨906, []⟩ }] (fun _ => False))
    (case' hlen => rfl)
    (case' hms => rfl)
    all_goals (try dsimp only [srcs])
    (case' hfr | hob => (repeat' (first | refine La ?_ ?_ | exact Lc | refine Lo ?_ | refine ⟨⟨_, rfl, ?_⟩, ?_⟩ | refine Lx ?_)))
    (case' hok => first | exact ⟨MI.ok_fill (r := List.replicate n [DB false]) zzW_snoc hti (by simp) rfl (Cg) rfl, trivial⟩ | exact trivial)
    (case' hN => rfl)
    (case' hS => rfl)
    all_goals (first | exact Ld | ((first | (simp [AllP, btF_len]; done) | (simp [AllP, btF_len]; omega))))
  obtain ⟨j, hj⟩ := k
  simp only
  by_cases hlt2 : j < n
  case neg =>
    have hjn : j = n := by omega
    subst hjn
    rw [mixW_row]
    repeat' (first | ((first | apply Ba | (apply Bb; (· rfl); (· rfl)) | (apply Bc; (· exact nxE)) | (apply Bd; (· rfl); (· rfl); (· exact nxE))); (· first | exact Ok.pe)) | ((first | apply Ca | (apply Cb; (· exact nxE))); (· first | exact Ok.e0)) | refine Sx ?_ | (refine Sy (fun h => ?_) (fun h => ?_) <;> try (exfalso; omega; done)) | refine Sz (fun h => ?_) (fun h => ?_))
    refine ⟨⟨i + 1, by omega⟩, ?_, by simp only; omega⟩
    (apply Le.headG [] [{ l := ⟨1, []⟩, k := 1, R := btF (i + 1) j (mixW E0 zzW (i + 1) 0), nils := j - (i + 1), src := ⟨1, []⟩, base := ⟨1, []⟩ }] (fun _ => False))
    (case' hlen => rfl)
    (case' hms => rfl)
    all_goals (try dsimp only [srcs])
    (case' hfr | hob => (repeat' (first | refine La ?_ ?_ | exact Lc | refine Lo ?_ | refine ⟨⟨_, rfl, ?_⟩, ?_⟩ | refine Lx ?_)))
    (case' hok => first | exact ⟨MI.ok_same rfl (Cg), trivial⟩ | exact trivial)
    (case' hN => rfl)
    (case' hS => rfl)
    all_goals (first | exact Ld | (rfl))
  obtain ⟨r, q1, q2, q3⟩ := hsg j i hlt2 hlt
  have hqr := TR_get q1
  have hqf := IR_get q2
  have hval := hE i j
  have hri := btF_get (n := n) (F := mixW E0 zzW i j) (show i < i + 1 by omega)
  have hil : (brF n (mixW E0 zzW i j i)).length = n := brF_len
  have h1 := brF_get (g := mixW E0 zzW i j i) hlt2
  have hset := fun y (h : E0 i j = y) => mixW_step (g := zzW) (n := n) (j := j) h
  generalize a j i = x at *
  by_cases hij : i = j
  · have hset := hset true (by rw [hval, decide_eq_true hij]; rfl)
    repeat' (first | ((first | apply Ba | (apply Bb; (· rfl); (· rfl)) | (apply Bc; (· exact nxE)) | (apply Bd; (· rfl); (· rfl); (· exact nxE))); (· first | exact Ok.ldTn rfl rfl rfl hri hil | exact Ok.st1 rfl rfl (congrArg (Option.map (dobj 1)) hri) (by rw [brF_len]; exact hlt2) (by rw [h1]; rfl) rfl rfl hset | exact Ok.pe)) | ((first | apply Ca | (apply Cb; (· exact nxE))); (· first | exact Ok.st1 rfl rfl (congrArg (Option.map (dobj 1)) hri) (by rw [brF_len]; exact hlt2) (by rw [h1]; rfl) rfl rfl hset | exact Ok.e0)) | refine Sx ?_ | (refine Sy (fun h => ?_) (fun h => ?_) <;> try (exfalso; omega; done)) | refine Sz (fun h => ?_) (fun h => ?_))
    refine ⟨⟨j + 1, by omega⟩, ?_, by simp only; omega⟩
    (apply Le.headG [] [{ l := ⟨1, []⟩, k := 1, R := btF (i + 1) n (mixW E0 zzW i (j + 1)), nils := n - (i + 1), src := ⟨1, []⟩, base := ⟨1, []⟩ }] (fun _ => False))
    (case' hlen => rfl)
    (case' hms => rfl)
    all_goals (try dsimp only [srcs])
    (case' hfr | hob => (repeat' (first | refine La ?_ ?_ | exact Lc | refine Lo ?_ | refine ⟨⟨_, rfl, ?_⟩, ?_⟩ | refine Lx ?_)))
    (case' hok => first | exact ⟨MI.ok_row (btF_setT fun a b h => mixW_other h) hri (by rw [brF_len, brF_len]) rfl (Cg), trivial⟩ | exact trivial)
    (case' hN => rfl)
    (case' hS => rfl)
    all_goals (first | exact Ld | (rfl))
  · have hset := hset (decide (x ≠ -1000000000000000)) (by rw [hval, decide_eq_false hij]; rfl)
    repeat' (first | ((first | apply Ba | (apply Bb; (· rfl); (· rfl)) | (apply Bc; (· exact nxE)) | (apply Bd; (· rfl); (· rfl); (· exact nxE))); (· first | exact Ok.ldTn rfl rfl rfl hri hil | exact Ok.st1 rfl rfl (congrArg (Option.map (dobj 1)) hri) (by rw [brF_len]; exact hlt2) (by rw [h1]; rfl) rfl rfl hset | exact Ok.pe)) | ((first | apply Ca | (apply Cb; (· exact nxE))); (· first | exact Ok.st1 rfl rfl (congrArg (Option.map (dobj 1)) hri) (by rw [brF_len]; exact hlt2) (by rw [h1]; rfl) rfl rfl hset | exact Ok.e0)) | refine Sx ?_ | (refine Sy (fun h => ?_) (fun h => ?_) <;> try (exfalso; omega; done)) | refine Sz (fun h => ?_) (fun h => ?_))
    refine ⟨⟨j + 1, by omega⟩, ?_, by simp only; omega⟩
    (apply Le.headG [] [{ l := ⟨1, []⟩, k := 1, R := btF (i + 1) n (mixW E0 zzW i (j + 1)), nils := n - (i + 1), src := ⟨1, []⟩, base := ⟨1, []⟩ }] (fun _ => False))
    (case' hlen => rfl)
    (case' hms => rfl)
    all_goals (try dsimp only [srcs])
    (case' hfr | hob => (repeat' (first | refine La ?_ ?_ | exact Lc | refine Lo ?_ | refine ⟨⟨_, rfl, ?_⟩, ?_⟩ | refine Lx ?_)))
    (case' hok => first | exact ⟨MI.ok_row (btF_setT fun a b h => mixW_other h) hri (by rw [brF_len, brF_len]) rfl (Cg), trivial⟩ | exact trivial)
    (case' hN => rfl)
    (case' hS => rfl)
    all_goals (first | exact Ld | (rfl))
end Go.Proofs.Ytikadoicplnkgaa
end

section
namespace Go.Proofs.Ytikadoicplnkgaa
set_option linter.unusedSimpArgs false
set_option linter.unusedVariables false
open Go Go.RowKit
attribute [local irreducible] AL AD AW OpOk Le AC thenQ blockQ EndQ

/-! ### Nodes -/
def nodB (t : List (List Int)) (e : Int) : Bool := wi e 0 ((t.length : Int) - 1)
theorem isNode_ac (t : List (List Int)) (e : Int) (ht : t.length ≤ 100000000) : AC Try.prog 98 [TL t, I e] H0 (Bo (nodB t e)) H0 := by
  have hW := within_ac e 0 ((t.length : Int) - 1)
  have hlen : (mRows 1 (TR t)).length = t.length := mTR_len
  refine AC.of_body 0 Try.func98 rfl (fun l h => absurd rfl h) (fun C hC => ?_)
  have hD : ∀ l, ¬ C.D0 l := fun l h => (hC l).1 h rfl
  simp only [startFr, Try.ntmps98, List.length_cons, List.length_nil, Nat.reduceAdd, Nat.reduceSub, List.replicate_succ, List.replicate_zero, List.cons_append, List.nil_append]
  repeat' (first | ((first | apply Ba | (apply Bb; (· rfl); (· rfl)) | (apply Bc; (· exact nxE)) | (apply Bd; (· rfl); (· rfl); (· exact nxE))); (· first | exact Ok.lenD rfl rfl hlen | exact Kz rfl rfl (hW) (Ad (Ad (Ad An))) | exact Ok.pe)) | ((first | apply Ca | (apply Cb; (· exact nxE))); (· first | exact Ok.e0)) | refine Sx ?_ | (refine Sy (fun h => ?_) (fun h => ?_) <;> try (exfalso; omega; done)) | refine Sz (fun h => ?_) (fun h => ?_))
  refine Ya ?_
  (apply Le.headZ (hs := []) [] rfl)
  all_goals (try dsimp only [srcs])
  (case' hfr => (repeat' (first | refine La ?_ ?_ | exact Lc | refine Lo ?_ | refine ⟨⟨_, rfl, ?_⟩, ?_⟩ | refine Lx ?_)))
  all_goals (first | exact Ld | exact trivial | (rfl))
theorem l03Node_ac (t : List (List Int)) (e : Int) (ht : t.length ≤ 100000000) : AC Try.prog 103 [TL t, I e] H0 (Bo (nodB t e)) H0 := by
  have hW := l01In_ac e 0 ((t.length : Int) - 1)
  have hlen : (mRows 1 (TR t)).length = t.length := mTR_len
  refine AC.of_body 0 Try.func103 rfl (fun l h => absurd rfl h) (fun C hC => ?_)
  have hD : ∀ l, ¬ C.D0 l := fun l h => (hC l).1 h rfl
  simp only [startFr, Try.ntmps103, List.length_cons, List.length_nil, Nat.reduceAdd, Nat.reduceSub, List.replicate_succ, List.replicate_zero, List.cons_append, List.nil_append]
  repeat' (first | ((first | apply Ba | (apply Bb; (· rfl); (· rfl)) | (apply Bc; (· exact nxE)) | (apply Bd; (· rfl); (· rfl); (· exact nxE))); (· first | exact Ok.lenD rfl rfl hlen | exact Kz rfl rfl (hW) (Ad (Ad (Ad An))) | exact Ok.pe)) | ((first | apply Ca | (apply Cb; (· exact nxE))); (· first | exact Ok.e0)) | refine Sx ?_ | (refine Sy (fun h => ?_) (fun h => ?_) <;> try (exfalso; omega; done)) | refine Sz (fun h => ?_) (fun h => ?_))
  refine Ya ?_
  (apply Le.headZ (hs := []) [] rfl)
  all_goals (try dsimp only [srcs])
  (case' hfr => (repeat' (first | refine La ?_ ?_ | exact Lc | refine Lo ?_ | refine ⟨⟨_, rfl, ?_⟩, ?_⟩ | refine Lx ?_)))
  all_goals (first | exact Ld | exact trivial | (rfl))
theorem colN_tab {n : Nat} {f : Nat → Nat → Int} (h : 1 ≤ n) : colN (tabF n n f) = n := by
  unfold colN
  cases hn : tabF n n f with
  | nil => have := congrArg List.length hn; rw [tabF_len] at this; simp at this; omega
  | cons a q => exact tabF_row2 a (by rw [hn]; simp)
theorem isSq_tab {n : Nat} {f : Nat → Nat → Int} (h1 : 1 ≤ n) (h2 : n ≤ 10) (hv : ∀ i j, i < n → j < n → isVal (f i j) = true) : isSq (tabF n n f) = true := by
  unfold isSq isMat
  rw [colN_tab h1, tabF_len, Bool.and_eq_true, Bool.and_eq_true, decide_eq_true_eq, decide_eq_true_eq, Bool.not_eq_true', List.any_eq_false]
  refine ⟨⟨by omega, fun r hr => ?_⟩, rfl⟩
  obtain ⟨i, hi, rfl⟩ := List.mem_map.1 hr
  unfold badM
  rw [rowF_len]
  simp only [decide_true, Bool.not_true, Bool.false_or, Bool.not_eq_true, Bool.not_eq_false', List.all_eq_true]
  intro x hx
  obtain ⟨j, hj, rfl⟩ := List.mem_map.1 hx
  exact hv i j (List.mem_range.1 hi) (List.mem_range.1 hj)
theorem isSq_vals {t : List (List Int)} (h : isSq t = true) (i j : Nat) (hi : i < t.length) (hj : j < t.length) : isVal (entN t i j) = true := by
  have hM := isSq_ok h
  by_cases e : entN t i j = BOT
  · exact isVal_iff.2 (.inl e)
  · exact isVal_iff.2 (.inr (hM.b j i e))
/-! ### The mean upstream -/
def upT (t : List (List Int)) (e : Int) : List (List Int) := tabF t.length t.length (upF (rchF (entN t) t.length) (entN t) e.toNat)
theorem upT_sq {t : List (List Int)} {e : Int} (h : isSq t = true) : isSq (upT t e) = true := by
  have hM := isSq_ok h
  refine isSq_tab hM.pos hM.le fun i j hi hj => ?_
  unfold upF
  split
  · exact isSq_vals h i j hi hj
  · rfl
theorem upT_len {t : List (List Int)} {e : Int} : (upT t e).length = t.length := tabF_len
noncomputable def umC (t : List (List Int)) (e : Int) : Int := if isSq t = true then (if nodB t e = true then cmC (upT t e) else 2) else 1
noncomputable def umR (t : List (List Int)) (e : Int) : Int × Int := if isSq t = true then (if nodB t e = true then cmR (upT t e) else (0, 0)) else (0, 0)
set_option maxHeartbeats 8000000 in
theorem sUpstreamMean_ac (t : List (List Int)) (e : Int) (ht : t.length ≤ 100000000) (hr : ∀ r ∈ t, r.length ≤ 100000000) : AC Try.prog 37 [TL t, I e] H0 (.tup [.agg [I (umR t e).1, I (umR t e).2], I (umC t e)]) H0 := by
  have hQ := l02Square_ac t ht hr
  have hN := l03Node_ac t e ht
  unfold umR umC
  cases hs : isSq t
  · rw [hs] at hQ
    simp only [Bool.false_eq_true, if_false]
    refine AC.of_body 0 Try.func37 rfl (fun l h => absurd rfl h) (fun C hC => ?_)
    have hD : ∀ l, ¬ C.D0 l := fun l h => (hC l).1 h rfl
    simp only [startFr, Try.ntmps37, List.length_cons, List.length_nil, Nat.reduceAdd, Nat.reduceSub, List.replicate_succ, List.replicate_zero, List.cons_append, List.nil_append]
    repeat' (first | ((first | apply Ba | (apply Bb; (· rfl); (· rfl)) | (apply Bc; (· exact nxE)) | (apply Bd; (· rfl); (· rfl); (· exact nxE))); (· first | exact Kz rfl rfl (hQ) (Ad An) | exact Kz rfl rfl (hN) (Ad (Ad An)) | exact Ok.pe)) | ((first | apply Ca | (apply Cb; (· exact nxE))); (· first | exact Ok.e0)) | refine Sx ?_ | (refine Sy (fun h => ?_) (fun h => ?_) <;> try (exfalso; omega; done)) | refine Sz (fun h => ?_) (fun h => ?_))
    refine Yb ?_
    (apply Le.headZ (hs := []) [] rfl)
    all_goals (try dsimp only [srcs])
    (case' hfr => (repeat' (first | refine La ?_ ?_ | exact Lc | refine Lo ?_ | refine ⟨⟨_, rfl, ?_⟩, ?_⟩ | refine Lx ?_)))
    all_goals (first | exact Ld | exact trivial | (rfl))
  rw [hs] at hQ
  cases hnd : nodB t e
  · rw [hnd] at hN
    simp only [Bool.false_eq_true, if_false, if_true]
    refine AC.of_body 0 Try.func37 rfl (fun l h => absurd rfl h) (fun C hC => ?_)
    have hD : ∀ l, ¬ C.D0 l := fun l h => (hC l).1 h rfl
    simp only [startFr, Try.ntmps37, List.length_cons, List.length_nil, Nat.reduceAdd, Nat.reduceSub, List.replicate_succ, List.replicate_zero, List.cons_append, List.nil_append]
    repeat' (first | ((first | apply Ba | (apply Bb; (· rfl); (· rfl)) | (apply Bc; (· exact nxE)) | (apply Bd; (· rfl); (· rfl); (· exact nxE))); (· first | exact Kz rfl rfl (hQ) (Ad An) | exact Kz rfl rfl (hN) (Ad (Ad An)) | exact Ok.pe)) | ((first | apply Ca | (apply Cb; (· exact nxE))); (· first | exact Ok.e0)) | refine Sx ?_ | (refine Sy (fun h => ?_) (fun h => ?_) <;> try (exfalso; omega; done)) | refine Sz (fun h => ?_) (fun h => ?_))
    refine Yb ?_
    (apply Le.headZ (hs := []) [] rfl)
    all_goals (try dsimp only [srcs])
    (case' hfr => (repeat' (first | refine La ?_ ?_ | exact Lc | refine Lo ?_ | refine ⟨⟨_, rfl, ?_⟩, ?_⟩ | refine Lx ?_)))
    all_goals (first | exact Ld | exact trivial | (rfl))
  rw [hnd] at hN
  rw [if_pos rfl, if_pos rfl, if_pos rfl, if_pos rfl]
  have hM := isSq_ok hs
  have hle := hM.le
  obtain ⟨h0, h1⟩ := wi_iff.1 hnd
  obtain ⟨n, hnt⟩ : ∃ n, n = t.length := ⟨_, rfl⟩
  obtain ⟨d, rfl⟩ : ∃ d : Nat, e = d := ⟨e.toNat, by omega⟩
  have hRe := (l05Reach_ac t t.length hM.sq (by omega)).frzT btF_len
  have hO := l02Own_ac t (by omega) (fun r h => by rw [hM.sq.r r h]; omega)
  have hCm := sCycleMean_ac (upT t d) (by rw [upT_len]; omega) (fun r hr => by rw [tabF_row2 r hr]; omega)
  have htab := sq_tab hM.sq
  have hut : upT t d = tabF t.length t.length (upF (rchF (entN t) t.length) (entN t) d) := by unfold upT; rw [Int.toNat_natCast]
  have hupl : (upT t d).length = t.length := upT_len
  rw [hut] at hCm hupl ⊢
  have hW : ∀ i j, upF (rchF (entN t) t.length) (entN t) d i j = if rchF (entN t) t.length i d = true ∧ rchF (entN t) t.length j d = true then entN t i j else BOT := fun _ _ => rfl
  generalize entN t = W at *
  generalize rchF W t.length = F at *
  have hlen : (mRows 1 (TR t)).length = t.length := mTR_len
  generalize cmR (tabF t.length t.length (upF F W d)) = m at *
  generalize cmC (tabF t.length t.length (upF F W d)) = c at *
  generalize upF F W d = U at *
  refine AC.of_body 0 Try.func37 rfl (fun l h => absurd rfl h) (fun C hC => ?_)
  have hD : ∀ l, ¬ C.D0 l := fun l h => (hC l).1 h rfl
  simp only [startFr, Try.ntmps37, List.length_cons, List.length_nil, Nat.reduceAdd, Nat.reduceSub, List.replicate_succ, List.replicate_zero, List.cons_append, List.nil_append]
  repeat' (first | ((first | apply Ba | (apply Bb; (· rfl); (· rfl)) | (apply Bc; (· exact nxE)) | (apply Bd; (· rfl); (· rfl); (· exact nxE))); (· first | exact Kz rfl rfl (hQ) (Ad An) | exact Kz rfl rfl (hN) (Ad (Ad An)) | exact Kz rfl rfl (hRe) (Ad An) | exact Tb rfl rfl (hO) (Sd Sn) | exact Ok.pe)) | ((first | apply Ca | (apply Cb; (· exact nxE))); (· first | exact Tb rfl rfl (hO) (Sd Sn) | exact Ok.e0)) | refine Sx ?_ | (refine Sy (fun h => ?_) (fun h => ?_) <;> try (exfalso; omega; done)) | refine Sz (fun h => ?_) (fun h => ?_))
  refine AW.loop (X := {k : Nat // k ≤ t.length}) (fun k => ⟨[TL t, I d, Oo, Oo, Bx 2 1, Oo, .d (.sl 1 (mRows 1 (btF t.length t.length F))), .own 1 ⟨2, []⟩ 0 t.length, I (k.1 : Nat), Oo, Oo, Oo, Oo, Oo, Oo, Oo, Oo, Oo, Oo, Oo, Oo, Oo, Oo, Oo, Oo, Oo, Oo, Oo, Oo, Oo, Oo, Oo, Oo, Oo, Oo, Oo, Oo, Oo, Oo, Oo, Oo, Oo, Oo, Oo, Oo, Oo, Oo, Oo, Oo, Oo, Oo, Oo, Oo, Oo, Oo, Oo, Oo, Oo, Oo, Oo, Oo, Oo, Oo, Oo, Oo], heapX [(⟨1, []⟩, ⟨1, []⟩, ⟨2, [[I 0, I 0]]⟩)] [mi1 ⟨2, []⟩ (TR (tabF t.length t.length (mixF U W k.1 0)))], 900⟩) (fun k => t.length - k.1) ⟨0, Nat.zero_le _⟩ ?_ (fun k => ?_)
  ·
    (apply Le.headG [_] [{ l := ⟨2, []⟩, k := 1, R := TR (tabF t.length t.length (mixF U W 0 0)), src := ⟨15, [0]⟩, base := ⟨15, [0]⟩ }] (fun _ => False))
    (case' hlen => rfl)
    (case' hms => rfl)
    all_goals (try dsimp only [srcs])
    (case' hfr | hob => (repeat' (first | refine La ?_ ?_ | exact Lc | refine Lo ?_ | refine ⟨⟨_, rfl, ?_⟩, ?_⟩ | refine Lx ?_)))
    (case' hok => first | exact ⟨by rw [mixF_0, htab]; exact MI.ok_same rfl (Cg), trivial⟩ | exact trivial)
    (case' hN => rfl)
    (case' hS => rfl)
    all_goals (first | exact Ld | (rfl))
  obtain ⟨i, hi⟩ := k
  simp only
  by_cases hlt : i < t.length
  case neg =>
    obtain rfl : i = t.length := by omega
    rw [mixF_all]
    repeat' (first | ((first | apply Ba | (apply Bb; (· rfl); (· rfl)) | (apply Bc; (· exact nxE)) | (apply Bd; (· rfl); (· rfl); (· exact nxE))); (· first | exact Ok.lenD rfl rfl hlen | exact Ez rfl rfl (hCm) (Sm Sn) | exact Ok.pe)) | ((first | apply Ca | (apply Cb; (· exact nxE))); (· first | exact Ok.e0)) | refine Sx ?_ | (refine Sy (fun h => ?_) (fun h => ?_) <;> try (exfalso; omega; done)) | refine Sz (fun h => ?_) (fun h => ?_))
    refine Yb ?_
    (apply Le.headZ (hs := []) [] rfl)
    all_goals (try dsimp only [srcs])
    (case' hfr => (repeat' (first | refine La ?_ ?_ | exact Lc | refine Lo ?_ | refine ⟨⟨_, rfl, ?_⟩, ?_⟩ | refine Lx ?_)))
    all_goals (first | exact Ld | exact trivial | (rfl))
  have hFi := btM_get (n := t.length) (F := F) hlt
  have hFd := brF_get (g := F i) (show d < t.length by omega)
  repeat' (first | ((first | apply Ba | (apply Bb; (· rfl); (· rfl)) | (apply Bc; (· exact nxE)) | (apply Bd; (· rfl); (· rfl); (· exact nxE))); (· first | exact Ok.lenD rfl rfl hlen | exact Ok.pe)) | ((first | apply Ca | (apply Cb; (· exact nxE))); (· first | exact Ok.e0)) | refine Sx ?_ | (refine Sy (fun h => ?_) (fun h => ?_) <;> try (exfalso; omega; done)) | refine Sz (fun h => ?_) (fun h => ?_))
  refine AW.loop (X := {k : Nat // k ≤ t.length}) (fun k => ⟨[TL t, I d, Oo, Oo, Bx 2 1, Oo, .d (.sl 1 (mRows 1 (btF t.length t.length F))), .own 1 ⟨2, []⟩ 0 t.length, I i, I (k.1 : Nat), Oo, Oo, Oo, Oo, Oo, Oo, Oo, Oo, Oo, Oo, Oo, Oo, Oo, Oo, Oo, Oo, Oo, Oo, Oo, Oo, Oo, Oo, Oo, Oo, Oo, Oo, Oo, Oo, Oo, Oo, Oo, Oo, Oo, Oo, Oo, Oo, Oo, Oo, Oo, Oo, Oo, Oo, Oo, Oo, Oo, Oo, Oo, Oo, Oo, Oo, Oo, Oo, Oo, Oo, Oo], heapX [(⟨1, []⟩, ⟨1, []⟩, ⟨2, [[I 0, I 0]]⟩)] [mi1 ⟨2, []⟩ (TR (tabF t.length t.length (mixF U W i k.1)))], 900⟩) (fun k => t.length - k.1) ⟨0, Nat.zero_le _⟩ ?_ (fun k => ?_)
  ·
    (apply Le.headG [_] [mi1 ⟨2, []⟩ (TR (tabF t.length t.length (mixF U W i 0)))] (fun _ => False))
    (case' hlen => rfl)
    (case' hms => rfl)
    all_goals (try dsimp only [srcs])
    (case' hfr | hob => (repeat' (first | refine La ?_ ?_ | exact Lc | refine Lo ?_ | refine ⟨⟨_, rfl, ?_⟩, ?_⟩ | refine Lx ?_)))
    (case' hok => first | exact ⟨MI.ok_same rfl (Cg), trivial⟩ | exact trivial)
    (case' hN => rfl)
    (case' hS => rfl)
    all_goals (first | exact Ld | (rfl))
  obtain ⟨j, hj⟩ := k
  simp only
  by_cases hlt2 : j < t.length
  case neg =>
    obtain rfl : j = t.length := by omega
    rw [mixF_row]
    repeat' (first | ((first | apply Ba | (apply Bb; (· rfl); (· rfl)) | (apply Bc; (· exact nxE)) | (apply Bd; (· rfl); (· rfl); (· exact nxE))); (· first | exact Ok.lenD rfl rfl hlen | exact Ok.pe)) | ((first | apply Ca | (apply Cb; (· exact nxE))); (· first | exact Ok.e0)) | refine Sx ?_ | (refine Sy (fun h => ?_) (fun h => ?_) <;> try (exfalso; omega; done)) | refine Sz (fun h => ?_) (fun h => ?_))
    refine ⟨⟨i + 1, by omega⟩, ?_, by simp only; omega⟩
    (apply Le.headG [_] [mi1 ⟨2, []⟩ (TR (tabF t.length t.length (mixF U W (i + 1) 0)))] (fun _ => False))
    (case' hlen => rfl)
    (case' hms => rfl)
    all_goals (try dsimp only [srcs])
    (case' hfr | hob => (repeat' (first | refine La ?_ ?_ | exact Lc | refine Lo ?_ | refine ⟨⟨_, rfl, ?_⟩, ?_⟩ | refine Lx ?_)))
    (case' hok => first | exact ⟨MI.ok_same rfl (Cg), trivial⟩ | exact trivial)
    (case' hN => rfl)
    (case' hS => rfl)
    all_goals (first | exact Ld | (rfl))
  have hFj := btM_get (n := t.length) (F := F) hlt2
  have hFe := brF_get (g := F j) (show d < t.length by omega)
  have hUW := hW i j
  have hrw := TRF_get (n := t.length) (f := mixF U W i j) hlt
  have hrl : (IR (rowF t.length (mixF U W i j i))).length = t.length := by rw [IR_len, rowF_len]
  have hcell := IRF_get (g := mixF U W i j i) hlt2
  have hset : ∀ v, U i j = v → (IR (rowF t.length (mixF U W i j i))).set j [DI v] = IR ((rowF t.length (mixF U W i j i)).set j v) := fun v _ => IR_set
  generalize F i d = x at *
  generalize F j d = y at *
  cases x <;> cases y <;> simp only [Bool.false_eq_true, and_false, false_and, and_self, if_false, if_true] at hUW
  case true.true =>
    rw [← mixF_skip hUW] at *
    repeat' (first | ((first | apply Ba | (apply Bb; (· rfl); (· rfl)) | (apply Bc; (· exact nxE)) | (apply Bd; (· rfl); (· rfl); (· exact nxE))); (· first | exact Ok.lenD rfl rfl hlen | exact Ok.pe)) | ((first | apply Ca | (apply Cb; (· exact nxE))); (· first | exact Ok.e0)) | refine Sx ?_ | (refine Sy (fun h => ?_) (fun h => ?_) <;> try (exfalso; omega; done)) | refine Sz (fun h => ?_) (fun h => ?_))
    refine ⟨⟨j + 1, by omega⟩, ?_, by simp only; omega⟩
    (apply Le.headG [_] [mi1 ⟨2, []⟩ (TR (tabF t.length t.length (mixF U W i (j + 1))))] (fun _ => False))
    (case' hlen => rfl)
    (case' hms => rfl)
    all_goals (try dsimp only [srcs])
    (case' hfr | hob => (repeat' (first | refine La ?_ ?_ | exact Lc | refine Lo ?_ | refine ⟨⟨_, rfl, ?_⟩, ?_⟩ | refine Lx ?_)))
    (case' hok => first | exact ⟨MI.ok_same rfl (Cg), trivial⟩ | exact trivial)
    (case' hN => rfl)
    (case' hS => rfl)
    all_goals (first | exact Ld | (rfl))
  all_goals
    repeat' (first | ((first | apply Ba | (apply Bb; (· rfl); (· rfl)) | (apply Bc; (· exact nxE)) | (apply Bd; (· rfl); (· rfl); (· exact nxE))); (· first | exact Ok.lenD rfl rfl hlen | exact Ok.ldTn rfl rfl rfl hrw hrl | exact Ok.st1 rfl rfl (congrArg (Option.map (dobj 1)) hrw) (by rw [hrl]; exact hlt2) (by rw [hcell]; rfl) rfl rfl IR_set | exact Ok.pe)) | ((first | apply Ca | (apply Cb; (· exact nxE))); (· first | exact Ok.st1 rfl rfl (congrArg (Option.map (dobj 1)) hrw) (by rw [hrl]; exact hlt2) (by rw [hcell]; rfl) rfl rfl IR_set | exact Ok.e0)) | refine Sx ?_ | (refine Sy (fun h => ?_) (fun h => ?_) <;> try (exfalso; omega; done)) | refine Sz (fun h => ?_) (fun h => ?_))
    refine ⟨⟨j + 1, by omega⟩, ?_, by simp only; omega⟩
    (apply Le.headG [_] [mi1 ⟨2, []⟩ (TR (tabF t.length t.length (mixF U W i (j + 1))))] (fun _ => False))
    (case' hlen => rfl)
    (case' hms => rfl)
    all_goals (try dsimp only [srcs])
    (case' hfr | hob => (repeat' (first | refine La ?_ ?_ | exact Lc | refine Lo ?_ | refine ⟨⟨_, rfl, ?_⟩, ?_⟩ | refine Lx ?_)))
    (case' hok => first | exact ⟨MI.ok_row (tabF_set (v := -1000000000000000) (fun a b _ _ => by rw [show (-1000000000000000 : Int) = U i j from hUW.symm]; exact mixF_set)) hrw (by simp) rfl (Cg), trivial⟩ | exact trivial)
    (case' hN => rfl)
    (case' hS => rfl)
    all_goals (first | exact Ld | (rfl))
end Go.Proofs.Ytikadoicplnkgaa
end

section
namespace Go.Proofs.Ytikadoicplnkgaa
set_option linter.unusedSimpArgs false
set_option linter.unusedVariables false
open Go Go.RowKit
attribute [local irreducible] AL AD AW OpOk Le AC thenQ blockQ EndQ

/-! ### By the program -/
abbrev TDB (n : Nat) (F : Nat → Nat → Bool) : D := .sl 1 (mRows 1 (btF n n F))
abbrev hsUp (n : Nat) (F : Nat → Nat → Bool) (d : Nat) (t : List (List Int)) : HL := [(⟨13, []⟩, ⟨13, []⟩, ⟨1, [[.d (TDB n F)]]⟩), (⟨1, []⟩, ⟨1, []⟩, ⟨1, [[I d]]⟩), (⟨0, []⟩, ⟨0, []⟩, ⟨1, [[TL t]]⟩)]
theorem hsUp_ok {n : Nat} {F : Nat → Nat → Bool} {d : Nat} {t : List (List Int)} : HOk (hsUp n F d t) := by
  intro p hp r hr c hc
  simp only [List.mem_cons, List.not_mem_nil, or_false] at hp
  rcases hp with rfl | rfl | rfl <;> (simp at hr; subst hr; simp at hc; subst hc; exact .d _)
set_option maxHeartbeats 2000000 in
theorem upFn_ac (t : List (List Int)) (n : Nat) (hT : Sq t n) (F : Nat → Nat → Bool) (d : Nat) (hd : d < n) (hn : n ≤ 1000) (i j : Nat) (hi : i < n) (hj : j < n) : AC Try.prog 101 [I i, I j, Bx 1 13, Bx 1 1, Bx 1 0] (heapL (hsUp n F d t)) (I (upF F (entN t) d i j)) (heapL (hsUp n F d t)) := by
  obtain ⟨R, hR1, hR2, hR3⟩ := hT.get hi hj
  have hRr := TR_get hR1
  have hRf := IR_get hR2
  have hFi := btM_get (n := n) (F := F) hi
  have hFd := brF_get (g := F i) hd
  have hFj := btM_get (n := n) (F := F) hj
  have hFe := brF_get (g := F j) hd
  have hFd' : (brF n (F i))[((d : Nat) : Int).toNat]? = some [DB (F i d)] := hFd
  have hFe' : (brF n (F j))[((d : Nat) : Int).toNat]? = some [DB (F j d)] := hFe
  unfold upF
  generalize entN t i j = w at *
  generalize F i d = x at *
  generalize F j d = y at *
  cases x <;> cases y <;> simp only [Bool.false_eq_true, and_false, false_and, and_self, if_false, if_true]
  all_goals
    refine AC.of_body 14 Try.func101 rfl (fun l h => by simp [heapL, upd] at h; (repeat' split at h) <;> simp_all) (fun C hC => ?_)
    simp only [startFr, Try.ntmps101, List.length_cons, List.length_nil, Nat.reduceAdd, Nat.reduceSub, List.replicate_succ, List.replicate_zero, List.cons_append, List.nil_append]
    have hD : ∀ l, C.D0 l → l = ⟨13, []⟩ ∨ l = ⟨1, []⟩ ∨ l = ⟨0, []⟩ := fun l h => by have := (hC l).1 h; simp [heapL, upd] at this; (repeat' split at this) <;> simp_all
    repeat' (first | ((first | apply Ba | (apply Bb; (· rfl); (· rfl)) | (apply Bc; (· exact nxE)) | (apply Bd; (· rfl); (· rfl); (· exact nxE))); (· first | exact Ok.pe)) | ((first | apply Ca | (apply Cb; (· exact nxE))); (· first | exact Ok.e0)) | refine Sx ?_ | (refine Sy (fun h => ?_) (fun h => ?_) <;> try (exfalso; omega; done)) | refine Sz (fun h => ?_) (fun h => ?_))
    (refine end1p (by first | exact .inl rfl | exact .inr rfl) rfl (by first | exact rT rfl | exact rCA rfl rfl rfl rfl (by simp) | exact rCC rfl rfl rfl rfl rfl) ?_ (Le.head ([(⟨13, []⟩, ⟨13, []⟩, ⟨1, [[.d (TDB n F)]]⟩), (⟨1, []⟩, ⟨1, []⟩, ⟨1, [[I d]]⟩), (⟨0, []⟩, ⟨0, []⟩, ⟨1, [[TL t]]⟩)]) (by first | exact fun l h => absurd h (hD l) | (intro l h; rcases hD l h with rfl; simp [tauL]) | (intro l h; rcases hD l h with rfl | rfl <;> simp [tauL]; done) | (intro l h; rcases hD l h with rfl | rfl | rfl <;> simp [tauL])) ?_ ?_ (by simp) (by simp) (by simp [AllP]) (n' := 1000)); (· rfl)) <;> (repeat' (first | exact trivial | exact ARs.nil | refine ARs.cons ?_ ?_ | exact AR.dead _ | exact AR.dd _ | exact AR.i (by (try dsimp only); omega) | exact AR.ptr _ _ _ _ (by simp [heapL, upd]) | exact AR.own _ _ _ _ (by simp [heapL, upd]) | refine AR.ownE _ _ _ ?_ (by simp [heapL, upd]) | refine ⟨⟨_, rfl, ?_⟩, ?_⟩ | exact ObA.data | refine ObA.box ?_ | refine ObA.frE ?_ | refine ObA.dataE ?_ | refine ARs.agg ?_ | refine ARs.tup ?_ | exact AR.clo' ARs.nil ARs.nil | exact AR.clo' ARs.nil (hca _ _)))
set_option maxHeartbeats 2000000 in
theorem mbyUp_ac (m n : Nat) (q : Nat) (hmq : m = q) (hnq : n = q) (t : List (List Int)) (hT : Sq t q) (F : Nat → Nat → Bool) (d : Nat) (hd : d < q) (hm : m ≤ 1000) (hn : n ≤ 1000) : AC Try.prog 100 [I m, I n, .clo (.func 101) [] [Bx 1 13, Bx 1 1, Bx 1 0]] (heapL [(⟨13, []⟩, ⟨13, []⟩, ⟨1, [[.d (TDB q F)]]⟩), (⟨1, []⟩, ⟨1, []⟩, ⟨1, [[I d]]⟩), (⟨0, []⟩, ⟨0, []⟩, ⟨1, [[TL t]]⟩)]) (.own 1 ⟨14, []⟩ 0 m) (heapX [(⟨13, []⟩, ⟨13, []⟩, ⟨1, [[.d (TDB q F)]]⟩), (⟨1, []⟩, ⟨1, []⟩, ⟨1, [[I d]]⟩), (⟨0, []⟩, ⟨0, []⟩, ⟨1, [[TL t]]⟩)] [mi1 ⟨14, []⟩ (TR (tabF m n (upF F (entN t) d)))]) := by
  refine AC.of_body 14 Try.func100 rfl (fun l h => by simp [heapL, upd] at h; (repeat' split at h) <;> simp_all) (fun C hC => ?_)
  simp only [startFr, Try.ntmps100, List.length_cons, List.length_nil, Nat.reduceAdd, Nat.reduceSub, List.replicate_succ, List.replicate_zero, List.cons_append, List.nil_append]
  have hD : ∀ l, C.D0 l → l = ⟨13, []⟩ ∨ l = ⟨1, []⟩ ∨ l = ⟨0, []⟩ := fun l h => by have := (hC l).1 h; simp [heapL, upd] at this; (repeat' split at this) <;> simp_all
  repeat' (first | ((first | apply Ba | (apply Bb; (· rfl); (· rfl)) | (apply Bc; (· exact nxE)) | (apply Bd; (· rfl); (· rfl); (· exact nxE))); (· first | exact Ok.pe)) | ((first | apply Ca | (apply Cb; (· exact nxE))); (· first | exact Ok.e0)) | refine Sx ?_ | (refine Sy (fun h => ?_) (fun h => ?_) <;> try (exfalso; omega; done)) | refine Sz (fun h => ?_) (fun h => ?_))
  refine AW.loop (X := {k : Nat // k ≤ m}) (fun k => ⟨[Oo, I n, .clo (.func 101) [] [Bx 1 13, Bx 1 1, Bx 1 0], Oo, Oo, Oo, Oo, .own 1 ⟨14, []⟩ 0 m, Oo, Oo, Oo, Oo, Oo, I m, I (k.1 : Nat), Oo, Oo, Oo, Oo, Oo, Oo, Oo, Oo, Oo, Oo, Oo, Oo, Oo, Oo, Oo, Oo, Oo, Oo, Oo, Oo, Oo, Oo, Oo, Oo, Oo, Oo, Oo, Oo], heapX [(⟨13, []⟩, ⟨13, []⟩, ⟨1, [[.d (TDB q F)]]⟩), (⟨1, []⟩, ⟨1, []⟩, ⟨1, [[I d]]⟩), (⟨0, []⟩, ⟨0, []⟩, ⟨1, [[TL t]]⟩)] [{ l := ⟨14, []⟩, k := 1, R := TR (tabF k.1 n (mixF (upF F (entN t) d) zz k.1 0)), nils := m - k.1, src := ⟨14, []⟩, base := ⟨14, []⟩ }], 900⟩) (fun k => m - k.1) ⟨0, Nat.zero_le _⟩ ?_ (fun k => ?_)
  ·
    (apply Le.headG [_, _, _] [{ l := ⟨14, []⟩, k := 1, R := [], nils := m, src := ⟨16, []⟩, base := ⟨16, []⟩ }] (fun _ => False))
    (case' hlen => rfl)
    (case' hms => rfl)
    all_goals (try dsimp only [srcs])
    (case' hfr | hob => (repeat' (first | refine La ?_ ?_ | exact Lc | refine Lo ?_ | refine ⟨⟨_, rfl, ?_⟩, ?_⟩ | refine Lx ?_)))
    (case' hok => first | exact ⟨MI.ok_make rfl, trivial⟩ | exact trivial)
    (case' hN => rfl)
    (case' hS => rfl)
    all_goals (first | ((intro l h; rcases hD l h with rfl | rfl | rfl <;> simp [tauX, tauM, Loc.cov]; done)) | exact Ld)
  obtain ⟨i, hi⟩ := k
  simp only
  by_cases hlt : i < m
  ·
    have hti : (TR (tabF i n (mixF (upF F (entN t) d) zz i 0))).length = i := by rw [TR_len, tabF_len]
    rw [show m - i = (m - (i + 1)) + 1 by omega]
    repeat' (first | ((first | apply Ba | (apply Bb; (· rfl); (· rfl)) | (apply Bc; (· exact nxE)) | (apply Bd; (· rfl); (· rfl); (· exact nxE))); (· first | exact OpOk.loadCell rfl rfl rfl rfl (set_at (by simp only [outer_len]; rw [hti]; omega)) rfl | exact Ok.stT rfl rfl rfl (by dsimp only; rw [hti]; omega) rfl | exact Ok.pe)) | ((first | apply Ca | (apply Cb; (· exact nxE))); (· first | exact Ok.stT rfl rfl rfl (by dsimp only; rw [hti]; omega) rfl | exact Ok.e0)) | refine Sx ?_ | (refine Sy (fun h => ?_) (fun h => ?_) <;> try (exfalso; omega; done)) | refine Sz (fun h => ?_) (fun h => ?_))
    refine AW.loop (X := {k : Nat // k ≤ n}) (fun k => ⟨[Oo, I n, .clo (.func 101) [] [Bx 1 13, Bx 1 1, Bx 1 0], Oo, Oo, Oo, Oo, .own 1 ⟨14, []⟩ 0 m, I i, Oo, Oo, Oo, Oo, I m, I i, Oo, Oo, Oo, Oo, Oo, Oo, Oo, Oo, Oo, Oo, Oo, I n, I (k.1 : Nat), Oo, Oo, Oo, Oo, Oo, Oo, Oo, Oo, Oo, Oo, Oo, Oo, Oo, Oo, Oo], heapX [(⟨13, []⟩, ⟨13, []⟩, ⟨1, [[.d (TDB q F)]]⟩), (⟨1, []⟩, ⟨1, []⟩, ⟨1, [[I d]]⟩), (⟨0, []⟩, ⟨0, []⟩, ⟨1, [[TL t]]⟩)] [{ l := ⟨14, []⟩, k := 1, R := TR (tabF (i + 1) n (mixF (upF F (entN t) d) zz i k.1)), nils := m - (i + 1), src := ⟨14, []⟩, base := ⟨14, []⟩ }], 900⟩) (fun k => n - k.1) ⟨0, Nat.zero_le _⟩ ?_ (fun k => ?_)
    ·
      (apply Le.headG [_, _, _] [{ l := ⟨14, []⟩, k := 1, R := TR (tabF (i + 1) n (mixF (upF F (entN t) d) zz i 0)), nils := m - (i + 1), src := ⟨14, []⟩, base := ⟨14, []⟩, cut := i, ext := some ⟨906, []⟩ }] (fun _ => False))
      (case' hlen => rfl)
      (case' hms => rfl)
      all_goals (try dsimp only [srcs])
      (case' hfr | hob => (repeat' (first | refine La ?_ ?_ | exact Lc | refine Lo ?_ | refine ⟨⟨_, rfl, ?_⟩, ?_⟩ | refine Lx ?_)))
      (case' hok => first | exact ⟨MI.ok_fill (r := List.replicate n [DI 0]) zz_snoc hti (by simp) rfl (Cg) rfl, trivial⟩ | exact trivial)
      (case' hN => rfl)
      (case' hS => rfl)
      all_goals (first | ((first | (intro l h; rcases hD l h with rfl | rfl | rfl <;> simp [tauX, tauM, Loc.cov]; done) | (first | (simp [AllP, TR_len, tabF_len]; done) | (simp [AllP, TR_len, tabF_len]; omega)))) | exact Ld)
    obtain ⟨j, hj⟩ := k
    simp only
    by_cases hlt2 : j < n
    ·
      have hrw := TRF_get (n := n) (f := (mixF (upF F (entN t) d) zz i j)) (show i < i + 1 by omega)
      have hlr : (IR (rowF n ((mixF (upF F (entN t) d) zz i j) i))).length = n := by rw [IR_len, rowF_len]
      repeat' (first | ((first | apply Ba | (apply Bb; (· rfl); (· rfl)) | (apply Bc; (· exact nxE)) | (apply Bd; (· rfl); (· rfl); (· exact nxE))); (· first | exact Ok.ldTn rfl rfl rfl hrw hlr | exact OpOk.callS ([(⟨13, []⟩, ⟨13, []⟩, ⟨1, [[.d (TDB q F)]]⟩), (⟨1, []⟩, ⟨1, []⟩, ⟨1, [[I d]]⟩), (⟨0, []⟩, ⟨0, []⟩, ⟨1, [[TL t]]⟩)]) rfl rfl (upFn_ac t q hT F d hd (by omega) i j (by omega) (by omega)) (by intro p hp; simp only [List.mem_cons, List.not_mem_nil, or_false] at hp; rcases hp with rfl | rfl | rfl <;> rfl) (by intro p hp r hr c hc; simp at hp; rcases hp with rfl | rfl | rfl <;> (simp at hr; subst hr; simp at hc; (try subst hc); (try rcases hc with rfl | rfl); exact .d _)) (.d _) (.cons (.dd _) (.cons (.dd _) (.cons (AR.ptr _ _ _ _ (by simp)) (.cons (AR.ptr _ _ _ _ (by simp)) (.cons (AR.ptr _ _ _ _ (by simp)) .nil))))) | exact Ok.st1 rfl rfl (congrArg (Option.map (dobj 1)) hrw) (by simp [rowF_len]; omega) (by rw [IRF_get hlt2]; rfl) rfl rfl IR_set | exact Ok.pe)) | ((first | apply Ca | (apply Cb; (· exact nxE))); (· first | exact Ok.st1 rfl rfl (congrArg (Option.map (dobj 1)) hrw) (by simp [rowF_len]; omega) (by rw [IRF_get hlt2]; rfl) rfl rfl IR_set | exact Ok.e0)) | refine Sx ?_ | (refine Sy (fun h => ?_) (fun h => ?_) <;> try (exfalso; omega; done)) | refine Sz (fun h => ?_) (fun h => ?_))
      refine ⟨⟨j + 1, by omega⟩, ?_, by simp only; omega⟩
      (apply Le.headG [_, _, _] [{ l := ⟨14, []⟩, k := 1, R := TR (tabF (i + 1) n (mixF (upF F (entN t) d) zz i (j + 1))), nils := m - (i + 1), src := ⟨14, []⟩, base := ⟨14, []⟩ }] (fun _ => False))
      (case' hlen => rfl)
      (case' hms => rfl)
      all_goals (try dsimp only [srcs])
      (case' hfr | hob => (repeat' (first | refine La ?_ ?_ | exact Lc | refine Lo ?_ | refine ⟨⟨_, rfl, ?_⟩, ?_⟩ | refine Lx ?_)))
      (case' hok => first | exact ⟨MI.ok_row (tabF_set (fun a b _ _ => mixF_set)) hrw (by simp) rfl (Cg), trivial⟩ | exact trivial)
      (case' hN => rfl)
      (case' hS => rfl)
      all_goals (first | ((intro l h; rcases hD l h with rfl | rfl | rfl <;> simp [tauX, tauM, Loc.cov]; done)) | exact Ld)
    ·
      have hjn : j = n := by omega
      subst hjn
      rw [mixF_row]
      repeat' (first | ((first | apply Ba | (apply Bb; (· rfl); (· rfl)) | (apply Bc; (· exact nxE)) | (apply Bd; (· rfl); (· rfl); (· exact nxE))); (· first | exact Ok.pe)) | ((first | apply Ca | (apply Cb; (· exact nxE))); (· first | exact Ok.e0)) | refine Sx ?_ | (refine Sy (fun h => ?_) (fun h => ?_) <;> try (exfalso; omega; done)) | refine Sz (fun h => ?_) (fun h => ?_))
      refine ⟨⟨i + 1, by omega⟩, ?_, by simp only; omega⟩
      (apply Le.headG [_, _, _] [{ l := ⟨14, []⟩, k := 1, R := TR (tabF (i + 1) j (mixF (upF F (entN t) d) zz (i + 1) 0)), nils := m - (i + 1), src := ⟨14, []⟩, base := ⟨14, []⟩ }] (fun _ => False))
      (case' hlen => rfl)
      (case' hms => rfl)
      all_goals (try dsimp only [srcs])
      (case' hfr | hob => (repeat' (first | refine La ?_ ?_ | exact Lc | refine Lo ?_ | refine ⟨⟨_, rfl, ?_⟩, ?_⟩ | refine Lx ?_)))
      (case' hok => first | exact ⟨MI.ok_same rfl (Cg), trivial⟩ | exact trivial)
      (case' hN => rfl)
      (case' hS => rfl)
      all_goals (first | ((intro l h; rcases hD l h with rfl | rfl | rfl <;> simp [tauX, tauM, Loc.cov]; done)) | exact Ld)
  ·
    have him : i = m := by omega
    subst him
    rw [Nat.sub_self, mixF_all]
    repeat' (first | ((first | apply Ba | (apply Bb; (· rfl); (· rfl)) | (apply Bc; (· exact nxE)) | (apply Bd; (· rfl); (· rfl); (· exact nxE))); (· first | exact Ok.pe)) | ((first | apply Ca | (apply Cb; (· exact nxE))); (· first | exact Ok.e0)) | refine Sx ?_ | (refine Sy (fun h => ?_) (fun h => ?_) <;> try (exfalso; omega; done)) | refine Sz (fun h => ?_) (fun h => ?_))
    refine Ya ?_
    (apply Le.headG [⟨13, []⟩, ⟨1, []⟩, ⟨0, []⟩] [mi1 ⟨14, []⟩ (TR (tabF i n (upF F (entN t) d)))] (fun _ => False))
    (case' hlen => rfl)
    (case' hms => rfl)
    all_goals (try dsimp only [srcs])
    (case' hfr | hob => (repeat' (first | refine La ?_ ?_ | exact Lc | refine Lo ?_ | refine ⟨⟨_, rfl, ?_⟩, ?_⟩ | refine Lx ?_)))
    (case' hok => first | exact ⟨MI.ok_same rfl (Cg), trivial⟩ | exact trivial)
    (case' hN => rfl)
    (case' hS => rfl)
    all_goals (first | ((intro l h; rcases hD l h with rfl | rfl | rfl <;> simp [tauX, tauM, Loc.cov]; done)) | exact Ld)
set_option maxHeartbeats 8000000 in
theorem iUpstreamMean_ac (t : List (List Int)) (e : Int) (ht : t.length ≤ 100000000) (hr : ∀ r ∈ t, r.length ≤ 100000000) : AC Try.prog 36 [TL t, I e] H0 (.tup [.agg [I (umR t e).1, I (umR t e).2], I (umC t e)]) H0 := by
  have hQ := iIsSquare_ac t ht hr
  have hN := isNode_ac t e ht
  unfold umR umC
  cases hs : isSq t
  · rw [hs] at hQ
    simp only [Bool.false_eq_true, if_false]
    refine AC.of_body 0 Try.func36 rfl (fun l h => absurd rfl h) (fun C hC => ?_)
    have hD : ∀ l, ¬ C.D0 l := fun l h => (hC l).1 h rfl
    simp only [startFr, Try.ntmps36, List.length_cons, List.length_nil, Nat.reduceAdd, Nat.reduceSub, List.replicate_succ, List.replicate_zero, List.cons_append, List.nil_append]
    repeat' (first | ((first | apply Ba | (apply Bb; (· rfl); (· rfl)) | (apply Bc; (· exact nxE)) | (apply Bd; (· rfl); (· rfl); (· exact nxE))); (· first | exact Kz rfl rfl (hQ) (Ad An) | exact Kz rfl rfl (hN) (Ad (Ad An)) | exact Ok.pe)) | ((first | apply Ca | (apply Cb; (· exact nxE))); (· first | exact Ok.e0)) | refine Sx ?_ | (refine Sy (fun h => ?_) (fun h => ?_) <;> try (exfalso; omega; done)) | refine Sz (fun h => ?_) (fun h => ?_))
    refine Yb ?_
    (apply Le.headZ (hs := []) [] rfl)
    all_goals (try dsimp only [srcs])
    (case' hfr => (repeat' (first | refine La ?_ ?_ | exact Lc | refine Lo ?_ | refine ⟨⟨_, rfl, ?_⟩, ?_⟩ | refine Lx ?_)))
    all_goals (first | exact Ld | exact trivial | (rfl))
  rw [hs] at hQ
  cases hnd : nodB t e
  · rw [hnd] at hN
    simp only [Bool.false_eq_true, if_false, if_true]
    refine AC.of_body 0 Try.func36 rfl (fun l h => absurd rfl h) (fun C hC => ?_)
    have hD : ∀ l, ¬ C.D0 l := fun l h => (hC l).1 h rfl
    simp only [startFr, Try.ntmps36, List.length_cons, List.length_nil, Nat.reduceAdd, Nat.reduceSub, List.replicate_succ, List.replicate_zero, List.cons_append, List.nil_append]
    repeat' (first | ((first | apply Ba | (apply Bb; (· rfl); (· rfl)) | (apply Bc; (· exact nxE)) | (apply Bd; (· rfl); (· rfl); (· exact nxE))); (· first | exact Kz rfl rfl (hQ) (Ad An) | exact Kz rfl rfl (hN) (Ad (Ad An)) | exact Ok.pe)) | ((first | apply Ca | (apply Cb; (· exact nxE))); (· first | exact Ok.e0)) | refine Sx ?_ | (refine Sy (fun h => ?_) (fun h => ?_) <;> try (exfalso; omega; done)) | refine Sz (fun h => ?_) (fun h => ?_))
    refine Yb ?_
    (apply Le.headZ (hs := []) [] rfl)
    all_goals (try dsimp only [srcs])
    (case' hfr => (repeat' (first | refine La ?_ ?_ | exact Lc | refine Lo ?_ | refine ⟨⟨_, rfl, ?_⟩, ?_⟩ | refine Lx ?_)))
    all_goals (first | exact Ld | exact trivial | (rfl))
  rw [hnd] at hN
  rw [if_pos rfl, if_pos rfl, if_pos rfl, if_pos rfl]
  have hM := isSq_ok hs
  have hle := hM.le
  obtain ⟨h0, h1⟩ := wi_iff.1 hnd
  obtain ⟨d, rfl⟩ : ∃ d : Nat, e = d := ⟨e.toNat, by omega⟩
  have hus := upT_sq (e := (d : Int)) hs
  have hUM := isSq_ok hus
  rw [upT_len] at hUM
  have hCm := cycleMean_ac (upT t d) t.length hUM
  have hcs := bmC_cases (upT t d)
  rw [upT_len] at hcs
  have hRe := (reaching_ac t t.length hM.sq (by omega)).frzT btF_len
  rw [btF_congr (fun i j hi hj => wsB_rch hi hj)] at hRe
  have hF := mbyUp_ac t.length t.length t.length rfl rfl t hM.sq (rchF (entN t) t.length) d (by omega) (by omega) (by omega)
  have hut : upT t d = tabF t.length t.length (upF (rchF (entN t) t.length) (entN t) d) := by unfold upT; rw [Int.toNat_natCast]
  have hupl : (upT t d).length = t.length := upT_len
  have hlen : (mRows 1 (TR t)).length = t.length := mTR_len
  unfold cmR cmC
  rw [upT_len]
  rcases hcs with ⟨_, h2⟩ | ⟨_, hk, e2⟩ | ⟨_, hk, e2⟩
  · rw [hus] at h2; cases h2
  · rw [e2, if_pos rfl, if_pos rfl]
    rw [kmR_get hUM hk] at hCm
    simp only [Option.getD, Option.isSome] at hCm
    have hRk := checkedRatio_ac _ (kmR_rt hUM hk)
    generalize kmR (entN (upT t d)) t.length = m at *
    rw [hut] at hCm hupl
    generalize upF (rchF (entN t) t.length) (entN t) d = U at *
    generalize rchF (entN t) t.length = F at *
    refine AC.of_body 0 Try.func36 rfl (fun l h => absurd rfl h) (fun C hC => ?_)
    have hD : ∀ l, ¬ C.D0 l := fun l h => (hC l).1 h rfl
    simp only [startFr, Try.ntmps36, List.length_cons, List.length_nil, Nat.reduceAdd, Nat.reduceSub, List.replicate_succ, List.replicate_zero, List.cons_append, List.nil_append]
    repeat' (first | ((first | apply Ba | (apply Bb; (· rfl); (· rfl)) | (apply Bc; (· exact nxE)) | (apply Bd; (· rfl); (· rfl); (· exact nxE))); (· first | exact Ok.lenD rfl rfl hlen | exact Kz rfl rfl (hQ) (Ad An) | exact Kz rfl rfl (hN) (Ad (Ad An)) | exact Kz rfl rfl (hRe) (Ad An) | exact Ez rfl rfl (hCm) (Sm Sn) | exact Kz rfl rfl (hRk) (Aa (Ad (Ad An)) An) | exact OpOk.callSX (hsUp t.length F d t) [mi1 ⟨14, []⟩ (TR (tabF t.length t.length U))] rfl rfl hF (by intro p hp; simp only [List.mem_cons, List.not_mem_nil, or_false] at hp; rcases hp with rfl | rfl | rfl <;> rfl) hsUp_ok (by simp [Loc.cov]) (.cons (.dd _) (.cons (.dd _) (.cons (AR.clo' .nil (.cons (AR.ptr _ _ _ _ (by simp)) (.cons (AR.ptr _ _ _ _ (by simp)) (.cons (AR.ptr _ _ _ _ (by simp)) .nil)))) .nil))) (by simp [rn, emb]; rfl) | exact Ok.pe)) | ((first | apply Ca | (apply Cb; (· exact nxE))); (· first | exact OpOk.callSX (hsUp t.length F d t) [mi1 ⟨14, []⟩ (TR (tabF t.length t.length U))] rfl rfl hF (by intro p hp; simp only [List.mem_cons, List.not_mem_nil, or_false] at hp; rcases hp with rfl | rfl | rfl <;> rfl) hsUp_ok (by simp [Loc.cov]) (.cons (.dd _) (.cons (.dd _) (.cons (AR.clo' .nil (.cons (AR.ptr _ _ _ _ (by simp)) (.cons (AR.ptr _ _ _ _ (by simp)) (.cons (AR.ptr _ _ _ _ (by simp)) .nil)))) .nil))) (by simp [rn, emb]; rfl) | exact Ok.e0)) | refine Sx ?_ | (refine Sy (fun h => ?_) (fun h => ?_) <;> try (exfalso; omega; done)) | refine Sz (fun h => ?_) (fun h => ?_))
    refine Yb ?_
    (apply Le.headZ (hs := []) [] rfl)
    all_goals (try dsimp only [srcs])
    (case' hfr => (repeat' (first | refine La ?_ ?_ | exact Lc | refine Lo ?_ | refine ⟨⟨_, rfl, ?_⟩, ?_⟩ | refine Lx ?_)))
    all_goals (first | exact Ld | exact trivial | (rfl))
  · rw [e2, if_neg (by decide), if_neg (by decide)]
    rw [karp_no hUM.b hUM.le hk] at hCm
    simp only [Option.getD, Option.isSome] at hCm
    rw [hut] at hCm hupl
    generalize upF (rchF (entN t) t.length) (entN t) d = U at *
    generalize rchF (entN t) t.length = F at *
    refine AC.of_body 0 Try.func36 rfl (fun l h => absurd rfl h) (fun C hC => ?_)
    have hD : ∀ l, ¬ C.D0 l := fun l h => (hC l).1 h rfl
    simp only [startFr, Try.ntmps36, List.length_cons, List.length_nil, Nat.reduceAdd, Nat.reduceSub, List.replicate_succ, List.replicate_zero, List.cons_append, List.nil_append]
    repeat' (first | ((first | apply Ba | (apply Bb; (· rfl); (· rfl)) | (apply Bc; (· exact nxE)) | (apply Bd; (· rfl); (· rfl); (· exact nxE))); (· first | exact Ok.lenD rfl rfl hlen | exact Kz rfl rfl (hQ) (Ad An) | exact Kz rfl rfl (hN) (Ad (Ad An)) | exact Kz rfl rfl (hRe) (Ad An) | exact Ez rfl rfl (hCm) (Sm Sn) | exact OpOk.callSX (hsUp t.length F d t) [mi1 ⟨14, []⟩ (TR (tabF t.length t.length U))] rfl rfl hF (by intro p hp; simp only [List.mem_cons, List.not_mem_nil, or_false] at hp; rcases hp with rfl | rfl | rfl <;> rfl) hsUp_ok (by simp [Loc.cov]) (.cons (.dd _) (.cons (.dd _) (.cons (AR.clo' .nil (.cons (AR.ptr _ _ _ _ (by simp)) (.cons (AR.ptr _ _ _ _ (by simp)) (.cons (AR.ptr _ _ _ _ (by simp)) .nil)))) .nil))) (by simp [rn, emb]; rfl) | exact Ok.pe)) | ((first | apply Ca | (apply Cb; (· exact nxE))); (· first | exact OpOk.callSX (hsUp t.length F d t) [mi1 ⟨14, []⟩ (TR (tabF t.length t.length U))] rfl rfl hF (by intro p hp; simp only [List.mem_cons, List.not_mem_nil, or_false] at hp; rcases hp with rfl | rfl | rfl <;> rfl) hsUp_ok (by simp [Loc.cov]) (.cons (.dd _) (.cons (.dd _) (.cons (AR.clo' .nil (.cons (AR.ptr _ _ _ _ (by simp)) (.cons (AR.ptr _ _ _ _ (by simp)) (.cons (AR.ptr _ _ _ _ (by simp)) .nil)))) .nil))) (by simp [rn, emb]; rfl) | exact Ok.e0)) | refine Sx ?_ | (refine Sy (fun h => ?_) (fun h => ?_) <;> try (exfalso; omega; done)) | refine Sz (fun h => ?_) (fun h => ?_))
    refine Yb ?_
    (apply Le.headZ (hs := []) [] rfl)
    all_goals (try dsimp only [srcs])
    (case' hfr => (repeat' (first | refine La ?_ ?_ | exact Lc | refine Lo ?_ | refine ⟨⟨_, rfl, ?_⟩, ?_⟩ | refine Lx ?_)))
    all_goals (first | exact Ld | exact trivial | (rfl))
end Go.Proofs.Ytikadoicplnkgaa
end

section
namespace Go.Proofs.Ytikadoicplnkgaa
set_option linter.unusedSimpArgs false
set_option linter.unusedVariables false
open Go Go.RowKit
attribute [local irreducible] AL AD AW OpOk Le AC thenQ blockQ EndQ

theorem cm_ok {t : List (List Int)} (h : cmC t = 0) : isSq t = true ∧ hasK (entN t) t.length ∧ isRt (kmR (entN t) t.length) = true ∧ cmR t = kmR (entN t) t.length ∧ bmC t = 0 := by
  unfold cmC at h
  unfold cmR
  rcases bmC_cases t with ⟨e, hs⟩ | ⟨hs, hc, e⟩ | ⟨hs, hc, e⟩
  · rw [e, if_neg (by decide)] at h; exact absurd h (by decide)
  · rw [e, if_pos rfl] at h ⊢
    unfold rtC at h
    unfold rtR
    by_cases hi : isRt (kmR (entN t) t.length) = true
    · rw [if_pos hi]; exact ⟨hs, hc, hi, rfl, rfl⟩
    · rw [if_neg hi] at h; exact absurd h (by decide)
  · rw [e, if_neg (by decide)] at h; exact absurd h (by decide)
end Go.Proofs.Ytikadoicplnkgaa
end
