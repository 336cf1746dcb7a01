/-
  Walks in the abstract reading, part 8.
-/
import Derived.Test.YtpgcmpbamlnkkaaKoU6
import Derived.Test.YtpgcmpbamlnkkaaKoU5
import Derived.Test.YtpgcmpbamlnkkaaKoU7
import Derived.Test.YtpgcmpbamlnkkaaKoU4
import Derived.Test.YtpgcmpbamlnkkaaKoE43
section
namespace Go.Proofs.Ytpgcmpbamlnkkaa
set_option linter.unusedSimpArgs false
set_option linter.unusedVariables false
open Go Go.RowKit
attribute [local irreducible] AL AD AW OpOk Le AC thenQ blockQ EndQ

/-! ### Rows of truth values -/
abbrev DB (b : Bool) : D := .v (.bool b)
def brF (n : Nat) (g : Nat → Bool) : List (List D) := (List.range n).map fun j => [DB (g j)]
def btF (m n : Nat) (F : Nat → Nat → Bool) : List (List (List D)) := (List.range m).map fun i => brF n (F i)
theorem brF_len {n : Nat} {g : Nat → Bool} : (brF n g).length = n := by simp [brF]
theorem btF_len {m n : Nat} {F : Nat → Nat → Bool} : (btF m n F).length = m := by simp [btF]
theorem brF_get {n j : Nat} {g : Nat → Bool} (h : j < n) : (brF n g)[j]? = some [DB (g j)] := by simp [brF, h]
theorem btF_get {m n i : Nat} {F : Nat → Nat → Bool} (h : i < m) : (btF m n F)[i]? = some (brF n (F i)) := by simp [btF, h]
theorem btF_succ {m n : Nat} {F : Nat → Nat → Bool} : btF (m + 1) n F = btF m n F ++ [brF n (F m)] := by simp [btF, List.range_succ]
theorem brF_set {n i : Nat} {g g' : Nat → Bool} {b : Bool} (h : ∀ j, g' j = if j = i then b else g j) : (brF n g).set i [DB b] = brF n g' := by
  apply List.ext_getElem?
  intro j
  by_cases hj : j < n
  · rw [brF_get hj, List.getElem?_set, h j]
    by_cases e : i = j
    · subst e; simp [brF, hj]
    · rw [if_neg e, if_neg (fun h => e h.symm), brF_get hj]
  · rw [List.getElem?_eq_none (by simp [brF]; omega), List.getElem?_eq_none (by rw [brF_len]; omega)]
theorem brF_0 {n : Nat} : List.replicate n [DB false] = brF n (fun _ => false) := by
  apply List.ext_getElem?
  intro j
  by_cases hj : j < n
  · rw [brF_get hj, List.getElem?_replicate, if_pos hj]
  · rw [List.getElem?_eq_none (by simp; omega), List.getElem?_eq_none (by rw [brF_len]; omega)]
/-! ### The search -/
section
variable (a : Nat → Nat → Int)
def rcS (i k : Nat) (g : Nat → Bool) : Nat → Bool := if g k = true ∧ a i k ≠ BOT then (fun j => if j = i then true else g j) else g
def rcJ (i : Nat) : Nat → (Nat → Bool) → Nat → Bool
  | 0, g => g
  | k + 1, g => rcS a i k (rcJ i k g)
def rcI (n : Nat) : Nat → (Nat → Bool) → Nat → Bool
  | 0, g => g
  | i + 1, g => rcJ a i n (rcI n i g)
def rcV (n : Nat) : Nat → (Nat → Bool) → Nat → Bool
  | 0, g => g
  | m + 1, g => rcI a n n (rcV n m g)
def rchF (n v : Nat) : Nat → Bool := rcV a n n (fun j => decide (j = v))
variable {a}
theorem rcS_mono {i k j : Nat} {g : Nat → Bool} (h : g j = true) : rcS a i k g j = true := by
  unfold rcS; split
  · simp only; split
    · rfl
    · exact h
  · exact h
theorem rcJ_mono {i j : Nat} {g : Nat → Bool} (h : g j = true) : ∀ k, rcJ a i k g j = true
  | 0 => h
  | k + 1 => rcS_mono (rcJ_mono h k)
theorem rcI_mono {n j : Nat} {g : Nat → Bool} (h : g j = true) : ∀ k, rcI a n k g j = true
  | 0 => h
  | k + 1 => rcJ_mono (rcI_mono h k) n
theorem rcV_mono {n j : Nat} {g : Nat → Bool} (h : g j = true) : ∀ k, rcV a n k g j = true
  | 0 => h
  | k + 1 => rcI_mono (rcV_mono h k) n
theorem rcJ_hit {i k : Nat} {g : Nat → Bool} (h : g k = true) (hw : a i k ≠ BOT) : ∀ m, k < m → rcJ a i m g i = true
  | m + 1, hk => by
    by_cases e : k = m
    · subst e
      simp only [rcJ, rcS]
      rw [if_pos ⟨rcJ_mono h k, hw⟩]
      simp
    · exact rcS_mono (rcJ_hit h hw m (by omega))
theorem rcI_hit {n i k : Nat} {g : Nat → Bool} (h : g k = true) (hk : k < n) (hw : a i k ≠ BOT) : ∀ m, i < m → rcI a n m g i = true
  | m + 1, hi => by
    by_cases e : i = m
    · subst e; exact rcJ_hit (rcI_mono h i) hw n hk
    · exact rcJ_mono (rcI_hit h hk hw m (by omega)) n
theorem rcV_hit {n v : Nat} {g : Nat → Bool} (hv : v < n) (h : g v = true) : ∀ (m : Nat) (c : List Nat) (i : Nat), i < n → (∀ x ∈ c, x < n) → WM a v c i → c.length + 1 ≤ m → rcV a n m g i = true
  | 0, c, i, _, _, _, hl => by omega
  | m + 1, c, i, hi, hc, hw, hl => by
    rcases hw.lastArc with ⟨rfl, h1⟩ | ⟨c', k, rfl, h1, h2, _⟩
    · exact rcI_hit (rcV_mono h m) hv h1 n hi
    · have hk := hc k (by simp)
      exact rcI_hit (rcV_hit hv h m c' k hk (fun x hx => hc x (by simp [hx])) h1 (by simp at hl; omega)) hk h2 n hi
section
variable {n : Nat} {R : Nat → Prop} (hR : ∀ i k, i < n → k < n → R k → a i k ≠ BOT → R i)
include hR
theorem rcS_snd {i k : Nat} (hi : i < n) (hk : k < n) {g : Nat → Bool} (h : ∀ j, j < n → g j = true → R j) : ∀ j, j < n → rcS a i k g j = true → R j := fun j hj hg => by
  unfold rcS at hg
  split at hg
  · rename_i hc
    simp only at hg
    split at hg
    · rename_i e; subst e; exact hR _ _ hi hk (h k hk hc.1) hc.2
    · exact h j hj hg
  · exact h j hj hg
theorem rcJ_snd {i : Nat} (hi : i < n) {g : Nat → Bool} (h : ∀ j, j < n → g j = true → R j) : ∀ k, k ≤ n → ∀ j, j < n → rcJ a i k g j = true → R j
  | 0, _ => h
  | k + 1, hk => rcS_snd hR hi (by omega) (rcJ_snd hi h k (by omega))
theorem rcI_snd {g : Nat → Bool} (h : ∀ j, j < n → g j = true → R j) : ∀ i, i ≤ n → ∀ j, j < n → rcI a n i g j = true → R j
  | 0, _ => h
  | i + 1, hi => rcJ_snd hR (by omega) (rcI_snd h i (by omega)) n (Nat.le_refl _)
theorem rcV_snd {g : Nat → Bool} (h : ∀ j, j < n → g j = true → R j) : ∀ m, ∀ j, j < n → rcV a n m g j = true → R j
  | 0 => h
  | m + 1 => rcI_snd hR (rcV_snd h m) n (Nat.le_refl _)
end
end
theorem tk_ok {n : Nat} {xs : List Pl} (hv : ∀ p ∈ xs, okPl n p) : WmOk n xs (1, 0) (wmT n xs (1, 0)) := wm_ok (M := 500000) (by omega) xs (fun p hp => ⟨hv p hp, by
  have := (hv p hp).2.2.2
  unfold pw
  simp only
  omega⟩)
theorem tk_np {n : Nat} {xs : List Pl} (hv : ∀ p ∈ xs, okPl n p) : NoPos (entN (wmT n xs (1, 0))) n := fun u c hu hc hw => by
  obtain ⟨d, h1, _, h3⟩ := wm_walk (tk_ok hv) hu hu hc hw
  have := sum_bnd (fun i hi => (okPl_at hv i hi).2.2) h1.lt
  rw [← h3, wgt_sums]
  omega
theorem rch_td {n : Nat} {xs : List Pl} (hv : ∀ p ∈ xs, okPl n p) (hn : n ≤ 10) {u e : Nat} (hu : u < n) (he : e < n) : rchF (entN (wmT n xs (1, 0))) n u e = decide (0 ≤ tdF xs u e) := by
  have hw := tk_ok hv
  have ht := tdOk hv hn hu
  rw [Bool.eq_iff_iff, decide_eq_true_eq]
  constructor
  · intro h
    obtain ⟨c, hc⟩ := rcV_snd (R := fun j => ∃ c, Wk xs u c (j : Int)) (fun i k hi hk ⟨c, hc⟩ hb => by
      rcases hw.some k i hk hi with e1 | ⟨p, hp, h1, h2, _⟩
      · exact absurd e1 hb
      · obtain ⟨x, hx, rfl⟩ := List.getElem_of_mem hp
        have e2 : plA xs x = xs[x] := by simp [plA, hx]
        exact ⟨c ++ [x], Wk.app.2 ⟨_, hc, hx, by rw [e2]; exact h1, by rw [e2]; exact h2⟩⟩) (fun j _ hj => ⟨[], by rw [of_decide_eq_true hj]; rfl⟩) n e he h
    exact (ht.all e c hc).1
  · intro h
    rcases ht.some e with e1 | ⟨c, hc, _⟩
    · omega
    · by_cases h0 : c = []
      · subst h0
        have hue : (u : Int) = e := hc
        obtain rfl : u = e := by omega
        exact rcV_mono (by simp) n
      · obtain ⟨c', g1, g2, _⟩ := wk_wm hw hv hc h0
        obtain ⟨c2, k1, k2, k3, _⟩ := walk_short (tk_np hv) c'.length c' u e (Nat.le_refl _) hu g2 (by simpa using g1)
        exact rcV_hit hu (by simp) n c2 e he k3 k1 k2
set_option maxHeartbeats 2000000 in
theorem l12Tokens_ac (n : Nat) (xs : List Pl) (hn : n ≤ 10) (hx : xs.length ≤ 1000) (hv : ∀ p ∈ xs, okPl n p) : AC Try.prog 108 [grD n xs] H0 (own1 1 n) (hpM 1 (TR (wmT n xs (1, 0)))) := by
  have hB := l02Bottom_ac n n (by omega) (by omega)
  refine AC.of_body 0 Try.func108 rfl (fun l h => absurd rfl h) (fun C hC => ?_)
  have hD : ∀ l, ¬ C.D0 l := fun l h => (hC l).1 h rfl
  simp only [startFr, Try.ntmps108, List.length_cons, List.length_nil, Nat.reduceAdd, Nat.reduceSub, List.replicate_succ, List.replicate_zero, List.cons_append, List.nil_append]
  repeat' (first | ((first | apply Ba | (apply Bb; (· rfl); (· rfl)) | (apply Bc; (· exact nxE)) | (apply Bd; (· rfl); (· rfl); (· exact nxE))); (· first | exact Tb rfl rfl (hB) (Sd (Sd Sn)) | exact Ok.pe)) | ((first | apply Ca | (apply Cb; (· exact nxE))); (· first | exact Tb rfl rfl (hB) (Sd (Sd Sn)) | exact Ok.e0)) | refine Sx ?_ | (refine Sy (fun h => ?_) (fun h => ?_) <;> try (exfalso; omega; done)) | refine Sz (fun h => ?_) (fun h => ?_))
  refine AW.loop (X := {k : Nat // k ≤ xs.length}) (fun k => ⟨[Oo, Bx 2 0, Oo, .own 1 ⟨1, []⟩ 0 n, I (k.1 : Nat), Oo, Oo, Oo, Oo, Oo, Oo, Oo, Oo, Oo, Oo, Oo, Oo, Oo, Oo, Oo, Oo, Oo, Oo, Oo, Oo, Oo, Oo, Oo, Oo, Oo, Oo, Oo, Oo, Oo, Oo, Oo, Oo, Oo, Oo, Oo, Oo, Oo, Oo, Oo, Oo], heapX [(⟨0, []⟩, ⟨0, []⟩, ⟨2, [[I n, PL xs]]⟩)] [mi1 ⟨1, []⟩ (TR ((xs.take k.1).foldl (wmS (1, 0)) (botT n n)))], 900⟩) (fun k => xs.length - k.1) ⟨0, Nat.zero_le _⟩ ?_ (fun k => ?_)
  ·
    (apply Le.headG [_] [{ l := ⟨1, []⟩, k := 1, R := TR (botT n n), src := ⟨6, [0]⟩, base := ⟨6, [0]⟩ }] (fun _ => False))
    (case' hlen => rfl)
    (case' hms => rfl)
    all_goals (try dsimp only [srcs])
    (case' hfr | hob => (repeat' (first | refine La ?_ ?_ | exact Lc | refine Lo ?_ | refine ⟨⟨_, rfl, ?_⟩, ?_⟩ | refine Lx ?_)))
    (case' hok => first | exact ⟨MI.ok_same rfl (Cg), trivial⟩ | exact trivial)
    (case' hN => rfl)
    (case' hS => rfl)
    all_goals (first | exact Ld | (rfl))
  obtain ⟨k, hk⟩ := k
  simp only
  by_cases hlt : k < xs.length
  · have hrow := pl_row (n := 0) hlt
    have hst := wm_take (r := (1, 0)) (n := n) hlt
    obtain ⟨⟨g1, g2⟩, ⟨g3, g4⟩, g5, g6⟩ := okPl_at hv k hlt
    have hsq : Sq ((xs.take k).foldl (wmS (1, 0)) (botT n n)) n := wm_sq (Sq.bot n)
    generalize hT : (xs.take k).foldl (wmS (1, 0)) (botT n n) = T at hst hsq
    generalize plA xs k = p at *
    obtain ⟨pf, pt, pd, pk⟩ := p
    obtain ⟨f, rfl⟩ : ∃ f : Nat, pf = f := ⟨pf.toNat, by simp at g1; omega⟩
    obtain ⟨t, rfl⟩ : ∃ t : Nat, pt = t := ⟨pt.toNat, by simp at g3; omega⟩
    simp only [Int.toNat_natCast] at hrow g2 g4 g5 g6
    obtain ⟨r, hr1, hr2, hr3⟩ := hsq.get (show t < n by omega) (show f < n by omega)
    have hr1' : (TR T)[t]? = some (IR r) := by simp [hr1]
    have hrl : (IR r).length = n := by rw [IR_len, hr3]
    have hrf : (IR r)[f]? = some [DI (entN T t f)] := by simp [hr2]
    repeat' (first | ((first | apply Ba | (apply Bb; (· rfl); (· rfl)) | (apply Bc; (· exact nxE)) | (apply Bd; (· rfl); (· rfl); (· exact nxE))); (· first | exact Ok.ldTn rfl rfl rfl hr1' hrl | exact Ok.ld1 rfl rfl (congrArg (Option.map (dobj 1)) hr1') hrf | exact Ok.st1 rfl rfl (congrArg (Option.map (dobj 1)) hr1') (by omega) (by rw [hrf]; rfl) rfl rfl IR_set | exact Ok.pe)) | ((first | apply Ca | (apply Cb; (· exact nxE))); (· first | exact Ok.st1 rfl rfl (congrArg (Option.map (dobj 1)) hr1') (by omega) (by rw [hrf]; rfl) rfl rfl IR_set | exact Ok.e0)) | refine Sx ?_ | (refine Sy (fun h => ?_) (fun h => ?_) <;> try (exfalso; omega; done)) | refine Sz (fun h => ?_) (fun h => ?_))
    refine ⟨⟨k + 1, by omega⟩, ?_, by simp only; omega⟩
    (apply Le.headG [_] [{ l := ⟨1, []⟩, k := 1, R := TR ((xs.take (k + 1)).foldl (wmS (1, 0)) (botT n n)), src := ⟨1, []⟩, base := ⟨1, []⟩ }] (fun _ => False))
    (case' hlen => rfl)
    (case' hms => rfl)
    all_goals (try dsimp only [srcs])
    (case' hfr | hob => (repeat' (first | refine La ?_ ?_ | exact Lc | refine Lo ?_ | refine ⟨⟨_, rfl, ?_⟩, ?_⟩ | refine Lx ?_)))
    (case' hok => first | exact ⟨MI.ok_row (r0 := IR r) (r := IR (r.set f (max (entN T t f) (-pk)))) (by rw [hst, wmS]; simp only [pw, Int.zero_mul, Int.one_mul, Int.zero_sub]; exact setT_TR hr1) hr1' (by simp) rfl (Cg), trivial⟩ | exact trivial)
    (case' hN => rfl)
    (case' hS => rfl)
    all_goals (first | exact Ld | (rfl))
  ·
    obtain rfl : k = xs.length := by omega
    rw [List.take_length]
    repeat' (first | ((first | apply Ba | (apply Bb; (· rfl); (· rfl)) | (apply Bc; (· exact nxE)) | (apply Bd; (· rfl); (· rfl); (· exact nxE))); (· first | exact Ok.pe)) | ((first | apply Ca | (apply Cb; (· exact nxE))); (· first | exact Ok.e0)) | refine Sx ?_ | (refine Sy (fun h => ?_) (fun h => ?_) <;> try (exfalso; omega; done)) | refine Sz (fun h => ?_) (fun h => ?_))
    refine Ya ?_
    (apply Le.headG [] [{ l := ⟨0, []⟩, k := 1, R := TR (wmT n xs (1, 0)), src := ⟨1, []⟩, base := ⟨1, []⟩ }] (fun _ => False))
    (case' hlen => rfl)
    (case' hms => rfl)
    all_goals (try dsimp only [srcs])
    (case' hfr | hob => (repeat' (first | refine La ?_ ?_ | exact Lc | refine Lo ?_ | refine ⟨⟨_, rfl, ?_⟩, ?_⟩ | refine Lx ?_)))
    (case' hok => first | exact ⟨MI.ok_same rfl (Cg), trivial⟩ | exact trivial)
    (case' hN => rfl)
    (case' hS => rfl)
    all_goals (first | exact Ld | (rfl))
theorem btM_get {m n i : Nat} {F : Nat → Nat → Bool} (h : i < m) : (mRows 1 (btF m n F))[((i : Nat) : Int).toNat]? = some [.sl 1 (brF n (F i))] := by simp [mRows, btF_get h]
set_option maxHeartbeats 8000000 in
theorem l05Reach_ac (T : List (List Int)) (n : Nat) (hT : Sq T n) (hn : n ≤ 1000) : AC Try.prog 207 [TL T] H0 (own1 1 n) (hpM 1 (btF n n (rchF (entN T) n))) := by
  have htl : (mRows 1 (TR T)).length = n := by simp [hT.l]
  have hsg : ∀ i j, i < n → j < n → ∃ r, (mRows 1 (TR T))[((i : Nat) : Int).toNat]? = some [.sl 1 (IR r)] ∧ (IR r)[((j : Nat) : Int).toNat]? = some [DI (entN T i j)] ∧ (IR r).length = n := fun i j hi hj => by
    obtain ⟨r, h1, h2, h3⟩ := hT.get hi hj
    exact ⟨r, TR_get h1, IR_get h2, by rw [IR_len, h3]⟩
  generalize entN T = a at *
  refine AC.of_body 0 Try.func207 rfl (fun l h => absurd rfl h) (fun C hC => ?_)
  have hD : ∀ l, ¬ C.D0 l := fun l h => (hC l).1 h rfl
  simp only [startFr, Try.ntmps207, List.length_cons, List.length_nil, Nat.reduceAdd, Nat.reduceSub, List.replicate_succ, List.replicate_zero, List.cons_append, List.nil_append]
  repeat' (first | ((first | apply Ba | (apply Bb; (· rfl); (· rfl)) | (apply Bc; (· exact nxE)) | (apply Bd; (· rfl); (· rfl); (· exact nxE))); (· first | exact Ok.lenD rfl rfl htl | exact Ok.pe)) | ((first | apply Ca | (apply Cb; (· exact nxE))); (· first | exact Ok.e0)) | refine Sx ?_ | (refine Sy (fun h => ?_) (fun h => ?_) <;> try (exfalso; omega; done)) | refine Sz (fun h => ?_) (fun h => ?_))
  refine AW.loop (X := {k : Nat // k ≤ n}) (fun k => ⟨[TL T, Oo, Oo, I n, .own 1 ⟨1, []⟩ 0 (k.1 : Nat), I (k.1 : Nat), Oo, Oo, Oo, Oo, Oo, Oo, Oo, Oo, Oo, Oo, Oo, Oo, Oo, Oo, Oo, Oo, Oo, Oo, Oo, Oo, Oo, Oo, Oo, Oo, Oo, Oo, Oo, Oo, Oo, Oo, Oo, Oo, Oo, Oo, Oo, Oo, Oo, Oo, Oo, Oo, Oo, Oo, Oo, Oo, Oo, Oo, Oo, Oo, Oo, Oo, Oo, Oo, Oo, Oo], heapX [] [mi1 ⟨1, []⟩ (btF k.1 n (rchF a n))], 900⟩) (fun k => n - k.1) ⟨0, Nat.zero_le _⟩ ?_ (fun k => ?_)
  ·
    (apply Le.headG [] [{ l := ⟨1, []⟩, k := 1, R := btF 0 n (rchF a n), src := ⟨4, []⟩, base := ⟨4, []⟩ }] (fun _ => False))
    (case' hlen => rfl)
    (case' hms => rfl)
    all_goals (try dsimp only [srcs])
    (case' hfr | hob => (repeat' (first | refine La ?_ ?_ | exact Lc | refine Lo ?_ | refine ⟨⟨_, rfl, ?_⟩, ?_⟩ | refine Lx ?_)))
    (case' hok => first | exact ⟨MI.ok_same rfl (fun i x hx => by simp [btF] at hx), trivial⟩ | exact trivial)
    (case' hN => rfl)
    (case' hS => rfl)
    all_goals (first | exact Ld | (rfl))
  obtain ⟨v, hv⟩ := k
  simp only
  by_cases hlt : v < n
  · have hrow0 : (List.replicate n [DB false]).set v [DB true] = brF n (fun j => decide (j = v)) := by rw [brF_0]; exact brF_set (fun j => by by_cases e : j = v <;> simp [e])
    have hF : rchF a n v = rcV a n n (fun j => decide (j = v)) := rfl
    generalize hg0 : (fun j => decide (j = v)) = g0 at hrow0 hF
    repeat' (first | ((first | apply Ba | (apply Bb; (· rfl); (· rfl)) | (apply Bc; (· exact nxE)) | (apply Bd; (· rfl); (· rfl); (· exact nxE))); (· first | exact Ok.st1 rfl rfl rfl (by rw [List.length_replicate]; exact hlt) (by simp [hlt]; rfl) rfl rfl hrow0 | exact Ok.pe)) | ((first | apply Ca | (apply Cb; (· exact nxE))); (· first | exact Ok.st1 rfl rfl rfl (by rw [List.length_replicate]; exact hlt) (by simp [hlt]; rfl) rfl rfl hrow0 | exact Ok.e0)) | refine Sx ?_ | (refine Sy (fun h => ?_) (fun h => ?_) <;> try (exfalso; omega; done)) | refine Sz (fun h => ?_) (fun h => ?_))
    refine AW.loop (X := {k : Nat // k ≤ n}) (fun k => ⟨[TL T, Oo, Oo, I n, .own 1 ⟨1, []⟩ 0 v, I v, .own 1 ⟨2, []⟩ 0 n, I (k.1 : Nat), Oo, Oo, Oo, Oo, Oo, Oo, Oo, Oo, Oo, Oo, Oo, Oo, Oo, Oo, Oo, Oo, Oo, Oo, Oo, Oo, Oo, Oo, Oo, Oo, Oo, Oo, Oo, Oo, Oo, Oo, Oo, Oo, Oo, Oo, Oo, Oo, Oo, Oo, Oo, Oo, Oo, Oo, Oo, Oo, Oo, Oo, Oo, Oo, Oo, Oo, Oo, Oo], heapX [(⟨2, []⟩, ⟨2, []⟩, dobj 1 (brF n (rcV a n k.1 g0)))] [mi1 ⟨1, []⟩ (btF v n (rchF a n))], 900⟩) (fun k => n - k.1) ⟨0, Nat.zero_le _⟩ ?_ (fun k => ?_)
    ·
      (apply Le.headG [_] [mi1 ⟨1, []⟩ (btF v n (rchF a n))] (fun _ => False))
      (case' hlen => rfl)
      (case' hms => rfl)
      all_goals (try dsimp only [srcs])
      (case' hfr | hob => (repeat' (first | refine La ?_ ?_ | exact Lc | refine Lo ?_ | refine ⟨⟨_, rfl, ?_⟩, ?_⟩ | refine Lx ?_)))
      (case' hok => first | exact ⟨MI.ok_same rfl (Cg), trivial⟩ | exact trivial)
      (case' hN => rfl)
      (case' hS => rfl)
      all_goals (first | exact Ld | (rfl))
    obtain ⟨m, hm⟩ := k
    simp only
    by_cases hlt1 : m < n
    · have hst1 : rcV a n (m + 1) g0 = rcI a n n (rcV a n m g0) := rfl
      generalize rcV a n m g0 = g1 at hst1 ⊢
      repeat' (first | ((first | apply Ba | (apply Bb; (· rfl); (· rfl)) | (apply Bc; (· exact nxE)) | (apply Bd; (· rfl); (· rfl); (· exact nxE))); (· first | exact Ok.pe)) | ((first | apply Ca | (apply Cb; (· exact nxE))); (· first | exact Ok.e0)) | refine Sx ?_ | (refine Sy (fun h => ?_) (fun h => ?_) <;> try (exfalso; omega; done)) | refine Sz (fun h => ?_) (fun h => ?_))
      refine AW.loop (X := {k : Nat // k ≤ n}) (fun k => ⟨[TL T, Oo, Oo, I n, .own 1 ⟨1, []⟩ 0 v, I v, .own 1 ⟨2, []⟩ 0 n, I m, I (k.1 : Nat), Oo, Oo, Oo, Oo, Oo, Oo, Oo, Oo, Oo, Oo, Oo, Oo, Oo, Oo, Oo, Oo, Oo, Oo, Oo, Oo, Oo, Oo, Oo, Oo, Oo, Oo, Oo, Oo, Oo, Oo, Oo, Oo, Oo, Oo, Oo, Oo, Oo, Oo, Oo, Oo, Oo, Oo, Oo, Oo, Oo, Oo, Oo, Oo, Oo, Oo, Oo], heapX [(⟨2, []⟩, ⟨2, []⟩, dobj 1 (brF n (rcI a n k.1 g1)))] [mi1 ⟨1, []⟩ (btF v n (rchF a n))], 900⟩) (fun k => n - k.1) ⟨0, Nat.zero_le _⟩ ?_ (fun k => ?_)
      ·
        (apply Le.headG [_] [mi1 ⟨1, []⟩ (btF v n (rchF a n))] (fun _ => False))
        (case' hlen => rfl)
        (case' hms => rfl)
        all_goals (try dsimp only [srcs])
        (case' hfr | hob => (repeat' (first | refine La ?_ ?_ | exact Lc | refine Lo ?_ | refine ⟨⟨_, rfl, ?_⟩, ?_⟩ | refine Lx ?_)))
        (case' hok => first | exact ⟨MI.ok_same rfl (Cg), trivial⟩ | exact trivial)
        (case' hN => rfl)
        (case' hS => rfl)
        all_goals (first | exact Ld | (rfl))
      obtain ⟨i, hi⟩ := k
      simp only
      by_cases hlt2 : i < n
      · have hst2 : rcI a n (i + 1) g1 = rcJ a i n (rcI a n i g1) := rfl
        generalize rcI a n i g1 = g2 at hst2 ⊢
        repeat' (first | ((first | apply Ba | (apply Bb; (· rfl); (· rfl)) | (apply Bc; (· exact nxE)) | (apply Bd; (· rfl); (· rfl); (· exact nxE))); (· first | exact Ok.pe)) | ((first | apply Ca | (apply Cb; (· exact nxE))); (· first | exact Ok.e0)) | refine Sx ?_ | (refine Sy (fun h => ?_) (fun h => ?_) <;> try (exfalso; omega; done)) | refine Sz (fun h => ?_) (fun h => ?_))
        refine AW.loop (X := {k : Nat // k ≤ n}) (fun k => ⟨[TL T, Oo, Oo, I n, .own 1 ⟨1, []⟩ 0 v, I v, .own 1 ⟨2, []⟩ 0 n, I m, I i, I (k.1 : Nat), Oo, Oo, Oo, Oo, Oo, Oo, Oo, Oo, Oo, Oo, Oo, Oo, Oo, Oo, Oo, Oo, Oo, Oo, Oo, Oo, Oo, Oo, Oo, Oo, Oo, Oo, Oo, Oo, Oo, Oo, Oo, Oo, Oo, Oo, Oo, Oo, Oo, Oo, Oo, Oo, Oo, Oo, Oo, Oo, Oo, Oo, Oo, Oo, Oo, Oo], heapX [(⟨2, []⟩, ⟨2, []⟩, dobj 1 (brF n (rcJ a i k.1 g2)))] [mi1 ⟨1, []⟩ (btF v n (rchF a n))], 900⟩) (fun k => n - k.1) ⟨0, Nat.zero_le _⟩ ?_ (fun k => ?_)
        ·
          (apply Le.headG [_] [mi1 ⟨1, []⟩ (btF v n (rchF a n))] (fun _ => False))
          (case' hlen => rfl)
          (case' hms => rfl)
          all_goals (try dsimp only [srcs])
          (case' hfr | hob => (repeat' (first | refine La ?_ ?_ | exact Lc | refine Lo ?_ | refine ⟨⟨_, rfl, ?_⟩, ?_⟩ | refine Lx ?_)))
          (case' hok => first | exact ⟨MI.ok_same rfl (Cg), trivial⟩ | exact trivial)
          (case' hN => rfl)
          (case' hS => rfl)
          all_goals (first | exact Ld | (rfl))
        obtain ⟨j, hj⟩ := k
        simp only
        by_cases hlt3 : j < n
        · obtain ⟨r, h1, h2, h3⟩ := hsg i j hlt2 hlt3
          have hst3 : rcJ a i (j + 1) g2 = if rcJ a i j g2 j = true ∧ a i j ≠ BOT then (fun b => if b = i then true else rcJ a i j g2 b) else rcJ a i j g2 := rfl
          generalize rcJ a i j g2 = g3 at hst3 ⊢
          generalize a i j = x at h2 hst3
          have hbl : (brF n g3).length = n := brF_len
          have hbj := brF_get (g := g3) hlt3
          have hbi := brF_get (g := g3) hlt2
          have hset : (brF n g3).set i [DB true] = brF n (fun b => if b = i then true else g3 b) := brF_set (fun _ => rfl)
          generalize g3 j = y at hbj hst3
          repeat' (first | ((first | apply Ba | (apply Bb; (· rfl); (· rfl)) | (apply Bc; (· exact nxE)) | (apply Bd; (· rfl); (· rfl); (· exact nxE))); (· first | exact Ok.ld1 rfl rfl rfl hbj | exact Ok.st1 rfl rfl rfl (by rw [hbl]; exact hlt2) (by rw [hbi]; rfl) rfl rfl hset | exact Ok.pe)) | ((first | apply Ca | (apply Cb; (· exact nxE))); (· first | exact Ok.st1 rfl rfl rfl (by rw [hbl]; exact hlt2) (by rw [hbi]; rfl) rfl rfl hset | exact Ok.e0)) | refine Sx ?_ | (refine Sy (fun h => ?_) (fun h => ?_) <;> try (exfalso; omega; done)) | refine Sz (fun h => ?_) (fun h => ?_))
          all_goals
            first | rw [if_pos ⟨by assumption, by assumption⟩] at hst3 | rw [if_neg (by simp_all [BOT])] at hst3
            refine ⟨⟨j + 1, by omega⟩, ?_, by simp only; omega⟩
            simp only [hst3]
            (apply Le.headG [_] [mi1 ⟨1, []⟩ (btF v n (rchF a n))] (fun _ => False))
            (case' hlen => rfl)
            (case' hms => rfl)
            all_goals (try dsimp only [srcs])
            (case' hfr | hob => (repeat' (first | refine La ?_ ?_ | exact Lc | refine Lo ?_ | refine ⟨⟨_, rfl, ?_⟩, ?_⟩ | refine Lx ?_)))
            (case' hok => first | exact ⟨MI.ok_same rfl (Cg), trivial⟩ | exact trivial)
            (case' hN => rfl)
            (case' hS => rfl)
            all_goals (first | exact Ld | (rfl))
        · obtain rfl : j = n := by omega
          rw [← hst2]
          repeat' (first | ((first | apply Ba | (apply Bb; (· rfl); (· rfl)) | (apply Bc; (· exact nxE)) | (apply Bd; (· rfl); (· rfl); (· exact nxE))); (· first | exact Ok.pe)) | ((first | apply Ca | (apply Cb; (· exact nxE))); (· first | exact Ok.e0)) | refine Sx ?_ | (refine Sy (fun h => ?_) (fun h => ?_) <;> try (exfalso; omega; done)) | refine Sz (fun h => ?_) (fun h => ?_))
          refine ⟨⟨i + 1, by omega⟩, ?_, by simp only; omega⟩
          (apply Le.headG [_] [mi1 ⟨1, []⟩ (btF v j (rchF a j))] (fun _ => False))
          (case' hlen => rfl)
          (case' hms => rfl)
          all_goals (try dsimp only [srcs])
          (case' hfr | hob => (repeat' (first | refine La ?_ ?_ | exact Lc | refine Lo ?_ | refine ⟨⟨_, rfl, ?_⟩, ?_⟩ | refine Lx ?_)))
          (case' hok => first | exact ⟨MI.ok_same rfl (Cg), trivial⟩ | exact trivial)
          (case' hN => rfl)
          (case' hS => rfl)
          all_goals (first | exact Ld | (rfl))
      · obtain rfl : i = n := by omega
        rw [← hst1]
        repeat' (first | ((first | apply Ba | (apply Bb; (· rfl); (· rfl)) | (apply Bc; (· exact nxE)) | (apply Bd; (· rfl); (· rfl); (· exact nxE))); (· first | exact Ok.pe)) | ((first | apply Ca | (apply Cb; (· exact nxE))); (· first | exact Ok.e0)) | refine Sx ?_ | (refine Sy (fun h => ?_) (fun h => ?_) <;> try (exfalso; omega; done)) | refine Sz (fun h => ?_) (fun h => ?_))
        refine ⟨⟨m + 1, by omega⟩, ?_, by simp only; omega⟩
        (apply Le.headG [_] [mi1 ⟨1, []⟩ (btF v i (rchF a i))] (fun _ => False))
        (case' hlen => rfl)
        (case' hms => rfl)
        all_goals (try dsimp only [srcs])
        (case' hfr | hob => (repeat' (first | refine La ?_ ?_ | exact Lc | refine Lo ?_ | refine ⟨⟨_, rfl, ?_⟩, ?_⟩ | refine Lx ?_)))
        (case' hok => first | exact ⟨MI.ok_same rfl (Cg), trivial⟩ | exact trivial)
        (case' hN => rfl)
        (case' hS => rfl)
        all_goals (first | exact Ld | (rfl))
    · obtain rfl : m = n := by omega
      rw [← hF]
      have hbl : (brF m (rchF a m v)).length = m := brF_len
      have hol : (btF v m (rchF a m)).length = v := btF_len
      repeat' (first | ((first | apply Ba | (apply Bb; (· rfl); (· rfl)) | (apply Bc; (· exact nxE)) | (apply Bd; (· rfl); (· rfl); (· exact nxE))); (· first | exact Ok.appendT rfl rfl (by decide) rfl rfl rfl (by simp [outer_len, btF_len]; done) rfl rfl (by rfl) (by omega) (by omega) rfl | exact Ok.pe)) | ((first | apply Ca | (apply Cb; (· exact nxE))); (· first | exact Ok.appendT rfl rfl (by decide) rfl rfl rfl (by simp [outer_len, btF_len]; done) rfl rfl (by rfl) (by omega) (by omega) rfl | exact Ok.e0)) | refine Sx ?_ | (refine Sy (fun h => ?_) (fun h => ?_) <;> try (exfalso; omega; done)) | refine Sz (fun h => ?_) (fun h => ?_))
      refine ⟨⟨v + 1, by omega⟩, ?_, by simp only; omega⟩
      (apply Le.headG [] [{ l := ⟨1, []⟩, k := 1, R := btF (v + 1) m (rchF a m), src := ⟨906, []⟩, base := ⟨1, []⟩, cut := v, ext := some ⟨2, []⟩ }] (fun _ => False))
      (case' hlen => rfl)
      (case' hms => rfl)
      all_goals (try dsimp only [srcs])
      (case' hfr | hob => (repeat' (first | refine La ?_ ?_ | exact Lc | refine Lo ?_ | refine ⟨⟨_, rfl, ?_⟩, ?_⟩ | refine Lx ?_)))
      (case' hok => first | exact ⟨MI.ok_app btF_succ btF_len hbl rfl (Cg) rfl, trivial⟩ | exact trivial)
      (case' hN => rfl)
      (case' hS => rfl)
      all_goals (first | exact Ld | ((simp [AllP, btF]; done)))
  · obtain rfl : v = n := by omega
    repeat' (first | ((first | apply Ba | (apply Bb; (· rfl); (· rfl)) | (apply Bc; (· exact nxE)) | (apply Bd; (· rfl); (· rfl); (· exact nxE))); (· first | exact Ok.pe)) | ((first | apply Ca | (apply Cb; (· exact nxE))); (· first | exact Ok.e0)) | refine Sx ?_ | (refine Sy (fun h => ?_) (fun h => ?_) <;> try (exfalso; omega; done)) | refine Sz (fun h => ?_) (fun h => ?_))
    refine Ya ?_
    (apply Le.headG [] [{ l := ⟨0, []⟩, k := 1, R := btF v v (rchF a v), src := ⟨1, []⟩, base := ⟨1, []⟩ }] (fun _ => False))
    (case' hlen => rfl)
    (case' hms => rfl)
    all_goals (try dsimp only [srcs])
    (case' hfr | hob => (repeat' (first | refine La ?_ ?_ | exact Lc | refine Lo ?_ | refine ⟨⟨_, rfl, ?_⟩, ?_⟩ | refine Lx ?_)))
    (case' hok => first | exact ⟨MI.ok_same rfl (Cg), trivial⟩ | exact trivial)
    (case' hN => rfl)
    (case' hS => rfl)
    all_goals (first | exact Ld | (rfl))
end Go.Proofs.Ytpgcmpbamlnkkaa
end

section
namespace Go.Proofs.Ytpgcmpbamlnkkaa
set_option linter.unusedSimpArgs false
set_option linter.unusedVariables false
open Go Go.RowKit
attribute [local irreducible] AL AD AW OpOk Le AC thenQ blockQ EndQ

/-- Each event reaches each other one. -/
def StrP (n : Nat) (xs : List Pl) : Prop := ∀ u v, u < n → v < n → 0 ≤ tdF xs u v
noncomputable def strB (n : Nat) (xs : List Pl) : Bool := open Classical in decide (StrP n xs)
theorem strB_t {n : Nat} {xs : List Pl} (h : StrP n xs) : strB n xs = true := by unfold strB; simp [h]
theorem strB_f {n : Nat} {xs : List Pl} (h : ¬ StrP n xs) : strB n xs = false := by unfold strB; simp [h]
theorem any_m1 {n : Nat} {xs : List Pl} (hv : ∀ p ∈ xs, okPl n p) (hn : n ≤ 10) {u : Nat} (hu : u < n) : ((rowF n (tdF xs u)).any fun x => decide (x = -1)) = false ↔ ∀ v, v < n → 0 ≤ tdF xs u v := by
  have ht := tdOk hv hn hu
  rw [List.any_eq_false]
  constructor
  · intro h v hv2
    have := h (tdF xs u v) (List.mem_of_getElem? (rowF_get hv2))
    simp only [decide_eq_true_eq] at this
    rcases ht.some v with e | ⟨c, hc, _⟩
    · exact absurd e this
    · exact (ht.all v c hc).1
  · intro h x hx
    unfold rowF at hx
    obtain ⟨v, hv2, rfl⟩ := List.mem_map.1 hx
    have := h v (List.mem_range.1 hv2)
    simp only [decide_eq_true_eq]
    omega
set_option maxHeartbeats 2000000 in
theorem iIsStrong_ac (ev : Int) (xs : List Pl) (hx : xs.length ≤ 1000) : AC Try.prog 21 [grD ev xs] H0 (.tup [Bo (isEG ev xs && strB ev.toNat xs), I (if isEG ev xs = true then 0 else 1)]) H0 := by
  have hE := iIsEventGraph_ac ev xs (by omega)
  cases hg : isEG ev xs
  · rw [hg] at hE
    rw [if_neg (by simp)]
    refine AC.of_body 0 Try.func21 rfl (fun l h => absurd rfl h) (fun C hC => ?_)
    have hD : ∀ l, ¬ C.D0 l := fun l h => (hC l).1 h rfl
    simp only [startFr, Try.ntmps21, List.length_cons, List.length_nil, Nat.reduceAdd, Nat.reduceSub, List.replicate_succ, List.replicate_zero, List.cons_append, List.nil_append]
    repeat' (first | ((first | apply Ba | (apply Bb; (· rfl); (· rfl)) | (apply Bc; (· exact nxE)) | (apply Bd; (· rfl); (· rfl); (· exact nxE))); (· first | exact Kz rfl rfl (hE) (Aa (Ad (Ad An)) An) | exact Ok.pe)) | ((first | apply Ca | (apply Cb; (· exact nxE))); (· first | exact Ok.e0)) | refine Sx ?_ | (refine Sy (fun h => ?_) (fun h => ?_) <;> try (exfalso; omega; done)) | refine Sz (fun h => ?_) (fun h => ?_))
    refine Yb ?_
    (apply Le.headZ (hs := []) [] rfl)
    all_goals (try dsimp only [srcs])
    (case' hfr => (repeat' (first | refine La ?_ ?_ | exact Lc | refine Lo ?_ | refine ⟨⟨_, rfl, ?_⟩, ?_⟩ | refine Lx ?_)))
    all_goals (first | exact Ld | exact trivial | (rfl))
  rw [hg] at hE
  rw [if_pos rfl, Bool.true_and]
  obtain ⟨n, rfl, g1, g2, g3, hv⟩ := isEG_ok hg
  rw [Int.toNat_natCast]
  refine AC.of_body 0 Try.func21 rfl (fun l h => absurd rfl h) (fun C hC => ?_)
  have hD : ∀ l, ¬ C.D0 l := fun l h => (hC l).1 h rfl
  simp only [startFr, Try.ntmps21, List.length_cons, List.length_nil, Nat.reduceAdd, Nat.reduceSub, List.replicate_succ, List.replicate_zero, List.cons_append, List.nil_append]
  repeat' (first | ((first | apply Ba | (apply Bb; (· rfl); (· rfl)) | (apply Bc; (· exact nxE)) | (apply Bd; (· rfl); (· rfl); (· exact nxE))); (· first | exact Kz rfl rfl (hE) (Aa (Ad (Ad An)) An) | exact Ok.pe)) | ((first | apply Ca | (apply Cb; (· exact nxE))); (· first | exact Ok.e0)) | refine Sx ?_ | (refine Sy (fun h => ?_) (fun h => ?_) <;> try (exfalso; omega; done)) | refine Sz (fun h => ?_) (fun h => ?_))
  refine AW.loop (X := {k : Nat // k ≤ n ∧ ∀ u, u < k → ∀ v, v < n → 0 ≤ tdF xs u v}) (fun k => ⟨[Oo, Bx 2 0, Oo, Oo, Oo, Oo, Oo, Oo, Oo, I n, I (k.1 : Nat), Oo, Oo, Oo, Oo, Oo, Oo, Oo], heapL [(⟨0, []⟩, ⟨0, []⟩, ⟨2, [[I n, PL xs]]⟩)], 900⟩) (fun k => n - k.1) ⟨0, Nat.zero_le _, (fun u hu => absurd hu (Nat.not_lt_zero u))⟩ ?_ (fun k => ?_)
  ·
    (apply Le.headZ [_] rfl)
    all_goals (try dsimp only [srcs])
    (case' hfr | hob => (repeat' (first | refine La ?_ ?_ | exact Lc | refine Lo ?_ | refine ⟨⟨_, rfl, ?_⟩, ?_⟩ | refine Lx ?_)))
    all_goals (first | (rfl) | exact Ld)
  obtain ⟨k, hk, hinv⟩ := k
  simp only
  by_cases hlt : k < n
  case neg =>
    obtain rfl : k = n := by omega
    rw [strB_t (fun u v hu hv2 => hinv u hu v hv2)]
    repeat' (first | ((first | apply Ba | (apply Bb; (· rfl); (· rfl)) | (apply Bc; (· exact nxE)) | (apply Bd; (· rfl); (· rfl); (· exact nxE))); (· first | exact Ok.pe)) | ((first | apply Ca | (apply Cb; (· exact nxE))); (· first | exact Ok.e0)) | refine Sx ?_ | (refine Sy (fun h => ?_) (fun h => ?_) <;> try (exfalso; omega; done)) | refine Sz (fun h => ?_) (fun h => ?_))
    refine Yb ?_
    (apply Le.headZ (hs := []) [] rfl)
    all_goals (try dsimp only [srcs])
    (case' hfr => (repeat' (first | refine La ?_ ?_ | exact Lc | refine Lo ?_ | refine ⟨⟨_, rfl, ?_⟩, ?_⟩ | refine Lx ?_)))
    all_goals (first | exact Ld | exact trivial | (rfl))
  have hTd := tokenDistances_ac n xs k hlt g2 (by omega) hv
  have hCo := containsInt_ac (rowF n (tdF xs k)) (-1) (by rw [rowF_len]; omega)
  have ham := any_m1 hv g2 hlt
  generalize ((rowF n (tdF xs k)).any fun x => decide (x = -1)) = b at *
  cases b
  · have h1 := ham.1 rfl
    repeat' (first | ((first | apply Ba | (apply Bb; (· rfl); (· rfl)) | (apply Bc; (· exact nxE)) | (apply Bd; (· rfl); (· rfl); (· exact nxE))); (· first | exact Ez rfl rfl (hCo) (Sw (Sd Sn)) | exact Eo rfl rfl (hTd) (Sa (Sd (Sd Sn)) (Sd Sn)) | exact Ok.pe)) | ((first | apply Ca | (apply Cb; (· exact nxE))); (· first | exact Eo rfl rfl (hTd) (Sa (Sd (Sd Sn)) (Sd Sn)) | exact Ok.e0)) | refine Sx ?_ | (refine Sy (fun h => ?_) (fun h => ?_) <;> try (exfalso; omega; done)) | refine Sz (fun h => ?_) (fun h => ?_))
    refine ⟨⟨k + 1, by omega, fun u hu => by
      by_cases e : u = k
      · subst e; exact h1
      · exact hinv u (by omega)⟩, ?_, by simp only; omega⟩
    (apply Le.headZ [_] rfl)
    all_goals (try dsimp only [srcs])
    (case' hfr | hob => (repeat' (first | refine La ?_ ?_ | exact Lc | refine Lo ?_ | refine ⟨⟨_, rfl, ?_⟩, ?_⟩ | refine Lx ?_)))
    all_goals (first | (rfl) | exact Ld)
  · rw [strB_f (fun h => by have := ham.2 (fun v hv2 => h k v hlt hv2); cases this)]
    repeat' (first | ((first | apply Ba | (apply Bb; (· rfl); (· rfl)) | (apply Bc; (· exact nxE)) | (apply Bd; (· rfl); (· rfl); (· exact nxE))); (· first | exact Ez rfl rfl (hCo) (Sw (Sd Sn)) | exact Eo rfl rfl (hTd) (Sa (Sd (Sd Sn)) (Sd Sn)) | exact Ok.pe)) | ((first | apply Ca | (apply Cb; (· exact nxE))); (· first | exact Eo rfl rfl (hTd) (Sa (Sd (Sd Sn)) (Sd Sn)) | exact Ok.e0)) | refine Sx ?_ | (refine Sy (fun h => ?_) (fun h => ?_) <;> try (exfalso; omega; done)) | refine Sz (fun h => ?_) (fun h => ?_))
    refine Yb ?_
    (apply Le.headZ (hs := []) [] rfl)
    all_goals (try dsimp only [srcs])
    (case' hfr => (repeat' (first | refine La ?_ ?_ | exact Lc | refine Lo ?_ | refine ⟨⟨_, rfl, ?_⟩, ?_⟩ | refine Lx ?_)))
    all_goals (first | exact Ld | exact trivial | (rfl))
/-! ### Components, by the reference -/
def clsN (F : Nat → Nat → Bool) (v k : Nat) : List Nat := (List.range k).filter fun w => F v w && F w v
def ldrN (F : Nat → Nat → Bool) (n k : Nat) : List Nat := (List.range k).filter fun v => decide (hdN (clsN F v n) = v)
abbrev cmpR (F : Nat → Nat → Bool) (n k : Nat) : List (List (List D)) := (ldrN F n k).map fun v => IR (cN (clsN F v n))
theorem clsN_s {F : Nat → Nat → Bool} {v k : Nat} : clsN F v (k + 1) = if (F v k && F k v) = true then clsN F v k ++ [k] else clsN F v k := by
  unfold clsN
  rw [List.range_succ, List.filter_append]
  by_cases h : (F v k && F k v) = true
  · rw [if_pos h]; simp [h]
  · rw [if_neg h]; simp [h]
theorem ldrN_s {F : Nat → Nat → Bool} {n k : Nat} : ldrN F n (k + 1) = if hdN (clsN F k n) = k then ldrN F n k ++ [k] else ldrN F n k := by
  unfold ldrN
  rw [List.range_succ, List.filter_append]
  by_cases h : hdN (clsN F k n) = k
  · rw [if_pos h]; simp [h]
  · rw [if_neg h]; simp [h]
theorem clsN_le {F : Nat → Nat → Bool} {v k : Nat} : (clsN F v k).length ≤ k := by
  unfold clsN
  exact Nat.le_trans (List.length_filter_le _ _) (by simp)
theorem ldrN_le {F : Nat → Nat → Bool} {n k : Nat} : (ldrN F n k).length ≤ k := by
  unfold ldrN
  exact Nat.le_trans (List.length_filter_le _ _) (by simp)
theorem cmpR_len {F : Nat → Nat → Bool} {n k : Nat} : (cmpR F n k).length = (ldrN F n k).length := by simp
theorem clsN_mem {F : Nat → Nat → Bool} {v k w : Nat} : w ∈ clsN F v k ↔ w < k ∧ F v w = true ∧ F w v = true := by
  unfold clsN; simp [List.mem_filter, Bool.and_eq_true]
set_option maxHeartbeats 8000000 in
theorem l05Components_ac (T : List (List Int)) (n : Nat) (hT : Sq T n) (hn : n ≤ 1000) (F : Nat → Nat → Bool) (hF : ∀ u v, u < n → v < n → rchF (entN T) n u v = F u v) (hr : ∀ v, v < n → F v v = true) : AC Try.prog 107 [TL T] H0 (own1 1 (ldrN F n n).length) (hpM 1 (cmpR F n n)) := by
  have htl : (mRows 1 (TR T)).length = n := by simp [hT.l]
  have hR := (l05Reach_ac T n hT hn).frzT btF_len
  have hB1 : ∀ i, i < n → (mRows 1 (btF n n (rchF (entN T) n)))[((i : Nat) : Int).toNat]? = some [.sl 1 (brF n (rchF (entN T) n i))] := fun i hi => btM_get hi
  have hB2 : ∀ i j, i < n → j < n → (brF n (rchF (entN T) n i))[((j : Nat) : Int).toNat]? = some [DB (F i j)] := fun i j hi hj => by
    rw [Int.toNat_natCast, brF_get hj, hF i j hi hj]
  have hB3 : ∀ i, (brF n (rchF (entN T) n i)).length = n := fun i => brF_len
  have hB4 : (mRows 1 (btF n n (rchF (entN T) n))).length = n := by simp [btF_len]
  generalize rchF (entN T) n = Rf at *
  refine AC.of_body 0 Try.func107 rfl (fun l h => absurd rfl h) (fun C hC => ?_)
  have hD : ∀ l, ¬ C.D0 l := fun l h => (hC l).1 h rfl
  simp only [startFr, Try.ntmps107, List.length_cons, List.length_nil, Nat.reduceAdd, Nat.reduceSub, List.replicate_succ, List.replicate_zero, List.cons_append, List.nil_append]
  repeat' (first | ((first | apply Ba | (apply Bb; (· rfl); (· rfl)) | (apply Bc; (· exact nxE)) | (apply Bd; (· rfl); (· rfl); (· exact nxE))); (· first | exact Kz rfl rfl (hR) (Ad An) | exact Ok.pe)) | ((first | apply Ca | (apply Cb; (· exact nxE))); (· first | exact Ok.e0)) | refine Sx ?_ | (refine Sy (fun h => ?_) (fun h => ?_) <;> try (exfalso; omega; done)) | refine Sz (fun h => ?_) (fun h => ?_))
  refine AW.loop (X := {k : Nat // k ≤ n}) (fun k => ⟨[TL T, Oo, Oo, .d (.sl 1 (mRows 1 (btF n n Rf))), .own 1 ⟨1, []⟩ 0 (ldrN F n (k.1 : Nat)).length, I (k.1 : Nat), Oo, Oo, Oo, Oo, Oo, Oo, Oo, Oo, Oo, Oo, Oo, Oo, Oo, Oo, Oo, Oo, Oo, Oo, Oo, Oo, Oo, Oo, Oo, Oo, Oo, Oo, Oo, Oo, Oo, Oo, Oo, Oo, Oo, Oo, Oo, Oo, Oo, Oo, Oo, Oo, Oo, Oo, Oo, Oo, Oo, Oo, Oo, Oo], heapX [] [mi1 ⟨1, []⟩ (cmpR F n k.1)], 900⟩) (fun k => n - k.1) ⟨0, Nat.zero_le _⟩ ?_ (fun k => ?_)
  ·
    (apply Le.headG [] [{ l := ⟨1, []⟩, k := 1, R := cmpR F n 0, src := ⟨4, []⟩, base := ⟨4, []⟩ }] (fun _ => False))
    (case' hlen => rfl)
    (case' hms => rfl)
    all_goals (try dsimp only [srcs])
    (case' hfr | hob => (repeat' (first | refine La ?_ ?_ | exact Lc | refine Lo ?_ | refine ⟨⟨_, rfl, ?_⟩, ?_⟩ | refine Lx ?_)))
    (case' hok => first | exact ⟨MI.ok_same rfl (fun i x hx => by simp [cmpR, ldrN] at hx), trivial⟩ | exact trivial)
    (case' hN => rfl)
    (case' hS => rfl)
    all_goals (first | exact Ld | (rfl))
  obtain ⟨v, hv⟩ := k
  simp only
  by_cases hlt : v < n
  case neg =>
    obtain rfl : v = n := by omega
    repeat' (first | ((first | apply Ba | (apply Bb; (· rfl); (· rfl)) | (apply Bc; (· exact nxE)) | (apply Bd; (· rfl); (· rfl); (· exact nxE))); (· first | exact Ok.lenD rfl rfl htl | exact Ok.pe)) | ((first | apply Ca | (apply Cb; (· exact nxE))); (· first | exact Ok.e0)) | refine Sx ?_ | (refine Sy (fun h => ?_) (fun h => ?_) <;> try (exfalso; omega; done)) | refine Sz (fun h => ?_) (fun h => ?_))
    refine Ya ?_
    (apply Le.headG [] [{ l := ⟨0, []⟩, k := 1, R := cmpR F v v, src := ⟨1, []⟩, base := ⟨1, []⟩ }] (fun _ => False))
    (case' hlen => rfl)
    (case' hms => rfl)
    all_goals (try dsimp only [srcs])
    (case' hfr | hob => (repeat' (first | refine La ?_ ?_ | exact Lc | refine Lo ?_ | refine ⟨⟨_, rfl, ?_⟩, ?_⟩ | refine Lx ?_)))
    (case' hok => first | exact ⟨MI.ok_same rfl (Cg), trivial⟩ | exact trivial)
    (case' hN => rfl)
    (case' hS => rfl)
    all_goals (first | exact Ld | (rfl))
  repeat' (first | ((first | apply Ba | (apply Bb; (· rfl); (· rfl)) | (apply Bc; (· exact nxE)) | (apply Bd; (· rfl); (· rfl); (· exact nxE))); (· first | exact Ok.lenD rfl rfl htl | exact Ok.pe)) | ((first | apply Ca | (apply Cb; (· exact nxE))); (· first | exact Ok.e0)) | refine Sx ?_ | (refine Sy (fun h => ?_) (fun h => ?_) <;> try (exfalso; omega; done)) | refine Sz (fun h => ?_) (fun h => ?_))
  refine AW.loop (X := {k : Nat // k ≤ n}) (fun k => ⟨[TL T, Oo, Oo, .d (.sl 1 (mRows 1 (btF n n Rf))), .own 1 ⟨1, []⟩ 0 (ldrN F n v).length, I v, .own 1 ⟨2, []⟩ 0 (clsN F v (k.1 : Nat)).length, I (k.1 : Nat), Oo, Oo, Oo, Oo, Oo, Oo, Oo, Oo, Oo, Oo, Oo, Oo, Oo, Oo, Oo, Oo, Oo, Oo, Oo, Oo, Oo, Oo, Oo, Oo, Oo, Oo, Oo, Oo, Oo, Oo, Oo, Oo, Oo, Oo, Oo, Oo, Oo, Oo, Oo, Oo, Oo, Oo, Oo, Oo, Oo, Oo], heapX [(⟨2, []⟩, ⟨2, []⟩, IO (cN (clsN F v k.1)))] [mi1 ⟨1, []⟩ (cmpR F n v)], 900⟩) (fun k => n - k.1) ⟨0, Nat.zero_le _⟩ ?_ (fun k => ?_)
  ·
    (apply Le.headG [_] [mi1 ⟨1, []⟩ (cmpR F n v)] (fun _ => False))
    (case' hlen => rfl)
    (case' hms => rfl)
    all_goals (try dsimp only [srcs])
    (case' hfr | hob => (repeat' (first | refine La ?_ ?_ | exact Lc | refine Lo ?_ | refine ⟨⟨_, rfl, ?_⟩, ?_⟩ | refine Lx ?_)))
    (case' hok => first | exact ⟨MI.ok_same rfl (Cg), trivial⟩ | exact trivial)
    (case' hN => rfl)
    (case' hS => rfl)
    all_goals (first | exact Ld | (rfl))
  obtain ⟨w, hw⟩ := k
  simp only
  by_cases hlt2 : w < n
  · have hst := clsN_s (F := F) (v := v) (k := w)
    have hle := clsN_le (F := F) (v := v) (k := w)
    have b1 := hB1 v hlt
    have b2 := hB1 w hlt2
    have b3 := hB2 v w hlt hlt2
    have b4 := hB2 w v hlt2 hlt
    have b5 := hB3 v
    have b6 := hB3 w
    have hapl : (IR (cN (clsN F v w))).length = (clsN F v w).length := by simp
    generalize clsN F v w = L at *
    obtain ⟨y1, h1⟩ : ∃ y, F v w = y := ⟨_, rfl⟩
    obtain ⟨y2, h2⟩ : ∃ y, F w v = y := ⟨_, rfl⟩
    rw [h1] at b3 hst
    rw [h2] at b4 hst
    cases y1 <;> cases y2
    case true.true =>
      rw [if_pos (show (true && true) = true from rfl)] at hst
      repeat' (first | ((first | apply Ba | (apply Bb; (· rfl); (· rfl)) | (apply Bc; (· exact nxE)) | (apply Bd; (· rfl); (· rfl); (· exact nxE))); (· first | exact Ok.lenD rfl rfl htl | exact Ok.append1 (row := [DI w]) rfl rfl (by decide) rfl rfl hapl rfl rfl rfl (by rfl) (by omega) (by omega) | exact Ok.pe)) | ((first | apply Ca | (apply Cb; (· exact nxE))); (· first | exact Ok.append1 (row := [DI w]) rfl rfl (by decide) rfl rfl hapl rfl rfl rfl (by rfl) (by omega) (by omega) | exact Ok.e0)) | refine Sx ?_ | (refine Sy (fun h => ?_) (fun h => ?_) <;> try (exfalso; omega; done)) | refine Sz (fun h => ?_) (fun h => ?_))
      refine ⟨⟨w + 1, by omega⟩, ?_, by simp only; omega⟩
      simp only [hst]
      (apply Le.headG [_] [mi1 ⟨1, []⟩ (cmpR F n v)] (fun _ => False))
      (case' hlen => rfl)
      (case' hms => rfl)
      all_goals (try dsimp only [srcs])
      (case' hfr | hob => (repeat' (first | refine La ?_ ?_ | exact Lc | refine Lo ?_ | refine ⟨⟨_, rfl, ?_⟩, ?_⟩ | refine Lx ?_)))
      (case' hok => first | exact ⟨MI.ok_same rfl (Cg), trivial⟩ | exact trivial)
      (case' hN => rfl)
      (case' hS => rfl)
      all_goals (first | exact Ld | ((first | rfl | (simp [cN]; done))))
    all_goals
      rw [if_neg (by decide)] at hst
      repeat' (first | ((first | apply Ba | (apply Bb; (· rfl); (· rfl)) | (apply Bc; (· exact nxE)) | (apply Bd; (· rfl); (· rfl); (· exact nxE))); (· first | exact Ok.lenD rfl rfl htl | exact Ok.pe)) | ((first | apply Ca | (apply Cb; (· exact nxE))); (· first | exact Ok.e0)) | refine Sx ?_ | (refine Sy (fun h => ?_) (fun h => ?_) <;> try (exfalso; omega; done)) | refine Sz (fun h => ?_) (fun h => ?_))
      refine ⟨⟨w + 1, by omega⟩, ?_, by simp only; omega⟩
      simp only [hst]
      (apply Le.headG [_] [mi1 ⟨1, []⟩ (cmpR F n v)] (fun _ => False))
      (case' hlen => rfl)
      (case' hms => rfl)
      all_goals (try dsimp only [srcs])
      (case' hfr | hob => (repeat' (first | refine La ?_ ?_ | exact Lc | refine Lo ?_ | refine ⟨⟨_, rfl, ?_⟩, ?_⟩ | refine Lx ?_)))
      (case' hok => first | exact ⟨MI.ok_same rfl (Cg), trivial⟩ | exact trivial)
      (case' hN => rfl)
      (case' hS => rfl)
      all_goals (first | exact Ld | (rfl))
  obtain rfl : w = n := by omega
  have hne : clsN F v w ≠ [] := fun h => by
    have : v ∈ clsN F v w := clsN_mem.2 ⟨hlt, hr v hlt, hr v hlt⟩
    rw [h] at this; cases this
  have hst := ldrN_s (F := F) (n := w) (k := v)
  have hle := ldrN_le (F := F) (n := w) (k := v)
  have hcl : 0 < (clsN F v w).length := List.length_pos_iff.2 hne
  have hcl2 : (IR (cN (clsN F v w))).length = (clsN F v w).length := by simp
  have hle2 := clsN_le (F := F) (v := v) (k := w)
  have hfst : (dobj 1 (IR (cN (clsN F v w)))).rows[0 + (0 : Int).toNat]? = some [I (hdN (clsN F v w) : Nat)] := by
    cases hc : clsN F v w with
    | nil => exact absurd hc hne
    | cons a b => simp [dobj, cN, hdN]
  have hol : (cmpR F w v).length = (ldrN F w v).length := cmpR_len
  by_cases hh : hdN (clsN F v w) = v
  · rw [if_pos hh] at hst
    have hR2 : cmpR F w (v + 1) = cmpR F w v ++ [IR (cN (clsN F v w))] := by simp [cmpR, hst]
    rw [hh] at hfst
    repeat' (first | ((first | apply Ba | (apply Bb; (· rfl); (· rfl)) | (apply Bc; (· exact nxE)) | (apply Bd; (· rfl); (· rfl); (· exact nxE))); (· first | exact Ok.lenD rfl rfl htl | exact OpOk.loadCell rfl rfl rfl rfl hfst rfl | exact Ok.appendT rfl rfl (by decide) rfl rfl rfl (by simp [outer_len]; done) rfl rfl (by rfl) (by omega) (by omega) rfl | exact Ok.pe)) | ((first | apply Ca | (apply Cb; (· exact nxE))); (· first | exact Ok.appendT rfl rfl (by decide) rfl rfl rfl (by simp [outer_len]; done) rfl rfl (by rfl) (by omega) (by omega) rfl | exact Ok.e0)) | refine Sx ?_ | (refine Sy (fun h => ?_) (fun h => ?_) <;> try (exfalso; omega; done)) | refine Sz (fun h => ?_) (fun h => ?_))
    refine ⟨⟨v + 1, by omega⟩, ?_, by simp only; omega⟩
    (apply Le.headG [] [{ l := ⟨1, []⟩, k := 1, R := cmpR F w (v + 1), src := ⟨912, []⟩, base := ⟨1, []⟩, cut := (ldrN F w v).length, ext := some ⟨2, []⟩ }] (fun _ => False))
    (case' hlen => rfl)
    (case' hms => rfl)
    all_goals (try dsimp only [srcs])
    (case' hfr | hob => (repeat' (first | refine La ?_ ?_ | exact Lc | refine Lo ?_ | refine ⟨⟨_, rfl, ?_⟩, ?_⟩ | refine Lx ?_)))
    (case' hok => first | exact ⟨MI.ok_app hR2 cmpR_len hcl2 rfl (Cg) rfl, trivial⟩ | exact trivial)
    (case' hN => rfl)
    (case' hS => rfl)
    all_goals (first | exact Ld | ((first | (simp [AllP, hst]; done) | (rw [hst]; simp; done))))
  · rw [if_neg hh] at hst
    have hR2 : cmpR F w (v + 1) = cmpR F w v := by simp [cmpR, hst]
    have hh2 : ¬ ((hdN (clsN F v w) : Nat) : Int) = v := by omega
    generalize hdN (clsN F v w) = z at *
    repeat' (first | ((first | apply Ba | (apply Bb; (· rfl); (· rfl)) | (apply Bc; (· exact nxE)) | (apply Bd; (· rfl); (· rfl); (· exact nxE))); (· first | exact Ok.lenD rfl rfl htl | exact OpOk.loadCell rfl rfl rfl rfl hfst rfl | exact Ok.pe)) | ((first | apply Ca | (apply Cb; (· exact nxE))); (· first | exact Ok.e0)) | refine Sx ?_ | (refine Sy (fun h => ?_) (fun h => ?_) <;> try (exfalso; omega; done)) | refine Sz (fun h => ?_) (fun h => ?_))
    refine ⟨⟨v + 1, by omega⟩, ?_, by simp only; omega⟩
    rw [hR2]
    simp only [hst]
    (apply Le.headG [] [mi1 ⟨1, []⟩ (cmpR F w v)] (fun _ => False))
    (case' hlen => rfl)
    (case' hms => rfl)
    all_goals (try dsimp only [srcs])
    (case' hfr | hob => (repeat' (first | refine La ?_ ?_ | exact Lc | refine Lo ?_ | refine ⟨⟨_, rfl, ?_⟩, ?_⟩ | refine Lx ?_)))
    (case' hok => first | exact ⟨MI.ok_same rfl (Cg), trivial⟩ | exact trivial)
    (case' hN => rfl)
    (case' hS => rfl)
    all_goals (first | exact Ld | (rfl))
theorem hd_min {F : Nat → Nat → Bool} {v n w : Nat} (h : w ∈ clsN F v n) : hdN (clsN F v n) ≤ w ∧ hdN (clsN F v n) ∈ clsN F v n := by
  have hs : (clsN F v n).Pairwise (· < ·) := List.Pairwise.filter _ (List.pairwise_lt_range)
  cases hc : clsN F v n with
  | nil => rw [hc] at h; cases h
  | cons a b =>
    rw [hc] at h hs
    refine ⟨?_, by simp [hdN]⟩
    rcases List.mem_cons.1 h with rfl | h
    · exact Nat.le_refl _
    · exact Nat.le_of_lt ((List.pairwise_cons.1 hs).1 w h)
theorem ldr_one {F : Nat → Nat → Bool} {n : Nat} (h0 : 0 < n) (hr : ∀ v, v < n → F v v = true) (ht : ∀ u v w, u < n → v < n → w < n → F u v = true → F v w = true → F u w = true) : (ldrN F n n).length = 1 ↔ ∀ u v, u < n → v < n → F u v = true := by
  have hz : 0 ∈ ldrN F n n := by
    unfold ldrN
    rw [List.mem_filter, decide_eq_true_eq]
    have h := (hd_min (clsN_mem.2 ⟨h0, hr 0 h0, hr 0 h0⟩)).1
    exact ⟨List.mem_range.2 h0, by omega⟩
  constructor
  · intro h1
    have hall : ∀ v, v < n → F v 0 = true ∧ F 0 v = true := fun v hv => by
      have hvc : v ∈ clsN F v n := clsN_mem.2 ⟨hv, hr v hv, hr v hv⟩
      obtain ⟨_, hm⟩ := hd_min hvc
      obtain ⟨m1, m2, m3⟩ := clsN_mem.1 hm
      generalize hmm : hdN (clsN F v n) = m at *
      have hcls : clsN F m n = clsN F v n := by
        unfold clsN
        refine List.filter_congr fun w hw => ?_
        have hw := List.mem_range.1 hw
        rw [Bool.eq_iff_iff, Bool.and_eq_true, Bool.and_eq_true]
        exact ⟨fun h => ⟨ht v m w hv m1 hw m2 h.1, ht w m v hw m1 hv h.2 m3⟩, fun h => ⟨ht m v w m1 hv hw m3 h.1, ht w v m hw hv m1 h.2 m2⟩⟩
      have hml : m ∈ ldrN F n n := by
        unfold ldrN
        rw [List.mem_filter, decide_eq_true_eq, hcls]
        exact ⟨List.mem_range.2 m1, hmm⟩
      have hm0 : m = 0 := by
        match hL : ldrN F n n, h1 with
        | [a], _ =>
          rw [hL] at hz hml
          simp at hz hml
          omega
      subst hm0
      exact ⟨m2, m3⟩
    exact fun u v hu hv => ht u 0 v hu h0 hv (hall u hu).1 (hall v hv).2
  · intro hF
    have : ldrN F n n = [0] := by
      have hh : ∀ v, v < n → hdN (clsN F v n) = 0 := fun v hv => by
        have := (hd_min (clsN_mem.2 ⟨h0, hF v 0 hv h0, hF 0 v h0 hv⟩)).1
        omega
      have hnd : (ldrN F n n).Nodup := List.Nodup.sublist (List.filter_sublist) List.nodup_range
      have hmem : ∀ v ∈ ldrN F n n, v = 0 := fun v hv => by
        unfold ldrN at hv
        rw [List.mem_filter, decide_eq_true_eq] at hv
        have := hh v (List.mem_range.1 hv.1)
        omega
      match hL : ldrN F n n with
      | [] => rw [hL] at hz; cases hz
      | [a] => rw [hmem a (by rw [hL]; simp)]
      | a :: b :: r =>
        rw [hL] at hnd
        have ha := hmem a (by rw [hL]; simp)
        have hb := hmem b (by rw [hL]; simp)
        subst ha; subst hb
        simp at hnd
    rw [this]; rfl
set_option maxHeartbeats 2000000 in
theorem sIsStrong_ac (ev : Int) (xs : List Pl) (hx : xs.length ≤ 1000) : AC Try.prog 22 [grD ev xs] H0 (.tup [Bo (isEG ev xs && strB ev.toNat xs), I (if isEG ev xs = true then 0 else 1)]) H0 := by
  have hE := sIsEventGraph_ac ev xs (by omega)
  cases hg : isEG ev xs
  · rw [hg] at hE
    rw [if_neg (by simp)]
    refine AC.of_body 0 Try.func22 rfl (fun l h => absurd rfl h) (fun C hC => ?_)
    have hD : ∀ l, ¬ C.D0 l := fun l h => (hC l).1 h rfl
    simp only [startFr, Try.ntmps22, List.length_cons, List.length_nil, Nat.reduceAdd, Nat.reduceSub, List.replicate_succ, List.replicate_zero, List.cons_append, List.nil_append]
    repeat' (first | ((first | apply Ba | (apply Bb; (· rfl); (· rfl)) | (apply Bc; (· exact nxE)) | (apply Bd; (· rfl); (· rfl); (· exact nxE))); (· first | exact Kz rfl rfl (hE) (Aa (Ad (Ad An)) An) | exact Ok.pe)) | ((first | apply Ca | (apply Cb; (· exact nxE))); (· first | exact Ok.e0)) | refine Sx ?_ | (refine Sy (fun h => ?_) (fun h => ?_) <;> try (exfalso; omega; done)) | refine Sz (fun h => ?_) (fun h => ?_))
    refine Yb ?_
    (apply Le.headZ (hs := []) [] rfl)
    all_goals (try dsimp only [srcs])
    (case' hfr => (repeat' (first | refine La ?_ ?_ | exact Lc | refine Lo ?_ | refine ⟨⟨_, rfl, ?_⟩, ?_⟩ | refine Lx ?_)))
    all_goals (first | exact Ld | exact trivial | (rfl))
  rw [hg] at hE
  rw [if_pos rfl, Bool.true_and]
  obtain ⟨n, rfl, g1, g2, g3, hv⟩ := isEG_ok hg
  rw [Int.toNat_natCast]
  have hT := (l12Tokens_ac n xs g2 hx hv).frzT (by rw [TR_len]; exact (tk_ok hv).sq.l)
  have hr : ∀ v, v < n → decide (0 ≤ tdF xs v v) = true := fun v hv2 => decide_eq_true ((tdOk hv g2 hv2).all v [] rfl).1
  have ht : ∀ u v w, u < n → v < n → w < n → decide (0 ≤ tdF xs u v) = true → decide (0 ≤ tdF xs v w) = true → decide (0 ≤ tdF xs u w) = true := fun u v w hu hv2 hw h1 h2 => by
    rw [decide_eq_true_eq] at *
    rcases (tdOk hv g2 hu).some v with e | ⟨c, hc, _⟩
    · omega
    · rcases (tdOk hv g2 hv2).some w with e | ⟨d, hd, _⟩
      · omega
      · exact ((tdOk hv g2 hu).all w (c ++ d) (Wk.app.2 ⟨_, hc, hd⟩)).1
  have hCm := l05Components_ac (wmT n xs (1, 0)) n (tk_ok hv).sq (by omega) (fun u v => decide (0 ≤ tdF xs u v)) (fun u v hu hv2 => rch_td hv g2 hu hv2) hr
  have h1 := ldr_one (F := fun u v => decide (0 ≤ tdF xs u v)) g1 hr ht
  have hs : strB n xs = decide ((ldrN (fun u v => decide (0 ≤ tdF xs u v)) n n).length = 1) := by
    by_cases h : StrP n xs
    · rw [strB_t h, decide_eq_true (h1.2 fun u v hu hv2 => decide_eq_true (h u v hu hv2))]
    · rw [strB_f h, decide_eq_false fun h2 => h fun u v hu hv2 => of_decide_eq_true (h1.1 h2 u v hu hv2)]
  rw [hs]
  have hle := ldrN_le (F := fun u v => decide (0 ≤ tdF xs u v)) (n := n) (k := n)
  have hCz := hCm.frzT cmpR_len
  clear hCm
  have hml : (mRows 1 (cmpR (fun u v => decide (0 ≤ tdF xs u v)) n n)).length = (ldrN (fun u v => decide (0 ≤ tdF xs u v)) n n).length := by simp
  generalize ldrN (fun u v => decide (0 ≤ tdF xs u v)) n n = L at *
  refine AC.of_body 0 Try.func22 rfl (fun l h => absurd rfl h) (fun C hC => ?_)
  have hD : ∀ l, ¬ C.D0 l := fun l h => (hC l).1 h rfl
  simp only [startFr, Try.ntmps22, List.length_cons, List.length_nil, Nat.reduceAdd, Nat.reduceSub, List.replicate_succ, List.replicate_zero, List.cons_append, List.nil_append]
  repeat' (first | ((first | apply Ba | (apply Bb; (· rfl); (· rfl)) | (apply Bc; (· exact nxE)) | (apply Bd; (· rfl); (· rfl); (· exact nxE))); (· first | exact Kz rfl rfl (hE) (Aa (Ad (Ad An)) An) | exact Kz rfl rfl (hT) (Aa (Ad (Ad An)) An) | exact Kz rfl rfl (hCz) (Ad An) | exact Ok.lenD rfl rfl hml | exact Ok.pe)) | ((first | apply Ca | (apply Cb; (· exact nxE))); (· first | exact Ok.e0)) | refine Sx ?_ | (refine Sy (fun h => ?_) (fun h => ?_) <;> try (exfalso; omega; done)) | refine Sz (fun h => ?_) (fun h => ?_))
  refine Yb ?_
  (apply Le.headZ (hs := []) [] rfl)
  all_goals (try dsimp only [srcs])
  (case' hfr => (repeat' (first | refine La ?_ ?_ | exact Lc | refine Lo ?_ | refine ⟨⟨_, rfl, ?_⟩, ?_⟩ | refine Lx ?_)))
  all_goals (first | exact Ld | exact trivial | ((simp; omega)))
end Go.Proofs.Ytpgcmpbamlnkkaa
end

section
namespace Go.Proofs.Ytpgcmpbamlnkkaa
set_option linter.unusedSimpArgs false
set_option linter.unusedVariables false
open Go Go.RowKit
attribute [local irreducible] AL AD AW OpOk Le AC thenQ blockQ EndQ

/-- The order that is told. -/
def orN (ev : Int) (xs : List Pl) : List Nat := if liveI ev xs = 0 then (ordR ev.toNat xs).getD [] else []
theorem foL_or {ev : Int} {xs : List Pl} : foL ev xs = cN (orN ev xs) := by
  unfold foL orN; split <;> rfl
theorem lvO_keep {xs : List Pl} {ord : List Nat} {v : Nat} : ∀ {j m : Nat}, j ≤ m → (∀ i, j ≤ i → i < m → ord.getD i 0 ≠ v) → lvO xs ord m v = lvO xs ord j v := by
  intro j m h hne
  induction m with
  | zero => obtain rfl : j = 0 := by omega
            rfl
  | succ m ih =>
    by_cases e : j = m + 1
    · subst e; rfl
    · have := ih (by omega) (fun i h1 h2 => hne i h1 (by omega))
      rw [← this]
      exact lvP_other (fun h2 => hne m (by omega) (by omega) h2.symm) xs.length
theorem getD_inj {l : List Nat} (hn : l.Nodup) {i j : Nat} (hi : i < l.length) (hj : j < l.length) (h : l.getD i 0 = l.getD j 0) : i = j := by
  rw [List.getD_eq_getElem?_getD, List.getD_eq_getElem?_getD, List.getElem?_eq_getElem hi, List.getElem?_eq_getElem hj] at h
  have hp := List.pairwise_iff_getElem.1 hn
  rcases Nat.lt_trichotomy i j with h1 | h1 | h1
  · exact absurd h (hp i j hi hj h1)
  · exact h1
  · exact absurd h.symm (hp j i hj hi h1)
theorem or_law {ev : Int} {xs : List Pl} {k i : Nat} (hk : k < (orN ev xs).length) (hi : i < xs.length) (ht : (plA xs i).t = ((orN ev xs).getD k 0 : Nat)) (h0 : (plA xs i).k = 0) : (((cN ((orN ev xs).take k))).any fun x => decide (x = (plA xs i).f)) = true ∧
    ∃ a b, (IR (lvLs ev xs))[(plA xs i).f.toNat]? = some [DI a] ∧ (IR (lvLs ev xs))[(plA xs i).t.toNat]? = some [DI b] ∧ a < b := by
  by_cases hl : liveI ev xs = 0
  case neg => unfold orN at hk; rw [if_neg hl] at hk; cases hk
  obtain ⟨n, rfl, g1, g2, g3, hv, _⟩ := live_ok hl
  have hg : isEG n xs = true := by
    cases hg : isEG n xs
    · unfold liveI at hl; rw [hg] at hl; simp at hl
    · rfl
  have hs : (ordR n xs).isSome = true := by
    rcases liveI_cases hg hv with ⟨_, h2⟩ | ⟨h1, _⟩
    · exact h2
    · omega
  obtain ⟨ord, ho⟩ := Option.isSome_iff_exists.1 hs
  have hor : orN n xs = ord := by unfold orN; rw [if_pos hl, Int.toNat_natCast, ho]; rfl
  rw [hor] at hk ht ⊢
  obtain ⟨o1, o2, _⟩ := ord_idx ho
  have hOk := (ordF_some OrdOk.nil ho).1
  obtain ⟨⟨f1, f2⟩, ⟨t1, t2⟩, _⟩ := okPl_at hv i hi
  have hw : wPl xs (ord.getD k 0) (plA xs i).f.toNat = true := (wPl_iff hv).2 ⟨i, hi, ht, h0, rfl⟩
  have hm := hOk.wait k hk _ (by omega) hw
  have hlv : lvLs n xs = rowF n (lvO xs ord n) := by unfold lvLs; rw [if_pos hl, Int.toNat_natCast, ho]; rfl
  refine ⟨?_, lvO xs ord n (plA xs i).f.toNat, lvO xs ord n (plA xs i).t.toNat, by rw [hlv]; exact IRF_get (by omega), by rw [hlv]; exact IRF_get (by omega), ?_⟩
  · rw [List.any_eq_true]
    exact ⟨((plA xs i).f.toNat : Int), by unfold cN; exact List.mem_map.2 ⟨_, hm, rfl⟩, decide_eq_true (by omega)⟩
  · have hte : (plA xs i).t.toNat = ord.getD k 0 := by omega
    obtain ⟨j, hj, hj2⟩ := List.getElem_of_mem hm
    simp only [List.length_take] at hj
    rw [List.getElem_take] at hj2
    have hjo : ord.getD j 0 = (plA xs i).f.toNat := by rw [List.getD_eq_getElem?_getD, List.getElem?_eq_getElem (by omega)]; exact hj2
    have hnd := hOk.nd
    have e1 : lvO xs ord n (plA xs i).f.toNat = lvO xs ord k (plA xs i).f.toNat := lvO_keep (by omega) (fun a h1 h2 h3 => by
      have := getD_inj hnd (by omega) (by omega) (h3.trans hjo.symm); omega)
    have e2 : lvO xs ord n (plA xs i).t.toNat = lvO xs ord (k + 1) (plA xs i).t.toNat := lvO_keep (by omega) (fun a h1 h2 h3 => by
      have := getD_inj hnd (by omega) (by omega) (h3.trans hte); omega)
    have e3 : lvO xs ord (k + 1) = lvP xs (ord.getD k 0) xs.length (lvO xs ord k) := rfl
    have hup := (lvP_ok (g := lvO xs ord k) hv (e := ord.getD k 0) (fun a ha h1 h2 h3 => by
      have hself := ord_self ho (show ord.getD k 0 < n by omega)
      have := (wPl_iff hv).2 ⟨a, ha, h1, h2, h3⟩
      rw [hself] at this; cases this) xs.length (Nat.le_refl _)).up (plA xs i).f.toNat ⟨i, hi, ht, h0, rfl⟩
    rw [e1, e2, hte, e3]
    omega
theorem orN_len {ev : Int} {xs : List Pl} : (orN ev xs).length ≤ 10 ∧ (liveI ev xs = 0 → ((orN ev xs).length : Int) = ev) := by
  by_cases hl : liveI ev xs = 0
  · obtain ⟨n, rfl, g1, g2, g3, hv, _⟩ := live_ok hl
    have hg : isEG n xs = true := by
      cases hg : isEG n xs
      · unfold liveI at hl; rw [hg] at hl; simp at hl
      · rfl
    have hs : (ordR n xs).isSome = true := by
      rcases liveI_cases hg hv with ⟨_, h2⟩ | ⟨h1, _⟩
      · exact h2
      · omega
    obtain ⟨ord, ho⟩ := Option.isSome_iff_exists.1 hs
    have hor : orN n xs = ord := by unfold orN; rw [if_pos hl, Int.toNat_natCast, ho]; rfl
    have := (ord_idx ho).1
    rw [hor]
    exact ⟨by omega, fun _ => by omega⟩
  · unfold orN; rw [if_neg hl]; exact ⟨by simp, fun h => absurd h hl⟩
theorem goF_len {a : Nat → Nat → Int} {n : Nat} : ∀ (m : Nat) (l : List Nat), (goF a n m l).length ≤ l.length + m
  | 0, l => by simp [goF]
  | m + 1, l => by
    simp only [goF]
    split
    · omega
    · by_cases h : tryAll (fun v => if a v (lsN l) = BOT ∨ v ∈ l then [] else goF a n m (l ++ [v])) (List.range' (hdN l + 1) (n - (hdN l + 1))) = []
      · rw [h]; simp
      · obtain ⟨v, _, _, h3⟩ := tryAll_mem h
        rw [h3]
        split
        · simp
        · have := goF_len (a := a) (n := n) m (l ++ [v])
          simp at this; omega
theorem fstF_len {a : Nat → Nat → Int} {n : Nat} : (fstF a n).length ≤ n + 1 := by
  unfold fstF
  by_cases h : tryAll (fun v => goF a n n [v]) (List.range' 0 n) = []
  · rw [h]; simp
  · obtain ⟨v, _, _, h3⟩ := tryAll_mem h
    rw [h3]
    have := goF_len (a := a) (n := n) n [v]
    simp at this; omega
theorem sz_orders {ev : Int} {xs : List Pl} : (dcL ev xs).length ≤ 1000000 ∧ (lvLs ev xs).length ≤ 1000 ∧ (soL ev xs).length ≤ 1000 := by
  cases hg : isEG ev xs
  · have hl : liveI ev xs = 1 := by unfold liveI; rw [hg]; rfl
    unfold dcL lvLs soL
    rw [hg, hl]; simp
  · obtain ⟨n, rfl, g1, g2, g3, hv⟩ := isEG_ok hg
    unfold dcL lvLs soL
    rw [if_pos hg, if_pos hg, Int.toNat_natCast]
    refine ⟨?_, ?_, ?_⟩
    · have := fstF_len (a := entN (dmT n xs)) (n := n)
      rw [← dead_fst hv] at this
      simp [cN]; omega
    · split
      · rw [rowF_len]; omega
      · simp
    · have := srcN_le (xs := xs) (k := n)
      simp [cN]; omega
end Go.Proofs.Ytpgcmpbamlnkkaa
end

section
namespace Go.Proofs.Ytpgcmpbamlnkkaa
set_option linter.unusedSimpArgs false
set_option linter.unusedVariables false
open Go Go.RowKit
attribute [local irreducible] AL AD AW OpOk Le AC thenQ blockQ EndQ

set_option maxRecDepth 100000 in
set_option maxHeartbeats 100000000 in
theorem foInv_ac (code : List Int) (hl : code.length ≤ 9223372036854775807) (hb : ∀ b ∈ code, 0 ≤ b ∧ b ≤ 255) (hbig : ¬ 4096 < (code.length : Int)) (ev : Int) (xs : List Pl) (hev : 0 ≤ ev ∧ ev ≤ 11) (hx : xs.length ≤ 40) (hG : AC Try.prog 11 [.d (BD code)] H0 (grD ev xs) H0) (hg : isEG ev xs = false) : AC Try.prog 3 [.d (BD code)] H0 (Bo true) H0 := by
  have hBig := big_ac code hl
  have hI1 := iFiringOrder_ac ev xs (by omega)
  have hS1 := sFiringOrder_ac ev xs (by omega)
  have hI2 := iDeadCycle_ac ev xs (by omega)
  have hS2 := sDeadCycle_ac ev xs (by omega)
  have hI3 := iLevelsOf_ac ev xs (by omega)
  have hS3 := sLevelsOf_ac ev xs (by omega)
  have hI4 := iIsLive_ac ev xs (by omega)
  have hI5 := iSourcesOf_ac ev xs (by omega)
  have hS5 := sSourcesOf_ac ev xs (by omega)
  have hI6 := iIsStrong_ac ev xs (by omega)
  have hS6 := sIsStrong_ac ev xs (by omega)
  rw [foL_or] at hI1 hS1
  obtain ⟨z1, z2, z3⟩ := sz_orders (ev := ev) (xs := xs)
  obtain ⟨z4, z5⟩ := orN_len (ev := ev) (xs := xs)
  have hL1 := likeInts_refl (cN (orN ev xs)) (by simp [cN]; omega)
  have hL2 := likeInts_refl (dcL ev xs) (by omega)
  have hL3 := likeInts_refl (lvLs ev xs) (by omega)
  have hL4 := likeInts_refl (soL ev xs) (by omega)
  have hlaw := fun k i => or_law (ev := ev) (xs := xs) (k := k) (i := i)
  have hcl : (IR (cN (orN ev xs))).length = (orN ev xs).length := by simp
  generalize soC ev xs = c5 at *
  generalize soL ev xs = L4 at *
  generalize dcL ev xs = L2 at *
  generalize lvLs ev xs = L3 at *
  generalize (isEG ev xs && strB ev.toNat xs) = b6 at *
  have hli : liveI ev xs = 1 := by unfold liveI; rw [hg]; rfl
  rw [hg] at hI4 hI6 hS6
  rw [if_neg (by simp)] at hI4 hI6 hS6
  rw [hli] at hI1 hS1 hI3 hS3 hI4
  generalize dcC ev xs = c2 at *
  generalize orN ev xs = o at *
  refine AC.of_body 0 Try.func3 rfl (fun l h => absurd rfl h) (fun C hC => ?_)
  have hD : ∀ l, ¬ C.D0 l := fun l h => (hC l).1 h rfl
  simp only [startFr, Try.ntmps3, List.length_cons, List.length_nil, Nat.reduceAdd, Nat.reduceSub, List.replicate_succ, List.replicate_zero, List.cons_append, List.nil_append]
  repeat' (first | ((first | apply Ba | (apply Bb; (· rfl); (· rfl)) | (apply Bc; (· exact nxE)) | (apply Bd; (· rfl); (· rfl); (· exact nxE))); (· first | exact Kz rfl rfl (hBig) (Ad An) | exact Kz rfl rfl (hG) (Ad An) | exact Kz rfl rfl (hI1) (Aa (Ad (Ad An)) An) | exact Kz rfl rfl (hS1) (Aa (Ad (Ad An)) An) | exact Kz rfl rfl (hI2) (Aa (Ad (Ad An)) An) | exact Kz rfl rfl (hS2) (Aa (Ad (Ad An)) An) | exact Kz rfl rfl (hI3) (Aa (Ad (Ad An)) An) | exact Kz rfl rfl (hS3) (Aa (Ad (Ad An)) An) | exact Kz rfl rfl (hI4) (Aa (Ad (Ad An)) An) | exact Kz rfl rfl (hI5) (Aa (Ad (Ad An)) An) | exact Kz rfl rfl (hS5) (Aa (Ad (Ad An)) An) | exact Kz rfl rfl (hI6) (Aa (Ad (Ad An)) An) | exact Kz rfl rfl (hS6) (Aa (Ad (Ad An)) An) | exact Kz rfl rfl (hL1) (Ad (Ad An)) | exact Kz rfl rfl (hL2) (Ad (Ad An)) | exact Kz rfl rfl (hL3) (Ad (Ad An)) | exact Kz rfl rfl (hL4) (Ad (Ad An)) | exact Ok.bneS rfl rfl rfl (by kernel_rfl) | exact Ok.pe)) | ((first | apply Ca | (apply Cb; (· exact nxE))); (· first | exact Ok.e0)) | refine Sx ?_ | (refine Sy (fun h => ?_) (fun h => ?_) <;> try (exfalso; omega; done)) | refine Sz (fun h => ?_) (fun h => ?_))
  all_goals
    refine Ya ?_
    (apply Le.headZ (hs := []) [] rfl)
    all_goals (try dsimp only [srcs])
    (case' hfr => (repeat' (first | refine La ?_ ?_ | exact Lc | refine Lo ?_ | refine ⟨⟨_, rfl, ?_⟩, ?_⟩ | refine Lx ?_)))
    all_goals (first | exact Ld | exact trivial | (first | rfl | exact (decide_eq_true (by omega)).symm))
end Go.Proofs.Ytpgcmpbamlnkkaa
end
