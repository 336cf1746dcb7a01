/-
  Walks in the abstract reading, part 6.
-/
import Derived.Test.YtpgcmpbamlnkkaaKoU4
import Derived.Test.YtpgcmpbamlnkkaaKoU5
import Derived.Test.YtpgcmpbamlnkkaaKoU3
import Derived.Test.YtpgcmpbamlnkkaaKoA3
section
namespace Go.Proofs.Ytpgcmpbamlnkkaa
set_option linter.unusedSimpArgs false
set_option linter.unusedVariables false
open Go Go.RowKit
attribute [local irreducible] AL AD AW OpOk Le AC thenQ blockQ EndQ

structure CtSt (xs : List Pl) (r : Int × Int) : Prop where
  n1 : 0 ≤ r.1 ∧ r.1 ≤ 100000
  n2 : 0 < r.2 ∧ r.2 ≤ 50
  red : Int.gcd r.1 r.2 = 1
  walk : ∃ c u, c ≠ [] ∧ Wk xs u c u ∧ 0 ≤ wgt xs r.1 r.2 c
theorem CtSt.fin {n : Nat} {xs : List Pl} (hl : Live xs n) {r : Int × Int} (h : CtSt xs r) (hb : bfRun xs r (n + 1) bf0 = none) : Go.Proofs.Ytpgcmpbamlnkkaa.maxR xs = r := by
  obtain ⟨c, u, h1, h2, h3⟩ := h.walk
  have hs := (bf_spec (n := n) (r := r) (fun i hi => by have := (hl.pl i hi).2.1; simp only [plT]; omega)).1 hb
  exact maxR_eq hl (MaxR.of_walk h.n2.1 h.red (fun c hc => hs c _ hc.wk) h1 h2 h3)
/-- A better circuit: the next fraction. -/
theorem CtSt.next {n : Nat} {xs : List Pl} (hl : Live xs n) (hn : n ≤ 10) {r : Int × Int} (h : CtSt xs r) {s : BF} (hb : bfRun xs r (n + 1) bf0 = some s) : ∃ c, btL xs n s = c ∧ 0 < c.length ∧ c.length ≤ n ∧ (∀ i ∈ c, i < xs.length) ∧ (0 ≤ sumD xs c ∧ sumD xs c ≤ 100000) ∧ (0 < sumT xs c ∧ sumT xs c ≤ 50) ∧ CtSt xs (redR (sumD xs c) (sumT xs c)) ∧ rank 1000 r < rank 1000 (redR (sumD xs c) (sumT xs c)) := by
  obtain ⟨v, z, L, hF⟩ := bf_found (n := n) (fun i hi => by have := (hl.pl i hi).2.1; simp only [plT]; omega) hb
  have hw : Wk xs (z : Nat) (backC s.y (predF xs s.y) z L).reverse (z : Nat) := by
    have := back_walk (xs := xs) (y := s.y) (z := z) (fun p hp => by
      obtain ⟨i, hi, rfl⟩ := List.getElem_of_mem hp
      have := hl.pl i hi
      simp only [plA, List.getElem?_eq_getElem hi, Option.getD_some] at this
      exact ⟨this.1.1, this.2.1.1⟩) hF.ok L
    have e : iter (predF xs s.y) L z = z := hF.per.back
    rw [show iter (fun v => plF xs (s.y v)) L z = z from e] at this
    exact this
  have hlen : (backC s.y (predF xs s.y) z L).reverse.length = L := by simp [backC]
  have hpos := hF.pos
  rw [← wgt_rev] at hpos
  have hpL := hF.per.pos
  have hLn := hF.Ln
  refine ⟨_, rfl, ?_⟩
  rw [btL_eq hF]
  have hpos2 : 0 < wgt xs r.1 r.2 (backC s.y (predF xs s.y) z L).reverse := hpos
  generalize (backC s.y (predF xs s.y) z L).reverse = c at *
  have hne : c ≠ [] := by intro e; rw [e] at hlen; simp at hlen; omega
  have hk := hl.tok c _ hne hw
  have hsb := sum_bnd (fun i hi => (hl.pl i hi).2.2) hw.lt
  have hrd := hl.red hn (c := c) (by omega) hw.lt hk
  have h1 := h.n1
  have h2 := h.n2
  exact ⟨by omega, by omega, hw.lt, by omega, by omega, ⟨hrd.1, hrd.2.1, hrd.2.2, c, _, hne, hw, by rw [wgt_redR hk]; exact Int.le_refl _⟩, rank_redR (M := 1000) h2.1 (by omega) hk (by omega) hpos2⟩
noncomputable def btV (xs : List Pl) (n new : Nat) : Option BF → AV
  | none => nilS
  | some s => .own 1 ⟨new, [0]⟩ 0 (btL xs n s).length
noncomputable def btW (xs : List Pl) (n new : Nat) : Option BF → List W
  | none => []
  | some s => [.one ⟨new, [0]⟩ (some (IO (cN (btL xs n s))))]
attribute [local irreducible] btV btW
end Go.Proofs.Ytpgcmpbamlnkkaa
end

section
namespace Go.Proofs.Ytpgcmpbamlnkkaa
set_option linter.unusedSimpArgs false
set_option linter.unusedVariables false

/-! ### Weights -/
def wmS (r : Int × Int) (t : List (List Int)) (p : Pl) : List (List Int) := setT t p.t.toNat p.f.toNat (max (entN t p.t.toNat p.f.toNat) (pw r.1 r.2 p))
def wmT (n : Nat) (xs : List Pl) (r : Int × Int) : List (List Int) := xs.foldl (wmS r) (botT n n)
theorem wmS_sq {n : Nat} {r : Int × Int} {t : List (List Int)} {p : Pl} (h : Sq t n) : Sq (wmS r t p) n := h.setT
theorem wm_sq {n : Nat} {r : Int × Int} : ∀ {xs : List Pl} {t : List (List Int)}, Sq t n → Sq (xs.foldl (wmS r) t) n
  | [], _, h => h
  | _ :: xs, _, h => wm_sq (xs := xs) (wmS_sq h)
structure WmOk (n : Nat) (xs : List Pl) (r : Int × Int) (t : List (List Int)) : Prop where
  sq : Sq t n
  some : ∀ u v, u < n → v < n → entN t v u = BOT ∨ ∃ p ∈ xs, p.f = (u : Int) ∧ p.t = (v : Int) ∧ pw r.1 r.2 p = entN t v u
  all : ∀ p ∈ xs, entN t p.t.toNat p.f.toNat ≠ BOT ∧ pw r.1 r.2 p ≤ entN t p.t.toNat p.f.toNat
theorem wm_ok {n : Nat} {r : Int × Int} {M : Int} (hM : M < 1000000000000000) : ∀ (xs : List Pl), (∀ p ∈ xs, okPl n p ∧ -M ≤ pw r.1 r.2 p) → WmOk n xs r (wmT n xs r) := by
  intro xs
  have key : ∀ (zs : List Pl) (ys : List Pl) (t : List (List Int)), WmOk n ys r t → (∀ p ∈ zs, okPl n p ∧ -M ≤ pw r.1 r.2 p) → WmOk n (ys ++ zs) r (zs.foldl (wmS r) t) := by
    intro zs
    induction zs with
    | nil => intro ys t h _; simpa using h
    | cons p zs ih =>
      intro ys t h hz
      obtain ⟨⟨⟨g1, g2⟩, ⟨g3, g4⟩, _⟩, g5⟩ := hz p (by simp)
      have hp1 : p.t.toNat < n := by omega
      have hp2 : p.f.toNat < n := by omega
      have hent : ∀ a b, entN (wmS r t p) a b = if a = p.t.toNat ∧ b = p.f.toNat then max (entN t p.t.toNat p.f.toNat) (pw r.1 r.2 p) else entN t a b := fun a b => entN_setT h.sq hp1 hp2 a b
      have := ih (ys ++ [p]) (wmS r t p) ⟨wmS_sq h.sq, fun u v hu hv => ?_, fun q hq => ?_⟩ (fun q hq => hz q (by simp [hq]))
      · simpa using this
      · rw [hent]
        by_cases e : v = p.t.toNat ∧ u = p.f.toNat
        · rw [if_pos e]
          obtain ⟨e1, e2⟩ := e
          subst e1 e2
          by_cases hm : pw r.1 r.2 p ≤ entN t p.t.toNat p.f.toNat
          · rw [show max (entN t p.t.toNat p.f.toNat) (pw r.1 r.2 p) = entN t p.t.toNat p.f.toNat by omega]
            rcases h.some p.f.toNat p.t.toNat hp2 hp1 with h1 | ⟨q, h1, h2⟩
            · exact .inl h1
            · exact .inr ⟨q, by simp [h1], h2⟩
          · rw [show max (entN t p.t.toNat p.f.toNat) (pw r.1 r.2 p) = pw r.1 r.2 p by omega]
            exact .inr ⟨p, by simp, by omega, by omega, rfl⟩
        · rw [if_neg e]
          rcases h.some u v hu hv with h1 | ⟨q, h1, h2⟩
          · exact .inl h1
          · exact .inr ⟨q, by simp [h1], h2⟩
      · rw [hent]
        by_cases e : q.t.toNat = p.t.toNat ∧ q.f.toNat = p.f.toNat
        · rw [if_pos e]
          refine ⟨fun e2 => ?_, ?_⟩
          · simp only [BOT] at e2; omega
          · rcases List.mem_append.1 hq with hq | hq
            · have := (h.all q hq).2
              rw [e.1, e.2] at this
              omega
            · simp at hq; subst hq; omega
        · rw [if_neg e]
          rcases List.mem_append.1 hq with hq | hq
          · exact h.all q hq
          · simp at hq; subst hq; exact absurd ⟨rfl, rfl⟩ e
  intro hx
  have := key xs [] (botT n n) ⟨Sq.bot n, fun u v hu hv => .inl (entN_bot hv hu), fun p hp => by cases hp⟩ hx
  exact this
/-- A walk along arcs, place by place. -/
theorem wm_walk {n : Nat} {xs : List Pl} {r : Int × Int} {t : List (List Int)} (h : WmOk n xs r t) : ∀ {c : List Nat} {u v : Nat}, u < n → v < n → (∀ x ∈ c, x < n) → WM (entN t) u c v → ∃ d, Wk xs (u : Int) d (v : Int) ∧ d ≠ [] ∧ wgt xs r.1 r.2 d = wM (entN t) u c v
  | [], u, v, hu, hv, _, hw => by
    rcases h.some u v hu hv with e | ⟨p, hp, h1, h2, h3⟩
    · exact absurd e hw
    · obtain ⟨i, hi, rfl⟩ := List.getElem_of_mem hp
      have e : plA xs i = xs[i] := by simp [plA, hi]
      exact ⟨[i], ⟨hi, by rw [e]; exact h1, by rw [e]; exact h2⟩, by simp, by simp only [wgt, wM]; rw [e, h3]; omega⟩
  | m :: c, u, v, hu, hv, hc, hw => by
    have hm := hc m (by simp)
    obtain ⟨d, g1, _, g3⟩ := wm_walk h hm hv (fun x hx => hc x (by simp [hx])) hw.2
    rcases h.some u m hu hm with e | ⟨p, hp, h1, h2, h3⟩
    · exact absurd e hw.1
    · obtain ⟨i, hi, rfl⟩ := List.getElem_of_mem hp
      have e : plA xs i = xs[i] := by simp [plA, hi]
      exact ⟨i :: d, ⟨hi, by rw [e]; exact h1, by rw [e, h2]; exact g1⟩, by simp, by simp only [wgt, wM]; rw [e, h3, g3]⟩
end Go.Proofs.Ytpgcmpbamlnkkaa
end

section
namespace Go.Proofs.Ytpgcmpbamlnkkaa
set_option linter.unusedSimpArgs false
set_option linter.unusedVariables false
open Go Go.RowKit
attribute [local irreducible] AL AD AW OpOk Le AC thenQ blockQ EndQ

theorem wm_take {xs : List Pl} {r : Int × Int} {n k : Nat} (h : k < xs.length) : (xs.take (k + 1)).foldl (wmS r) (botT n n) = wmS r ((xs.take k).foldl (wmS r) (botT n n)) (plA xs k) := by
  have e : xs[k]? = some (plA xs k) := by simp [plA, h]
  exact take_fold e
end Go.Proofs.Ytpgcmpbamlnkkaa
end

section
namespace Go.Proofs.Ytpgcmpbamlnkkaa
set_option linter.unusedSimpArgs false
set_option linter.unusedVariables false
open Go Go.RowKit
attribute [local irreducible] AL AD AW OpOk Le AC thenQ blockQ EndQ

abbrev botF : Nat → Nat → Int := fun _ _ => BOT
theorem botFn_ac (i j : Nat) : AC Try.prog 255 [I i, I j] H0 (I (botF i j)) H0 := by
  refine AC.of_body 0 Try.func255 rfl (fun l h => absurd rfl h) (fun C hC => ?_)
  have hD : ∀ l, ¬ C.D0 l := fun l h => (hC l).1 h rfl
  simp only [startFr, Try.ntmps255, List.length_cons, List.length_nil, Nat.reduceAdd, Nat.reduceSub, List.replicate_succ, List.replicate_zero, List.cons_append, List.nil_append]
  repeat' (first | ((first | apply Ba | (apply Bb; (· rfl); (· rfl)) | (apply Bc; (· exact nxE)) | (apply Bd; (· rfl); (· rfl); (· exact nxE))); (· first | exact Ok.pe)) | ((first | apply Ca | (apply Cb; (· exact nxE))); (· first | exact Ok.e0)) | refine Sx ?_ | (refine Sy (fun h => ?_) (fun h => ?_) <;> try (exfalso; omega; done)) | refine Sz (fun h => ?_) (fun h => ?_))
  refine Ya ?_
  (apply Le.headZ (hs := []) [] rfl)
  all_goals (try dsimp only [srcs])
  (case' hfr => (repeat' (first | refine La ?_ ?_ | exact Lc | refine Lo ?_ | refine ⟨⟨_, rfl, ?_⟩, ?_⟩ | refine Lx ?_)))
  all_goals (first | exact Ld | exact trivial | (rfl))
set_option maxHeartbeats 2000000 in
theorem mbyBot_ac (m n : Nat)  (hm : m ≤ 1000) (hn : n ≤ 1000) : AC Try.prog 231 [I m, I n, .clo (.func 255) [] []] H0 (.own 1 ⟨0, []⟩ 0 m) (heapX [] [mi1 ⟨0, []⟩ (TR (tabF m n botF))]) := by
  refine AC.of_body 0 Try.func231 rfl (fun l h => absurd rfl h) (fun C hC => ?_)
  have hD : ∀ l, ¬ C.D0 l := fun l h => (hC l).1 h rfl
  simp only [startFr, Try.ntmps231, List.length_cons, List.length_nil, Nat.reduceAdd, Nat.reduceSub, List.replicate_succ, List.replicate_zero, List.cons_append, List.nil_append]
  repeat' (first | ((first | apply Ba | (apply Bb; (· rfl); (· rfl)) | (apply Bc; (· exact nxE)) | (apply Bd; (· rfl); (· rfl); (· exact nxE))); (· first | exact Ok.pe)) | ((first | apply Ca | (apply Cb; (· exact nxE))); (· first | exact Ok.e0)) | refine Sx ?_ | (refine Sy (fun h => ?_) (fun h => ?_) <;> try (exfalso; omega; done)) | refine Sz (fun h => ?_) (fun h => ?_))
  refine AW.loop (X := {k : Nat // k ≤ m}) (fun k => ⟨[Oo, I n, .clo (.func 255) [] [], Oo, Oo, Oo, Oo, .own 1 ⟨0, []⟩ 0 m, Oo, Oo, Oo, Oo, Oo, I m, I (k.1 : Nat), Oo, Oo, Oo, Oo, Oo, Oo, Oo, Oo, Oo, Oo, Oo, Oo, Oo, Oo, Oo, Oo, Oo, Oo, Oo, Oo, Oo, Oo, Oo, Oo, Oo, Oo, Oo, Oo], heapX [] [{ l := ⟨0, []⟩, k := 1, R := TR (tabF k.1 n (mixF botF zz k.1 0)), nils := m - k.1, src := ⟨0, []⟩, base := ⟨0, []⟩ }], 900⟩) (fun k => m - k.1) ⟨0, Nat.zero_le _⟩ ?_ (fun k => ?_)
  ·
    (apply Le.headG [] [{ l := ⟨0, []⟩, k := 1, R := [], nils := m, src := ⟨2, []⟩, base := ⟨2, []⟩ }] (fun _ => False))
    (case' hlen => rfl)
    (case' hms => rfl)
    all_goals (try dsimp only [srcs])
    (case' hfr | hob => (repeat' (first | refine La ?_ ?_ | exact Lc | refine Lo ?_ | refine ⟨⟨_, rfl, ?_⟩, ?_⟩ | refine Lx ?_)))
    (case' hok => first | exact ⟨MI.ok_make rfl, trivial⟩ | exact trivial)
    (case' hN => rfl)
    (case' hS => rfl)
    all_goals (first | exact Ld | (rfl))
  obtain ⟨i, hi⟩ := k
  simp only
  by_cases hlt : i < m
  ·
    have hti : (TR (tabF i n (mixF botF zz i 0))).length = i := by rw [TR_len, tabF_len]
    rw [show m - i = (m - (i + 1)) + 1 by omega]
    repeat' (first | ((first | apply Ba | (apply Bb; (· rfl); (· rfl)) | (apply Bc; (· exact nxE)) | (apply Bd; (· rfl); (· rfl); (· exact nxE))); (· first | exact OpOk.loadCell rfl rfl rfl rfl (set_at (by simp only [outer_len]; rw [hti]; omega)) rfl | exact Ok.stT rfl rfl rfl (by dsimp only; rw [hti]; omega) rfl | exact Ok.pe)) | ((first | apply Ca | (apply Cb; (· exact nxE))); (· first | exact Ok.stT rfl rfl rfl (by dsimp only; rw [hti]; omega) rfl | exact Ok.e0)) | refine Sx ?_ | (refine Sy (fun h => ?_) (fun h => ?_) <;> try (exfalso; omega; done)) | refine Sz (fun h => ?_) (fun h => ?_))
    refine AW.loop (X := {k : Nat // k ≤ n}) (fun k => ⟨[Oo, I n, .clo (.func 255) [] [], Oo, Oo, Oo, Oo, .own 1 ⟨0, []⟩ 0 m, I i, Oo, Oo, Oo, Oo, I m, I i, Oo, Oo, Oo, Oo, Oo, Oo, Oo, Oo, Oo, Oo, Oo, I n, I (k.1 : Nat), Oo, Oo, Oo, Oo, Oo, Oo, Oo, Oo, Oo, Oo, Oo, Oo, Oo, Oo, Oo], heapX [] [{ l := ⟨0, []⟩, k := 1, R := TR (tabF (i + 1) n (mixF botF zz i k.1)), nils := m - (i + 1), src := ⟨0, []⟩, base := ⟨0, []⟩ }], 900⟩) (fun k => n - k.1) ⟨0, Nat.zero_le _⟩ ?_ (fun k => ?_)
    ·
      (apply Le.headG [] [{ l := ⟨0, []⟩, k := 1, R := TR (tabF (i + 1) n (mixF botF zz i 0)), nils := m - (i + 1), src := ⟨0, []⟩, base := ⟨0, []⟩, cut := i, ext := some ⟨906, []⟩ }] (fun _ => False))
      (case' hlen => rfl)
      (case' hms => rfl)
      all_goals (try dsimp only [srcs])
      (case' hfr | hob => (repeat' (first | refine La ?_ ?_ | exact Lc | refine Lo ?_ | refine ⟨⟨_, rfl, ?_⟩, ?_⟩ | refine Lx ?_)))
      (case' hok => first | exact ⟨MI.ok_fill (r := List.replicate n [DI 0]) zz_snoc hti (by simp) rfl (Cg) rfl, trivial⟩ | exact trivial)
      (case' hN => rfl)
      (case' hS => rfl)
      all_goals (first | exact Ld | ((first | (simp [AllP, TR_len, tabF_len]; done) | (simp [AllP, TR_len, tabF_len]; omega))))
    obtain ⟨j, hj⟩ := k
    simp only
    by_cases hlt2 : j < n
    ·
      have hrw := TRF_get (n := n) (f := (mixF botF zz i j)) (show i < i + 1 by omega)
      have hlr : (IR (rowF n ((mixF botF zz i j) i))).length = n := by rw [IR_len, rowF_len]
      repeat' (first | ((first | apply Ba | (apply Bb; (· rfl); (· rfl)) | (apply Bc; (· exact nxE)) | (apply Bd; (· rfl); (· rfl); (· exact nxE))); (· first | exact Ok.ldTn rfl rfl rfl hrw hlr | exact Kz rfl rfl (botFn_ac i j) (Ad (Ad An)) | exact Ok.st1 rfl rfl (congrArg (Option.map (dobj 1)) hrw) (by simp [rowF_len]; omega) (by rw [IRF_get hlt2]; rfl) rfl rfl IR_set | exact Ok.pe)) | ((first | apply Ca | (apply Cb; (· exact nxE))); (· first | exact Ok.st1 rfl rfl (congrArg (Option.map (dobj 1)) hrw) (by simp [rowF_len]; omega) (by rw [IRF_get hlt2]; rfl) rfl rfl IR_set | exact Ok.e0)) | refine Sx ?_ | (refine Sy (fun h => ?_) (fun h => ?_) <;> try (exfalso; omega; done)) | refine Sz (fun h => ?_) (fun h => ?_))
      refine ⟨⟨j + 1, by omega⟩, ?_, by simp only; omega⟩
      (apply Le.headG [] [{ l := ⟨0, []⟩, k := 1, R := TR (tabF (i + 1) n (mixF botF zz i (j + 1))), nils := m - (i + 1), src := ⟨0, []⟩, base := ⟨0, []⟩ }] (fun _ => False))
      (case' hlen => rfl)
      (case' hms => rfl)
      all_goals (try dsimp only [srcs])
      (case' hfr | hob => (repeat' (first | refine La ?_ ?_ | exact Lc | refine Lo ?_ | refine ⟨⟨_, rfl, ?_⟩, ?_⟩ | refine Lx ?_)))
      (case' hok => first | exact ⟨MI.ok_row (tabF_set (fun a b _ _ => mixF_set)) hrw (by simp) rfl (Cg), trivial⟩ | exact trivial)
      (case' hN => rfl)
      (case' hS => rfl)
      all_goals (first | exact Ld | (rfl))
    ·
      have hjn : j = n := by omega
      subst hjn
      rw [mixF_row]
      repeat' (first | ((first | apply Ba | (apply Bb; (· rfl); (· rfl)) | (apply Bc; (· exact nxE)) | (apply Bd; (· rfl); (· rfl); (· exact nxE))); (· first | exact Ok.pe)) | ((first | apply Ca | (apply Cb; (· exact nxE))); (· first | exact Ok.e0)) | refine Sx ?_ | (refine Sy (fun h => ?_) (fun h => ?_) <;> try (exfalso; omega; done)) | refine Sz (fun h => ?_) (fun h => ?_))
      refine ⟨⟨i + 1, by omega⟩, ?_, by simp only; omega⟩
      (apply Le.headG [] [{ l := ⟨0, []⟩, k := 1, R := TR (tabF (i + 1) j (mixF botF zz (i + 1) 0)), nils := m - (i + 1), src := ⟨0, []⟩, base := ⟨0, []⟩ }] (fun _ => False))
      (case' hlen => rfl)
      (case' hms => rfl)
      all_goals (try dsimp only [srcs])
      (case' hfr | hob => (repeat' (first | refine La ?_ ?_ | exact Lc | refine Lo ?_ | refine ⟨⟨_, rfl, ?_⟩, ?_⟩ | refine Lx ?_)))
      (case' hok => first | exact ⟨MI.ok_same rfl (Cg), trivial⟩ | exact trivial)
      (case' hN => rfl)
      (case' hS => rfl)
      all_goals (first | exact Ld | (rfl))
  ·
    have him : i = m := by omega
    subst him
    rw [Nat.sub_self, mixF_all]
    repeat' (first | ((first | apply Ba | (apply Bb; (· rfl); (· rfl)) | (apply Bc; (· exact nxE)) | (apply Bd; (· rfl); (· rfl); (· exact nxE))); (· first | exact Ok.pe)) | ((first | apply Ca | (apply Cb; (· exact nxE))); (· first | exact Ok.e0)) | refine Sx ?_ | (refine Sy (fun h => ?_) (fun h => ?_) <;> try (exfalso; omega; done)) | refine Sz (fun h => ?_) (fun h => ?_))
    refine Ya ?_
    (apply Le.headG [] [mi1 ⟨0, []⟩ (TR (tabF i n botF))] (fun _ => False))
    (case' hlen => rfl)
    (case' hms => rfl)
    all_goals (try dsimp only [srcs])
    (case' hfr | hob => (repeat' (first | refine La ?_ ?_ | exact Lc | refine Lo ?_ | refine ⟨⟨_, rfl, ?_⟩, ?_⟩ | refine Lx ?_)))
    (case' hok => first | exact ⟨MI.ok_same rfl (Cg), trivial⟩ | exact trivial)
    (case' hN => rfl)
    (case' hS => rfl)
    all_goals (first | exact Ld | (rfl))
theorem botF_tab {n : Nat} : tabF n n botF = botT n n := by
  unfold tabF botT rowF
  apply List.ext_getElem?
  intro i
  by_cases hi : i < n
  · simp only [List.getElem?_map, List.getElem?_range hi, Option.map_some, List.getElem?_replicate, if_pos hi, Option.some.injEq]
    apply List.ext_getElem?
    intro j
    by_cases hj : j < n
    · simp [hj]
    · simp [hj]
  · simp [hi]
theorem bottomMatrix_ac (n : Nat) (hn : n ≤ 1000) : AC Try.prog 202 [I n, I n] H0 (own1 1 n) (hpM 1 (TR (botT n n))) := by
  rw [← botF_tab]
  refine AC.of_body 0 Try.func202 rfl (fun l h => absurd rfl h) (fun C hC => ?_)
  have hD : ∀ l, ¬ C.D0 l := fun l h => (hC l).1 h rfl
  simp only [startFr, Try.ntmps202, List.length_cons, List.length_nil, Nat.reduceAdd, Nat.reduceSub, List.replicate_succ, List.replicate_zero, List.cons_append, List.nil_append]
  repeat' (first | ((first | apply Ba | (apply Bb; (· rfl); (· rfl)) | (apply Bc; (· exact nxE)) | (apply Bd; (· rfl); (· rfl); (· exact nxE))); (· first | exact Tb rfl rfl (mbyBot_ac n n hn hn) (Sd (Sd (Cc Sn))) | exact Ok.pe)) | ((first | apply Ca | (apply Cb; (· exact nxE))); (· first | exact Tb rfl rfl (mbyBot_ac n n hn hn) (Sd (Sd (Cc Sn))) | exact Ok.e0)) | refine Sx ?_ | (refine Sy (fun h => ?_) (fun h => ?_) <;> try (exfalso; omega; done)) | refine Sz (fun h => ?_) (fun h => ?_))
  refine Ya ?_
  (apply Le.headG [] [{ l := ⟨0, []⟩, k := 1, R := TR (tabF n n botF), src := ⟨3, [0]⟩, base := ⟨3, [0]⟩ }] (fun _ => False))
  (case' hlen => rfl)
  (case' hms => rfl)
  all_goals (try dsimp only [srcs])
  (case' hfr | hob => (repeat' (first | refine La ?_ ?_ | exact Lc | refine Lo ?_ | refine ⟨⟨_, rfl, ?_⟩, ?_⟩ | refine Lx ?_)))
  (case' hok => first | exact ⟨MI.ok_same rfl (Cg), trivial⟩ | exact trivial)
  (case' hN => rfl)
  (case' hS => rfl)
  all_goals (first | exact Ld | (rfl))
end Go.Proofs.Ytpgcmpbamlnkkaa
end

section
namespace Go.Proofs.Ytpgcmpbamlnkkaa
set_option linter.unusedSimpArgs false
set_option linter.unusedVariables false
open Go Go.RowKit
attribute [local irreducible] AL AD AW OpOk Le AC thenQ blockQ EndQ

theorem l01Times_ac (a b : Int) (h : a ≠ BOT → b ≠ BOT → -9223372036854775808 ≤ a + b ∧ a + b ≤ 9223372036854775807) : AC Try.prog 189 [I a, I b] H0 (I (timesB a b)) H0 := by
  unfold timesB BOT
  unfold BOT at h
  by_cases h1 : a = -1000000000000000
  · rw [if_pos (.inl h1)]
    subst h1
    refine AC.of_body 0 Try.func189 rfl (fun l h => absurd rfl h) (fun C hC => ?_)
    have hD : ∀ l, ¬ C.D0 l := fun l h => (hC l).1 h rfl
    simp only [startFr, Try.ntmps189, List.length_cons, List.length_nil, Nat.reduceAdd, Nat.reduceSub, List.replicate_succ, List.replicate_zero, List.cons_append, List.nil_append]
    repeat' (first | ((first | apply Ba | (apply Bb; (· rfl); (· rfl)) | (apply Bc; (· exact nxE)) | (apply Bd; (· rfl); (· rfl); (· exact nxE))); (· first | exact Ok.pe)) | ((first | apply Ca | (apply Cb; (· exact nxE))); (· first | exact Ok.e0)) | refine Sx ?_ | (refine Sy (fun h => ?_) (fun h => ?_) <;> try (exfalso; omega; done)) | refine Sz (fun h => ?_) (fun h => ?_))
    refine Ya ?_
    (apply Le.headZ (hs := []) [] rfl)
    all_goals (try dsimp only [srcs])
    (case' hfr => (repeat' (first | refine La ?_ ?_ | exact Lc | refine Lo ?_ | refine ⟨⟨_, rfl, ?_⟩, ?_⟩ | refine Lx ?_)))
    all_goals (first | exact Ld | exact trivial | (rfl))
  · by_cases h2 : b = -1000000000000000
    · rw [if_pos (.inr h2)]
      subst h2
      refine AC.of_body 0 Try.func189 rfl (fun l h => absurd rfl h) (fun C hC => ?_)
      have hD : ∀ l, ¬ C.D0 l := fun l h => (hC l).1 h rfl
      simp only [startFr, Try.ntmps189, List.length_cons, List.length_nil, Nat.reduceAdd, Nat.reduceSub, List.replicate_succ, List.replicate_zero, List.cons_append, List.nil_append]
      repeat' (first | ((first | apply Ba | (apply Bb; (· rfl); (· rfl)) | (apply Bc; (· exact nxE)) | (apply Bd; (· rfl); (· rfl); (· exact nxE))); (· first | exact Ok.pe)) | ((first | apply Ca | (apply Cb; (· exact nxE))); (· first | exact Ok.e0)) | refine Sx ?_ | (refine Sy (fun h => ?_) (fun h => ?_) <;> try (exfalso; omega; done)) | refine Sz (fun h => ?_) (fun h => ?_))
      all_goals
        refine Ya ?_
        (apply Le.headZ (hs := []) [] rfl)
        all_goals (try dsimp only [srcs])
        (case' hfr => (repeat' (first | refine La ?_ ?_ | exact Lc | refine Lo ?_ | refine ⟨⟨_, rfl, ?_⟩, ?_⟩ | refine Lx ?_)))
        all_goals (first | exact Ld | exact trivial | (rfl))
    · rw [if_neg (by rintro (h3 | h3); exact h1 h3; exact h2 h3)]
      obtain ⟨h3, h4⟩ := h h1 h2
      refine AC.of_body 0 Try.func189 rfl (fun l h => absurd rfl h) (fun C hC => ?_)
      have hD : ∀ l, ¬ C.D0 l := fun l h => (hC l).1 h rfl
      simp only [startFr, Try.ntmps189, List.length_cons, List.length_nil, Nat.reduceAdd, Nat.reduceSub, List.replicate_succ, List.replicate_zero, List.cons_append, List.nil_append]
      repeat' (first | ((first | apply Ba | (apply Bb; (· rfl); (· rfl)) | (apply Bc; (· exact nxE)) | (apply Bd; (· rfl); (· rfl); (· exact nxE))); (· first | exact Ok.pe)) | ((first | apply Ca | (apply Cb; (· exact nxE))); (· first | exact Ok.e0)) | refine Sx ?_ | (refine Sy (fun h => ?_) (fun h => ?_) <;> try (exfalso; omega; done)) | refine Sz (fun h => ?_) (fun h => ?_))
      all_goals
        refine Ya ?_
        (apply Le.headZ (hs := []) [] rfl)
        all_goals (try dsimp only [srcs])
        (case' hfr => (repeat' (first | refine La ?_ ?_ | exact Lc | refine Lo ?_ | refine ⟨⟨_, rfl, ?_⟩, ?_⟩ | refine Lx ?_)))
        all_goals (first | exact Ld | exact trivial | (rfl))
set_option maxHeartbeats 2000000 in
theorem l02Add_ac (m n : Nat) (a b : List (List Int)) (ha : Rc a m n) (hb : Rc b m n) (hm : m ≤ 1000) (hn : n ≤ 1000) : AC Try.prog 210 [TL a, TL b] H0 (own1 1 m) (hpM 1 (TR (tabF m n (addF a b)))) := by
  have hbl := hb.l
  have hO := l02Own_ac a (by have := ha.l; omega) (fun r hr => by rw [ha.r r hr]; omega)
  rw [ha.l] at hO
  have h0 : tabF m n (mixF (addF a b) (entN a) 0 0) = a := by rw [mixF_0, tabF_self ha]
  rw [← h0] at hO
  rw [h0] at hO
  refine AC.of_body 0 Try.func210 rfl (fun l h => absurd rfl h) (fun C hC => ?_)
  have hD : ∀ l, ¬ C.D0 l := fun l h => (hC l).1 h rfl
  simp only [startFr, Try.ntmps210, List.length_cons, List.length_nil, Nat.reduceAdd, Nat.reduceSub, List.replicate_succ, List.replicate_zero, List.cons_append, List.nil_append]
  repeat' (first | ((first | apply Ba | (apply Bb; (· rfl); (· rfl)) | (apply Bc; (· exact nxE)) | (apply Bd; (· rfl); (· rfl); (· exact nxE))); (· first | exact Tb rfl rfl (hO) (Sd Sn) | exact Ok.pe)) | ((first | apply Ca | (apply Cb; (· exact nxE))); (· first | exact Tb rfl rfl (hO) (Sd Sn) | exact Ok.e0)) | refine Sx ?_ | (refine Sy (fun h => ?_) (fun h => ?_) <;> try (exfalso; omega; done)) | refine Sz (fun h => ?_) (fun h => ?_))
  refine AW.loop (X := {k : Nat // k ≤ m}) (fun k => ⟨[Oo, TL b, Oo, Oo, Oo, .own 1 ⟨1, []⟩ 0 m, I (k.1 : Nat), Oo, Oo, Oo, Oo, Oo, Oo, Oo, Oo, Oo, Oo, Oo, Oo, Oo, Oo, Oo, Oo, Oo, Oo, Oo, Oo, Oo, Oo, Oo, Oo, Oo, Oo, Oo, Oo, Oo, Oo, Oo, Oo, Oo, Oo, Oo, Oo, Oo, Oo, Oo, Oo], heapX [] [mi1 ⟨1, []⟩ (TR (tabF m n (mixF (addF a b) (entN a) k.1 0)))], 900⟩) (fun k => m - k.1) ⟨0, Nat.zero_le _⟩ ?_ (fun k => ?_)
  ·
    (apply Le.headG [] [{ l := ⟨1, []⟩, k := 1, R := TR (tabF m n (mixF (addF a b) (entN a) 0 0)), src := ⟨2, [0]⟩, base := ⟨2, [0]⟩ }] (fun _ => False))
    (case' hlen => rfl)
    (case' hms => rfl)
    all_goals (try dsimp only [srcs])
    (case' hfr | hob => (repeat' (first | refine La ?_ ?_ | exact Lc | refine Lo ?_ | refine ⟨⟨_, rfl, ?_⟩, ?_⟩ | refine Lx ?_)))
    (case' hok => first | exact ⟨by rw [h0]; exact MI.ok_same rfl (Cg), trivial⟩ | exact trivial)
    (case' hN => rfl)
    (case' hS => rfl)
    all_goals (first | exact Ld | (rfl))
  obtain ⟨i, hi⟩ := k
  simp only
  by_cases hlt : i < m
  ·
    repeat' (first | ((first | apply Ba | (apply Bb; (· rfl); (· rfl)) | (apply Bc; (· exact nxE)) | (apply Bd; (· rfl); (· rfl); (· exact nxE))); (· first | exact Ok.pe)) | ((first | apply Ca | (apply Cb; (· exact nxE))); (· first | exact Ok.e0)) | refine Sx ?_ | (refine Sy (fun h => ?_) (fun h => ?_) <;> try (exfalso; omega; done)) | refine Sz (fun h => ?_) (fun h => ?_))
    refine AW.loop (X := {k : Nat // k ≤ n}) (fun k => ⟨[Oo, TL b, Oo, Oo, Oo, .own 1 ⟨1, []⟩ 0 m, I i, I (k.1 : Nat), Oo, Oo, Oo, Oo, Oo, Oo, Oo, Oo, Oo, Oo, Oo, Oo, Oo, Oo, Oo, Oo, Oo, Oo, Oo, Oo, Oo, Oo, Oo, Oo, Oo, Oo, Oo, Oo, Oo, Oo, Oo, Oo, Oo, Oo, Oo, Oo, Oo, Oo, Oo], heapX [] [mi1 ⟨1, []⟩ (TR (tabF m n (mixF (addF a b) (entN a) i k.1)))], 900⟩) (fun k => n - k.1) ⟨0, Nat.zero_le _⟩ ?_ (fun k => ?_)
    ·
      (apply Le.headG [] [mi1 ⟨1, []⟩ (TR (tabF m n (mixF (addF a b) (entN a) i 0)))] (fun _ => False))
      (case' hlen => rfl)
      (case' hms => rfl)
      all_goals (try dsimp only [srcs])
      (case' hfr | hob => (repeat' (first | refine La ?_ ?_ | exact Lc | refine Lo ?_ | refine ⟨⟨_, rfl, ?_⟩, ?_⟩ | refine Lx ?_)))
      (case' hok => first | exact ⟨MI.ok_same rfl (Cg), trivial⟩ | exact trivial)
      (case' hN => rfl)
      (case' hS => rfl)
      all_goals (first | exact Ld | (rfl))
    obtain ⟨j, hj⟩ := k
    simp only
    have hrw := TRF_get (n := n) (f := mixF (addF a b) (entN a) i j) hlt
    have hli : (IR (rowF n (mixF (addF a b) (entN a) i j i))).length = n := by rw [IR_len, rowF_len]
    by_cases hlt2 : j < n
    ·
      obtain ⟨S, hS1, hS2, hS3⟩ := hb.get hlt hlt2
      have hSr := TR_get hS1
      have hSf := IR_get hS2
      have hSl : (IR S).length = n := by rw [IR_len, hS3]
      have hij := IRF_get (g := mixF (addF a b) (entN a) i j i) hlt2
      rw [show mixF (addF a b) (entN a) i j i j = entN a i j by unfold mixF; rw [if_neg (by omega)]] at hij
      have hset : (IR (rowF n (mixF (addF a b) (entN a) i j i))).set j [DI (max (entN a i j) (entN b i j))] = IR ((rowF n (mixF (addF a b) (entN a) i j i)).set j (addF a b i j)) := IR_set
      repeat' (first | ((first | apply Ba | (apply Bb; (· rfl); (· rfl)) | (apply Bc; (· exact nxE)) | (apply Bd; (· rfl); (· rfl); (· exact nxE))); (· first | exact Ok.ldTn rfl rfl rfl hrw hli | exact Ok.ld1 rfl rfl (congrArg (Option.map (dobj 1)) hrw) hij | exact Ok.st1 rfl rfl (congrArg (Option.map (dobj 1)) hrw) (by rw [hli]; omega) (by rw [hij]; rfl) rfl rfl hset | exact Ok.pe)) | ((first | apply Ca | (apply Cb; (· exact nxE))); (· first | exact Ok.st1 rfl rfl (congrArg (Option.map (dobj 1)) hrw) (by rw [hli]; omega) (by rw [hij]; rfl) rfl rfl hset | exact Ok.e0)) | refine Sx ?_ | (refine Sy (fun h => ?_) (fun h => ?_) <;> try (exfalso; omega; done)) | refine Sz (fun h => ?_) (fun h => ?_))
      refine ⟨⟨j + 1, by omega⟩, ?_, by simp only; omega⟩
      (apply Le.headG [] [mi1 ⟨1, []⟩ (TR (tabF m n (mixF (addF a b) (entN a) i (j + 1))))] (fun _ => False))
      (case' hlen => rfl)
      (case' hms => rfl)
      all_goals (try dsimp only [srcs])
      (case' hfr | hob => (repeat' (first | refine La ?_ ?_ | exact Lc | refine Lo ?_ | refine ⟨⟨_, rfl, ?_⟩, ?_⟩ | refine Lx ?_)))
      (case' hok => first | exact ⟨MI.ok_row (tabF_set (fun a b _ _ => mixF_set)) hrw (by simp) rfl (Cg), trivial⟩ | exact trivial)
      (case' hN => rfl)
      (case' hS => rfl)
      all_goals (first | exact Ld | (rfl))
    ·
      obtain rfl : j = n := by omega
      repeat' (first | ((first | apply Ba | (apply Bb; (· rfl); (· rfl)) | (apply Bc; (· exact nxE)) | (apply Bd; (· rfl); (· rfl); (· exact nxE))); (· first | exact Ok.ldTn rfl rfl rfl hrw hli | exact Ok.pe)) | ((first | apply Ca | (apply Cb; (· exact nxE))); (· first | exact Ok.e0)) | refine Sx ?_ | (refine Sy (fun h => ?_) (fun h => ?_) <;> try (exfalso; omega; done)) | refine Sz (fun h => ?_) (fun h => ?_))
      refine ⟨⟨i + 1, by omega⟩, ?_, by simp only; omega⟩
      simp only
      rw [← mixF_row]
      (apply Le.headG [] [mi1 ⟨1, []⟩ (TR (tabF m j (mixF (addF a b) (entN a) i j)))] (fun _ => False))
      (case' hlen => rfl)
      (case' hms => rfl)
      all_goals (try dsimp only [srcs])
      (case' hfr | hob => (repeat' (first | refine La ?_ ?_ | exact Lc | refine Lo ?_ | refine ⟨⟨_, rfl, ?_⟩, ?_⟩ | refine Lx ?_)))
      (case' hok => first | exact ⟨MI.ok_same rfl (Cg), trivial⟩ | exact trivial)
      (case' hN => rfl)
      (case' hS => rfl)
      all_goals (first | exact Ld | (rfl))
  ·
    obtain rfl : i = m := by omega
    rw [mixF_all]
    repeat' (first | ((first | apply Ba | (apply Bb; (· rfl); (· rfl)) | (apply Bc; (· exact nxE)) | (apply Bd; (· rfl); (· rfl); (· exact nxE))); (· first | exact Ok.pe)) | ((first | apply Ca | (apply Cb; (· exact nxE))); (· first | exact Ok.e0)) | refine Sx ?_ | (refine Sy (fun h => ?_) (fun h => ?_) <;> try (exfalso; omega; done)) | refine Sz (fun h => ?_) (fun h => ?_))
    refine Ya ?_
    (apply Le.headG [] [{ l := ⟨0, []⟩, k := 1, R := TR (tabF i n (addF a b)), src := ⟨1, []⟩, base := ⟨1, []⟩ }] (fun _ => False))
    (case' hlen => rfl)
    (case' hms => rfl)
    all_goals (try dsimp only [srcs])
    (case' hfr | hob => (repeat' (first | refine La ?_ ?_ | exact Lc | refine Lo ?_ | refine ⟨⟨_, rfl, ?_⟩, ?_⟩ | refine Lx ?_)))
    (case' hok => first | exact ⟨MI.ok_same rfl (Cg), trivial⟩ | exact trivial)
    (case' hN => rfl)
    (case' hS => rfl)
    all_goals (first | exact Ld | (rfl))
end Go.Proofs.Ytpgcmpbamlnkkaa
end

section
namespace Go.Proofs.Ytpgcmpbamlnkkaa
set_option linter.unusedSimpArgs false
set_option linter.unusedVariables false
open Go Go.RowKit
attribute [local irreducible] AL AD AW OpOk Le AC thenQ blockQ EndQ

end Go.Proofs.Ytpgcmpbamlnkkaa
end

section
namespace Go.Proofs.Ytpgcmpbamlnkkaa
set_option linter.unusedSimpArgs false
set_option linter.unusedVariables false
open Go Go.RowKit
attribute [local irreducible] AL AD AW OpOk Le AC thenQ blockQ EndQ

/-- What a place asks of the firing k (counted from 0) of the event e. -/
def stP (k e : Nat) (F : Nat → Nat → Int) (p : Pl) : Nat → Nat → Int :=
  if p.t = (e : Int) ∧ p.k ≤ (k : Int) then fun a b => if a = k ∧ b = e then max (F k e) (F (k - p.k.toNat) p.f.toNat + p.d) else F a b else F
def stE (xs : List Pl) (k : Nat) (F : Nat → Nat → Int) (e : Nat) : Nat → Nat → Int := xs.foldl (stP k e) F
def stR (xs : List Pl) (ord : List Nat) (k : Nat) (F : Nat → Nat → Int) : Nat → Nat → Int := ord.foldl (stE xs k) F
def stZ (s0 : Nat → Int) (k : Nat) (F : Nat → Nat → Int) : Nat → Nat → Int := fun a b => if a = k then s0 b else F a b
def stT (xs : List Pl) (ord : List Nat) (s0 : Nat → Int) : Nat → Nat → Nat → Int
  | 0 => fun _ _ => 0
  | k + 1 => stR xs ord k (stZ s0 k (stT xs ord s0 k))
end Go.Proofs.Ytpgcmpbamlnkkaa
end

section
namespace Go.Proofs.Ytpgcmpbamlnkkaa
set_option linter.unusedSimpArgs false
set_option linter.unusedVariables false
open Go Go.RowKit
attribute [local irreducible] AL AD AW OpOk Le AC thenQ blockQ EndQ

end Go.Proofs.Ytpgcmpbamlnkkaa
end

section
namespace Go.Proofs.Ytpgcmpbamlnkkaa
set_option linter.unusedSimpArgs false
set_option linter.unusedVariables false
open Go Go.RowKit
attribute [local irreducible] AL AD AW OpOk Le AC thenQ blockQ EndQ

structure TabOk (T : List (List Int)) : Prop where
  l : T.length ≤ 100
  r : ∀ r ∈ T, r.length ≤ 100
section
variable {H : Heap} {lent : Loc → Prop} {τ : Loc → Loc} {L : Loc → Prop}
end
end Go.Proofs.Ytpgcmpbamlnkkaa
end

section
namespace Go.Proofs.Ytpgcmpbamlnkkaa
set_option linter.unusedSimpArgs false
set_option linter.unusedVariables false
open Go Go.RowKit
attribute [local irreducible] AL AD AW OpOk Le AC thenQ blockQ EndQ

theorem big_ac (code : List Int) (hl : code.length ≤ 9223372036854775807) : AC Try.prog 10 [.d (BD code)] H0 (Bo (decide (4096 < (code.length : Int)))) H0 := by
  refine AC.of_body 0 Try.func10 rfl (fun l h => absurd rfl h) (fun C hC => ?_)
  have hD : ∀ l, ¬ C.D0 l := fun l h => (hC l).1 h rfl
  simp only [startFr, Try.ntmps10, List.length_cons, List.length_nil, Nat.reduceAdd, Nat.reduceSub, List.replicate_succ, List.replicate_zero, List.cons_append, List.nil_append]
  repeat' (first | ((first | apply Ba | (apply Bb; (· rfl); (· rfl)) | (apply Bc; (· exact nxE)) | (apply Bd; (· rfl); (· rfl); (· exact nxE))); (· first | exact Ok.pe)) | ((first | apply Ca | (apply Cb; (· exact nxE))); (· first | exact Ok.e0)) | refine Sx ?_ | (refine Sy (fun h => ?_) (fun h => ?_) <;> try (exfalso; omega; done)) | refine Sz (fun h => ?_) (fun h => ?_))
  refine Ya ?_
  (apply Le.headZ (hs := []) [] rfl)
  all_goals (try dsimp only [srcs])
  (case' hfr => (repeat' (first | refine La ?_ ?_ | exact Lc | refine Lo ?_ | refine ⟨⟨_, rfl, ?_⟩, ?_⟩ | refine Lx ?_)))
  all_goals (first | exact Ld | exact trivial | (rfl))
set_option maxHeartbeats 1000000 in
theorem likeInts_refl (xs : List Int) (hn : xs.length ≤ 100000000) : AC Try.prog 23 [IL xs, IL xs] H0 (Bo true) H0 := by
  refine AC.of_body 0 Try.func23 rfl (fun l h => absurd rfl h) (fun C hC => ?_)
  have hD : ∀ l, ¬ C.D0 l := fun l h => (hC l).1 h rfl
  simp only [startFr, Try.ntmps23, List.length_cons, List.length_nil, Nat.reduceAdd, Nat.reduceSub, List.replicate_succ, List.replicate_zero, List.cons_append, List.nil_append]
  repeat' (first | ((first | apply Ba | (apply Bb; (· rfl); (· rfl)) | (apply Bc; (· exact nxE)) | (apply Bd; (· rfl); (· rfl); (· exact nxE))); (· first | exact Ok.pe)) | ((first | apply Ca | (apply Cb; (· exact nxE))); (· first | exact Ok.e0)) | refine Sx ?_ | (refine Sy (fun h => ?_) (fun h => ?_) <;> try (exfalso; omega; done)) | refine Sz (fun h => ?_) (fun h => ?_))
  refine AW.loop (X := {k : Nat // k ≤ xs.length}) (fun k => ⟨[IL xs, IL xs, Oo, Oo, Oo, I (k.1 : Nat), Oo, Oo, Oo, Oo, Oo, Oo, Oo, Oo, Oo, Oo, Oo, Oo, Oo, Oo, Oo, Oo, Oo, Oo, Oo, Oo], heapL [], 900⟩) (fun k => xs.length - k.1) ⟨0, Nat.zero_le _⟩ ?_ (fun k => ?_)
  ·
    (apply Le.headZ [] rfl)
    all_goals (try dsimp only [srcs])
    (case' hfr | hob => (repeat' (first | refine La ?_ ?_ | exact Lc | refine Lo ?_ | refine ⟨⟨_, rfl, ?_⟩, ?_⟩ | refine Lx ?_)))
    all_goals (first | (rfl) | exact Ld)
  obtain ⟨k, hk⟩ := k
  simp only
  by_cases hlt : k < xs.length
  · obtain ⟨x, hx⟩ : ∃ x, xs[k]? = some x := ⟨xs[k], by simp⟩
    have hrow := IR_get hx
    repeat' (first | ((first | apply Ba | (apply Bb; (· rfl); (· rfl)) | (apply Bc; (· exact nxE)) | (apply Bd; (· rfl); (· rfl); (· exact nxE))); (· first | exact Ok.pe)) | ((first | apply Ca | (apply Cb; (· exact nxE))); (· first | exact Ok.e0)) | refine Sx ?_ | (refine Sy (fun h => ?_) (fun h => ?_) <;> try (exfalso; omega; done)) | refine Sz (fun h => ?_) (fun h => ?_))
    refine ⟨⟨k + 1, by omega⟩, ?_, by simp only; omega⟩
    (apply Le.headZ [] rfl)
    all_goals (try dsimp only [srcs])
    (case' hfr | hob => (repeat' (first | refine La ?_ ?_ | exact Lc | refine Lo ?_ | refine ⟨⟨_, rfl, ?_⟩, ?_⟩ | refine Lx ?_)))
    all_goals (first | (rfl) | exact Ld)
  · obtain rfl : k = xs.length := by omega
    repeat' (first | ((first | apply Ba | (apply Bb; (· rfl); (· rfl)) | (apply Bc; (· exact nxE)) | (apply Bd; (· rfl); (· rfl); (· exact nxE))); (· first | exact Ok.pe)) | ((first | apply Ca | (apply Cb; (· exact nxE))); (· first | exact Ok.e0)) | refine Sx ?_ | (refine Sy (fun h => ?_) (fun h => ?_) <;> try (exfalso; omega; done)) | refine Sz (fun h => ?_) (fun h => ?_))
    refine Ya ?_
    (apply Le.headZ (hs := []) [] rfl)
    all_goals (try dsimp only [srcs])
    (case' hfr => (repeat' (first | refine La ?_ ?_ | exact Lc | refine Lo ?_ | refine ⟨⟨_, rfl, ?_⟩, ?_⟩ | refine Lx ?_)))
    all_goals (first | exact Ld | exact trivial | (rfl))
set_option maxHeartbeats 1000000 in
theorem hasInt_ac (xs : List Int) (n : Int) (hn : xs.length ≤ 100000000) : AC Try.prog 24 [IL xs, I n] H0 (Bo (xs.any fun x => decide (x = n))) H0 := by
  refine AC.of_body 0 Try.func24 rfl (fun l h => absurd rfl h) (fun C hC => ?_)
  have hD : ∀ l, ¬ C.D0 l := fun l h => (hC l).1 h rfl
  simp only [startFr, Try.ntmps24, List.length_cons, List.length_nil, Nat.reduceAdd, Nat.reduceSub, List.replicate_succ, List.replicate_zero, List.cons_append, List.nil_append]
  repeat' (first | ((first | apply Ba | (apply Bb; (· rfl); (· rfl)) | (apply Bc; (· exact nxE)) | (apply Bd; (· rfl); (· rfl); (· exact nxE))); (· first | exact Ok.pe)) | ((first | apply Ca | (apply Cb; (· exact nxE))); (· first | exact Ok.e0)) | refine Sx ?_ | (refine Sy (fun h => ?_) (fun h => ?_) <;> try (exfalso; omega; done)) | refine Sz (fun h => ?_) (fun h => ?_))
  refine AW.loop (X := {k : Nat // k ≤ xs.length ∧ xs.any (fun x => decide (x = n)) = (xs.drop k).any (fun x => decide (x = n))}) (fun k => ⟨[IL xs, I n, Oo, Oo, Oo, I (k.1 : Nat), Oo, Oo, Oo, Oo, Oo, Oo, Oo, Oo, Oo, Oo, Oo, Oo], heapL [], 900⟩) (fun k => xs.length - k.1) ⟨0, Nat.zero_le _, by simp⟩ ?_ (fun k => ?_)
  ·
    (apply Le.headZ [] rfl)
    all_goals (try dsimp only [srcs])
    (case' hfr | hob => (repeat' (first | refine La ?_ ?_ | exact Lc | refine Lo ?_ | refine ⟨⟨_, rfl, ?_⟩, ?_⟩ | refine Lx ?_)))
    all_goals (first | (rfl) | exact Ld)
  obtain ⟨k, hk, hall⟩ := k
  simp only
  by_cases hlt : k < xs.length
  · obtain ⟨x, hx⟩ : ∃ x, xs[k]? = some x := ⟨xs[k], by simp⟩
    have hrow := IR_get hx
    have hdr : xs.drop k = x :: xs.drop (k + 1) := by
      rw [List.drop_eq_getElem_cons hlt, (List.getElem?_eq_some_iff.1 hx).2]
    rw [hdr, List.any_cons] at hall
    repeat' (first | ((first | apply Ba | (apply Bb; (· rfl); (· rfl)) | (apply Bc; (· exact nxE)) | (apply Bd; (· rfl); (· rfl); (· exact nxE))); (· first | exact Ok.pe)) | ((first | apply Ca | (apply Cb; (· exact nxE))); (· first | exact Ok.e0)) | refine Sx ?_ | (refine Sy (fun h => ?_) (fun h => ?_) <;> try (exfalso; omega; done)) | refine Sz (fun h => ?_) (fun h => ?_))
    · rw [hall, show decide (x = n) = true from decide_eq_true (by assumption), Bool.true_or]
      refine Ya ?_
      (apply Le.headZ (hs := []) [] rfl)
      all_goals (try dsimp only [srcs])
      (case' hfr => (repeat' (first | refine La ?_ ?_ | exact Lc | refine Lo ?_ | refine ⟨⟨_, rfl, ?_⟩, ?_⟩ | refine Lx ?_)))
      all_goals (first | exact Ld | exact trivial | (rfl))
    · rw [show decide (x = n) = false from decide_eq_false (by assumption), Bool.false_or] at hall
      refine ⟨⟨k + 1, by omega, hall⟩, ?_, by simp only; omega⟩
      (apply Le.headZ [] rfl)
      all_goals (try dsimp only [srcs])
      (case' hfr | hob => (repeat' (first | refine La ?_ ?_ | exact Lc | refine Lo ?_ | refine ⟨⟨_, rfl, ?_⟩, ?_⟩ | refine Lx ?_)))
      all_goals (first | (rfl) | exact Ld)
  · obtain rfl : k = xs.length := by omega
    rw [hall, List.drop_length]
    repeat' (first | ((first | apply Ba | (apply Bb; (· rfl); (· rfl)) | (apply Bc; (· exact nxE)) | (apply Bd; (· rfl); (· rfl); (· exact nxE))); (· first | exact Ok.pe)) | ((first | apply Ca | (apply Cb; (· exact nxE))); (· first | exact Ok.e0)) | refine Sx ?_ | (refine Sy (fun h => ?_) (fun h => ?_) <;> try (exfalso; omega; done)) | refine Sz (fun h => ?_) (fun h => ?_))
    refine Ya ?_
    (apply Le.headZ (hs := []) [] rfl)
    all_goals (try dsimp only [srcs])
    (case' hfr => (repeat' (first | refine La ?_ ?_ | exact Lc | refine Lo ?_ | refine ⟨⟨_, rfl, ?_⟩, ?_⟩ | refine Lx ?_)))
    all_goals (first | exact Ld | exact trivial | (rfl))
section
variable {P : Program} {o : Oper} {A : Operand → AV} {H : Heap} {new : Nat}
/-- The source of the draws is made. -/
theorem Fx {fo x : Operand} {ts : Array TypeId} {f : FuncId} {code : List Int} {s : Src} (hc : AC P f [.d (BD code)] H0 (Bx 3 0) (srcH code s)) (ho : o.op = .call { callee := .value fo, args := #[x], argTypes := ts }) [FnBody P f] (hfo : A fo = .clo (.func f) [] [])
    (hx : A x = .d (BD code)) : OpOk P o A [] H new (.ptr 3 ⟨new, [0]⟩ 0 0) [.one ⟨new, [0]⟩ (some (srcO code s))] :=
  OpOk.call1n (xs := [x]) [] ho hfo hc (.inl rfl) (fun g => rnO_dobj _ _ _) (by
    show ARs _ _ _ _ _ [A x]
    rw [hx]; exact .cons (AR.dd _) .nil) (by rw [rn])
theorem Zl {fo x : Operand} {xs : List Operand} {ts : Array TypeId} {f : FuncId} {l : Loc} {code : List Int} {s s' : Src} {args : List AV} {res : AV} (hc : AC P f (Bx 3 0 :: args) (srcH code s) res (srcH code s')) (ho : o.op = .call { callee := .value fo, args := (x :: xs).toArray, argTypes := ts }) [FnBody P f] (hfo : A fo = .clo (.func f) [] [])
    (hx : A x = .ptr 3 l 0 0) (hl : H l = some (srcO code s)) (hy : ARs H (fun _ => False) (fun _ => l) (· = ⟨0, []⟩) args (xs.map A)) (hres : ∀ g, rn g res = res) : OpOk P o A [l] H new res [.one l (some (srcO code s'))] :=
  OpOk.callMg ho hfo hc hl hres (by
    rw [List.append_nil]
    show ARs _ _ _ _ _ (A x :: xs.map A)
    rw [hx]; exact .cons (AR.ptr 3 ⟨0, []⟩ 0 0 rfl) hy)
end
end Go.Proofs.Ytpgcmpbamlnkkaa
end

section
namespace Go.Proofs.Ytpgcmpbamlnkkaa
set_option linter.unusedSimpArgs false
set_option linter.unusedVariables false
open Go Go.RowKit
attribute [local irreducible] AL AD AW OpOk Le AC thenQ blockQ EndQ

theorem drawFiringOrder_ex (code : List Int) (hc : CodeOk code) : ∃ (ev : Int) (xs : List Pl), (0 ≤ ev ∧ ev ≤ 11) ∧ xs.length ≤ 40 ∧ AC Try.prog 11 [.d (BD code)] H0 (grD ev xs) H0 := by
  have hF := l01From_ac code hc
  have hG := l12DrawZ_ac code hc _ (src0_ok hc)
  have hok := dr12_ok hc (src0_ok hc)
  generalize dr12 code (src0 code) = g at *
  obtain ⟨ev, xs, s1⟩ := g
  obtain ⟨hev, _, hl, _⟩ := hok
  simp only at hev hl hG
  refine ⟨ev, xs, hev, hl, ?_⟩
  refine AC.of_body 0 Try.func11 rfl (fun l h => absurd rfl h) (fun C hC => ?_)
  have hD : ∀ l, ¬ C.D0 l := fun l h => (hC l).1 h rfl
  simp only [startFr, Try.ntmps11, List.length_cons, List.length_nil, Nat.reduceAdd, Nat.reduceSub, List.replicate_succ, List.replicate_zero, List.cons_append, List.nil_append]
  repeat' (first | ((first | apply Ba | (apply Bb; (· rfl); (· rfl)) | (apply Bc; (· exact nxE)) | (apply Bd; (· rfl); (· rfl); (· exact nxE))); (· first | exact Fx hF rfl rfl rfl | exact Zl (args := []) hG rfl rfl rfl rfl .nil (fun _ => by simp [rn]) | exact Ok.pe)) | ((first | apply Ca | (apply Cb; (· exact nxE))); (· first | exact Fx hF rfl rfl rfl | exact Zl (args := []) hG rfl rfl rfl rfl .nil (fun _ => by simp [rn]) | exact Ok.e0)) | refine Sx ?_ | (refine Sy (fun h => ?_) (fun h => ?_) <;> try (exfalso; omega; done)) | refine Sz (fun h => ?_) (fun h => ?_))
  refine Ya ?_
  (apply Le.headZ (hs := []) [] rfl)
  all_goals (try dsimp only [srcs])
  (case' hfr => (repeat' (first | refine La ?_ ?_ | exact Lc | refine Lo ?_ | refine ⟨⟨_, rfl, ?_⟩, ?_⟩ | refine Lx ?_)))
  all_goals (first | exact Ld | exact trivial | (rfl))
end Go.Proofs.Ytpgcmpbamlnkkaa
end

section
namespace Go.Proofs.Ytpgcmpbamlnkkaa
set_option linter.unusedSimpArgs false
set_option linter.unusedVariables false
open Go Go.RowKit
attribute [local irreducible] AL AD AW OpOk Le AC thenQ blockQ EndQ

end Go.Proofs.Ytpgcmpbamlnkkaa
end

section
namespace Go.Proofs.Ytpgcmpbamlnkkaa
set_option linter.unusedSimpArgs false
set_option linter.unusedVariables false
open Go Go.RowKit
attribute [local irreducible] AL AD AW OpOk Le AC thenQ blockQ EndQ

theorem Wk.same {xs ys : List Pl} (hl : ys.length = xs.length) (h : ∀ i, (plA ys i).f = (plA xs i).f ∧ (plA ys i).t = (plA xs i).t) : ∀ {c : List Nat} {u v : Int}, Wk xs u c v → Wk ys u c v
  | [], _, _, hw => hw
  | i :: c, u, v, ⟨h1, h2, h3⟩ => ⟨by omega, by rw [(h i).1]; exact h2, by rw [(h i).2]; exact Wk.same hl h h3⟩
theorem Circ.same {xs ys : List Pl} (hl : ys.length = xs.length) (h : ∀ i, (plA ys i).f = (plA xs i).f ∧ (plA ys i).t = (plA xs i).t) {c : List Nat} (hc : Circ xs c) : Circ ys c := by
  have e : (c.map fun i => (plA ys i).f) = c.map fun i => (plA xs i).f := List.map_congr_left fun i _ => (h i).1
  refine ⟨hc.ne, ?_, by rw [e]; exact hc.nd, fun i hi => ?_⟩
  · have := hc.wk.same hl h
    simp only [firstF] at this ⊢
    rw [(h (hdN c)).1]
    exact this
  · have := hc.mn i hi
    simp only [firstF] at this ⊢
    rw [(h (hdN c)).1, (h i).1]
    exact this
end Go.Proofs.Ytpgcmpbamlnkkaa
end

section
namespace Go.Proofs.Ytpgcmpbamlnkkaa
set_option linter.unusedSimpArgs false
set_option linter.unusedVariables false
open Go Go.RowKit
attribute [local irreducible] AL AD AW OpOk Le AC thenQ blockQ EndQ

abbrev prF (a b : List (List Int)) (i j : Nat) : Nat → Int := fun q => timesB (entN a i q) (entN b q j)
def mulF (a b : List (List Int)) (n : Nat) : Nat → Nat → Int := fun i j => maxN (prF a b i j) n
def parF (a b : List (List Int)) (n i j m : Nat) : Nat → Nat → Int := fun x y => if x = i ∧ y = j then maxN (prF a b i j) m else mixF (mulF a b n) botF i j x y
theorem parF_0 {a b : List (List Int)} {n i j : Nat} : parF a b n i j 0 = mixF (mulF a b n) botF i j := by
  funext x y
  unfold parF
  by_cases h : x = i ∧ y = j
  · obtain ⟨rfl, rfl⟩ := h
    rw [if_pos ⟨rfl, rfl⟩]; unfold mixF; rw [if_neg (by omega)]; rfl
  · rw [if_neg h]
theorem parF_n {a b : List (List Int)} {n i j : Nat} : parF a b n i j n = mixF (mulF a b n) botF i (j + 1) := by
  funext x y
  rw [mixF_set]
  rfl
theorem parF_at {a b : List (List Int)} {n i j m : Nat} : parF a b n i j m i j = maxN (prF a b i j) m := by simp [parF]
theorem parF_set {a b : List (List Int)} {n i j m x y : Nat} : parF a b n i j (m + 1) x y = if x = i ∧ y = j then max (parF a b n i j m i j) (prF a b i j m) else parF a b n i j m x y := by
  rw [parF_at]
  unfold parF
  by_cases h : x = i ∧ y = j
  · rw [if_pos h, if_pos h]; rfl
  · rw [if_neg h, if_neg h, if_neg h]
set_option maxHeartbeats 4000000 in
theorem l02Multiply_ac (n : Nat) (a b : List (List Int)) (ha : Rc a n n) (hb : Rc b n n) (hn : n ≤ 1000) (h0 : 0 < n)
    (ht : ∀ i q j, i < n → q < n → j < n → entN a i q ≠ BOT → entN b q j ≠ BOT → -9223372036854775808 ≤ entN a i q + entN b q j ∧ entN a i q + entN b q j ≤ 9223372036854775807) :
    AC Try.prog 174 [TL a, TL b] H0 (own1 1 n) (hpM 1 (TR (tabF n n (mulF a b n)))) := by
  have hal := ha.l
  have hbl := hb.l
  have hz : tabF n n (mixF (mulF a b n) botF 0 0) = botT n n := by rw [mixF_0, botF_tab]
  obtain ⟨B0, hB1, hB2, hB3⟩ := hb.get h0 h0
  have hBr := TR_get hB1
  have hBl : (IR B0).length = n := by rw [IR_len, hB3]
  have hB : AC Try.prog 204 [I a.length, I B0.length] H0 (own1 1 n) (hpM 1 (TR (tabF n n (mixF (mulF a b n) botF 0 0)))) := by
    rw [hal, hB3, hz]; exact l02Bottom_ac n n (by omega) (by omega)
  refine AC.of_body 0 Try.func174 rfl (fun l h => absurd rfl h) (fun C hC => ?_)
  have hD : ∀ l, ¬ C.D0 l := fun l h => (hC l).1 h rfl
  simp only [startFr, Try.ntmps174, List.length_cons, List.length_nil, Nat.reduceAdd, Nat.reduceSub, List.replicate_succ, List.replicate_zero, List.cons_append, List.nil_append]
  repeat' (first | ((first | apply Ba | (apply Bb; (· rfl); (· rfl)) | (apply Bc; (· exact nxE)) | (apply Bd; (· rfl); (· rfl); (· exact nxE))); (· first | exact Tb rfl rfl (hB) (Sd (Sd Sn)) | exact Ok.pe)) | ((first | apply Ca | (apply Cb; (· exact nxE))); (· first | exact Tb rfl rfl (hB) (Sd (Sd Sn)) | exact Ok.e0)) | refine Sx ?_ | (refine Sy (fun h => ?_) (fun h => ?_) <;> try (exfalso; omega; done)) | refine Sz (fun h => ?_) (fun h => ?_))
  refine AW.loop (X := {k : Nat // k ≤ n}) (fun k => ⟨[TL a, TL b, Oo, Oo, Oo, .own 1 ⟨1, []⟩ 0 n, I (k.1 : Nat), Oo, Oo, Oo, Oo, Oo, Oo, Oo, Oo, Oo, Oo, Oo, Oo, Oo, Oo, Oo, Oo, Oo, Oo, Oo, Oo, Oo, Oo, Oo, Oo, Oo, Oo, Oo, Oo, Oo, Oo, Oo, Oo, Oo, Oo, Oo, Oo, Oo, Oo, Oo, Oo, Oo, Oo, Oo, Oo, Oo, Oo, Oo, Oo, Oo, Oo, Oo, Oo, Oo, Oo, Oo, Oo, Oo, Oo, Oo], heapX [] [mi1 ⟨1, []⟩ (TR (tabF n n (mixF (mulF a b n) botF k.1 0)))], 900⟩) (fun k => n - k.1) ⟨0, Nat.zero_le _⟩ ?_ (fun k => ?_)
  ·
    (apply Le.headG [] [{ l := ⟨1, []⟩, k := 1, R := TR (tabF n n (mixF (mulF a b n) botF 0 0)), src := ⟨7, [0]⟩, base := ⟨7, [0]⟩ }] (fun _ => False))
    (case' hlen => rfl)
    (case' hms => rfl)
    all_goals (try dsimp only [srcs])
    (case' hfr | hob => (repeat' (first | refine La ?_ ?_ | exact Lc | refine Lo ?_ | refine ⟨⟨_, rfl, ?_⟩, ?_⟩ | refine Lx ?_)))
    (case' hok => first | exact ⟨MI.ok_same rfl (Cg), trivial⟩ | exact trivial)
    (case' hN => rfl)
    (case' hS => rfl)
    all_goals (first | exact Ld | (rfl))
  obtain ⟨i, hi⟩ := k
  simp only
  by_cases hlt : i < n
  ·
    repeat' (first | ((first | apply Ba | (apply Bb; (· rfl); (· rfl)) | (apply Bc; (· exact nxE)) | (apply Bd; (· rfl); (· rfl); (· exact nxE))); (· first | exact Ok.pe)) | ((first | apply Ca | (apply Cb; (· exact nxE))); (· first | exact Ok.e0)) | refine Sx ?_ | (refine Sy (fun h => ?_) (fun h => ?_) <;> try (exfalso; omega; done)) | refine Sz (fun h => ?_) (fun h => ?_))
    refine AW.loop (X := {k : Nat // k ≤ n}) (fun k => ⟨[TL a, TL b, Oo, Oo, Oo, .own 1 ⟨1, []⟩ 0 n, I i, I (k.1 : Nat), Oo, Oo, Oo, Oo, Oo, Oo, Oo, Oo, Oo, Oo, Oo, Oo, Oo, Oo, Oo, Oo, Oo, Oo, Oo, Oo, Oo, Oo, Oo, Oo, Oo, Oo, Oo, Oo, Oo, Oo, Oo, Oo, Oo, Oo, Oo, Oo, Oo, Oo, Oo, Oo, Oo, Oo, Oo, Oo, Oo, Oo, Oo, Oo, Oo, Oo, Oo, Oo, Oo, Oo, Oo, Oo, Oo, Oo], heapX [] [mi1 ⟨1, []⟩ (TR (tabF n n (mixF (mulF a b n) botF i k.1)))], 900⟩) (fun k => n - k.1) ⟨0, Nat.zero_le _⟩ ?_ (fun k => ?_)
    ·
      (apply Le.headG [] [mi1 ⟨1, []⟩ (TR (tabF n n (mixF (mulF a b n) botF i 0)))] (fun _ => False))
      (case' hlen => rfl)
      (case' hms => rfl)
      all_goals (try dsimp only [srcs])
      (case' hfr | hob => (repeat' (first | refine La ?_ ?_ | exact Lc | refine Lo ?_ | refine ⟨⟨_, rfl, ?_⟩, ?_⟩ | refine Lx ?_)))
      (case' hok => first | exact ⟨MI.ok_same rfl (Cg), trivial⟩ | exact trivial)
      (case' hN => rfl)
      (case' hS => rfl)
      all_goals (first | exact Ld | (rfl))
    obtain ⟨j, hj⟩ := k
    simp only
    by_cases hlt2 : j < n
    ·
      repeat' (first | ((first | apply Ba | (apply Bb; (· rfl); (· rfl)) | (apply Bc; (· exact nxE)) | (apply Bd; (· rfl); (· rfl); (· exact nxE))); (· first | exact Ok.pe)) | ((first | apply Ca | (apply Cb; (· exact nxE))); (· first | exact Ok.e0)) | refine Sx ?_ | (refine Sy (fun h => ?_) (fun h => ?_) <;> try (exfalso; omega; done)) | refine Sz (fun h => ?_) (fun h => ?_))
      rw [← parF_0]
      refine AW.loop (X := {k : Nat // k ≤ n}) (fun k => ⟨[TL a, TL b, Oo, Oo, Oo, .own 1 ⟨1, []⟩ 0 n, I i, I j, I (k.1 : Nat), Oo, Oo, Oo, Oo, Oo, Oo, Oo, Oo, Oo, Oo, Oo, Oo, Oo, Oo, Oo, Oo, Oo, Oo, Oo, Oo, Oo, Oo, Oo, Oo, Oo, Oo, Oo, Oo, Oo, Oo, Oo, Oo, Oo, Oo, Oo, Oo, Oo, Oo, Oo, Oo, Oo, Oo, Oo, Oo, Oo, Oo, Oo, Oo, Oo, Oo, Oo, Oo, Oo, Oo, Oo, Oo, Oo], heapX [] [mi1 ⟨1, []⟩ (TR (tabF n n (parF a b n i j k.1)))], 900⟩) (fun k => n - k.1) ⟨0, Nat.zero_le _⟩ ?_ (fun k => ?_)
      ·
        (apply Le.headG [] [mi1 ⟨1, []⟩ (TR (tabF n n (parF a b n i j 0)))] (fun _ => False))
        (case' hlen => rfl)
        (case' hms => rfl)
        all_goals (try dsimp only [srcs])
        (case' hfr | hob => (repeat' (first | refine La ?_ ?_ | exact Lc | refine Lo ?_ | refine ⟨⟨_, rfl, ?_⟩, ?_⟩ | refine Lx ?_)))
        (case' hok => first | exact ⟨MI.ok_same rfl (Cg), trivial⟩ | exact trivial)
        (case' hN => rfl)
        (case' hS => rfl)
        all_goals (first | exact Ld | (rfl))
      obtain ⟨q, hq⟩ := k
      simp only
      by_cases hlt3 : q < n
      ·
        have hrw := TRF_get (n := n) (f := parF a b n i j q) hlt
        have hli : (IR (rowF n (parF a b n i j q i))).length = n := by rw [IR_len, rowF_len]
        have hij := IRF_get (g := parF a b n i j q i) hlt2
        obtain ⟨R, hR1, hR2, hR3⟩ := ha.get hlt hlt3
        have hRr := TR_get hR1
        have hRf := IR_get hR2
        have hRl : (IR R).length = n := by rw [IR_len, hR3]
        obtain ⟨S, hS1, hS2, hS3⟩ := hb.get hlt3 hlt2
        have hSr := TR_get hS1
        have hSf := IR_get hS2
        have hSl : (IR S).length = n := by rw [IR_len, hS3]
        have hset : (IR (rowF n (parF a b n i j q i))).set j [DI (max (parF a b n i j q i j) (timesB (entN a i q) (entN b q j)))] = IR ((rowF n (parF a b n i j q i)).set j (max (parF a b n i j q i j) (prF a b i j q))) := IR_set
        repeat' (first | ((first | apply Ba | (apply Bb; (· rfl); (· rfl)) | (apply Bc; (· exact nxE)) | (apply Bd; (· rfl); (· rfl); (· exact nxE))); (· first | exact Ok.ldTn rfl rfl rfl hrw hli | exact Ok.ld1 rfl rfl (congrArg (Option.map (dobj 1)) hrw) hij | exact Kz rfl rfl (l01Times_ac (entN a i q) (entN b q j) (ht i q j hlt hlt3 hlt2)) (Ad (Ad An)) | exact Ok.st1 rfl rfl (congrArg (Option.map (dobj 1)) hrw) (by rw [hli]; omega) (by rw [hij]; rfl) rfl rfl hset | exact Ok.pe)) | ((first | apply Ca | (apply Cb; (· exact nxE))); (· first | exact Ok.st1 rfl rfl (congrArg (Option.map (dobj 1)) hrw) (by rw [hli]; omega) (by rw [hij]; rfl) rfl rfl hset | exact Ok.e0)) | refine Sx ?_ | (refine Sy (fun h => ?_) (fun h => ?_) <;> try (exfalso; omega; done)) | refine Sz (fun h => ?_) (fun h => ?_))
        refine ⟨⟨q + 1, by omega⟩, ?_, by simp only; omega⟩
        (apply Le.headG [] [mi1 ⟨1, []⟩ (TR (tabF n n (parF a b n i j (q + 1))))] (fun _ => False))
        (case' hlen => rfl)
        (case' hms => rfl)
        all_goals (try dsimp only [srcs])
        (case' hfr | hob => (repeat' (first | refine La ?_ ?_ | exact Lc | refine Lo ?_ | refine ⟨⟨_, rfl, ?_⟩, ?_⟩ | refine Lx ?_)))
        (case' hok => first | exact ⟨MI.ok_row (tabF_set (fun x y _ _ => parF_set)) hrw (by simp) rfl (Cg), trivial⟩ | exact trivial)
        (case' hN => rfl)
        (case' hS => rfl)
        all_goals (first | exact Ld | (rfl))
      ·
        obtain rfl : q = n := by omega
        repeat' (first | ((first | apply Ba | (apply Bb; (· rfl); (· rfl)) | (apply Bc; (· exact nxE)) | (apply Bd; (· rfl); (· rfl); (· exact nxE))); (· first | exact Ok.pe)) | ((first | apply Ca | (apply Cb; (· exact nxE))); (· first | exact Ok.e0)) | refine Sx ?_ | (refine Sy (fun h => ?_) (fun h => ?_) <;> try (exfalso; omega; done)) | refine Sz (fun h => ?_) (fun h => ?_))
        refine ⟨⟨j + 1, by omega⟩, ?_, by simp only; omega⟩
        simp only
        rw [← parF_n]
        (apply Le.headG [] [mi1 ⟨1, []⟩ (TR (tabF q q (parF a b q i j q)))] (fun _ => False))
        (case' hlen => rfl)
        (case' hms => rfl)
        all_goals (try dsimp only [srcs])
        (case' hfr | hob => (repeat' (first | refine La ?_ ?_ | exact Lc | refine Lo ?_ | refine ⟨⟨_, rfl, ?_⟩, ?_⟩ | refine Lx ?_)))
        (case' hok => first | exact ⟨MI.ok_same rfl (Cg), trivial⟩ | exact trivial)
        (case' hN => rfl)
        (case' hS => rfl)
        all_goals (first | exact Ld | (rfl))
    ·
      obtain rfl : j = n := by omega
      repeat' (first | ((first | apply Ba | (apply Bb; (· rfl); (· rfl)) | (apply Bc; (· exact nxE)) | (apply Bd; (· rfl); (· rfl); (· exact nxE))); (· first | exact Ok.pe)) | ((first | apply Ca | (apply Cb; (· exact nxE))); (· first | exact Ok.e0)) | refine Sx ?_ | (refine Sy (fun h => ?_) (fun h => ?_) <;> try (exfalso; omega; done)) | refine Sz (fun h => ?_) (fun h => ?_))
      refine ⟨⟨i + 1, by omega⟩, ?_, by simp only; omega⟩
      simp only
      rw [← mixF_row]
      (apply Le.headG [] [mi1 ⟨1, []⟩ (TR (tabF j j (mixF (mulF a b j) botF i j)))] (fun _ => False))
      (case' hlen => rfl)
      (case' hms => rfl)
      all_goals (try dsimp only [srcs])
      (case' hfr | hob => (repeat' (first | refine La ?_ ?_ | exact Lc | refine Lo ?_ | refine ⟨⟨_, rfl, ?_⟩, ?_⟩ | refine Lx ?_)))
      (case' hok => first | exact ⟨MI.ok_same rfl (Cg), trivial⟩ | exact trivial)
      (case' hN => rfl)
      (case' hS => rfl)
      all_goals (first | exact Ld | (rfl))
  ·
    obtain rfl : i = n := by omega
    rw [mixF_all]
    repeat' (first | ((first | apply Ba | (apply Bb; (· rfl); (· rfl)) | (apply Bc; (· exact nxE)) | (apply Bd; (· rfl); (· rfl); (· exact nxE))); (· first | exact Ok.pe)) | ((first | apply Ca | (apply Cb; (· exact nxE))); (· first | exact Ok.e0)) | refine Sx ?_ | (refine Sy (fun h => ?_) (fun h => ?_) <;> try (exfalso; omega; done)) | refine Sz (fun h => ?_) (fun h => ?_))
    refine Ya ?_
    (apply Le.headG [] [{ l := ⟨0, []⟩, k := 1, R := TR (tabF i i (mulF a b i)), src := ⟨1, []⟩, base := ⟨1, []⟩ }] (fun _ => False))
    (case' hlen => rfl)
    (case' hms => rfl)
    all_goals (try dsimp only [srcs])
    (case' hfr | hob => (repeat' (first | refine La ?_ ?_ | exact Lc | refine Lo ?_ | refine ⟨⟨_, rfl, ?_⟩, ?_⟩ | refine Lx ?_)))
    (case' hok => first | exact ⟨MI.ok_same rfl (Cg), trivial⟩ | exact trivial)
    (case' hN => rfl)
    (case' hS => rfl)
    all_goals (first | exact Ld | (rfl))
end Go.Proofs.Ytpgcmpbamlnkkaa
end

section
namespace Go.Proofs.Ytpgcmpbamlnkkaa
set_option linter.unusedSimpArgs false
set_option linter.unusedVariables false
open Go Go.RowKit
attribute [local irreducible] AL AD AW OpOk Le AC thenQ blockQ EndQ

theorem maxN_congr {f g : Nat → Int} : ∀ {n : Nat}, (∀ k, k < n → f k = g k) → maxN f n = maxN g n
  | 0, _ => rfl
  | n + 1, h => by simp only [maxN]; rw [maxN_congr (fun k hk => h k (by omega)), h n (by omega)]
theorem StarM.px {t : List (List Int)} {n : Nat} (h : StarM t n) {m : Nat} (hm : m ≤ n + 1) : PX (entN t) n 100000000000 m (powN (entN t) n m) :=
  powN_px (by decide) h.bnd m (by have := h.nn; omega)
theorem StarM.mul {t : List (List Int)} {n : Nat} (h : StarM t n) {m : Nat} (hm : m ≤ n) : AC Try.prog 174 [TL t, TL (tabF n n (powN (entN t) n m))] H0 (own1 1 n) (hpM 1 (TR (tabF n n (mulF t (tabF n n (powN (entN t) n m)) n)))) := by
  have hn := h.nn
  refine l02Multiply_ac n t _ h.rc tabF_rc (by omega) h.n0 (fun i q j hi hq hj h1 h2 => ?_)
  rw [tabF_ent hq hj] at h2 ⊢
  have g1 := h.bnd q i h1
  have g2 := (h.px (show m ≤ n + 1 by omega)).bnd j q hj hq h2
  omega
theorem StarM.add {t : List (List Int)} {n : Nat} (h : StarM t n) {m : Nat} : AC Try.prog 210 [TL (tabF n n unitF), TL (tabF n n (mulF t (tabF n n (powN (entN t) n m)) n))] H0 (own1 1 n) (hpM 1 (TR (tabF n n (powN (entN t) n (m + 1))))) := by
  have hn := h.nn
  have hA := l02Add_ac n n (tabF n n unitF) (tabF n n (mulF t (tabF n n (powN (entN t) n m)) n)) tabF_rc tabF_rc (by omega) (by omega)
  have e : tabF n n (addF (tabF n n unitF) (tabF n n (mulF t (tabF n n (powN (entN t) n m)) n))) = tabF n n (powN (entN t) n (m + 1)) := tabF_congr fun i j hi hj => by
    unfold addF
    rw [tabF_ent hi hj, tabF_ent hi hj]
    show _ = powS (entN t) n (powN (entN t) n m) i j
    unfold powS mulF
    rw [maxN_congr (g := fun q => timesB (entN t i q) (powN (entN t) n m q j)) (fun q hq => by show timesB (entN t i q) (entN (tabF n n (powN (entN t) n m)) q j) = _; rw [tabF_ent hq hj])]
  rw [← e]
  exact hA
end Go.Proofs.Ytpgcmpbamlnkkaa
end

section
namespace Go.Proofs.Ytpgcmpbamlnkkaa
set_option linter.unusedSimpArgs false
set_option linter.unusedVariables false
open Go Go.RowKit
attribute [local irreducible] AL AD AW OpOk Le AC thenQ blockQ EndQ

end Go.Proofs.Ytpgcmpbamlnkkaa
end

section
namespace Go.Proofs.Ytpgcmpbamlnkkaa
set_option linter.unusedSimpArgs false
set_option linter.unusedVariables false
open Go Go.RowKit
attribute [local irreducible] AL AD AW OpOk Le AC thenQ blockQ EndQ

end Go.Proofs.Ytpgcmpbamlnkkaa
end

section
namespace Go.Proofs.Ytpgcmpbamlnkkaa
set_option linter.unusedSimpArgs false
set_option linter.unusedVariables false
open Go Go.RowKit
attribute [local irreducible] AL AD AW OpOk Le AC thenQ blockQ EndQ

end Go.Proofs.Ytpgcmpbamlnkkaa
end

section
namespace Go.Proofs.Ytpgcmpbamlnkkaa
set_option linter.unusedSimpArgs false
set_option linter.unusedVariables false
open Go Go.RowKit
attribute [local irreducible] AL AD AW OpOk Le AC thenQ blockQ EndQ

end Go.Proofs.Ytpgcmpbamlnkkaa
end

section
namespace Go.Proofs.Ytpgcmpbamlnkkaa
set_option linter.unusedSimpArgs false
set_option linter.unusedVariables false
open Go Go.RowKit
attribute [local irreducible] AL AD AW OpOk Le AC thenQ blockQ EndQ

end Go.Proofs.Ytpgcmpbamlnkkaa
end

section
namespace Go.Proofs.Ytpgcmpbamlnkkaa
set_option linter.unusedSimpArgs false
set_option linter.unusedVariables false
open Go Go.RowKit
attribute [local irreducible] AL AD AW OpOk Le AC thenQ blockQ EndQ

end Go.Proofs.Ytpgcmpbamlnkkaa
end

section
namespace Go.Proofs.Ytpgcmpbamlnkkaa
set_option linter.unusedSimpArgs false
set_option linter.unusedVariables false
open Go Go.RowKit
attribute [local irreducible] AL AD AW OpOk Le AC thenQ blockQ EndQ

end Go.Proofs.Ytpgcmpbamlnkkaa
end

section
namespace Go.Proofs.Ytpgcmpbamlnkkaa
set_option linter.unusedSimpArgs false
set_option linter.unusedVariables false
open Go Go.RowKit

theorem gap_nn {n : Nat} {xs : List Pl} {r : Int × Int} {t : List (List Int)} (hw : WmOk n xs r t) (hnp : NoPos (entN t) n) {s : Nat → Nat → Int} (hs : StarOk (entN t) n s) {f u : Nat} (hf : f < n) (hu : u < n) {p : Pl} (hp : p ∈ xs) (h1 : p.f = f) (h2 : p.t = u) (hne : s f u ≠ BOT) : pw r.1 r.2 p + s f u ≤ 0 := by
  have ha := hw.all p hp
  rw [h1, h2, Int.toNat_natCast, Int.toNat_natCast] at ha
  have hwm : WM (entN t) f [] u := ha.1
  have hwv : wM (entN t) f [] u = entN t u f := rfl
  rcases hs.some u f hu hf with e | ⟨e1, e2⟩ | ⟨c, c1, c2, c3⟩
  · exact absurd e hne
  · subst e1
    have := hnp u [] hu (by simp) hwm
    omega
  · have h3 : WM (entN t) u (c ++ f :: []) u := WM.app.2 ⟨c1, hwm⟩
    have h4 := hnp u _ hu (fun x hx => by
      rcases List.mem_append.1 hx with h | h
      · exact c2 x h
      · simp at h; omega) h3
    rw [wM_app] at h4
    omega
end Go.Proofs.Ytpgcmpbamlnkkaa
end

section
namespace Go.Proofs.Ytpgcmpbamlnkkaa
set_option linter.unusedSimpArgs false
set_option linter.unusedVariables false
open Go Go.RowKit
attribute [local irreducible] AL AD AW OpOk Le AC thenQ blockQ EndQ

end Go.Proofs.Ytpgcmpbamlnkkaa
end

section
namespace Go.Proofs.Ytpgcmpbamlnkkaa
set_option linter.unusedSimpArgs false
set_option linter.unusedVariables false
open Go Go.RowKit
attribute [local irreducible] AL AD AW OpOk Le AC thenQ blockQ EndQ

def mkF (k : Int) : Nat → Int := fun j => k + (j : Int)
/-! ### Tables marked -/
def offT (t : List (List Int)) (i : Nat) : Nat := ((t.take i).map List.length).sum
def mkRow (k : Int) (r : List Int) : List Int := rowF r.length (mkF k)
def mkAt (t : List (List Int)) (k : Int) (i : Nat) : List (List Int) := t.mapIdx fun j r => if j < i then mkRow (k + offT t j) r else r
theorem mkAt_len {t : List (List Int)} {k : Int} {i : Nat} : (mkAt t k i).length = t.length := by simp [mkAt]
end Go.Proofs.Ytpgcmpbamlnkkaa
end

section
namespace Go.Proofs.Ytpgcmpbamlnkkaa
set_option linter.unusedSimpArgs false
set_option linter.unusedVariables false
open Go Go.RowKit
attribute [local irreducible] AL AD AW OpOk Le AC thenQ blockQ EndQ

end Go.Proofs.Ytpgcmpbamlnkkaa
end

section
namespace Go.Proofs.Ytpgcmpbamlnkkaa
set_option linter.unusedSimpArgs false
set_option linter.unusedVariables false
open Go Go.RowKit
attribute [local irreducible] AL AD AW OpOk Le AC thenQ blockQ EndQ

def isCr (s : Nat → Nat → Int) (u1 u2 : Int) (p : Pl) : Bool := !decide (s p.f.toNat p.t.toNat = BOT) && decide (pw u1 u2 p + s p.f.toNat p.t.toNat = 0)
end Go.Proofs.Ytpgcmpbamlnkkaa
end
