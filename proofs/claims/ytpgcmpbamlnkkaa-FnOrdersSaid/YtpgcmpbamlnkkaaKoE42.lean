/-
  Walks in the abstract reading: levels, by both sides.
-/
import Derived.Test.YtpgcmpbamlnkkaaKoU5
namespace Go.Proofs.Ytpgcmpbamlnkkaa
set_option linter.unusedSimpArgs false
set_option linter.unusedVariables false
open Go Go.RowKit
attribute [local irreducible] AL AD AW OpOk Le AC thenQ blockQ EndQ

def lvS (p : Pl) (e : Nat) (g : Nat → Int) : Nat → Int := if p.t = (e : Int) ∧ p.k = 0 then (fun v => if v = e then max (g e) (g p.f.toNat + 1) else g v) else g
/-- The level of e by the first places. -/
def lvP (xs : List Pl) (e : Nat) : Nat → (Nat → Int) → Nat → Int
  | 0, g => g
  | k + 1, g => lvS (plA xs k) e (lvP xs e k g)
/-- The levels of the first events of an order. -/
def lvO (xs : List Pl) (ord : List Nat) : Nat → Nat → Int
  | 0 => fun _ => 0
  | j + 1 => lvP xs (ord.getD j 0) xs.length (lvO xs ord j)
def lqS (xs : List Pl) (e k : Nat) (g : Nat → Int) : Nat → Int := if wPl xs e k = true then (fun v => if v = e then max (g e) (g k + 1) else g v) else g
def lqP (xs : List Pl) (e : Nat) : Nat → (Nat → Int) → Nat → Int
  | 0, g => g
  | k + 1, g => lqS xs e k (lqP xs e k g)
theorem lvP_other {xs : List Pl} {e v : Nat} {g : Nat → Int} (h : v ≠ e) : ∀ k, lvP xs e k g v = g v
  | 0 => rfl
  | k + 1 => by
    have ih := lvP_other (xs := xs) (g := g) h k
    simp only [lvP, lvS]
    split
    · simp only; rw [if_neg h]; exact ih
    · exact ih
theorem lqP_other {xs : List Pl} {e v : Nat} {g : Nat → Int} (h : v ≠ e) : ∀ k, lqP xs e k g v = g v
  | 0 => rfl
  | k + 1 => by
    have ih := lqP_other (xs := xs) (g := g) h k
    simp only [lqP, lqS]
    split
    · simp only; rw [if_neg h]; exact ih
    · exact ih
/-- M is the greatest of g e and the levels behind those of the set. -/
structure LvOk (g : Nat → Int) (e : Nat) (S : Nat → Prop) (M : Int) : Prop where
  ge : g e ≤ M
  up : ∀ u, S u → g u + 1 ≤ M
  at' : M = g e ∨ ∃ u, S u ∧ M = g u + 1
theorem LvOk.uniq {g : Nat → Int} {e : Nat} {S S' : Nat → Prop} {M M' : Int} (h : LvOk g e S M) (h' : LvOk g e S' M') (hs : ∀ u, S u ↔ S' u) : M = M' := by
  have h1 := h.ge
  have h2 := h'.ge
  rcases h.at' with e1 | ⟨u, u1, u2⟩ <;> rcases h'.at' with e2 | ⟨v, v1, v2⟩
  · omega
  · have := h.up v ((hs v).2 v1); omega
  · have := h'.up u ((hs u).1 u1); omega
  · have := h.up v ((hs v).2 v1); have := h'.up u ((hs u).1 u1); omega
theorem lvP_ok {n : Nat} {xs : List Pl} (hv : ∀ p ∈ xs, okPl n p) {e : Nat} {g : Nat → Int} (hne : ∀ i, i < xs.length → (plA xs i).t = (e : Int) → (plA xs i).k = 0 → (plA xs i).f.toNat ≠ e) : ∀ k, k ≤ xs.length → LvOk g e (fun u => ∃ i, i < k ∧ (plA xs i).t = (e : Int) ∧ (plA xs i).k = 0 ∧ (plA xs i).f.toNat = u) (lvP xs e k g e)
  | 0, _ => ⟨Int.le_refl _, fun u ⟨i, h, _⟩ => absurd h (Nat.not_lt_zero i), .inl rfl⟩
  | k + 1, hk => by
    have ih := lvP_ok (g := g) hv hne k (by omega)
    simp only [lvP, lvS]
    by_cases h : (plA xs k).t = (e : Int) ∧ (plA xs k).k = 0
    · rw [if_pos h]
      simp only [if_true]
      have hf := lvP_other (xs := xs) (g := g) (hne k (by omega) h.1 h.2) k
      rw [hf]
      generalize lvP xs e k g e = M at *
      refine ⟨by have := ih.ge; omega, fun u ⟨i, i1, i2⟩ => ?_, ?_⟩
      · by_cases ei : i = k
        · subst ei; rw [← i2.2.2]; omega
        · have := ih.up u ⟨i, by omega, i2⟩; omega
      · rcases Int.le_total M (g (plA xs k).f.toNat + 1) with hM | hM
        · rw [Int.max_eq_right hM]; exact .inr ⟨_, ⟨k, by omega, h.1, h.2, rfl⟩, rfl⟩
        · rw [Int.max_eq_left hM]
          rcases ih.at' with e1 | ⟨u, ⟨i, i1, i2⟩, e1⟩
          · exact .inl e1
          · exact .inr ⟨u, ⟨i, by omega, i2⟩, e1⟩
    · rw [if_neg h]
      refine ⟨ih.ge, fun u ⟨i, i1, i2⟩ => ?_, ?_⟩
      · by_cases ei : i = k
        · subst ei; exact absurd ⟨i2.1, i2.2.1⟩ h
        · exact ih.up u ⟨i, by omega, i2⟩
      · rcases ih.at' with e1 | ⟨u, ⟨i, i1, i2⟩, e1⟩
        · exact .inl e1
        · exact .inr ⟨u, ⟨i, by omega, i2⟩, e1⟩
theorem lqP_ok {xs : List Pl} {e : Nat} {g : Nat → Int} (hne : wPl xs e e = false) : ∀ k, LvOk g e (fun u => u < k ∧ wPl xs e u = true) (lqP xs e k g e)
  | 0 => ⟨Int.le_refl _, fun u ⟨h, _⟩ => absurd h (Nat.not_lt_zero u), .inl rfl⟩
  | k + 1 => by
    have ih := lqP_ok (g := g) hne k
    simp only [lqP, lqS]
    by_cases h : wPl xs e k = true
    · rw [if_pos h]
      simp only [if_true]
      have hke : k ≠ e := by rintro rfl; rw [hne] at h; cases h
      have hf := lqP_other (xs := xs) (g := g) hke k
      rw [hf]
      generalize lqP xs e k g e = M at *
      refine ⟨by have := ih.ge; omega, fun u ⟨i1, i2⟩ => ?_, ?_⟩
      · by_cases ei : u = k
        · subst ei; omega
        · have := ih.up u ⟨by omega, i2⟩; omega
      · rcases Int.le_total M (g k + 1) with hM | hM
        · rw [Int.max_eq_right hM]; exact .inr ⟨k, ⟨by omega, h⟩, rfl⟩
        · rw [Int.max_eq_left hM]
          rcases ih.at' with e1 | ⟨u, ⟨i1, i2⟩, e1⟩
          · exact .inl e1
          · exact .inr ⟨u, ⟨by omega, i2⟩, e1⟩
    · rw [if_neg h]
      refine ⟨ih.ge, fun u ⟨i1, i2⟩ => ?_, ?_⟩
      · by_cases ei : u = k
        · subst ei; exact absurd i2 h
        · exact ih.up u ⟨by omega, i2⟩
      · rcases ih.at' with e1 | ⟨u, ⟨i1, i2⟩, e1⟩
        · exact .inl e1
        · exact .inr ⟨u, ⟨by omega, i2⟩, e1⟩
theorem wPl_iff {n : Nat} {xs : List Pl} (hv : ∀ p ∈ xs, okPl n p) {e u : Nat} : wPl xs e u = true ↔ ∃ i, i < xs.length ∧ (plA xs i).t = (e : Int) ∧ (plA xs i).k = 0 ∧ (plA xs i).f.toNat = u := by
  unfold wPl
  rw [List.any_eq_true]
  constructor
  · rintro ⟨p, hp, h⟩
    obtain ⟨i, hi, rfl⟩ := List.getElem_of_mem hp
    have ep : plA xs i = xs[i] := by simp [plA, hi]
    simp only [Bool.and_eq_true, decide_eq_true_eq] at h
    exact ⟨i, hi, by rw [ep]; exact h.1, by rw [ep]; exact h.2.1, by rw [ep]; omega⟩
  · rintro ⟨i, hi, h1, h2, h3⟩
    have ep : plA xs i = xs[i] := by simp [plA, hi]
    have := (okPl_at hv i hi).1
    refine ⟨xs[i], List.getElem_mem hi, ?_⟩
    rw [← ep]
    simp only [Bool.and_eq_true, decide_eq_true_eq]
    exact ⟨h1, h2, by omega⟩
theorem ord_self {n : Nat} {xs : List Pl} {ord : List Nat} (h : ordR n xs = some ord) {e : Nat} (he : e < n) : wPl xs e e = false := by
  cases hw : wPl xs e e
  · rfl
  · have := (ord_idx h).2.1 e e he he hw; omega
theorem lv_lq {n : Nat} {xs : List Pl} {ord : List Nat} (h : ordR n xs = some ord) (hv : ∀ p ∈ xs, okPl n p) {e : Nat} (he : e < n) (g : Nat → Int) : lvP xs e xs.length g = lqP xs e n g := by
  funext v
  by_cases hve : v = e
  · subst hve
    have hs := ord_self h he
    refine (lvP_ok hv (fun i hi h1 h2 h3 => ?_) xs.length (Nat.le_refl _)).uniq (lqP_ok hs n) fun u => ?_
    · have := (wPl_iff hv).2 ⟨i, hi, h1, h2, h3⟩
      rw [hs] at this; cases this
    · constructor
      · rintro ⟨i, hi, h1, h2, h3⟩
        have := (okPl_at hv i hi).1
        exact ⟨by omega, (wPl_iff hv).2 ⟨i, hi, h1, h2, h3⟩⟩
      · rintro ⟨_, h2⟩
        obtain ⟨i, hi, h3⟩ := (wPl_iff hv).1 h2
        exact ⟨i, hi, h3⟩
  · rw [lvP_other hve, lqP_other hve]
theorem lvS_bnd {p : Pl} {e : Nat} {g : Nat → Int} {B : Int} (h : ∀ v, 0 ≤ g v ∧ g v ≤ B) : ∀ v, 0 ≤ lvS p e g v ∧ lvS p e g v ≤ B + 1 := fun v => by
  unfold lvS
  have h1 := h v
  have h2 := h e
  have h3 := h p.f.toNat
  split
  · simp only; split <;> omega
  · omega
theorem lvP_bnd {xs : List Pl} {e : Nat} {g : Nat → Int} {B : Int} (h : ∀ v, 0 ≤ g v ∧ g v ≤ B) : ∀ k v, 0 ≤ lvP xs e k g v ∧ lvP xs e k g v ≤ B + k
  | 0, v => by have := h v; simpa [lvP] using this
  | k + 1, v => by
    have := lvS_bnd (p := plA xs k) (e := e) (lvP_bnd (xs := xs) (e := e) h k) v
    simp only [lvP]; omega
theorem lvO_bnd {xs : List Pl} {ord : List Nat} : ∀ j v, 0 ≤ lvO xs ord j v ∧ lvO xs ord j v ≤ (xs.length : Int) * j
  | 0, v => by simp [lvO]
  | j + 1, v => by
    have := lvP_bnd (xs := xs) (e := ord.getD j 0) (lvO_bnd (xs := xs) (ord := ord) j) xs.length v
    simp only [lvO]
    rw [show ((j + 1 : Nat) : Int) = (j : Int) + 1 by omega, Int.mul_add]
    omega
theorem lqS_bnd {xs : List Pl} {e k : Nat} {g : Nat → Int} {B : Int} (h : ∀ v, 0 ≤ g v ∧ g v ≤ B) : ∀ v, 0 ≤ lqS xs e k g v ∧ lqS xs e k g v ≤ B + 1 := fun v => by
  unfold lqS
  have h1 := h v
  have h2 := h e
  have h3 := h k
  split
  · simp only; split <;> omega
  · omega
theorem lqP_bnd {xs : List Pl} {e : Nat} {g : Nat → Int} {B : Int} (h : ∀ v, 0 ≤ g v ∧ g v ≤ B) : ∀ k v, 0 ≤ lqP xs e k g v ∧ lqP xs e k g v ≤ B + k
  | 0, v => by have := h v; simpa [lqP] using this
  | k + 1, v => by
    have := lqS_bnd (xs := xs) (k := k) (e := e) (lqP_bnd (xs := xs) (e := e) h k) v
    simp only [lqP]; omega
theorem z_row {n : Nat} : dobj 1 (List.replicate n [DI 0]) = IO (rowF n fun _ => 0) := by
  show dobj 1 _ = dobj 1 (IR (rowF n fun _ => 0))
  congr 1
  unfold rowF; simp [List.map_const']
theorem cN_cell {l : List Nat} {i : Nat} (h : i < l.length) : (IR (cN l))[((i : Nat) : Int).toNat]? = some [DI (l.getD i 0 : Nat)] := by
  simp [cN, h]
set_option maxHeartbeats 4000000 in
theorem iLevels_ok (n : Nat) (xs : List Pl) (ord : List Nat) (hg : isEG n xs = true) (hord : ordR n xs = some ord) : AC Try.prog 16 [grD n xs] H0 (.tup [own1 1 n, I 0]) (hp1 (IO (rowF n (lvO xs ord n)))) := by
  obtain ⟨n', hnn, g1, g2, g3, hv⟩ := isEG_ok hg
  obtain rfl : n = n' := by omega
  have hE := iIsEventGraph_ac n xs (by omega)
  have hO := firingOrder_ac n xs g2 (by omega) hv
  rw [hg] at hE
  rw [hord] at hO
  simp only [Option.getD_some, Option.isSome_some] at hO
  obtain ⟨o1, _, _⟩ := ord_idx hord
  have olt := (ordF_some OrdOk.nil hord).1.lt
  have hcl : (IR (cN ord)).length = n := by simp [cN, o1]
  refine AC.of_body 0 Try.func16 rfl (fun l h => absurd rfl h) (fun C hC => ?_)
  have hD : ∀ l, ¬ C.D0 l := fun l h => (hC l).1 h rfl
  simp only [startFr, Try.ntmps16, List.length_cons, List.length_nil, Nat.reduceAdd, Nat.reduceSub, List.replicate_succ, List.replicate_zero, List.cons_append, List.nil_append]
  repeat' (first | ((first | apply Ba | (apply Bb; (· rfl); (· rfl)) | (apply Bc; (· exact nxE)) | (apply Bd; (· rfl); (· rfl); (· exact nxE))); (· first | exact Kz rfl rfl (hE) (Aa (Ad (Ad An)) An) | exact Kz rfl rfl (hO) (Aa (Ad (Ad An)) An) | exact Ok.lenD rfl rfl hcl | exact Ok.pe)) | ((first | apply Ca | (apply Cb; (· exact nxE))); (· first | exact Ok.e0)) | refine Sx ?_ | (refine Sy (fun h => ?_) (fun h => ?_) <;> try (exfalso; omega; done)) | refine Sz (fun h => ?_) (fun h => ?_))
  refine AW.loop (X := {k : Nat // k ≤ n}) (fun k => ⟨[Oo, Bx 2 0, Oo, Oo, Oo, Oo, .own 1 ⟨1, []⟩ 0 n, Oo, Oo, Oo, Oo, Oo, Oo, Oo, Oo, Oo, Oo, Oo, Oo, Oo, Oo, Oo, Oo, Oo, IL (cN ord), I n, I (k.1 : Nat), Oo, Oo, Oo, Oo, Oo, Oo, Oo, Oo, Oo, Oo, Oo, Oo, Oo, Oo, Oo, Oo, Oo, Oo, Oo, Oo, Oo, Oo, Oo, Oo, Oo, Oo, Oo, Oo, Oo, Oo, Oo, Oo, Oo, Oo, Oo, Oo], heapL [(⟨0, []⟩, ⟨0, []⟩, ⟨2, [[I n, PL xs]]⟩), (⟨1, []⟩, ⟨1, []⟩, IO (rowF n (lvO xs ord k.1)))], 900⟩) (fun k => n - k.1) ⟨0, Nat.zero_le _⟩ ?_ (fun k => ?_)
  ·
    (apply Le.headZ [_, _] rfl)
    all_goals (try dsimp only [srcs])
    (case' hfr | hob => (repeat' (first | refine La ?_ ?_ | exact Lc | refine Lo ?_ | refine ⟨⟨_, rfl, ?_⟩, ?_⟩ | refine Lx ?_)))
    all_goals (first | ((first | exact z_row | rfl)) | exact Ld)
  obtain ⟨j, hj⟩ := k
  simp only
  by_cases hlt : j < n
  case neg =>
    obtain rfl : j = n := by omega
    repeat' (first | ((first | apply Ba | (apply Bb; (· rfl); (· rfl)) | (apply Bc; (· exact nxE)) | (apply Bd; (· rfl); (· rfl); (· exact nxE))); (· first | exact Ok.pe)) | ((first | apply Ca | (apply Cb; (· exact nxE))); (· first | exact Ok.e0)) | refine Sx ?_ | (refine Sy (fun h => ?_) (fun h => ?_) <;> try (exfalso; omega; done)) | refine Sz (fun h => ?_) (fun h => ?_))
    refine Yb ?_
    (apply Le.head [(⟨0, []⟩, _, _)])
    (case' hfr | hob => (repeat' (first | refine La ?_ ?_ | exact Lc | refine Lo ?_ | refine ⟨⟨_, rfl, ?_⟩, ?_⟩ | refine Lx ?_)))
    all_goals (first | exact Ld | (rfl))
  have hcell := cN_cell (l := ord) (i := j) (by omega)
  have hen : ord.getD j 0 < n := olt _ (by rw [List.getD_eq_getElem?_getD, List.getElem?_eq_getElem (show j < ord.length by omega)]; exact List.getElem_mem _)
  have hst : lvO xs ord (j + 1) = lvP xs (ord.getD j 0) xs.length (lvO xs ord j) := rfl
  have hb0 := lvO_bnd (xs := xs) (ord := ord) j
  generalize ord.getD j 0 = e at *
  have hbq : (xs.length : Int) * j ≤ 1000 := by
    have := Int.mul_le_mul (show (xs.length : Int) ≤ 30 by omega) (show (j : Int) ≤ 10 by omega) (by omega) (by omega)
    omega
  generalize lvO xs ord j = g at *
  have hb : ∀ v, 0 ≤ g v ∧ g v ≤ 1000 := fun v => by have := hb0 v; omega
  repeat' (first | ((first | apply Ba | (apply Bb; (· rfl); (· rfl)) | (apply Bc; (· exact nxE)) | (apply Bd; (· rfl); (· rfl); (· exact nxE))); (· first | exact Ok.pe)) | ((first | apply Ca | (apply Cb; (· exact nxE))); (· first | exact Ok.e0)) | refine Sx ?_ | (refine Sy (fun h => ?_) (fun h => ?_) <;> try (exfalso; omega; done)) | refine Sz (fun h => ?_) (fun h => ?_))
  refine AW.loop (X := {k : Nat // k ≤ xs.length}) (fun k => ⟨[Oo, Bx 2 0, Oo, Oo, Oo, Oo, .own 1 ⟨1, []⟩ 0 n, Oo, I e, Oo, Oo, Oo, Oo, Oo, Oo, Oo, Oo, Oo, Oo, Oo, Oo, Oo, Oo, Oo, IL (cN ord), I n, I j, Oo, Oo, Oo, Oo, PL xs, I xs.length, I (k.1 : Nat), Oo, Oo, Oo, Oo, Oo, Oo, Oo, Oo, Oo, Oo, Oo, Oo, Oo, Oo, Oo, Oo, Oo, Oo, Oo, Oo, Oo, Oo, Oo, Oo, Oo, Oo, Oo, Oo, Oo], heapL [(⟨0, []⟩, ⟨0, []⟩, ⟨2, [[I n, PL xs]]⟩), (⟨1, []⟩, ⟨1, []⟩, IO (rowF n (lvP xs e k.1 g)))], 900⟩) (fun k => xs.length - k.1) ⟨0, Nat.zero_le _⟩ ?_ (fun k => ?_)
  ·
    (apply Le.headZ [_, _] rfl)
    all_goals (try dsimp only [srcs])
    (case' hfr | hob => (repeat' (first | refine La ?_ ?_ | exact Lc | refine Lo ?_ | refine ⟨⟨_, rfl, ?_⟩, ?_⟩ | refine Lx ?_)))
    all_goals (first | (rfl) | exact Ld)
  obtain ⟨i, hi⟩ := k
  simp only
  by_cases hlt2 : i < xs.length
  case neg =>
    obtain rfl : i = xs.length := by omega
    rw [← hst]
    repeat' (first | ((first | apply Ba | (apply Bb; (· rfl); (· rfl)) | (apply Bc; (· exact nxE)) | (apply Bd; (· rfl); (· rfl); (· exact nxE))); (· first | exact Ok.pe)) | ((first | apply Ca | (apply Cb; (· exact nxE))); (· first | exact Ok.e0)) | refine Sx ?_ | (refine Sy (fun h => ?_) (fun h => ?_) <;> try (exfalso; omega; done)) | refine Sz (fun h => ?_) (fun h => ?_))
    refine ⟨⟨j + 1, by omega⟩, ?_, by simp only; omega⟩
    (apply Le.headZ [_, _] rfl)
    all_goals (try dsimp only [srcs])
    (case' hfr | hob => (repeat' (first | refine La ?_ ?_ | exact Lc | refine Lo ?_ | refine ⟨⟨_, rfl, ?_⟩, ?_⟩ | refine Lx ?_)))
    all_goals (first | (rfl) | exact Ld)
  have hrow := pl_row (n := 0) hlt2
  obtain ⟨⟨f1, f2⟩, ⟨t1, t2⟩, _⟩ := okPl_at hv i hlt2
  have hst2 : lvP xs e (i + 1) g = lvS (plA xs i) e (lvP xs e i g) := rfl
  have hb2 := lvP_bnd (xs := xs) (e := e) hb i
  unfold lvS at hst2
  generalize plA xs i = p at *
  obtain ⟨pf, pt, pd, pk⟩ := p
  obtain ⟨f, rfl⟩ : ∃ f : Nat, pf = f := ⟨pf.toNat, by simp at f1; omega⟩
  simp only [Int.toNat_natCast] at hrow hst2 f2
  generalize lvP xs e i g = w at *
  have he1 := rowI_at (n := n) (g := w) hen
  have he2 := rowI_at (n := n) (g := w) (show f < n by omega)
  have hbe := hb2 e
  have hbf := hb2 f
  by_cases hc : pt = (e : Int) ∧ pk = 0
  · rw [if_pos hc] at hst2
    obtain ⟨c1, c2⟩ := hc
    have hset : (IR (rowF n w)).set e [DI (max (w e) (w f + 1))] = IR (rowF n (fun v => if v = e then max (w e) (w f + 1) else w v)) := by rw [IR_set, rowF_set]
    repeat' (first | ((first | apply Ba | (apply Bb; (· rfl); (· rfl)) | (apply Bc; (· exact nxE)) | (apply Bd; (· rfl); (· rfl); (· exact nxE))); (· first | exact Ok.ld1 rfl rfl rfl he1 | exact Ok.ld1 rfl rfl rfl he2 | exact Ok.st1 rfl rfl rfl (by rw [IR_len, rowF_len]; exact hen) (by rw [he1]; rfl) rfl rfl hset | exact Ok.pe)) | ((first | apply Ca | (apply Cb; (· exact nxE))); (· first | exact Ok.st1 rfl rfl rfl (by rw [IR_len, rowF_len]; exact hen) (by rw [he1]; rfl) rfl rfl hset | exact Ok.e0)) | refine Sx ?_ | (refine Sy (fun h => ?_) (fun h => ?_) <;> try (exfalso; omega; done)) | refine Sz (fun h => ?_) (fun h => ?_))
    refine ⟨⟨i + 1, by omega⟩, ?_, by simp only; omega⟩
    simp only [hst2]
    (apply Le.headZ [_, _] rfl)
    all_goals (try dsimp only [srcs])
    (case' hfr | hob => (repeat' (first | refine La ?_ ?_ | exact Lc | refine Lo ?_ | refine ⟨⟨_, rfl, ?_⟩, ?_⟩ | refine Lx ?_)))
    all_goals (first | (rfl) | exact Ld)
  · rw [if_neg hc] at hst2
    repeat' (first | ((first | apply Ba | (apply Bb; (· rfl); (· rfl)) | (apply Bc; (· exact nxE)) | (apply Bd; (· rfl); (· rfl); (· exact nxE))); (· first | exact Ok.pe)) | ((first | apply Ca | (apply Cb; (· exact nxE))); (· first | exact Ok.e0)) | refine Sx ?_ | (refine Sy (fun h => ?_) (fun h => ?_) <;> try (exfalso; omega; done)) | refine Sz (fun h => ?_) (fun h => ?_))
    all_goals
      refine ⟨⟨i + 1, by omega⟩, ?_, by simp only; omega⟩
      simp only [hst2]
      (apply Le.headZ [_, _] rfl)
      all_goals (try dsimp only [srcs])
      (case' hfr | hob => (repeat' (first | refine La ?_ ?_ | exact Lc | refine Lo ?_ | refine ⟨⟨_, rfl, ?_⟩, ?_⟩ | refine Lx ?_)))
      all_goals (first | (rfl) | exact Ld)
set_option maxHeartbeats 4000000 in
theorem sLevels_ok (n : Nat) (xs : List Pl) (ord : List Nat) (hg : isEG n xs = true) (hord : ordR n xs = some ord) : AC Try.prog 17 [grD n xs] H0 (.tup [own1 1 n, I 0]) (hp1 (IO (rowF n (lvO xs ord n)))) := by
  obtain ⟨n', hnn, g1, g2, g3, hv⟩ := isEG_ok hg
  obtain rfl : n = n' := by omega
  have hL := l12Live_ac n xs (by omega)
  have hO := l12Order_ac n xs ord g2 (by omega) hv hord
  have hFr := (l12Free_ac n xs g2 (by omega) hv).frzT (by rw [TR_len]; exact (free_sq (Sq.bot n)).l)
  have hlv : liveI n xs = 0 := by unfold liveI; rw [if_pos hg, liveB_ord hv, hord]; rfl
  rw [hlv] at hL
  obtain ⟨o1, _, _⟩ := ord_idx hord
  have olt := (ordF_some OrdOk.nil hord).1.lt
  have hcl : (IR (cN ord)).length = n := by simp [cN, o1]
  have hsq : Sq (freeT n xs) n := free_sq (Sq.bot n)
  have hfe : ∀ {u v : Nat}, u < n → v < n → entN (freeT n xs) u v = if wPl xs u v = true then 0 else BOT := fun hu hv' => by
    unfold freeT
    rw [free_entN (Sq.bot n) hv hu hv', entN_bot hu hv']
  generalize freeT n xs = Tf at *
  refine AC.of_body 0 Try.func17 rfl (fun l h => absurd rfl h) (fun C hC => ?_)
  have hD : ∀ l, ¬ C.D0 l := fun l h => (hC l).1 h rfl
  simp only [startFr, Try.ntmps17, List.length_cons, List.length_nil, Nat.reduceAdd, Nat.reduceSub, List.replicate_succ, List.replicate_zero, List.cons_append, List.nil_append]
  repeat' (first | ((first | apply Ba | (apply Bb; (· rfl); (· rfl)) | (apply Bc; (· exact nxE)) | (apply Bd; (· rfl); (· rfl); (· exact nxE))); (· first | exact Kz rfl rfl (hL) (Aa (Ad (Ad An)) An) | exact Kz rfl rfl (hO) (Aa (Ad (Ad An)) An) | exact Kz rfl rfl (hFr) (Aa (Ad (Ad An)) An) | exact Ok.pe)) | ((first | apply Ca | (apply Cb; (· exact nxE))); (· first | exact Ok.e0)) | refine Sx ?_ | (refine Sy (fun h => ?_) (fun h => ?_) <;> try (exfalso; omega; done)) | refine Sz (fun h => ?_) (fun h => ?_))
  refine AW.loop (X := {k : Nat // k ≤ n}) (fun k => ⟨[Oo, Bx 2 0, Oo, Oo, Oo, IL (cN ord), TL Tf, .own 1 ⟨1, []⟩ 0 n, I (k.1 : Nat), Oo, Oo, Oo, Oo, Oo, Oo, Oo, Oo, Oo, Oo, Oo, Oo, Oo, Oo, Oo, Oo, Oo, Oo, Oo, Oo, Oo, Oo, Oo, Oo, Oo, Oo, Oo, Oo, Oo, Oo, Oo, Oo, Oo, Oo, Oo, Oo, Oo, Oo, Oo, Oo, Oo, Oo, Oo, Oo, Oo, Oo, Oo, Oo, Oo, Oo, Oo, Oo, Oo, Oo, Oo, Oo], heapL [(⟨0, []⟩, ⟨0, []⟩, ⟨2, [[I n, PL xs]]⟩), (⟨1, []⟩, ⟨1, []⟩, IO (rowF n (lvO xs ord k.1)))], 900⟩) (fun k => n - k.1) ⟨0, Nat.zero_le _⟩ ?_ (fun k => ?_)
  ·
    (apply Le.headZ [_, _] rfl)
    all_goals (try dsimp only [srcs])
    (case' hfr | hob => (repeat' (first | refine La ?_ ?_ | exact Lc | refine Lo ?_ | refine ⟨⟨_, rfl, ?_⟩, ?_⟩ | refine Lx ?_)))
    all_goals (first | ((first | exact z_row | rfl)) | exact Ld)
  obtain ⟨j, hj⟩ := k
  simp only
  by_cases hlt : j < n
  case neg =>
    obtain rfl : j = n := by omega
    repeat' (first | ((first | apply Ba | (apply Bb; (· rfl); (· rfl)) | (apply Bc; (· exact nxE)) | (apply Bd; (· rfl); (· rfl); (· exact nxE))); (· first | exact Ok.lenD rfl rfl hcl | exact Ok.pe)) | ((first | apply Ca | (apply Cb; (· exact nxE))); (· first | exact Ok.e0)) | refine Sx ?_ | (refine Sy (fun h => ?_) (fun h => ?_) <;> try (exfalso; omega; done)) | refine Sz (fun h => ?_) (fun h => ?_))
    refine Yb ?_
    (apply Le.head [(⟨0, []⟩, _, _)])
    (case' hfr | hob => (repeat' (first | refine La ?_ ?_ | exact Lc | refine Lo ?_ | refine ⟨⟨_, rfl, ?_⟩, ?_⟩ | refine Lx ?_)))
    all_goals (first | exact Ld | (rfl))
  have hcell := cN_cell (l := ord) (i := j) (by omega)
  have hen : ord.getD j 0 < n := olt _ (by rw [List.getD_eq_getElem?_getD, List.getElem?_eq_getElem (show j < ord.length by omega)]; exact List.getElem_mem _)
  have hst : lvO xs ord (j + 1) = lqP xs (ord.getD j 0) n (lvO xs ord j) := lv_lq hord hv hen _
  have hb0 := lvO_bnd (xs := xs) (ord := ord) j
  generalize ord.getD j 0 = e at *
  have hbq : (xs.length : Int) * j ≤ 1000 := by
    have := Int.mul_le_mul (show (xs.length : Int) ≤ 30 by omega) (show (j : Int) ≤ 10 by omega) (by omega) (by omega)
    omega
  generalize lvO xs ord j = g at *
  have hb : ∀ v, 0 ≤ g v ∧ g v ≤ 1000 := fun v => by have := hb0 v; omega
  repeat' (first | ((first | apply Ba | (apply Bb; (· rfl); (· rfl)) | (apply Bc; (· exact nxE)) | (apply Bd; (· rfl); (· rfl); (· exact nxE))); (· first | exact Ok.lenD rfl rfl hcl | exact Ok.pe)) | ((first | apply Ca | (apply Cb; (· exact nxE))); (· first | exact Ok.e0)) | refine Sx ?_ | (refine Sy (fun h => ?_) (fun h => ?_) <;> try (exfalso; omega; done)) | refine Sz (fun h => ?_) (fun h => ?_))
  refine AW.loop (X := {k : Nat // k ≤ n}) (fun k => ⟨[Oo, Bx 2 0, Oo, Oo, Oo, IL (cN ord), TL Tf, .own 1 ⟨1, []⟩ 0 n, I j, I (k.1 : Nat), Oo, Oo, Oo, Oo, Oo, Oo, Oo, Oo, Oo, Oo, Oo, Oo, Oo, Oo, Oo, Oo, Oo, Oo, Oo, Oo, Oo, Oo, Oo, Oo, Oo, Oo, Oo, Oo, Oo, Oo, Oo, Oo, Oo, Oo, Oo, Oo, Oo, Oo, Oo, Oo, Oo, Oo, Oo, Oo, Oo, Oo, Oo, Oo, Oo, Oo, Oo, Oo, Oo, Oo, Oo], heapL [(⟨0, []⟩, ⟨0, []⟩, ⟨2, [[I n, PL xs]]⟩), (⟨1, []⟩, ⟨1, []⟩, IO (rowF n (lqP xs e k.1 g)))], 900⟩) (fun k => n - k.1) ⟨0, Nat.zero_le _⟩ ?_ (fun k => ?_)
  ·
    (apply Le.headZ [_, _] rfl)
    all_goals (try dsimp only [srcs])
    (case' hfr | hob => (repeat' (first | refine La ?_ ?_ | exact Lc | refine Lo ?_ | refine ⟨⟨_, rfl, ?_⟩, ?_⟩ | refine Lx ?_)))
    all_goals (first | (rfl) | exact Ld)
  obtain ⟨i, hi⟩ := k
  simp only
  by_cases hlt2 : i < n
  case neg =>
    obtain rfl : i = n := by omega
    rw [← hst]
    repeat' (first | ((first | apply Ba | (apply Bb; (· rfl); (· rfl)) | (apply Bc; (· exact nxE)) | (apply Bd; (· rfl); (· rfl); (· exact nxE))); (· first | exact Ok.pe)) | ((first | apply Ca | (apply Cb; (· exact nxE))); (· first | exact Ok.e0)) | refine Sx ?_ | (refine Sy (fun h => ?_) (fun h => ?_) <;> try (exfalso; omega; done)) | refine Sz (fun h => ?_) (fun h => ?_))
    refine ⟨⟨j + 1, by omega⟩, ?_, by simp only; omega⟩
    (apply Le.headZ [_, _] rfl)
    all_goals (try dsimp only [srcs])
    (case' hfr | hob => (repeat' (first | refine La ?_ ?_ | exact Lc | refine Lo ?_ | refine ⟨⟨_, rfl, ?_⟩, ?_⟩ | refine Lx ?_)))
    all_goals (first | (rfl) | exact Ld)
  obtain ⟨r, r1, r2, r3⟩ := hsq.get hen hlt2
  have hr1 := TR_get r1
  have hr2 := IR_get r2
  have hr3 : (IR r).length = n := by rw [IR_len, r3]
  rw [hfe hen hlt2] at hr2
  have hst2 : lqP xs e (i + 1) g = lqS xs e i (lqP xs e i g) := rfl
  have hb2 := lqP_bnd (xs := xs) (e := e) hb i
  unfold lqS at hst2
  generalize lqP xs e i g = w at *
  have he1 := rowI_at (n := n) (g := w) hen
  have he2 := rowI_at (n := n) (g := w) hlt2
  have hbe := hb2 e
  have hbf := hb2 i
  by_cases hc : wPl xs e i = true
  · rw [if_pos hc] at hst2 hr2
    have hset : (IR (rowF n w)).set e [DI (max (w e) (w i + 1))] = IR (rowF n (fun v => if v = e then max (w e) (w i + 1) else w v)) := by rw [IR_set, rowF_set]
    repeat' (first | ((first | apply Ba | (apply Bb; (· rfl); (· rfl)) | (apply Bc; (· exact nxE)) | (apply Bd; (· rfl); (· rfl); (· exact nxE))); (· first | exact Ok.ld1 rfl rfl rfl he1 | exact Ok.ld1 rfl rfl rfl he2 | exact Ok.st1 rfl rfl rfl (by rw [IR_len, rowF_len]; exact hen) (by rw [he1]; rfl) rfl rfl hset | exact Ok.pe)) | ((first | apply Ca | (apply Cb; (· exact nxE))); (· first | exact Ok.st1 rfl rfl rfl (by rw [IR_len, rowF_len]; exact hen) (by rw [he1]; rfl) rfl rfl hset | exact Ok.e0)) | refine Sx ?_ | (refine Sy (fun h => ?_) (fun h => ?_) <;> try (exfalso; omega; done)) | refine Sz (fun h => ?_) (fun h => ?_))
    refine ⟨⟨i + 1, by omega⟩, ?_, by simp only; omega⟩
    simp only [hst2]
    (apply Le.headZ [_, _] rfl)
    all_goals (try dsimp only [srcs])
    (case' hfr | hob => (repeat' (first | refine La ?_ ?_ | exact Lc | refine Lo ?_ | refine ⟨⟨_, rfl, ?_⟩, ?_⟩ | refine Lx ?_)))
    all_goals (first | (rfl) | exact Ld)
  · rw [if_neg hc] at hst2 hr2
    unfold BOT at hr2
    repeat' (first | ((first | apply Ba | (apply Bb; (· rfl); (· rfl)) | (apply Bc; (· exact nxE)) | (apply Bd; (· rfl); (· rfl); (· exact nxE))); (· first | exact Ok.pe)) | ((first | apply Ca | (apply Cb; (· exact nxE))); (· first | exact Ok.e0)) | refine Sx ?_ | (refine Sy (fun h => ?_) (fun h => ?_) <;> try (exfalso; omega; done)) | refine Sz (fun h => ?_) (fun h => ?_))
    refine ⟨⟨i + 1, by omega⟩, ?_, by simp only; omega⟩
    simp only [hst2]
    (apply Le.headZ [_, _] rfl)
    all_goals (try dsimp only [srcs])
    (case' hfr | hob => (repeat' (first | refine La ?_ ?_ | exact Lc | refine Lo ?_ | refine ⟨⟨_, rfl, ?_⟩, ?_⟩ | refine Lx ?_)))
    all_goals (first | (rfl) | exact Ld)
end Go.Proofs.Ytpgcmpbamlnkkaa
