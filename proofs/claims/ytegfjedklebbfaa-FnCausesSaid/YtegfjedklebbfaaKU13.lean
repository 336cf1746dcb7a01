/-
  Walks in the abstract reading, part 13.
-/
import Derived.Test.YtegfjedklebbfaaKU12
import Derived.Test.YtegfjedklebbfaaKU9
import Derived.Test.YtegfjedklebbfaaKC19
section
namespace Go.Proofs.Ytegfjedklebbfaa
set_option linter.unusedSimpArgs false
set_option linter.unusedVariables false
open Go Go.RowKit

theorem alA_congr {t t' : List (List Int)} {xs : List Pl} {r e : Nat} : ∀ k, (∀ i p, i < k → xs[i]? = some p → okP r e p → valP t r p = valP t' r p) → alA t r e xs k = alA t' r e xs k
  | 0, _ => rfl
  | k + 1, h => by
    have ih := alA_congr k (fun i p hi => h i p (by omega))
    cases hx : xs[k]? with
    | none => rw [alA, hx, alA, hx]; exact ih
    | some p =>
      rw [alA_step hx, alA_step hx, ih, alS_eq, alS_eq]
      by_cases ho : okP r e p
      · rw [if_pos ho, if_pos ho, h k p (by omega) hx ho]
      · rw [if_neg ho, if_neg ho]
/-- What an allowed time depends on. -/
theorem alT_dep {m n : Nat} {xs : List Pl} (hv : ∀ p ∈ xs, okPl n p) {f g : Nat → Nat → Int} {k e : Nat} (hk : k < m) (h : ∀ p ∈ xs, p.t = (e : Int) → p.k ≤ k → f (k - p.k.toNat) p.f.toNat = g (k - p.k.toNat) p.f.toNat) : alT (tabF m n f) (k + 1) e xs = alT (tabF m n g) (k + 1) e xs := by
  unfold alT
  rw [alA_congr]
  intro i p _ hp ⟨h1, h2⟩
  have hm := List.mem_of_getElem? hp
  obtain ⟨⟨g1, g2⟩, _⟩ := hv p hm
  unfold valP
  rw [show k + 1 - 1 - p.k.toNat = k - p.k.toNat by omega, tabF_ent (by omega) (by omega), tabF_ent (by omega) (by omega), h p hm h1 (by omega)]
structure RepInv (m n : Nat) (xs : List Pl) (ord : List Nat) (K J : Nat) (g : Nat → Nat → Int) : Prop where
  rows : ∀ a e, a < K → e < n → alT (tabF m n g) (a + 1) e xs ≤ g a e
  cur : ∀ e, e ∈ ord.take J → alT (tabF m n g) (K + 1) e xs ≤ g K e
theorem take_nd {ord : List Nat} (hn : ord.Nodup) {J e : Nat} (h : ord[J]? = some e) : e ∉ ord.take J := by
  intro hm
  obtain ⟨i, hi, e2⟩ := List.getElem_of_mem hm
  obtain ⟨hJ, e1⟩ := List.getElem?_eq_some_iff.1 h
  rw [List.length_take] at hi
  rw [List.getElem_take] at e2
  have := (List.getElem_inj hn).1 (e2.trans e1.symm)
  omega
theorem wPl_of {xs : List Pl} {p : Pl} (hp : p ∈ xs) {e : Nat} (h1 : p.t = (e : Int)) (h2 : p.k = 0) (h3 : 0 ≤ p.f) : wPl xs e p.f.toNat = true := by
  unfold wPl
  rw [List.any_eq_true]
  exact ⟨p, hp, by simp [h1, h2, Int.toNat_of_nonneg h3]⟩
theorem RepInv.step {m n : Nat} {xs : List Pl} (hv : ∀ p ∈ xs, okPl n p) {ord : List Nat} (ho : OrdOk (wPl xs) n ord) {K J e : Nat} {g : Nat → Nat → Int} (hK : K < m) (hJ : ord[J]? = some e) (h : RepInv m n xs ord K J g) : RepInv m n xs ord K (J + 1) (repS m n xs K g e) := by
  have hnd := take_nd ho.nd hJ
  have hne : ∀ a b, (a ≠ K ∨ b ≠ e) → repS m n xs K g e a b = g a b := fun a b h => by
    unfold repS; rw [if_neg (by omega)]
  -- those that an event of the order's beginning waits for
  have hpre : ∀ (i e' : Nat), ord[i]? = some e' → i ≤ J → ∀ p ∈ xs, p.t = (e' : Int) → p.k ≤ (K : Int) → repS m n xs K g e (K - p.k.toNat) p.f.toNat = g (K - p.k.toNat) p.f.toNat := by
    intro i e' hi hiJ p hp h1 h2
    obtain ⟨⟨g1, g2⟩, _, _, ⟨g3, g4⟩⟩ := hv p hp
    refine hne _ _ ?_
    by_cases hk : p.k = 0
    · right
      intro he
      have hil := (List.getElem?_eq_some_iff.1 hi).1
      have := ho.wait i hil p.f.toNat (by omega) (by rw [List.getD_eq_getElem?_getD, hi, Option.getD_some]; exact wPl_of hp h1 hk g1)
      rw [he] at this
      exact hnd ((List.take_subset_take_left ord hiJ) this)
    · left; omega
  refine ⟨fun a e' ha he' => ?_, fun e' he' => ?_⟩
  · rw [hne a e' (.inl (by omega)), alT_dep hv (g := g) (by omega) (fun p _ _ _ => hne _ _ (.inl (by omega)))]
    exact h.rows a e' ha he'
  · rw [List.take_add_one, hJ, Option.toList_some] at he'
    rcases List.mem_append.1 he' with he2 | he2
    · have hee : e' ≠ e := fun x => hnd (x ▸ he2)
      obtain ⟨i, hi, e2⟩ := List.getElem_of_mem he2
      rw [List.length_take] at hi
      rw [List.getElem_take] at e2
      rw [hne K e' (.inr hee), alT_dep hv (g := g) hK (fun p hp h1 h2 => hpre i e' (by rw [List.getElem?_eq_getElem (by omega), e2]) (by omega) p hp h1 h2)]
      exact h.cur e' he2
    · simp at he2; subst he2
      have e1 : repS m n xs K g e' K e' = max (g K e') (alT (tabF m n g) (K + 1) e' xs) := by unfold repS; rw [if_pos ⟨rfl, rfl⟩]
      rw [e1, alT_dep hv (g := g) hK (fun p hp h1 h2 => hpre J e' hJ (Nat.le_refl _) p hp h1 h2)]
      omega
theorem RepInv.row {m n : Nat} {xs : List Pl} (hv : ∀ p ∈ xs, okPl n p) {ord : List Nat} (ho : OrdOk (wPl xs) n ord) {K : Nat} {f : Nat → Nat → Int} (hK : K < m) (h : RepInv m n xs ord K 0 f) : ∀ J, J ≤ ord.length → RepInv m n xs ord K J (repRow m n xs K f (ord.take J))
  | 0, _ => by simpa [repRow] using h
  | J + 1, hJ => by
    have hj : ord[J]? = some (ord[J]'(by omega)) := List.getElem?_eq_getElem (by omega)
    rw [repRow_step hj]
    exact (h.row hv ho hK J (by omega)).step hv ho hK hj
theorem RepInv.all {m n : Nat} {xs : List Pl} (hv : ∀ p ∈ xs, okPl n p) {ord : List Nat} (ho : OrdOk (wPl xs) n ord) (hl : ord.length = n) {f : Nat → Nat → Int} : ∀ K, K ≤ m → RepInv m n xs ord K 0 (repAll m n xs ord f K)
  | 0, _ => ⟨fun a e h => absurd h (Nat.not_lt_zero a), fun e h => by simp at h⟩
  | K + 1, hK => by
    have ih := RepInv.all (m := m) hv ho hl (f := f) K (by omega)
    have h1 := ih.row hv ho (by omega) ord.length (Nat.le_refl _)
    rw [List.take_length] at h1
    refine ⟨fun a e ha he => ?_, fun e h => by simp at h⟩
    by_cases e1 : a = K
    · subst e1
      exact h1.cur e (by rw [List.take_length]; exact nodup_full ho.nd ho.lt hl he)
    · exact h1.rows a e (by omega) he
/-- What is held of a repaired table. -/
structure Repaired (ev : Int) (xs : List Pl) (t x : List (List Int)) : Prop where
  good : goodI ev xs x = 0
  early : eaOut ev xs x = []
  code : rpC ev xs x = 0
  again : rpOut ev xs x = x
  len : x.length = t.length
  rows : ∀ (k : Nat) (a b : List Int), t[k]? = some a → x[k]? = some b → a.length = b.length ∧ ∀ (e : Nat) (u v : Int), a[e]? = some u → b[e]? = some v → u ≤ v
end Go.Proofs.Ytegfjedklebbfaa
end

section
namespace Go.Proofs.Ytegfjedklebbfaa
set_option linter.unusedSimpArgs false
set_option linter.unusedVariables false
open Go Go.RowKit

/-- One firing of a cause and the next one. -/
structure CStep (T : List (List Int)) (xs : List Pl) (m n : Nat) (ra ea rb eb : Nat) : Prop where
  a : 1 ≤ ra ∧ ra ≤ m ∧ ea < n
  b : 1 ≤ rb ∧ rb ≤ m ∧ eb < n
  time : alT T rb eb xs = entN T (rb - 1) eb
  place : ∃ (i : Nat) (p : Pl), xs[i]? = some p ∧ p.f = (ea : Int) ∧ p.t = (eb : Int) ∧ (rb : Int) - p.k = (ra : Int) ∧ entN T (ra - 1) ea + p.d = entN T (rb - 1) eb
def rowC (r e : Nat) : List Int := [(r : Int), (e : Int)]
structure Cause (T : List (List Int)) (xs : List Pl) (m n : Nat) (c : List (List Int)) : Prop where
  rows : ∀ (k : Nat) b, c[k]? = some b → ∃ r e : Nat, b = rowC r e ∧ 1 ≤ r ∧ r ≤ m ∧ e < n
  step : ∀ (k : Nat) a b, c[k]? = some a → c[k + 1]? = some b → ∃ ra ea rb eb : Nat, a = rowC ra ea ∧ b = rowC rb eb ∧ CStep T xs m n ra ea rb eb
theorem rowC_inj {r e r' e' : Nat} (h : rowC r e = rowC r' e') : r = r' ∧ e = e' := by
  simp only [rowC, List.cons.injEq, and_true] at h; omega
theorem Cause.one {T : List (List Int)} {xs : List Pl} {m n r e : Nat} (h1 : 1 ≤ r) (h2 : r ≤ m) (h3 : e < n) : Cause T xs m n [rowC r e] := by
  refine ⟨fun k b h => ?_, fun k a b h h' => by simp at h'⟩
  cases k with
  | zero => simp at h; exact ⟨r, e, h.symm, h1, h2, h3⟩
  | succ k => simp at h
theorem Cause.cons {T : List (List Int)} {xs : List Pl} {m n ra ea rb eb : Nat} {c : List (List Int)} (h : Cause T xs m n (rowC rb eb :: c)) (hs : CStep T xs m n ra ea rb eb) : Cause T xs m n (rowC ra ea :: rowC rb eb :: c) := by
  refine ⟨fun k b hk => ?_, fun k a b hk hk' => ?_⟩
  · cases k with
    | zero => simp at hk; exact ⟨ra, ea, hk.symm, hs.a⟩
    | succ k => exact h.rows k b (by simpa using hk)
  · cases k with
    | zero => simp at hk hk'; exact ⟨ra, ea, rb, eb, hk.symm, hk'.symm, hs⟩
    | succ k => exact h.step k a b (by simpa using hk) (by simpa using hk')
/-- The first firing of a cause is held, or waits for nothing. -/
def Ends (T : List (List Int)) (xs : List Pl) (c : List (List Int)) : Prop := ∃ r e : Nat, ∃ c', c = rowC r e :: c' ∧ (alT T r e xs = 0 ∨ alT T r e xs < entN T (r - 1) e)
theorem causeA_law {T : List (List Int)} {xs : List Pl} {m n : Nat} {ord : List Nat} (ho : ordR n xs = some ord) (hv : ∀ p ∈ xs, okPl n p) (h0 : ∀ i j, 0 ≤ entN T i j) (hel : ∀ a b, a < m → b < n → alT T (a + 1) b xs ≤ entN T a b) :
    ∀ (K r e : Nat) (c : List (List Int)), 1 ≤ r → r ≤ m → e < n → mesC n ord r e < K → Cause T xs m n (rowC r e :: c) →
    Cause T xs m n (causeA T xs K r e (rowC r e :: c)) ∧ Ends T xs (causeA T xs K r e (rowC r e :: c)) ∧ (causeA T xs K r e (rowC r e :: c)).getLast? = (rowC r e :: c).getLast?
  | 0, r, e, c, _, _, _, hm, _ => absurd hm (Nat.not_lt_zero _)
  | K + 1, r, e, c, h1, h2, h3, hm, hc => by
    have hnn : ∀ p ∈ xs, okP r e p → 0 ≤ valP T r p := fun p hp _ => by have := (hv p hp).2.2.1; have := h0 (r - 1 - p.k.toNat) p.f.toNat; unfold valP; omega
    rw [causeA]
    by_cases hs : stopC T xs r e
    · rw [if_pos hs]
      refine ⟨hc, ⟨r, e, c, rfl, ?_⟩, rfl⟩
      rcases hs with hs | hs
      · left
        rcases alA_spec (t := T) hnn xs.length (Nat.le_refl _) with ⟨g1, _⟩ | ⟨i, p, _, _, _, g4, _⟩
        · unfold alT; rw [g1]
        · rw [g4] at hs; simp only at hs; omega
      · right; exact hs
    · rw [if_neg hs]
      obtain ⟨i, p, hp, ha, hvia, ht, hk, hlt⟩ := mesC_lt (m := m) (t := T) ho hv h0 h3 hs
      obtain ⟨⟨a1, a2⟩, ⟨a3, a4⟩, _, ⟨a5, a6⟩⟩ := hv p (List.mem_of_getElem? hp)
      have hal : alT T r e xs = valP T r p := by
        obtain ⟨i', p', _, hp', _, g⟩ := alA_at (t := T) hnn (by rw [ha]; omega)
        rw [g] at ha
        have : i' = i := by simp only at ha; omega
        subst this
        rw [hp] at hp'; cases hp'
        unfold alT; rw [g]
      have hge := hel (r - 1) e (by omega) h3
      rw [show r - 1 + 1 = r by omega] at hge
      have hle : entN T (r - 1) e ≤ alT T r e xs := by
        unfold stopC at hs
        unfold alT; omega
      rw [hvia]
      obtain ⟨pf, pt, pd, pk⟩ := p
      simp only at a1 a2 a3 a4 a5 a6 ht hk hlt ⊢
      obtain ⟨u, rfl⟩ : ∃ u : Nat, pf = u := ⟨pf.toNat, by omega⟩
      obtain ⟨w, rfl⟩ : ∃ w : Nat, pk = w := ⟨pk.toNat, by omega⟩
      unfold valP at hal
      simp only [Int.toNat_natCast] at hal hlt ⊢
      have hst : CStep T xs m n (r - w) u r e := ⟨⟨by omega, by omega, by omega⟩, ⟨h1, h2, h3⟩, by omega, i, _, hp, rfl, ht, by simp only; omega, by
        rw [show r - w - 1 = r - 1 - w by omega]; simp only; omega⟩
      have := causeA_law ho hv h0 hel K (r - w) u (rowC r e :: c) (by omega) (by omega) (by omega) (by omega) (hc.cons hst)
      refine ⟨this.1, this.2.1, ?_⟩
      rw [show ([((r - w : Nat) : Int), ((u : Nat) : Int)] : List Int) = rowC (r - w) u from rfl, this.2.2]
      simp [List.getLast?_cons_cons]
/-- What CauseOf hands back. -/
structure CauseOk (xs : List Pl) (T : List (List Int)) (n r e : Nat) (c : List (List Int)) : Prop where
  cause : Cause T xs T.length n c
  ends : Ends T xs c
  last : c.getLast? = some (rowC r e)
theorem caOut_law {ev : Int} {xs : List Pl} {T : List (List Int)} {r e : Int} (h : caOutC ev xs T r e = 0) : goodI ev xs T = 0 ∧ ∃ n r' e' : Nat, ev = n ∧ r = r' ∧ e = e' ∧ CauseOk xs T n r' e' (caOut ev xs T r e) := by
  have hq : caQ ev xs T r e = 0 := by
    unfold caOutC at h
    by_cases hq : caQ ev xs T r e = 0
    · exact hq
    · rw [if_neg hq] at h; exact absurd h hq
  obtain ⟨hg, n, r', e', rfl, rfl, rfl, h1, h2, h3⟩ := caQ_ok hq
  obtain ⟨n2, hn2, e1, e2, e3, e4, e5, e6⟩ := code_ok hg
  obtain rfl : n = n2 := by omega
  obtain ⟨hrc, hm50, hbnd⟩ := dueB_ok e5
  have hlo := liveB_ord (n := n) e4
  rw [e6] at hlo
  obtain ⟨ord, hord⟩ := Option.isSome_iff_exists.1 hlo.symm
  have hel : ∀ a b, a < T.length → b < n → alT T (a + 1) b xs ≤ entN T a b := fun a b ha hb => by
    unfold caOutC at h
    rw [if_pos hq] at h
    have h5 : (eaOut n xs T).length = 0 := by
      by_cases h5 : (eaOut n xs T).length = 0
      · exact h5
      · rw [if_neg h5] at h; exact absurd h (by decide)
    have h6 := List.length_eq_zero_iff.1 h5
    unfold eaOut at h6
    rw [if_pos hg, Int.toNat_natCast] at h6
    unfold earT at h6
    rw [List.flatMap_eq_nil_iff] at h6
    have h7 := h6 a (List.mem_range.2 ha)
    unfold earR at h7
    rw [List.map_eq_nil_iff, List.filter_eq_nil_iff] at h7
    have h8 := h7 b (List.mem_range.2 hb)
    simp only [decide_eq_true_eq] at h8
    have h9 : alFn T xs a b = alT T (a + 1) b xs := rfl
    omega
  refine ⟨hg, n, r', e', rfl, rfl, rfl, ?_⟩
  have := causeA_law (m := T.length) hord e4 (fun i j => (hbnd i j).1) hel 600 r' e' [] h1 h2 h3 (mesC_max h2 hm50 e2 ((ord_idx hord).2.2 e' h3)) (Cause.one h1 h2 h3)
  have hout : caOut n xs T r' e' = causeA T xs 600 r' e' (rowC r' e' :: []) := by
    unfold caOut
    rw [if_pos h, Int.toNat_natCast, Int.toNat_natCast]; rfl
  rw [hout]
  exact ⟨this.1, this.2.1, this.2.2⟩
end Go.Proofs.Ytegfjedklebbfaa
end

section
namespace Go.Proofs.Ytegfjedklebbfaa
set_option linter.unusedSimpArgs false
set_option linter.unusedVariables false
open Go Go.RowKit
attribute [local irreducible] AL AD AW OpOk Le AC thenQ blockQ EndQ

theorem rowC_r {r e : Nat} : (IR (rowC r e))[((0 : Int)).toNat]? = some [DI (r : Int)] ∧ (IR (rowC r e))[((1 : Int)).toNat]? = some [DI (e : Int)] ∧ (IR (rowC r e)).length = 2 := ⟨rfl, rfl, rfl⟩
set_option maxRecDepth 100000 in
set_option maxHeartbeats 8000000 in
theorem lawFnCauses_ac (code : List Int) (hl : code.length ≤ 9223372036854775807) (hb : ∀ b ∈ code, 0 ≤ b ∧ b ≤ 255) : AC Try.prog 5 [.d (BD code)] H0 (Bo true) H0 := by
  have hBig := big_ac code hl
  by_cases hbig : 4096 < (code.length : Int)
  ·
    refine AC.of_body 0 Try.func5 rfl (fun l h => absurd rfl h) (fun C hC => ?_)
    have hD : ∀ l, ¬ C.D0 l := fun l h => (hC l).1 h rfl
    simp only [startFr, Try.ntmps5, List.length_cons, List.length_nil, Nat.reduceAdd, Nat.reduceSub, List.replicate_succ, List.replicate_zero, List.cons_append, List.nil_append]
    repeat' (first | refine Qa ?_ | ((first | apply Ba | (apply Bb; (· rfl); (· rfl)) | (apply Bc; (· exact nxE)) | (apply Bd; (· rfl); (· rfl); (· exact nxE))); (· first | exact Kz rfl rfl (hBig) (Ad An) | exact Ok.pe); (first | refine Na ?_ | refine Nb ?_)) | ((first | apply Ca | (apply Cb; (· exact nxE))); (· first | exact Ok.e0); (first | refine Nc ?_ | refine Nd ?_)) | refine Oa ?_ | refine Ob ?_ | ((first | refine Ga (fun h => ?_) (fun h => ?_) | refine AD.gsplit rfl rfl (fun h => ?_) (fun h => ?_)) <;> try (exfalso; omega; done)) | (first | refine AL.gsplitB rfl rfl (fun h => ?_) (fun h => ?_) | refine AD.gsplitB rfl rfl (fun h => ?_) (fun h => ?_)) | refine Fa ?_ | refine Qb ?_ | refine Qc ?_ | refine Qd ?_ | refine Fb ?_ | refine Qe ?_ | refine Wa ?_ | refine Wb ?_ | (refine AW.ite rfl (fun h => ?_) (fun h => ?_) <;> try (exfalso; omega; done)) | refine AW.cond _ rfl (fun h => ?_) (fun h => ?_) | refine Qf ?_ | refine Qg ?_ | refine Qh ?_ | refine Qi ?_ | refine Xa ?_ | refine Xb ?_ | refine Xc ?_ | refine Xd ?_ | refine Fc ?_)
    refine Ya ?_
    (apply Le.headZ (hs := []) [] rfl)
    all_goals (try dsimp only [srcs])
    (case' hfr => (repeat' (first | refine La ?_ ?_ | exact Lc | refine Lo ?_ | refine ⟨⟨_, rfl, ?_⟩, ?_⟩ | refine ObA.box ?_ | refine ObA.frE ?_ | refine ObA.dataE ?_ | refine ARs.agg ?_ | refine ARs.tup ?_ | refine AR.b ?_ | refine AR.iE ?_ | refine AR.e ?_ | refine AR.clo' ARs.nil ?_)))
    all_goals (first | exact Ld | exact trivial | (rfl))
  have hc : CodeOk code := ⟨by omega, hb⟩
  obtain ⟨⟨ev, xs, s1⟩, T, r0, e0, h1, h2, hG⟩ := drawCauseOf_ex code hc
  obtain ⟨hev, _, hxl, _⟩ := h1
  obtain ⟨hTl, hTr⟩ := h2
  simp only at hev hxl hG
  have hTr' : ∀ r ∈ T, r.length ≤ 100000000 := fun r h => by have := hTr r h; omega
  have hx' : xs.length ≤ 100000000 := by omega
  have hT' : T.length ≤ 100000000 := by omega
  have hI := (iCauseOf_ac ev xs T r0 e0 hx' hT' hTr').frzT2 (by rw [TR_len])
  have hS := sCauseOf_ac ev xs T r0 e0 hx' hT' hTr'
  have hcl : (caOut ev xs T r0 e0).length ≤ 1000 := caOut_len
  have hL := likeTables9_refl (caOut ev xs T r0 e0) (by omega) (fun r hr => by have : r.length ≤ 1000 := caOut_rows r hr; omega)
  by_cases h0 : caOutC ev xs T r0 e0 = 0
  case neg =>
    generalize caOutC ev xs T r0 e0 = c at *
    generalize caOut ev xs T r0 e0 = X at *
    refine AC.of_body 0 Try.func5 rfl (fun l h => absurd rfl h) (fun C hC => ?_)
    have hD : ∀ l, ¬ C.D0 l := fun l h => (hC l).1 h rfl
    simp only [startFr, Try.ntmps5, List.length_cons, List.length_nil, Nat.reduceAdd, Nat.reduceSub, List.replicate_succ, List.replicate_zero, List.cons_append, List.nil_append]
    repeat' (first | refine Qa ?_ | ((first | apply Ba | (apply Bb; (· rfl); (· rfl)) | (apply Bc; (· exact nxE)) | (apply Bd; (· rfl); (· rfl); (· exact nxE))); (· first | exact Kz rfl rfl (hBig) (Ad An) | exact Kz rfl rfl (hG) (Ad An) | exact Kz rfl rfl (hI) (Aa (Ad (Ad An)) (Ad (Ad (Ad An)))) | exact Kz rfl rfl (hS) (Aa (Ad (Ad An)) (Ad (Ad (Ad An)))) | exact Kz rfl rfl (hL) (Ad (Ad An)) | exact Ok.pe); (first | refine Na ?_ | refine Nb ?_)) | ((first | apply Ca | (apply Cb; (· exact nxE))); (· first | exact Ok.e0); (first | refine Nc ?_ | refine Nd ?_)) | refine Oa ?_ | refine Ob ?_ | ((first | refine Ga (fun h => ?_) (fun h => ?_) | refine AD.gsplit rfl rfl (fun h => ?_) (fun h => ?_)) <;> try (exfalso; omega; done)) | (first | refine AL.gsplitB rfl rfl (fun h => ?_) (fun h => ?_) | refine AD.gsplitB rfl rfl (fun h => ?_) (fun h => ?_)) | refine Fa ?_ | refine Qb ?_ | refine Qc ?_ | refine Qd ?_ | refine Fb ?_ | refine Qe ?_ | refine Wa ?_ | refine Wb ?_ | (refine AW.ite rfl (fun h => ?_) (fun h => ?_) <;> try (exfalso; omega; done)) | refine AW.cond _ rfl (fun h => ?_) (fun h => ?_) | refine Qf ?_ | refine Qg ?_ | refine Qh ?_ | refine Qi ?_ | refine Xa ?_ | refine Xb ?_ | refine Xc ?_ | refine Xd ?_ | refine Fc ?_)
    refine Ya ?_
    (apply Le.headZ (hs := []) [] rfl)
    all_goals (try dsimp only [srcs])
    (case' hfr => (repeat' (first | refine La ?_ ?_ | exact Lc | refine Lo ?_ | refine ⟨⟨_, rfl, ?_⟩, ?_⟩ | refine ObA.box ?_ | refine ObA.frE ?_ | refine ObA.dataE ?_ | refine ARs.agg ?_ | refine ARs.tup ?_ | refine AR.b ?_ | refine AR.iE ?_ | refine AR.e ?_ | refine AR.clo' ARs.nil ?_)))
    all_goals (first | exact Ld | exact trivial | (rfl))
  obtain ⟨hg, n, r', e', rfl, rfl, rfl, hca, hen, hla⟩ := caOut_law h0
  obtain ⟨n2, hn2, e1, e2, e3, e4, e5, e6⟩ := code_ok hg
  obtain rfl : n = n2 := by omega
  obtain ⟨hrc, hm50, hbnd⟩ := dueB_ok e5
  have hself := tabF_self hrc
  have hA := (iAllowedTimes_ac n xs T hx' hT' hTr').frzT2 (by rw [TR_len])
  have q2 : alOut n xs T = tabF T.length n (alFn T xs) := by unfold alOut; rw [if_pos hg]; rfl
  rw [q2, hg] at hA
  rw [h0] at hI hS
  have hTg : ∀ k, k < T.length → T[k]? = some (rowF n (entN T k)) := fun k hk => by
    have := tabF_get (m := T.length) (n := n) (f := entN T) hk
    rwa [hself] at this
  clear h0
  generalize caOut n xs T r' e' = c at *
  have hTl' : (mRows 1 (TR T)).length = T.length := by simp
  have hcl' : (mRows 1 (TR c)).length = c.length := by simp
  have hal : (mRows 1 (TR (tabF T.length n (alFn T xs)))).length = T.length := by simp [tabF_len]
  have hne : 0 < c.length := by
    cases c with
    | nil => simp at hla
    | cons a c => simp
  refine AC.of_body 0 Try.func5 rfl (fun l h => absurd rfl h) (fun C hC => ?_)
  have hD : ∀ l, ¬ C.D0 l := fun l h => (hC l).1 h rfl
  simp only [startFr, Try.ntmps5, List.length_cons, List.length_nil, Nat.reduceAdd, Nat.reduceSub, List.replicate_succ, List.replicate_zero, List.cons_append, List.nil_append]
  repeat' (first | refine Qa ?_ | ((first | apply Ba | (apply Bb; (· rfl); (· rfl)) | (apply Bc; (· exact nxE)) | (apply Bd; (· rfl); (· rfl); (· exact nxE))); (· first | exact Kz rfl rfl (hBig) (Ad An) | exact Kz rfl rfl (hG) (Ad An) | exact Kz rfl rfl (hI) (Aa (Ad (Ad An)) (Ad (Ad (Ad An)))) | exact Kz rfl rfl (hS) (Aa (Ad (Ad An)) (Ad (Ad (Ad An)))) | exact Kz rfl rfl (hL) (Ad (Ad An)) | exact Kz rfl rfl (hA) (Aa (Ad (Ad An)) (Ad An)) | exact Ok.pe); (first | refine Na ?_ | refine Nb ?_)) | ((first | apply Ca | (apply Cb; (· exact nxE))); (· first | exact Ok.e0); (first | refine Nc ?_ | refine Nd ?_)) | refine Oa ?_ | refine Ob ?_ | ((first | refine Ga (fun h => ?_) (fun h => ?_) | refine AD.gsplit rfl rfl (fun h => ?_) (fun h => ?_)) <;> try (exfalso; omega; done)) | (first | refine AL.gsplitB rfl rfl (fun h => ?_) (fun h => ?_) | refine AD.gsplitB rfl rfl (fun h => ?_) (fun h => ?_)) | refine Fa ?_ | refine Qb ?_ | refine Qc ?_ | refine Qd ?_ | refine Fb ?_ | refine Qe ?_ | refine Wa ?_ | refine Wb ?_ | (refine AW.ite rfl (fun h => ?_) (fun h => ?_) <;> try (exfalso; omega; done)) | refine AW.cond _ rfl (fun h => ?_) (fun h => ?_) | refine Qf ?_ | refine Qg ?_ | refine Qh ?_ | refine Qi ?_ | refine Xa ?_ | refine Xb ?_ | refine Xc ?_ | refine Xd ?_ | refine Fc ?_)
  refine AW.loop (X := {k : Nat // k ≤ c.length}) (fun k => ⟨[Oo, Oo, Oo, Bx 2 0, TL T, I r', I e', TL c, Oo, TL c, Oo, TL (tabF T.length n (alFn T xs)), Oo, I (k.1 : Nat), Oo, Oo, Oo, Oo, Oo, Oo, Oo, Oo, Oo, Oo, Oo, Oo, Oo, Oo, Oo, Oo, Oo, Oo, Oo, Oo, Oo, Oo, Oo, Oo, Oo, Oo, Oo, Oo, Oo, Oo, Oo, Oo, Oo, Oo, Oo, Oo, Oo, Oo, Oo, Oo, Oo, Oo, Oo, Oo, Oo, Oo, Oo, Oo, Oo, Oo, Oo, Oo, Oo, Oo, Oo, Oo, Oo, Oo, Oo, Oo, Oo, Oo, Oo, Oo, Oo, Oo, Oo, Oo, Oo, Oo, Oo, Oo, Oo, Oo, Oo, Oo, Oo, Oo, Oo, Oo, Oo, Oo, Oo, Oo, Oo, Oo, Oo, Oo, Oo, Oo, Oo, Oo, Oo, Oo, Oo, Oo, Oo, Oo, Oo, Oo, Oo, Oo, Oo, Oo, Oo, Oo, Oo, Oo, Oo, Oo, Oo, Oo, Oo, Oo, Oo, Oo, Oo, Oo, Oo, Oo, Oo, Oo, Oo, Oo, Oo, Oo, Oo, Oo, Oo, Oo, Oo, Oo, Oo, Oo, Oo, Oo, Oo, Oo, Oo, Oo, Oo, Oo, Oo, Oo, Oo, Oo, Oo, Oo, Oo, Oo, Oo, Oo, Oo, Oo, Oo, Oo, Oo, Oo, Oo, Oo, Oo, Oo, Oo, Oo, Oo, Oo, Oo, Oo, Oo, Oo, Oo, Oo, Oo, Oo, Oo, Oo, Oo, Oo, Oo, Oo, Oo, Oo, Oo, Oo, Oo, Oo, Oo, Oo, Oo, Oo, Oo, Oo, Oo, Oo, Oo, Oo, Oo, Oo, Oo, Oo, Oo, Oo, Oo, Oo, Oo, Oo, Oo, Oo, Oo, Oo, Oo, Oo, Oo, Oo, Oo, Oo, Oo, Oo, Oo, Oo, Oo, Oo, Oo, Oo, Oo, Oo, Oo, Oo, Oo, Oo, Oo, Oo, Oo, Oo, Oo, Oo], heapL [(⟨0, []⟩, ⟨0, []⟩, ⟨2, [[I n, PL xs]]⟩)], 900⟩) (fun k => c.length - k.1) ⟨0, Nat.zero_le _⟩ ?_ (fun k => ?_)
  ·
    (apply Le.headZ [_] rfl)
    all_goals (try dsimp only [srcs])
    (case' hfr | hob => (repeat' (first | refine La ?_ ?_ | exact Lc | refine Lo ?_ | refine ⟨⟨_, rfl, ?_⟩, ?_⟩ | refine ObA.box ?_ | refine ObA.frE ?_ | refine ObA.dataE ?_ | refine ARs.agg ?_ | refine ARs.tup ?_ | refine AR.b ?_ | refine AR.iE ?_ | refine AR.e ?_ | refine AR.clo' ARs.nil ?_)))
    all_goals (first | (rfl) | exact Ld)
  obtain ⟨k, hk⟩ := k
  simp only
  by_cases hlt : k < c.length
  · obtain ⟨b, hb2⟩ : ∃ b, c[k]? = some b := ⟨c[k], by simp⟩
    have hrb := TR_get hb2
    by_cases hk0 : k = 0
    · subst hk0
      obtain ⟨rb, eb, rfl, w1, w2, w3⟩ := hca.rows 0 b hb2
      obtain ⟨g1, g2, g3⟩ := rowC_r (r := rb) (e := eb)
      repeat' (first | refine Qa ?_ | ((first | apply Ba | (apply Bb; (· rfl); (· rfl)) | (apply Bc; (· exact nxE)) | (apply Bd; (· rfl); (· rfl); (· exact nxE))); (· first | exact Ok.pe); (first | refine Na ?_ | refine Nb ?_)) | ((first | apply Ca | (apply Cb; (· exact nxE))); (· first | exact Ok.e0); (first | refine Nc ?_ | refine Nd ?_)) | refine Oa ?_ | refine Ob ?_ | ((first | refine Ga (fun h => ?_) (fun h => ?_) | refine AD.gsplit rfl rfl (fun h => ?_) (fun h => ?_)) <;> try (exfalso; omega; done)) | (first | refine AL.gsplitB rfl rfl (fun h => ?_) (fun h => ?_) | refine AD.gsplitB rfl rfl (fun h => ?_) (fun h => ?_)) | refine Fa ?_ | refine Qb ?_ | refine Qc ?_ | refine Qd ?_ | refine Fb ?_ | refine Qe ?_ | refine Wa ?_ | refine Wb ?_ | (refine AW.ite rfl (fun h => ?_) (fun h => ?_) <;> try (exfalso; omega; done)) | refine AW.cond _ rfl (fun h => ?_) (fun h => ?_) | refine Qf ?_ | refine Qg ?_ | refine Qh ?_ | refine Qi ?_ | refine Xa ?_ | refine Xb ?_ | refine Xc ?_ | refine Xd ?_ | refine Fc ?_)
      refine ⟨⟨0 + 1, by omega⟩, ?_, by simp only; omega⟩
      (apply Le.headZ [_] rfl)
      all_goals (try dsimp only [srcs])
      (case' hfr | hob => (repeat' (first | refine La ?_ ?_ | exact Lc | refine Lo ?_ | refine ⟨⟨_, rfl, ?_⟩, ?_⟩ | refine ObA.box ?_ | refine ObA.frE ?_ | refine ObA.dataE ?_ | refine ARs.agg ?_ | refine ARs.tup ?_ | refine AR.b ?_ | refine AR.iE ?_ | refine AR.e ?_ | refine AR.clo' ARs.nil ?_)))
      all_goals (first | (rfl) | exact Ld)
    · obtain ⟨j, rfl⟩ : ∃ j, k = j + 1 := ⟨k - 1, by omega⟩
      obtain ⟨a, ha2⟩ : ∃ a, c[j]? = some a := ⟨c[j]'(by omega), List.getElem?_eq_getElem (by omega)⟩
      obtain ⟨ra, ea, rb, eb, rfl, rfl, hst⟩ := hca.step j a b ha2 hb2
      obtain ⟨⟨w1, w2, w3⟩, ⟨w4, w5, w6⟩, wt, i, pi, hpi, p1, p2, p3, p4⟩ := hst
      obtain ⟨g1, g2, g3⟩ := rowC_r (r := rb) (e := eb)
      obtain ⟨f1, f2, f3⟩ := rowC_r (r := ra) (e := ea)
      have hra : (mRows 1 (TR c))[(((j + 1 : Nat) : Int) - 1).toNat]? = some [.sl 1 (IR (rowC ra ea))] := by
        rw [show (((j + 1 : Nat) : Int) - 1).toNat = ((j : Nat) : Int).toNat by omega]; exact TR_get ha2
      have tb : (mRows 1 (TR T))[((rb : Int) - 1).toNat]? = some [.sl 1 (IR (rowF n (entN T (rb - 1))))] := by
        rw [show ((rb : Int) - 1).toNat = (((rb - 1 : Nat)) : Int).toNat by omega]; exact TR_get (hTg _ (by omega))
      have ta : (mRows 1 (TR T))[((ra : Int) - 1).toNat]? = some [.sl 1 (IR (rowF n (entN T (ra - 1))))] := by
        rw [show ((ra : Int) - 1).toNat = (((ra - 1 : Nat)) : Int).toNat by omega]; exact TR_get (hTg _ (by omega))
      have tl : (mRows 1 (TR (tabF T.length n (alFn T xs))))[((rb : Int) - 1).toNat]? = some [.sl 1 (IR (rowF n (alFn T xs (rb - 1))))] := by
        rw [show ((rb : Int) - 1).toNat = (((rb - 1 : Nat)) : Int).toNat by omega]; exact tabF_get2 (by omega)
      have cb := rowI_get2 (g := entN T (rb - 1)) w6
      have ca := rowI_get2 (g := entN T (ra - 1)) w3
      have cl := rowI_get2 (g := alFn T xs (rb - 1)) w6
      have hall : alFn T xs (rb - 1) eb = entN T (rb - 1) eb := by
        show alT T (rb - 1 + 1) eb xs = _
        rw [show rb - 1 + 1 = rb by omega]; exact wt
      rw [hall] at cl
      have hrl1 : (rowF n (entN T (rb - 1))).length = n := rowF_len
      have hrl2 : (rowF n (entN T (ra - 1))).length = n := rowF_len
      have hrl3 : (rowF n (alFn T xs (rb - 1))).length = n := rowF_len
      have hb1 := hbnd (ra - 1) ea
      have hb3 := hbnd (rb - 1) eb
      have hil := (List.getElem?_eq_some_iff.1 hpi).1
      generalize entN T (rb - 1) eb = vb at *
      generalize entN T (ra - 1) ea = va at *
      repeat' (first | refine Qa ?_ | ((first | apply Ba | (apply Bb; (· rfl); (· rfl)) | (apply Bc; (· exact nxE)) | (apply Bd; (· rfl); (· rfl); (· exact nxE))); (· first | exact Ok.pe); (first | refine Na ?_ | refine Nb ?_)) | ((first | apply Ca | (apply Cb; (· exact nxE))); (· first | exact Ok.e0); (first | refine Nc ?_ | refine Nd ?_)) | refine Oa ?_ | refine Ob ?_ | ((first | refine Ga (fun h => ?_) (fun h => ?_) | refine AD.gsplit rfl rfl (fun h => ?_) (fun h => ?_)) <;> try (exfalso; omega; done)) | (first | refine AL.gsplitB rfl rfl (fun h => ?_) (fun h => ?_) | refine AD.gsplitB rfl rfl (fun h => ?_) (fun h => ?_)) | refine Fa ?_ | refine Qb ?_ | refine Qc ?_ | refine Qd ?_ | refine Fb ?_ | refine Qe ?_ | refine Wa ?_ | refine Wb ?_ | (refine AW.ite rfl (fun h => ?_) (fun h => ?_) <;> try (exfalso; omega; done)) | refine AW.cond _ rfl (fun h => ?_) (fun h => ?_) | refine Qf ?_ | refine Qg ?_ | refine Qh ?_ | refine Qi ?_ | refine Xa ?_ | refine Xb ?_ | refine Xc ?_ | refine Xd ?_ | refine Fc ?_)
      refine AW.loop (X := {q : Nat × Bool // q.1 ≤ xs.length ∧ (i < q.1 → q.2 = true)}) (fun q => ⟨[Oo, Oo, Oo, Bx 2 0, TL T, I r', I e', TL c, Oo, TL c, Oo, TL (tabF T.length n (alFn T xs)), Oo, I ((j + 1 : Nat) : Int), I rb, I eb, Bo q.1.2, I q.1.1, Oo, Oo, Oo, Oo, Oo, Oo, Oo, Oo, Oo, Oo, Oo, Oo, Oo, Oo, Oo, Oo, Oo, Oo, Oo, Oo, Oo, Oo, Oo, Oo, Oo, Oo, Oo, Oo, Oo, Oo, Oo, Oo, Oo, Oo, Oo, Oo, Oo, Oo, Oo, Oo, Oo, Oo, Oo, Oo, Oo, Oo, Oo, Oo, Oo, Oo, Oo, Oo, Oo, Oo, Oo, Oo, Oo, Oo, Oo, Oo, Oo, Oo, Oo, Oo, Oo, Oo, Oo, Oo, Oo, Oo, Oo, Oo, Oo, Oo, Oo, Oo, Oo, Oo, Oo, Oo, Oo, Oo, Oo, Oo, Oo, Oo, Oo, Oo, Oo, Oo, Oo, Oo, Oo, Oo, Oo, Oo, Oo, Oo, Oo, Oo, Oo, Oo, Oo, Oo, Oo, Oo, Oo, Oo, Oo, Oo, Oo, Oo, Oo, Oo, Oo, Oo, Oo, Oo, Oo, Oo, Oo, Oo, Oo, Oo, Oo, Oo, Oo, Oo, Oo, Oo, Oo, Oo, Oo, Oo, Oo, Oo, Oo, Oo, Oo, Oo, Oo, Oo, Oo, Oo, Oo, Oo, Oo, Oo, Oo, Oo, Oo, Oo, Oo, Oo, Oo, Oo, Oo, Oo, Oo, Oo, Oo, Oo, Oo, Oo, Oo, Oo, Oo, Oo, Oo, Oo, Oo, Oo, Oo, Oo, Oo, Oo, Oo, Oo, Oo, Oo, Oo, Oo, Oo, Oo, Oo, Oo, Oo, Oo, Oo, Oo, Oo, Oo, Oo, Oo, Oo, Oo, Oo, Oo, Oo, Oo, Oo, Oo, Oo, Oo, Oo, Oo, Oo, Oo, Oo, Oo, Oo, Oo, Oo, Oo, Oo, Oo, Oo, Oo, Oo, Oo, Oo, Oo, Oo, Oo, Oo, Oo, Oo, Oo, Oo, Oo, Oo, Oo], heapL [(⟨0, []⟩, ⟨0, []⟩, ⟨2, [[I n, PL xs]]⟩)], 900⟩) (fun q => xs.length - q.1.1) ⟨(0, false), by simp⟩ ?_ (fun q => ?_)
      ·
        (apply Le.headZ [_] rfl)
        all_goals (try dsimp only [srcs])
        (case' hfr | hob => (repeat' (first | refine La ?_ ?_ | exact Lc | refine Lo ?_ | refine ⟨⟨_, rfl, ?_⟩, ?_⟩ | refine ObA.box ?_ | refine ObA.frE ?_ | refine ObA.dataE ?_ | refine ARs.agg ?_ | refine ARs.tup ?_ | refine AR.b ?_ | refine AR.iE ?_ | refine AR.e ?_ | refine AR.clo' ARs.nil ?_)))
        all_goals (first | (rfl) | exact Ld)
      obtain ⟨⟨q, bq⟩, hq, hqb⟩ := q
      simp only at hq hqb ⊢
      by_cases hlt2 : q < xs.length
      · obtain ⟨p, hp⟩ : ∃ p, xs[q]? = some p := ⟨xs[q], by simp⟩
        have hrow : (xs.map Pl.row)[((q : Nat) : Int).toNat]? = some [DI p.f, DI p.t, DI p.d, DI p.k] := row_get hp
        have hpo := e4 p (List.mem_of_getElem? hp)
        cases bq
        · by_cases hqi : q = i
          · subst hqi
            rw [hpi] at hp; cases hp
            obtain ⟨pf, pt, pd, pk⟩ := pi
            obtain ⟨_, _, ⟨d1, d2⟩, ⟨k1, k2⟩⟩ := hpo
            simp only at p1 p2 p3 p4 hrow d1 d2 k1 k2
            subst p1; subst p2
            repeat' (first | refine Qa ?_ | ((first | apply Ba | (apply Bb; (· rfl); (· rfl)) | (apply Bc; (· exact nxE)) | (apply Bd; (· rfl); (· rfl); (· exact nxE))); (· first | exact Ok.pe); (first | refine Na ?_ | refine Nb ?_)) | ((first | apply Ca | (apply Cb; (· exact nxE))); (· first | exact Ok.e0); (first | refine Nc ?_ | refine Nd ?_)) | refine Oa ?_ | refine Ob ?_ | ((first | refine Ga (fun h => ?_) (fun h => ?_) | refine AD.gsplit rfl rfl (fun h => ?_) (fun h => ?_)) <;> try (exfalso; omega; done)) | (first | refine AL.gsplitB rfl rfl (fun h => ?_) (fun h => ?_) | refine AD.gsplitB rfl rfl (fun h => ?_) (fun h => ?_)) | refine Fa ?_ | refine Qb ?_ | refine Qc ?_ | refine Qd ?_ | refine Fb ?_ | refine Qe ?_ | refine Wa ?_ | refine Wb ?_ | (refine AW.ite rfl (fun h => ?_) (fun h => ?_) <;> try (exfalso; omega; done)) | refine AW.cond _ rfl (fun h => ?_) (fun h => ?_) | refine Qf ?_ | refine Qg ?_ | refine Qh ?_ | refine Qi ?_ | refine Xa ?_ | refine Xb ?_ | refine Xc ?_ | refine Xd ?_ | refine Fc ?_)
            refine ⟨⟨(q + 1, true), by simp only; omega, fun _ => rfl⟩, ?_, by simp only; omega⟩
            (apply Le.headZ [_] rfl)
            all_goals (try dsimp only [srcs])
            (case' hfr | hob => (repeat' (first | refine La ?_ ?_ | exact Lc | refine Lo ?_ | refine ⟨⟨_, rfl, ?_⟩, ?_⟩ | refine ObA.box ?_ | refine ObA.frE ?_ | refine ObA.dataE ?_ | refine ARs.agg ?_ | refine ARs.tup ?_ | refine AR.b ?_ | refine AR.iE ?_ | refine AR.e ?_ | refine AR.clo' ARs.nil ?_)))
            all_goals (first | (first | rfl | exact (decide_eq_true (by omega)).symm) | exact Ld)
          · have hni : ¬ i < q := fun h => by have := hqb h; cases this
            obtain ⟨pf, pt, pd, pk⟩ := p
            obtain ⟨⟨q1, q2⟩, ⟨q3, q4⟩, ⟨d1, d2⟩, ⟨k1, k2⟩⟩ := hpo
            simp only at hrow q1 q2 q3 q4 d1 d2 k1 k2
            by_cases hpf : pf = (ea : Int)
            · subst hpf
              repeat' (first | refine Qa ?_ | ((first | apply Ba | (apply Bb; (· rfl); (· rfl)) | (apply Bc; (· exact nxE)) | (apply Bd; (· rfl); (· rfl); (· exact nxE))); (· first | exact Ok.pe); (first | refine Na ?_ | refine Nb ?_)) | ((first | apply Ca | (apply Cb; (· exact nxE))); (· first | exact Ok.e0); (first | refine Nc ?_ | refine Nd ?_)) | refine Oa ?_ | refine Ob ?_ | ((first | refine Ga (fun h => ?_) (fun h => ?_) | refine AD.gsplit rfl rfl (fun h => ?_) (fun h => ?_)) <;> try (exfalso; omega; done)) | (first | refine AL.gsplitB rfl rfl (fun h => ?_) (fun h => ?_) | refine AD.gsplitB rfl rfl (fun h => ?_) (fun h => ?_)) | refine Fa ?_ | refine Qb ?_ | refine Qc ?_ | refine Qd ?_ | refine Fb ?_ | refine Qe ?_ | refine Wa ?_ | refine Wb ?_ | (refine AW.ite rfl (fun h => ?_) (fun h => ?_) <;> try (exfalso; omega; done)) | refine AW.cond _ rfl (fun h => ?_) (fun h => ?_) | refine Qf ?_ | refine Qg ?_ | refine Qh ?_ | refine Qi ?_ | refine Xa ?_ | refine Xb ?_ | refine Xc ?_ | refine Xd ?_ | refine Fc ?_)
              all_goals
                refine ⟨⟨(q + 1, ?_), by simp only; omega, fun hi => absurd hi (by simp only; omega)⟩, ?_, by simp only; omega⟩
                rotate_left 1
                (apply Le.headZ [_] rfl)
                all_goals (try dsimp only [srcs])
                (case' hfr | hob => (repeat' (first | refine La ?_ ?_ | exact Lc | refine Lo ?_ | refine ⟨⟨_, rfl, ?_⟩, ?_⟩ | refine ObA.box ?_ | refine ObA.frE ?_ | refine ObA.dataE ?_ | refine ARs.agg ?_ | refine ARs.tup ?_ | refine AR.b ?_ | refine AR.iE ?_ | refine AR.e ?_ | refine AR.clo' ARs.nil ?_)))
                all_goals (first | (rfl) | exact Ld)
            ·
              repeat' (first | refine Qa ?_ | ((first | apply Ba | (apply Bb; (· rfl); (· rfl)) | (apply Bc; (· exact nxE)) | (apply Bd; (· rfl); (· rfl); (· exact nxE))); (· first | exact Ok.pe); (first | refine Na ?_ | refine Nb ?_)) | ((first | apply Ca | (apply Cb; (· exact nxE))); (· first | exact Ok.e0); (first | refine Nc ?_ | refine Nd ?_)) | refine Oa ?_ | refine Ob ?_ | ((first | refine Ga (fun h => ?_) (fun h => ?_) | refine AD.gsplit rfl rfl (fun h => ?_) (fun h => ?_)) <;> try (exfalso; omega; done)) | (first | refine AL.gsplitB rfl rfl (fun h => ?_) (fun h => ?_) | refine AD.gsplitB rfl rfl (fun h => ?_) (fun h => ?_)) | refine Fa ?_ | refine Qb ?_ | refine Qc ?_ | refine Qd ?_ | refine Fb ?_ | refine Qe ?_ | refine Wa ?_ | refine Wb ?_ | (refine AW.ite rfl (fun h => ?_) (fun h => ?_) <;> try (exfalso; omega; done)) | refine AW.cond _ rfl (fun h => ?_) (fun h => ?_) | refine Qf ?_ | refine Qg ?_ | refine Qh ?_ | refine Qi ?_ | refine Xa ?_ | refine Xb ?_ | refine Xc ?_ | refine Xd ?_ | refine Fc ?_)
              all_goals
                refine ⟨⟨(q + 1, ?_), by simp only; omega, fun hi => absurd hi (by simp only; omega)⟩, ?_, by simp only; omega⟩
                rotate_left 1
                (apply Le.headZ [_] rfl)
                all_goals (try dsimp only [srcs])
                (case' hfr | hob => (repeat' (first | refine La ?_ ?_ | exact Lc | refine Lo ?_ | refine ⟨⟨_, rfl, ?_⟩, ?_⟩ | refine ObA.box ?_ | refine ObA.frE ?_ | refine ObA.dataE ?_ | refine ARs.agg ?_ | refine ARs.tup ?_ | refine AR.b ?_ | refine AR.iE ?_ | refine AR.e ?_ | refine AR.clo' ARs.nil ?_)))
                all_goals (first | (rfl) | exact Ld)
        ·
          repeat' (first | refine Qa ?_ | ((first | apply Ba | (apply Bb; (· rfl); (· rfl)) | (apply Bc; (· exact nxE)) | (apply Bd; (· rfl); (· rfl); (· exact nxE))); (· first | exact Ok.pe); (first | refine Na ?_ | refine Nb ?_)) | ((first | apply Ca | (apply Cb; (· exact nxE))); (· first | exact Ok.e0); (first | refine Nc ?_ | refine Nd ?_)) | refine Oa ?_ | refine Ob ?_ | ((first | refine Ga (fun h => ?_) (fun h => ?_) | refine AD.gsplit rfl rfl (fun h => ?_) (fun h => ?_)) <;> try (exfalso; omega; done)) | (first | refine AL.gsplitB rfl rfl (fun h => ?_) (fun h => ?_) | refine AD.gsplitB rfl rfl (fun h => ?_) (fun h => ?_)) | refine Fa ?_ | refine Qb ?_ | refine Qc ?_ | refine Qd ?_ | refine Fb ?_ | refine Qe ?_ | refine Wa ?_ | refine Wb ?_ | (refine AW.ite rfl (fun h => ?_) (fun h => ?_) <;> try (exfalso; omega; done)) | refine AW.cond _ rfl (fun h => ?_) (fun h => ?_) | refine Qf ?_ | refine Qg ?_ | refine Qh ?_ | refine Qi ?_ | refine Xa ?_ | refine Xb ?_ | refine Xc ?_ | refine Xd ?_ | refine Fc ?_)
          refine ⟨⟨(q + 1, true), by simp only; omega, fun _ => rfl⟩, ?_, by simp only; omega⟩
          (apply Le.headZ [_] rfl)
          all_goals (try dsimp only [srcs])
          (case' hfr | hob => (repeat' (first | refine La ?_ ?_ | exact Lc | refine Lo ?_ | refine ⟨⟨_, rfl, ?_⟩, ?_⟩ | refine ObA.box ?_ | refine ObA.frE ?_ | refine ObA.dataE ?_ | refine ARs.agg ?_ | refine ARs.tup ?_ | refine AR.b ?_ | refine AR.iE ?_ | refine AR.e ?_ | refine AR.clo' ARs.nil ?_)))
          all_goals (first | (rfl) | exact Ld)
      · obtain rfl : q = xs.length := by omega
        obtain rfl : bq = true := hqb hil
        repeat' (first | refine Qa ?_ | ((first | apply Ba | (apply Bb; (· rfl); (· rfl)) | (apply Bc; (· exact nxE)) | (apply Bd; (· rfl); (· rfl); (· exact nxE))); (· first | exact Ok.pe); (first | refine Na ?_ | refine Nb ?_)) | ((first | apply Ca | (apply Cb; (· exact nxE))); (· first | exact Ok.e0); (first | refine Nc ?_ | refine Nd ?_)) | refine Oa ?_ | refine Ob ?_ | ((first | refine Ga (fun h => ?_) (fun h => ?_) | refine AD.gsplit rfl rfl (fun h => ?_) (fun h => ?_)) <;> try (exfalso; omega; done)) | (first | refine AL.gsplitB rfl rfl (fun h => ?_) (fun h => ?_) | refine AD.gsplitB rfl rfl (fun h => ?_) (fun h => ?_)) | refine Fa ?_ | refine Qb ?_ | refine Qc ?_ | refine Qd ?_ | refine Fb ?_ | refine Qe ?_ | refine Wa ?_ | refine Wb ?_ | (refine AW.ite rfl (fun h => ?_) (fun h => ?_) <;> try (exfalso; omega; done)) | refine AW.cond _ rfl (fun h => ?_) (fun h => ?_) | refine Qf ?_ | refine Qg ?_ | refine Qh ?_ | refine Qi ?_ | refine Xa ?_ | refine Xb ?_ | refine Xc ?_ | refine Xd ?_ | refine Fc ?_)
        refine ⟨⟨j + 1 + 1, by omega⟩, ?_, by simp only; omega⟩
        (apply Le.headZ [_] rfl)
        all_goals (try dsimp only [srcs])
        (case' hfr | hob => (repeat' (first | refine La ?_ ?_ | exact Lc | refine Lo ?_ | refine ⟨⟨_, rfl, ?_⟩, ?_⟩ | refine ObA.box ?_ | refine ObA.frE ?_ | refine ObA.dataE ?_ | refine ARs.agg ?_ | refine ARs.tup ?_ | refine AR.b ?_ | refine AR.iE ?_ | refine AR.e ?_ | refine AR.clo' ARs.nil ?_)))
        all_goals (first | (rfl) | exact Ld)
  obtain rfl : k = c.length := by omega
  obtain ⟨rf, ef, c', hcf, hend⟩ := hen
  have hf0 : c[0]? = some (rowC rf ef) := by rw [hcf]; rfl
  obtain ⟨rf', ef', hrf, w1, w2, w3⟩ := hca.rows 0 _ hf0
  obtain ⟨rfl, rfl⟩ := rowC_inj hrf
  have hl0 : c[c.length - 1]? = some (rowC r' e') := by rw [← List.getLast?_eq_getElem?]; exact hla
  have hlr : (mRows 1 (TR c))[((c.length : Int) - 1).toNat]? = some [.sl 1 (IR (rowC r' e'))] := by
    rw [show ((c.length : Int) - 1).toNat = (((c.length - 1 : Nat)) : Int).toNat by omega]; exact TR_get hl0
  have hfr : (mRows 1 (TR c))[((0 : Int)).toNat]? = some [.sl 1 (IR (rowC rf ef))] := TR_get hf0
  obtain ⟨g1, g2, g3⟩ := rowC_r (r := r') (e := e')
  obtain ⟨f1, f2, f3⟩ := rowC_r (r := rf) (e := ef)
  have ta : (mRows 1 (TR T))[((rf : Int) - 1).toNat]? = some [.sl 1 (IR (rowF n (entN T (rf - 1))))] := by
    rw [show ((rf : Int) - 1).toNat = (((rf - 1 : Nat)) : Int).toNat by omega]; exact TR_get (hTg _ (by omega))
  have tl : (mRows 1 (TR (tabF T.length n (alFn T xs))))[((rf : Int) - 1).toNat]? = some [.sl 1 (IR (rowF n (alFn T xs (rf - 1))))] := by
    rw [show ((rf : Int) - 1).toNat = (((rf - 1 : Nat)) : Int).toNat by omega]; exact tabF_get2 (by omega)
  have ca := rowI_get2 (g := entN T (rf - 1)) w3
  have cl := rowI_get2 (g := alFn T xs (rf - 1)) w3
  have hall : alFn T xs (rf - 1) ef = alT T rf ef xs := by
    show alT T (rf - 1 + 1) ef xs = _
    rw [show rf - 1 + 1 = rf by omega]
  rw [hall] at cl
  have hrl1 : (rowF n (entN T (rf - 1))).length = n := rowF_len
  have hrl3 : (rowF n (alFn T xs (rf - 1))).length = n := rowF_len
  generalize alT T rf ef xs = va at *
  generalize entN T (rf - 1) ef = vt at *
  repeat' (first | refine Qa ?_ | ((first | apply Ba | (apply Bb; (· rfl); (· rfl)) | (apply Bc; (· exact nxE)) | (apply Bd; (· rfl); (· rfl); (· exact nxE))); (· first | exact Ok.pe); (first | refine Na ?_ | refine Nb ?_)) | ((first | apply Ca | (apply Cb; (· exact nxE))); (· first | exact Ok.e0); (first | refine Nc ?_ | refine Nd ?_)) | refine Oa ?_ | refine Ob ?_ | ((first | refine Ga (fun h => ?_) (fun h => ?_) | refine AD.gsplit rfl rfl (fun h => ?_) (fun h => ?_)) <;> try (exfalso; omega; done)) | (first | refine AL.gsplitB rfl rfl (fun h => ?_) (fun h => ?_) | refine AD.gsplitB rfl rfl (fun h => ?_) (fun h => ?_)) | refine Fa ?_ | refine Qb ?_ | refine Qc ?_ | refine Qd ?_ | refine Fb ?_ | refine Qe ?_ | refine Wa ?_ | refine Wb ?_ | (refine AW.ite rfl (fun h => ?_) (fun h => ?_) <;> try (exfalso; omega; done)) | refine AW.cond _ rfl (fun h => ?_) (fun h => ?_) | refine Qf ?_ | refine Qg ?_ | refine Qh ?_ | refine Qi ?_ | refine Xa ?_ | refine Xb ?_ | refine Xc ?_ | refine Xd ?_ | refine Fc ?_)
  all_goals
    refine Ya ?_
    (apply Le.headZ (hs := []) [] rfl)
    all_goals (try dsimp only [srcs])
    (case' hfr => (repeat' (first | refine La ?_ ?_ | exact Lc | refine Lo ?_ | refine ⟨⟨_, rfl, ?_⟩, ?_⟩ | refine ObA.box ?_ | refine ObA.frE ?_ | refine ObA.dataE ?_ | refine ARs.agg ?_ | refine ARs.tup ?_ | refine AR.b ?_ | refine AR.iE ?_ | refine AR.e ?_ | refine AR.clo' ARs.nil ?_)))
    all_goals (first | exact Ld | exact trivial | (first | rfl | exact (decide_eq_true (by omega)).symm))
end Go.Proofs.Ytegfjedklebbfaa
end
