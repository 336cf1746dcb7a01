/-
  Walks in the abstract reading: CauseOf of both sides.
-/
import Derived.Test.YtegfjedklebbfaaKU7
import Derived.Test.YtegfjedklebbfaaKU12
import Derived.Test.YtegfjedklebbfaaKA3
namespace Go.Proofs.Ytegfjedklebbfaa
set_option linter.unusedSimpArgs false
set_option linter.unusedVariables false
open Go Go.RowKit
attribute [local irreducible] AL AD AW OpOk Le AC thenQ blockQ EndQ

/-! ### Reverse of a table -/
set_option maxHeartbeats 1000000 in
theorem revT_ac (R : List (List (List D))) (m : Nat) (hm : R.length = m) (hn : m ≤ 1000000) : AC Try.prog 229 [own1 1 m] (hpM 1 R) (.tup []) (hpR R (tRows ⟨0, []⟩ R).reverse) := by
  generalize hT : tRows ⟨0, []⟩ R = T
  have hTl : T.length = m := by rw [← hT, tRows_len, hm]
  have hTm : ∀ r ∈ T, r ∈ tRows ⟨0, []⟩ R := fun r h => by rw [hT]; exact h
  have hT0 : hpM 1 R = hpR R T := by
    funext l
    by_cases e : l = ⟨0, []⟩
    · subst e; rw [hpR_l, hpM_l, ← hT]; rfl
    · unfold hpR; rw [upd_ne e]
  rw [hT0]
  have hid : ∀ (rows : List (List AV)) l, hpR R rows l ≠ none → l.id < 1 := fun rows l h => by rcases hpR_id h with rfl | ⟨i, _, rfl⟩ <;> simp [Loc.at]
  refine AC.of_body 1 Try.func229 rfl (hid T) (fun C hC => ?_)
  simp only [startFr, Try.ntmps229, List.length_cons, List.length_nil, Nat.reduceAdd, Nat.reduceSub, List.replicate_succ, List.replicate_zero, List.cons_append, List.nil_append]
  have hD : ∀ l, C.D0 l → l.id < 1 := fun l h => hid T l ((hC l).1 h)
  repeat' (first | refine Qa ?_ | ((first | apply Ba | (apply Bb; (· rfl); (· rfl)) | (apply Bc; (· exact nxE)) | (apply Bd; (· rfl); (· rfl); (· exact nxE))); (· first | exact Ok.pe); (first | refine Na ?_ | refine Nb ?_)) | ((first | apply Ca | (apply Cb; (· exact nxE))); (· first | exact Ok.e0); (first | refine Nc ?_ | refine Nd ?_)) | refine Oa ?_ | refine Ob ?_ | ((first | refine Ga (fun h => ?_) (fun h => ?_) | refine AD.gsplit rfl rfl (fun h => ?_) (fun h => ?_)) <;> try (exfalso; omega; done)) | (first | refine AL.gsplitB rfl rfl (fun h => ?_) (fun h => ?_) | refine AD.gsplitB rfl rfl (fun h => ?_) (fun h => ?_)) | refine Fa ?_ | refine Qb ?_ | refine Qc ?_ | refine Qd ?_ | refine Fb ?_ | refine Qe ?_ | refine Wa ?_ | refine Wb ?_ | (refine AW.ite rfl (fun h => ?_) (fun h => ?_) <;> try (exfalso; omega; done)) | refine AW.cond _ rfl (fun h => ?_) (fun h => ?_) | refine Qf ?_ | refine Qg ?_ | refine Qh ?_ | refine Qi ?_ | refine Xa ?_ | refine Xb ?_ | refine Xc ?_ | refine Xd ?_ | refine Fc ?_)
  refine AW.loop (X := {k : Nat // 2 * k ≤ m}) (fun k => ⟨[own1 1 m, Oo, I (k.1 : Nat), I ((m : Int) - 1 - (k.1 : Nat)), Oo, Oo, Oo, Oo, Oo, Oo, Oo, Oo, Oo, Oo, Oo, Oo, Oo, Oo, Oo, Oo, Oo, Oo, Oo, Oo, Oo, Oo, Oo, Oo], hpR R (rvAt [nilS] T k.1), 50⟩) (fun k => m - k.1) ⟨0, Nat.zero_le _⟩ ?_ (fun k => ?_)
  ·
    refine Le.same (fun l => by rw [rvAt_0]) (hpR_ok (fun r h => hTm r (rvAt_mem h))) ?_ (fun l h => Nat.lt_of_lt_of_le (hid _ l h) (by decide)) (fun l h => Nat.lt_of_lt_of_le (hD l h) (by decide))
    repeat' (first | exact ARs.nil | refine ARs.cons ?_ ?_ | exact AR.dead _ | exact AR.dd _ | exact AR.i (by (try dsimp only); omega) | exact AR.own _ _ _ _ (by simp [hpR, upd]))
  obtain ⟨k, hk⟩ := k
  simp only
  by_cases hlt : k < T.length - 1 - k
  · obtain ⟨p, hp⟩ : ∃ p, T[k]? = some p := ⟨T[k], by simp⟩
    obtain ⟨q, hq⟩ : ∃ q, T[T.length - 1 - k]? = some q := ⟨T[T.length - 1 - k], by simp⟩
    obtain ⟨pi, px, _, rfl⟩ := tRows_mem (hTm p (List.mem_of_getElem? hp))
    obtain ⟨qi, qx, _, rfl⟩ := tRows_mem (hTm q (List.mem_of_getElem? hq))
    have hI : (rvAt [nilS] T k)[0 + ((k : Nat) : Int).toNat]? = some [AV.own 1 (Loc.at ⟨0, []⟩ pi) 0 px.length] := by rw [Nat.zero_add, Int.toNat_natCast]; exact rvAt_i (z := [nilS]) hlt hp
    have hJ : (rvAt [nilS] T k)[0 + ((T.length - 1 - k : Nat) : Int).toNat]? = some [AV.own 1 (Loc.at ⟨0, []⟩ qi) 0 qx.length] := by rw [Nat.zero_add, Int.toNat_natCast]; exact rvAt_j (z := [nilS]) hlt hq
    have hJ2 : ((rvAt [nilS] T k).set k [AV.own 1 (Loc.at ⟨0, []⟩ qi) 0 qx.length])[0 + ((T.length - 1 - k : Nat) : Int).toNat]? = some [AV.own 1 (Loc.at ⟨0, []⟩ qi) 0 qx.length] := by rw [Nat.zero_add, Int.toNat_natCast]; exact rvAt_j2 (z := [nilS]) hlt hq
    have hS1 : (rvAt [nilS] T k).set (0 + ((k : Nat) : Int).toNat) (List.set [AV.own 1 (Loc.at ⟨0, []⟩ pi) 0 px.length] 0 (AV.own 1 (Loc.at ⟨0, []⟩ qi) 0 qx.length)) = (rvAt [nilS] T k).set k [AV.own 1 (Loc.at ⟨0, []⟩ qi) 0 qx.length] := by simp
    have hS2 : ((rvAt [nilS] T k).set k [AV.own 1 (Loc.at ⟨0, []⟩ qi) 0 qx.length]).set (0 + ((T.length - 1 - k : Nat) : Int).toNat) (List.set [AV.own 1 (Loc.at ⟨0, []⟩ qi) 0 qx.length] 0 (AV.own 1 (Loc.at ⟨0, []⟩ pi) 0 px.length)) = rvAt [nilS] T (k + 1) := by
      rw [← rvAt_swap (z := [nilS]) hlt hp hq]; simp
    have hj : (m : Int) - 1 - (k : Nat) = ((T.length - 1 - k : Nat) : Int) := by omega
    rw [hj]
    repeat' (first | refine Qa ?_ | ((first | apply Ba | (apply Bb; (· rfl); (· rfl)) | (apply Bc; (· exact nxE)) | (apply Bd; (· rfl); (· rfl); (· exact nxE))); (· first | exact OpOk.loadCell rfl rfl rfl rfl hI rfl | exact OpOk.loadCell rfl rfl rfl rfl hJ rfl | exact Ok.storeC rfl rfl rfl rfl hI Nat.zero_lt_one rfl rfl rfl hS1 | exact Ok.storeC rfl rfl rfl rfl hJ2 Nat.zero_lt_one rfl rfl rfl hS2 | exact Ok.pe); (first | refine Na ?_ | refine Nb ?_)) | ((first | apply Ca | (apply Cb; (· exact nxE))); (· first | exact Ok.storeC rfl rfl rfl rfl hI Nat.zero_lt_one rfl rfl rfl hS1 | exact Ok.storeC rfl rfl rfl rfl hJ2 Nat.zero_lt_one rfl rfl rfl hS2 | exact Ok.e0); (first | refine Nc ?_ | refine Nd ?_)) | refine Oa ?_ | refine Ob ?_ | ((first | refine Ga (fun h => ?_) (fun h => ?_) | refine AD.gsplit rfl rfl (fun h => ?_) (fun h => ?_)) <;> try (exfalso; omega; done)) | (first | refine AL.gsplitB rfl rfl (fun h => ?_) (fun h => ?_) | refine AD.gsplitB rfl rfl (fun h => ?_) (fun h => ?_)) | refine Fa ?_ | refine Qb ?_ | refine Qc ?_ | refine Qd ?_ | refine Fb ?_ | refine Qe ?_ | refine Wa ?_ | refine Wb ?_ | (refine AW.ite rfl (fun h => ?_) (fun h => ?_) <;> try (exfalso; omega; done)) | refine AW.cond _ rfl (fun h => ?_) (fun h => ?_) | refine Qf ?_ | refine Qg ?_ | refine Qh ?_ | refine Qi ?_ | refine Xa ?_ | refine Xb ?_ | refine Xc ?_ | refine Xd ?_ | refine Fc ?_)
    refine ⟨⟨k + 1, by omega⟩, ?_, by simp only; omega⟩
    refine Le.same (fun l => ?_) (hpR_ok (fun r h => hTm r (rvAt_mem h))) ?_ (fun l h => Nat.lt_of_lt_of_le (hid _ l h) (by decide)) (fun l h => Nat.lt_of_lt_of_le (hD l h) (by decide))
    · by_cases e : l = ⟨0, []⟩
      · subst e; rfl
      · simp only [upds, W.app, hpR, upd_ne e]
    repeat' (first | exact ARs.nil | refine ARs.cons ?_ ?_ | exact AR.dead _ | exact AR.dd _ | exact AR.i (by (try dsimp only); omega) | exact AR.own _ _ _ _ (by simp [hpR, upd]))
  have hrev : rvAt [nilS] T k = T.reverse := rvAt_all (by omega) (by omega)
  repeat' (first | refine Qa ?_ | ((first | apply Ba | (apply Bb; (· rfl); (· rfl)) | (apply Bc; (· exact nxE)) | (apply Bd; (· rfl); (· rfl); (· exact nxE))); (· first | exact Ok.pe); (first | refine Na ?_ | refine Nb ?_)) | ((first | apply Ca | (apply Cb; (· exact nxE))); (· first | exact Ok.e0); (first | refine Nc ?_ | refine Nd ?_)) | refine Oa ?_ | refine Ob ?_ | ((first | refine Ga (fun h => ?_) (fun h => ?_) | refine AD.gsplit rfl rfl (fun h => ?_) (fun h => ?_)) <;> try (exfalso; omega; done)) | (first | refine AL.gsplitB rfl rfl (fun h => ?_) (fun h => ?_) | refine AD.gsplitB rfl rfl (fun h => ?_) (fun h => ?_)) | refine Fa ?_ | refine Qb ?_ | refine Qc ?_ | refine Qd ?_ | refine Fb ?_ | refine Qe ?_ | refine Wa ?_ | refine Wb ?_ | (refine AW.ite rfl (fun h => ?_) (fun h => ?_) <;> try (exfalso; omega; done)) | refine AW.cond _ rfl (fun h => ?_) (fun h => ?_) | refine Qf ?_ | refine Qg ?_ | refine Qh ?_ | refine Qi ?_ | refine Xa ?_ | refine Xb ?_ | refine Xc ?_ | refine Xd ?_ | refine Fc ?_)
  all_goals
    refine end0 (by first | exact .inl rfl | exact .inr rfl) rfl (Le.same (n' := 1000) (fun l => by rw [hrev]) (hpR_ok (fun r h => hTm r (List.mem_reverse.1 h))) ?_ (fun l h => Nat.lt_of_lt_of_le (hid _ l h) (by decide)) (fun l h => Nat.lt_of_lt_of_le (hD l h) (by decide)))
    repeat' (first | exact ARs.nil | refine ARs.cons ?_ ?_ | exact AR.dead _ | exact AR.dd _ | refine ARs.tup ?_)
/-! ### The way back from a firing -/
def causeA (t : List (List Int)) (xs : List Pl) : Nat → Nat → Nat → List (List Int) → List (List Int)
  | 0, _, _, acc => acc
  | k + 1, r, e, acc => if stopC t xs r e then acc else causeA t xs k (r - (viaC t xs r e).k.toNat) (viaC t xs r e).f.toNat ([((r - (viaC t xs r e).k.toNat : Nat) : Int), ((viaC t xs r e).f.toNat : Int)] :: acc)
def inC (ev : Int) (t : List (List Int)) (r e : Int) : Bool := wi r 1 (t.length : Int) && wi e 0 (IntKind.i64.wrap (ev - 1))
def caQ (ev : Int) (xs : List Pl) (t : List (List Int)) (r e : Int) : Int := codeI ev xs (inC ev t r e && dueB ev t)
def caOutC (ev : Int) (xs : List Pl) (t : List (List Int)) (r e : Int) : Int := if caQ ev xs t r e = 0 then (if (eaOut ev xs t).length = 0 then 0 else 4) else caQ ev xs t r e
/-- What CauseOf answers. -/
def caOut (ev : Int) (xs : List Pl) (t : List (List Int)) (r e : Int) : List (List Int) := if caOutC ev xs t r e = 0 then causeA t xs 600 r.toNat e.toNat [[r, e]] else []
theorem caQ_ok {ev : Int} {xs : List Pl} {t : List (List Int)} {r e : Int} (h : caQ ev xs t r e = 0) : goodI ev xs t = 0 ∧ ∃ n r' e' : Nat, ev = n ∧ r = r' ∧ e = e' ∧ 1 ≤ r' ∧ r' ≤ t.length ∧ e' < n := by
  unfold caQ codeI at h
  unfold goodI codeI
  have hl : liveI ev xs = 0 := by
    split at h
    · cases h
    · exact h
  have hb : (inC ev t r e && dueB ev t) = true := by
    cases hb : (inC ev t r e && dueB ev t) with
    | true => rfl
    | false => rw [hb, hl] at h; simp at h
  simp only [Bool.and_eq_true] at hb
  obtain ⟨hb1, hb2⟩ := hb
  have hg : isEG ev xs = true := by
    cases hg : isEG ev xs with
    | true => rfl
    | false => unfold liveI at hl; rw [hg] at hl; simp at hl
  refine ⟨by rw [hl, hb2]; simp, ?_⟩
  obtain ⟨n, rfl, h1, h2, _⟩ := isEG_ok hg
  unfold inC at hb1
  rw [wrap_in (by omega) (by omega)] at hb1
  simp only [Bool.and_eq_true, wi_iff] at hb1
  exact ⟨n, r.toNat, e.toNat, rfl, by omega, by omega, by omega, by omega, by omega⟩
theorem mesC_max {n m r e : Nat} {ord : List Nat} (hr : r ≤ m) (hm : m ≤ 50) (hn : n ≤ 10) (he : ord.idxOf e < n) : mesC n ord r e < 600 := by
  unfold mesC
  have : r * (n + 1) ≤ 50 * 11 := Nat.mul_le_mul (by omega) (by omega)
  omega
/-- A step of the way back. -/
structure CaInv (t : List (List Int)) (xs : List Pl) (m n : Nat) (ord : List Nat) (res : List (List Int)) (s : Nat × Nat × Nat × List (List Int)) : Prop where
  r1 : 1 ≤ s.2.1
  rm : s.2.1 ≤ m
  en : s.2.2.1 < n
  ms : mesC n ord s.2.1 s.2.2.1 < s.1
  ln : s.2.2.2.length + s.1 = 601
  eq : causeA t xs s.1 s.2.1 s.2.2.1 s.2.2.2 = res
theorem CaInv.stop {t : List (List Int)} {xs : List Pl} {m n K r e : Nat} {ord : List Nat} {res acc : List (List Int)} (h : CaInv t xs m n ord res (K, r, e, acc)) (hs : stopC t xs r e) : res = acc := by
  have h1 := h.ms
  have h2 := h.eq
  simp only at h1 h2
  obtain ⟨K, rfl⟩ : ∃ k, K = k + 1 := ⟨K - 1, by omega⟩
  rw [causeA, if_pos hs] at h2
  exact h2.symm
theorem CaInv.step {t : List (List Int)} {xs : List Pl} {m n K r e : Nat} {ord : List Nat} {res acc : List (List Int)} (h : CaInv t xs m n ord res (K, r, e, acc)) (ho : ordR n xs = some ord) (hv : ∀ p ∈ xs, okPl n p) (h0 : ∀ i j, 0 ≤ entN t i j) (hs : ¬ stopC t xs r e) :
    ∃ (i : Nat) (p : Pl), xs[i]? = some p ∧ (alA t r e xs xs.length).2 = (i : Int) ∧ p.k + 1 ≤ r ∧ 1 ≤ K ∧ CaInv t xs m n ord res (K - 1, r - p.k.toNat, p.f.toNat, [((r - p.k.toNat : Nat) : Int), (p.f.toNat : Int)] :: acc) := by
  have h1 := h.ms
  have h2 := h.eq
  have h3 := h.ln
  have h4 := h.rm
  simp only at h1 h2 h3 h4
  obtain ⟨i, p, hp, ha, hvia, ht, hk, hlt⟩ := mesC_lt (m := m) (t := t) (r := r) (e := e) ho hv h0 h.en hs
  obtain ⟨K, rfl⟩ : ∃ k, K = k + 1 := ⟨K - 1, by omega⟩
  rw [causeA, if_neg hs, hvia] at h2
  obtain ⟨⟨a1, a2⟩, _, _, ⟨a5, a6⟩⟩ := hv p (List.mem_of_getElem? hp)
  exact ⟨i, p, hp, ha, hk, by omega, ⟨by simp only; omega, by simp only; omega, by simp only; omega, by simp only; omega, by simp only [List.length_cons]; omega, h2⟩⟩
theorem causeA_len {t : List (List Int)} {xs : List Pl} : ∀ (K r e : Nat) (acc : List (List Int)), (causeA t xs K r e acc).length ≤ acc.length + K
  | 0, r, e, acc => by simp [causeA]
  | K + 1, r, e, acc => by
    rw [causeA]
    split
    · omega
    · have := causeA_len (t := t) (xs := xs) K (r - (viaC t xs r e).k.toNat) (viaC t xs r e).f.toNat ([((r - (viaC t xs r e).k.toNat : Nat) : Int), ((viaC t xs r e).f.toNat : Int)] :: acc)
      simp only [List.length_cons] at this
      omega
theorem causeA_rows {t : List (List Int)} {xs : List Pl} : ∀ (K r e : Nat) (acc : List (List Int)), (∀ x ∈ acc, x.length = 2) → ∀ x ∈ causeA t xs K r e acc, x.length = 2
  | 0, r, e, acc, h => by simpa [causeA] using h
  | K + 1, r, e, acc, h => by
    rw [causeA]
    split
    · exact h
    · exact causeA_rows K _ _ _ (fun x hx => by rcases List.mem_cons.1 hx with rfl | hx; · rfl
                                                · exact h x hx)
theorem caOut_len {ev : Int} {xs : List Pl} {t : List (List Int)} {r e : Int} : (caOut ev xs t r e).length ≤ 1000 := by
  unfold caOut
  split
  · exact Nat.le_trans (causeA_len _ _ _ _) (by simp)
  · simp
theorem caOut_rows {ev : Int} {xs : List Pl} {t : List (List Int)} {r e : Int} : ∀ x ∈ caOut ev xs t r e, x.length ≤ 1000 := by
  unfold caOut
  split
  · intro x hx
    rw [causeA_rows _ _ _ _ (fun x hx => by simp at hx; subst hx; rfl) x hx]; decide
  · intro x hx; cases hx
theorem TR_row1 {t : List (List Int)} : ∀ r ∈ mRows 1 (TR t), r.length = 1 := fun r hr => by obtain ⟨x, _, rfl⟩ := List.mem_map.1 hr; rfl
theorem TR_one {t : List (List Int)} : ∀ r ∈ mRows 1 (TR t), (r.map AV.d).all AV.one = true := fun r hr => by obtain ⟨x, _, rfl⟩ := List.mem_map.1 hr; rfl
set_option maxHeartbeats 4000000 in
theorem causeOf_ac (n m : Nat) (xs : List Pl) (t : List (List Int)) (ord : List Nat) (r0 e0 : Nat) (hx : xs.length ≤ 100000000) (hv : ∀ p ∈ xs, okPl n p) (ht : Rc t m n) (h0 : ∀ i j, 0 ≤ entN t i j ∧ entN t i j ≤ 1000000) (hn : n ≤ 10) (hm : m ≤ 50) (ho : ordR n xs = some ord) (hr0 : 1 ≤ r0) (hrm : r0 ≤ m) (he0 : e0 < n) :
    AC Try.prog 145 [grD n xs, TL t, I r0, I e0] H0 (own1 1 (causeA t xs 600 r0 e0 [[(r0 : Int), (e0 : Int)]]).length) (hpM 1 (TR (causeA t xs 600 r0 e0 [[(r0 : Int), (e0 : Int)]]))) := by
  have htl := ht.l
  have hb : bndT t := fun i j => by have := h0 i j; omega
  have hpos : ∀ (r e : Nat), ∀ p ∈ xs, okP r e p → 0 ≤ valP t r p := fun r e p hp _ => by have := (hv p hp).2.2.1; have := h0 (r - 1 - p.k.toNat) p.f.toNat; unfold valP; omega
  generalize hres : causeA t xs 600 r0 e0 [[(r0 : Int), (e0 : Int)]] = res
  refine AC.of_body 0 Try.func145 rfl (fun l h => absurd rfl h) (fun C hC => ?_)
  have hD : ∀ l, ¬ C.D0 l := fun l h => (hC l).1 h rfl
  simp only [startFr, Try.ntmps145, List.length_cons, List.length_nil, Nat.reduceAdd, Nat.reduceSub, List.replicate_succ, List.replicate_zero, List.cons_append, List.nil_append]
  repeat' (first | refine Qa ?_ | ((first | apply Ba | (apply Bb; (· rfl); (· rfl)) | (apply Bc; (· exact nxE)) | (apply Bd; (· rfl); (· rfl); (· exact nxE))); (· first | exact Ok.bs2 rfl (by conv => lhs; whnf) (by conv => lhs; whnf) (by rfl) (by rfl) (by rfl) (by rfl) (by rfl) (by rfl) (by decide) | exact Ok.pe); (first | refine Na ?_ | refine Nb ?_)) | ((first | apply Ca | (apply Cb; (· exact nxE))); (· first | exact Ok.bs2 rfl (by conv => lhs; whnf) (by conv => lhs; whnf) (by rfl) (by rfl) (by rfl) (by rfl) (by rfl) (by rfl) (by decide) | exact Ok.e0); (first | refine Nc ?_ | refine Nd ?_)) | refine Oa ?_ | refine Ob ?_ | ((first | refine Ga (fun h => ?_) (fun h => ?_) | refine AD.gsplit rfl rfl (fun h => ?_) (fun h => ?_)) <;> try (exfalso; omega; done)) | (first | refine AL.gsplitB rfl rfl (fun h => ?_) (fun h => ?_) | refine AD.gsplitB rfl rfl (fun h => ?_) (fun h => ?_)) | refine Fa ?_ | refine Qb ?_ | refine Qc ?_ | refine Qd ?_ | refine Fb ?_ | refine Qe ?_ | refine Wa ?_ | refine Wb ?_ | (refine AW.ite rfl (fun h => ?_) (fun h => ?_) <;> try (exfalso; omega; done)) | refine AW.cond _ rfl (fun h => ?_) (fun h => ?_) | refine Qf ?_ | refine Qg ?_ | refine Qh ?_ | refine Qi ?_ | refine Xa ?_ | refine Xb ?_ | refine Xc ?_ | refine Xd ?_ | refine Fc ?_)
  refine AW.loop (X := {s : Nat × Nat × Nat × List (List Int) // CaInv t xs m n ord res s}) (fun s => ⟨[Oo, TL t, I s.1.2.1, I s.1.2.2.1, Bx 2 0, Oo, Oo, Oo, Oo, .own 1 ⟨1, []⟩ 0 s.1.2.2.2.reverse.length, Oo, Oo, Oo, Oo, Oo, Oo, Oo, Oo, Oo, Oo, Oo, Oo, Oo, Oo, Oo, Oo, Oo, Oo, Oo, Oo, Oo, Oo, Oo, Oo, Oo, Oo, Oo, Oo, Oo, Oo, Oo, Oo, Oo, Oo, Oo, Oo, Oo, Oo, Oo, Oo, Oo, Oo, Oo, Oo, Oo, Oo, Oo, Oo, Oo, Oo, Oo, Oo, Oo, Oo, Oo, Oo, Oo, Oo, Oo, Oo, Oo, Oo, Oo, Oo, Oo, Oo, Oo, Oo, Oo, Oo, Oo, Oo, Oo, Oo, Oo, Oo, Oo, Oo, Oo, Oo, Oo, Oo, Oo, Oo, Oo, Oo, Oo, Oo, Oo, Oo, Oo, Oo, Oo, Oo], heapX [(⟨0, []⟩, ⟨0, []⟩, ⟨2, [[I n, PL xs]]⟩)] [mi1 ⟨1, []⟩ (TR s.1.2.2.2.reverse)], 900⟩) (fun s => s.1.1) ⟨(600, r0, e0, [[(r0 : Int), (e0 : Int)]]), ⟨hr0, hrm, he0, mesC_max hrm hm hn ((ord_idx ho).2.2 e0 he0), rfl, hres⟩⟩ ?_ (fun s => ?_)
  ·
    (apply Le.headG [_] [{ l := ⟨1, []⟩, k := 1, R := TR (List.reverse [[(r0 : Int), (e0 : Int)]]), src := ⟨5, []⟩, base := ⟨5, []⟩, cut := 0, ext := some ⟨4, []⟩ }] (fun _ => False))
    (case' hlen => rfl)
    (case' hms => rfl)
    all_goals (try dsimp only [srcs])
    (case' hfr | hob => (repeat' (first | refine La ?_ ?_ | exact Lc | refine Lo ?_ | refine ⟨⟨_, rfl, ?_⟩, ?_⟩ | refine ObA.box ?_ | refine ObA.frE ?_ | refine ObA.dataE ?_ | refine ARs.agg ?_ | refine ARs.tup ?_ | refine AR.b ?_ | refine AR.iE ?_ | refine AR.e ?_ | refine AR.clo' ARs.nil ?_)))
    (case' hok => first | exact ⟨MI.ok_app (R := []) rfl rfl rfl rfl (fun i x hx => by simp at hx) rfl, trivial⟩ | exact trivial)
    (case' hN => rfl)
    (case' hS => rfl)
    all_goals (first | exact Ld | ((simp [AllP]; done)))
  obtain ⟨⟨K, r, e, acc⟩, hI⟩ := s
  simp only
  have hr1 : 1 ≤ r := hI.r1
  have hrm : r ≤ m := hI.rm
  have hen : e < n := hI.en
  have hln : acc.length + K = 601 := hI.ln
  obtain ⟨q, rfl⟩ : ∃ q, r = q + 1 := ⟨r - 1, by omega⟩
  have hA := allowedTime_ac n m xs t q e hx hv ht hb (by omega) (by omega)
  have hat := atA_eq (t := t) (r := q + 1) (e := e) (xs := xs) (hpos _ _)
  have hval := alT_le (n := n) (t := t) (r := q + 1) (e := e) (xs := xs) (B := 1000000) (by omega) (fun a b => (h0 a b).2) hv
  rw [show (alA t (q + 1) e xs xs.length).1 = alT t (q + 1) e xs from rfl] at hat
  obtain ⟨R, hR1, hR2, hR3⟩ := ht.get (show q < m by omega) hen
  have hRr : (mRows 1 (TR t))[(((q + 1 : Nat) : Int) - 1).toNat]? = some [.sl 1 (IR R)] := by
    have := TR_get hR1
    rwa [show (((q + 1 : Nat) : Int) - 1).toNat = ((q : Nat) : Int).toNat by omega]
  have hRf := IR_get hR2
  have hRl : (IR R).length = n := by rw [IR_len, hR3]
  have hq : (q : Int) = ((q + 1 : Nat) : Int) - 1 := by omega
  rw [hq] at hA
  generalize hvv : alT t (q + 1) e xs = v at hA hat hval
  repeat' (first | refine Qa ?_ | ((first | apply Ba | (apply Bb; (· rfl); (· rfl)) | (apply Bc; (· exact nxE)) | (apply Bd; (· rfl); (· rfl); (· exact nxE))); (· first | exact Kz rfl rfl (hA) (Aa (Ad (Ad An)) (Ad (Ad (Ad An)))) | exact Ok.pe); (first | refine Na ?_ | refine Nb ?_)) | ((first | apply Ca | (apply Cb; (· exact nxE))); (· first | exact Ok.e0); (first | refine Nc ?_ | refine Nd ?_)) | refine Oa ?_ | refine Ob ?_ | ((first | refine Ga (fun h => ?_) (fun h => ?_) | refine AD.gsplit rfl rfl (fun h => ?_) (fun h => ?_)) <;> try (exfalso; omega; done)) | (first | refine AL.gsplitB rfl rfl (fun h => ?_) (fun h => ?_) | refine AD.gsplitB rfl rfl (fun h => ?_) (fun h => ?_)) | refine Fa ?_ | refine Qb ?_ | refine Qc ?_ | refine Qd ?_ | refine Fb ?_ | refine Qe ?_ | refine Wa ?_ | refine Wb ?_ | (refine AW.ite rfl (fun h => ?_) (fun h => ?_) <;> try (exfalso; omega; done)) | refine AW.cond _ rfl (fun h => ?_) (fun h => ?_) | refine Qf ?_ | refine Qg ?_ | refine Qh ?_ | refine Qi ?_ | refine Xa ?_ | refine Xb ?_ | refine Xc ?_ | refine Xd ?_ | refine Fc ?_)
  refine AW.loop (X := {k : Nat // k ≤ xs.length}) (fun k => ⟨[Oo, TL t, I ((q + 1 : Nat) : Int), I e, Bx 2 0, Oo, Oo, Oo, Oo, .own 1 ⟨1, []⟩ 0 acc.reverse.length, I (((q + 1 : Nat) : Int) - 1), I v, I (atA t (q + 1) e v xs (k.1 : Nat)), Oo, Oo, Oo, Oo, Oo, Oo, Oo, Oo, Oo, Oo, Oo, Oo, Oo, Oo, Oo, PL xs, I xs.length, I (k.1 : Nat), Oo, Oo, Oo, Oo, Oo, Oo, Oo, Oo, Oo, Oo, Oo, Oo, Oo, Oo, Oo, Oo, Oo, Oo, Oo, Oo, Oo, Oo, Oo, Oo, Oo, Oo, Oo, Oo, Oo, Oo, Oo, Oo, Oo, Oo, Oo, Oo, Oo, Oo, Oo, Oo, Oo, Oo, Oo, Oo, Oo, Oo, Oo, Oo, Oo, Oo, Oo, Oo, Oo, Oo, Oo, Oo, Oo, Oo, Oo, Oo, Oo, Oo, Oo, Oo, Oo, Oo, Oo, Oo, Oo, Oo, Oo, Oo, Oo], heapX [(⟨0, []⟩, ⟨0, []⟩, ⟨2, [[I n, PL xs]]⟩)] [mi1 ⟨1, []⟩ (TR acc.reverse)], 900⟩) (fun k => xs.length - k.1) ⟨0, Nat.zero_le _⟩ ?_ (fun k => ?_)
  ·
    (apply Le.headG [_] [mi1 ⟨1, []⟩ (TR acc.reverse)] (fun _ => False))
    (case' hlen => rfl)
    (case' hms => rfl)
    all_goals (try dsimp only [srcs])
    (case' hfr | hob => (repeat' (first | refine La ?_ ?_ | exact Lc | refine Lo ?_ | refine ⟨⟨_, rfl, ?_⟩, ?_⟩ | refine ObA.box ?_ | refine ObA.frE ?_ | refine ObA.dataE ?_ | refine ARs.agg ?_ | refine ARs.tup ?_ | refine AR.b ?_ | refine AR.iE ?_ | refine AR.e ?_ | refine AR.clo' ARs.nil ?_)))
    (case' hok => first | exact ⟨MI.ok_same rfl (Cg), trivial⟩ | exact trivial)
    (case' hN => rfl)
    (case' hS => rfl)
    all_goals (first | exact Ld | (rfl))
  obtain ⟨k, hk⟩ := k
  simp only
  by_cases hlt : k < xs.length
  · obtain ⟨p, hp⟩ : ∃ p, xs[k]? = some p := ⟨xs[k], by simp⟩
    have hst := atA_step (t := t) (r := q + 1) (e := e) (v := v) hp
    have hspec := atA_spec (t := t) (r := q + 1) (e := e) (v := v) (xs := xs) k hk
    obtain ⟨⟨h1, h2⟩, ⟨h3, h4⟩, ⟨h5, h6⟩, ⟨h7, h8⟩⟩ := hv p (List.mem_of_getElem? hp)
    obtain ⟨pf, pt, pd, pk⟩ := p
    obtain ⟨f, rfl⟩ : ∃ f : Nat, pf = f := ⟨pf.toNat, by simp at h1; omega⟩
    obtain ⟨g, rfl⟩ : ∃ g : Nat, pk = g := ⟨pk.toNat, by simp at h7; omega⟩
    simp only at h2 h3 h4 h5 h6 h8
    have hrow : (xs.map Pl.row)[((k : Nat) : Int).toNat]? = some [DI f, DI pt, DI pd, DI g] := row_get hp
    have ha : atA t (q + 1) e v xs k = -1 ∨ 0 ≤ atA t (q + 1) e v xs k := by
      rcases hspec with ⟨h, _⟩ | ⟨i, _, _, _, _, _, h, _⟩
      · exact .inl h
      · exact .inr (by rw [h]; omega)
    generalize hA2 : atA t (q + 1) e v xs k = a at hst ha
    have hok : okP (q + 1) e ⟨f, pt, pd, g⟩ ↔ pt = e ∧ (g : Int) ≤ q := by unfold okP; simp only; omega
    have hvp : valP t (q + 1) ⟨f, pt, pd, g⟩ = entN t (q - g) f + pd := by unfold valP; simp only [Int.toNat_natCast, Nat.add_sub_cancel]
    simp only [hok, hvp] at hst
    by_cases hin : a < 0 ∧ pt = e ∧ (g : Int) ≤ q
    · obtain ⟨R2, hR21, hR22, hR23⟩ := ht.get (show q - g < m by omega) (show f < n by omega)
      have hRr2 : (mRows 1 (TR t))[(((q + 1 : Nat) : Int) - 1 - g).toNat]? = some [.sl 1 (IR R2)] := by
        have := TR_get hR21
        rwa [show (((q + 1 : Nat) : Int) - 1 - g).toNat = ((q - g : Nat) : Int).toNat by omega]
      have hRf2 := IR_get hR22
      have hRl2 : (IR R2).length = n := by rw [IR_len, hR23]
      have hbe := h0 (q - g) f
      by_cases hev : entN t (q - g) f + pd = v
      · rw [if_pos ⟨hin.1, hin.2, hev⟩] at hst
        repeat' (first | refine Qa ?_ | ((first | apply Ba | (apply Bb; (· rfl); (· rfl)) | (apply Bc; (· exact nxE)) | (apply Bd; (· rfl); (· rfl); (· exact nxE))); (· first | exact Ok.pe); (first | refine Na ?_ | refine Nb ?_)) | ((first | apply Ca | (apply Cb; (· exact nxE))); (· first | exact Ok.e0); (first | refine Nc ?_ | refine Nd ?_)) | refine Oa ?_ | refine Ob ?_ | ((first | refine Ga (fun h => ?_) (fun h => ?_) | refine AD.gsplit rfl rfl (fun h => ?_) (fun h => ?_)) <;> try (exfalso; omega; done)) | (first | refine AL.gsplitB rfl rfl (fun h => ?_) (fun h => ?_) | refine AD.gsplitB rfl rfl (fun h => ?_) (fun h => ?_)) | refine Fa ?_ | refine Qb ?_ | refine Qc ?_ | refine Qd ?_ | refine Fb ?_ | refine Qe ?_ | refine Wa ?_ | refine Wb ?_ | (refine AW.ite rfl (fun h => ?_) (fun h => ?_) <;> try (exfalso; omega; done)) | refine AW.cond _ rfl (fun h => ?_) (fun h => ?_) | refine Qf ?_ | refine Qg ?_ | refine Qh ?_ | refine Qi ?_ | refine Xa ?_ | refine Xb ?_ | refine Xc ?_ | refine Xd ?_ | refine Fc ?_)
        all_goals
          refine ⟨⟨k + 1, by omega⟩, ?_, by simp only; omega⟩
          (apply Le.headG [_] [mi1 ⟨1, []⟩ (TR acc.reverse)] (fun _ => False))
          (case' hlen => rfl)
          (case' hms => rfl)
          all_goals (try dsimp only [srcs])
          (case' hfr | hob => (repeat' (first | refine La ?_ ?_ | exact Lc | refine Lo ?_ | refine ⟨⟨_, rfl, ?_⟩, ?_⟩ | refine ObA.box ?_ | refine ObA.frE ?_ | refine ObA.dataE ?_ | refine ARs.agg ?_ | refine ARs.tup ?_ | refine AR.b ?_ | refine AR.iE ?_ | refine AR.e ?_ | refine AR.clo' ARs.nil ?_)))
          (case' hok => first | exact ⟨MI.ok_same rfl (Cg), trivial⟩ | exact trivial)
          (case' hN => rfl)
          (case' hS => rfl)
          all_goals (first | exact Ld | (((try dsimp only); rw [hst]; first | done | rfl)))
      · rw [if_neg (fun h => hev h.2.2)] at hst
        repeat' (first | refine Qa ?_ | ((first | apply Ba | (apply Bb; (· rfl); (· rfl)) | (apply Bc; (· exact nxE)) | (apply Bd; (· rfl); (· rfl); (· exact nxE))); (· first | exact Ok.pe); (first | refine Na ?_ | refine Nb ?_)) | ((first | apply Ca | (apply Cb; (· exact nxE))); (· first | exact Ok.e0); (first | refine Nc ?_ | refine Nd ?_)) | refine Oa ?_ | refine Ob ?_ | ((first | refine Ga (fun h => ?_) (fun h => ?_) | refine AD.gsplit rfl rfl (fun h => ?_) (fun h => ?_)) <;> try (exfalso; omega; done)) | (first | refine AL.gsplitB rfl rfl (fun h => ?_) (fun h => ?_) | refine AD.gsplitB rfl rfl (fun h => ?_) (fun h => ?_)) | refine Fa ?_ | refine Qb ?_ | refine Qc ?_ | refine Qd ?_ | refine Fb ?_ | refine Qe ?_ | refine Wa ?_ | refine Wb ?_ | (refine AW.ite rfl (fun h => ?_) (fun h => ?_) <;> try (exfalso; omega; done)) | refine AW.cond _ rfl (fun h => ?_) (fun h => ?_) | refine Qf ?_ | refine Qg ?_ | refine Qh ?_ | refine Qi ?_ | refine Xa ?_ | refine Xb ?_ | refine Xc ?_ | refine Xd ?_ | refine Fc ?_)
        all_goals
          refine ⟨⟨k + 1, by omega⟩, ?_, by simp only; omega⟩
          (apply Le.headG [_] [mi1 ⟨1, []⟩ (TR acc.reverse)] (fun _ => False))
          (case' hlen => rfl)
          (case' hms => rfl)
          all_goals (try dsimp only [srcs])
          (case' hfr | hob => (repeat' (first | refine La ?_ ?_ | exact Lc | refine Lo ?_ | refine ⟨⟨_, rfl, ?_⟩, ?_⟩ | refine ObA.box ?_ | refine ObA.frE ?_ | refine ObA.dataE ?_ | refine ARs.agg ?_ | refine ARs.tup ?_ | refine AR.b ?_ | refine AR.iE ?_ | refine AR.e ?_ | refine AR.clo' ARs.nil ?_)))
          (case' hok => first | exact ⟨MI.ok_same rfl (Cg), trivial⟩ | exact trivial)
          (case' hN => rfl)
          (case' hS => rfl)
          all_goals (first | exact Ld | (((try dsimp only); rw [hst]; first | done | rfl)))
    · rw [if_neg (fun h => hin ⟨h.1, h.2.1⟩)] at hst
      repeat' (first | refine Qa ?_ | ((first | apply Ba | (apply Bb; (· rfl); (· rfl)) | (apply Bc; (· exact nxE)) | (apply Bd; (· rfl); (· rfl); (· exact nxE))); (· first | exact Ok.pe); (first | refine Na ?_ | refine Nb ?_)) | ((first | apply Ca | (apply Cb; (· exact nxE))); (· first | exact Ok.e0); (first | refine Nc ?_ | refine Nd ?_)) | refine Oa ?_ | refine Ob ?_ | ((first | refine Ga (fun h => ?_) (fun h => ?_) | refine AD.gsplit rfl rfl (fun h => ?_) (fun h => ?_)) <;> try (exfalso; omega; done)) | (first | refine AL.gsplitB rfl rfl (fun h => ?_) (fun h => ?_) | refine AD.gsplitB rfl rfl (fun h => ?_) (fun h => ?_)) | refine Fa ?_ | refine Qb ?_ | refine Qc ?_ | refine Qd ?_ | refine Fb ?_ | refine Qe ?_ | refine Wa ?_ | refine Wb ?_ | (refine AW.ite rfl (fun h => ?_) (fun h => ?_) <;> try (exfalso; omega; done)) | refine AW.cond _ rfl (fun h => ?_) (fun h => ?_) | refine Qf ?_ | refine Qg ?_ | refine Qh ?_ | refine Qi ?_ | refine Xa ?_ | refine Xb ?_ | refine Xc ?_ | refine Xd ?_ | refine Fc ?_)
      all_goals
        refine ⟨⟨k + 1, by omega⟩, ?_, by simp only; omega⟩
        (apply Le.headG [_] [mi1 ⟨1, []⟩ (TR acc.reverse)] (fun _ => False))
        (case' hlen => rfl)
        (case' hms => rfl)
        all_goals (try dsimp only [srcs])
        (case' hfr | hob => (repeat' (first | refine La ?_ ?_ | exact Lc | refine Lo ?_ | refine ⟨⟨_, rfl, ?_⟩, ?_⟩ | refine ObA.box ?_ | refine ObA.frE ?_ | refine ObA.dataE ?_ | refine ARs.agg ?_ | refine ARs.tup ?_ | refine AR.b ?_ | refine AR.iE ?_ | refine AR.e ?_ | refine AR.clo' ARs.nil ?_)))
        (case' hok => first | exact ⟨MI.ok_same rfl (Cg), trivial⟩ | exact trivial)
        (case' hN => rfl)
        (case' hS => rfl)
        all_goals (first | exact Ld | (((try dsimp only); rw [hst]; first | done | rfl)))
  ·
    have hkn : k = xs.length := by omega
    subst hkn
    rw [hat]
    have hrl : (TR acc.reverse).length = acc.reverse.length := by simp
    by_cases hs : stopC t xs (q + 1) e
    ·
      have hra := hI.stop hs
      unfold stopC at hs
      rw [show (alA t (q + 1) e xs xs.length).1 = v from hvv, Nat.add_sub_cancel] at hs
      generalize ha2 : (alA t (q + 1) e xs xs.length).2 = a2 at hs
      have hRev := revT_ac (TR acc.reverse) acc.reverse.length hrl (by simp; omega)
      have e1 : (TR acc.reverse).reverse = TR acc := by simp
      have e2 : acc.reverse.length = acc.length := by simp
      repeat' (first | refine Qa ?_ | ((first | apply Ba | (apply Bb; (· rfl); (· rfl)) | (apply Bc; (· exact nxE)) | (apply Bd; (· rfl); (· rfl); (· exact nxE))); (· first | exact OpOk.callR rfl rfl rfl hRev ⟨rfl, Cg⟩ | exact Ok.pe); (first | refine Na ?_ | refine Nb ?_)) | ((first | apply Ca | (apply Cb; (· exact nxE))); (· first | exact OpOk.callR rfl rfl rfl hRev ⟨rfl, Cg⟩ | exact Ok.e0); (first | refine Nc ?_ | refine Nd ?_)) | refine Oa ?_ | refine Ob ?_ | ((first | refine Ga (fun h => ?_) (fun h => ?_) | refine AD.gsplit rfl rfl (fun h => ?_) (fun h => ?_)) <;> try (exfalso; omega; done)) | (first | refine AL.gsplitB rfl rfl (fun h => ?_) (fun h => ?_) | refine AD.gsplitB rfl rfl (fun h => ?_) (fun h => ?_)) | refine Fa ?_ | refine Qb ?_ | refine Qc ?_ | refine Qd ?_ | refine Fb ?_ | refine Qe ?_ | refine Wa ?_ | refine Wb ?_ | (refine AW.ite rfl (fun h => ?_) (fun h => ?_) <;> try (exfalso; omega; done)) | refine AW.cond _ rfl (fun h => ?_) (fun h => ?_) | refine Qf ?_ | refine Qg ?_ | refine Qh ?_ | refine Qi ?_ | refine Xa ?_ | refine Xb ?_ | refine Xc ?_ | refine Xd ?_ | refine Fc ?_)
      all_goals
        rw [hra, ← e1]
        refine end1 (.inl rfl) rfl (by first | exact rT rfl | exact rCA rfl rfl rfl rfl (by simp) | exact rCC rfl rfl rfl rfl rfl) rfl ?_ (n' := 1000)
        rw [← e2]
        exact Le.revT rfl (Cg) hrl (by decide) hD
    ·
      obtain ⟨i, p, hp, ha2, hpk, hK, hI2⟩ := hI.step ho hv (fun i j => (h0 i j).1) hs
      unfold stopC at hs
      rw [show (alA t (q + 1) e xs xs.length).1 = v from hvv, Nat.add_sub_cancel] at hs
      rw [ha2] at hs ⊢
      have hil := (List.getElem?_eq_some_iff.1 hp).1
      obtain ⟨⟨h1, h2⟩, ⟨h3, h4⟩, ⟨h5, h6⟩, ⟨h7, h8⟩⟩ := hv p (List.mem_of_getElem? hp)
      obtain ⟨pf, pt, pd, pk⟩ := p
      simp only at h1 h2 h3 h4 h5 h6 h7 h8 hpk
      have hrow : (xs.map Pl.row)[((i : Nat) : Int).toNat]? = some [DI pf, DI pt, DI pd, DI pk] := row_get hp
      have hrp : ((q + 1 : Nat) : Int) - pk = ((q + 1 - pk.toNat : Nat) : Int) := by omega
      have hfp : pf = ((pf.toNat : Nat) : Int) := by omega
      repeat' (first | refine Qa ?_ | ((first | apply Ba | (apply Bb; (· rfl); (· rfl)) | (apply Bc; (· exact nxE)) | (apply Bd; (· rfl); (· rfl); (· exact nxE))); (· first | exact Ok.bs2 rfl (by conv => lhs; whnf) (by conv => lhs; whnf) (by rfl) (by rfl) (by rfl) (by rfl) (by rfl) (by rfl) (by decide) | exact Ok.appendT rfl rfl (by decide) rfl rfl rfl (by simp [outer_len]; done) rfl rfl (by rfl) (by simp; omega) (by simp; omega) rfl | exact Ok.pe); (first | refine Na ?_ | refine Nb ?_)) | ((first | apply Ca | (apply Cb; (· exact nxE))); (· first | exact Ok.bs2 rfl (by conv => lhs; whnf) (by conv => lhs; whnf) (by rfl) (by rfl) (by rfl) (by rfl) (by rfl) (by rfl) (by decide) | exact Ok.appendT rfl rfl (by decide) rfl rfl rfl (by simp [outer_len]; done) rfl rfl (by rfl) (by simp; omega) (by simp; omega) rfl | exact Ok.e0); (first | refine Nc ?_ | refine Nd ?_)) | refine Oa ?_ | refine Ob ?_ | ((first | refine Ga (fun h => ?_) (fun h => ?_) | refine AD.gsplit rfl rfl (fun h => ?_) (fun h => ?_)) <;> try (exfalso; omega; done)) | (first | refine AL.gsplitB rfl rfl (fun h => ?_) (fun h => ?_) | refine AD.gsplitB rfl rfl (fun h => ?_) (fun h => ?_)) | refine Fa ?_ | refine Qb ?_ | refine Qc ?_ | refine Qd ?_ | refine Fb ?_ | refine Qe ?_ | refine Wa ?_ | refine Wb ?_ | (refine AW.ite rfl (fun h => ?_) (fun h => ?_) <;> try (exfalso; omega; done)) | refine AW.cond _ rfl (fun h => ?_) (fun h => ?_) | refine Qf ?_ | refine Qg ?_ | refine Qh ?_ | refine Qi ?_ | refine Xa ?_ | refine Xb ?_ | refine Xc ?_ | refine Xd ?_ | refine Fc ?_)
      refine ⟨⟨_, hI2⟩, ?_, by simp only; omega⟩
      simp only
      rw [← hrp, ← hfp]
      (apply Le.headG [_] [{ l := ⟨1, []⟩, k := 1, R := TR (List.reverse ([((q + 1 : Nat) : Int) - pk, pf] :: acc)), src := ⟨935, []⟩, base := ⟨1, []⟩, cut := acc.reverse.length, ext := some ⟨933, []⟩ }] (fun _ => False))
      (case' hlen => rfl)
      (case' hms => rfl)
      all_goals (try dsimp only [srcs])
      (case' hfr | hob => (repeat' (first | refine La ?_ ?_ | exact Lc | refine Lo ?_ | refine ⟨⟨_, rfl, ?_⟩, ?_⟩ | refine ObA.box ?_ | refine ObA.frE ?_ | refine ObA.dataE ?_ | refine ARs.agg ?_ | refine ARs.tup ?_ | refine AR.b ?_ | refine AR.iE ?_ | refine AR.e ?_ | refine AR.clo' ARs.nil ?_)))
      (case' hok => first | exact ⟨MI.ok_app (R := TR acc.reverse) (TR_snoc (r := [((q + 1 : Nat) : Int) - pk, pf]) (by simp)) (by simp) rfl rfl (Cg) rfl, trivial⟩ | exact trivial)
      (case' hN => rfl)
      (case' hS => rfl)
      all_goals (first | exact Ld | ((first | (simp [AllP]; done) | (simp; done))))
set_option maxHeartbeats 4000000 in
theorem sCauseOf_ac (ev : Int) (xs : List Pl) (t : List (List Int)) (r e : Int) (hx : xs.length ≤ 100000000) (ht : t.length ≤ 100000000) (hr : ∀ r ∈ t, r.length ≤ 100000000) : AC Try.prog 42 [grD ev xs, TL t, I r, I e] H0 (.tup [TL (caOut ev xs t r e), I (caOutC ev xs t r e)]) H0 := by
  have hc := fun b => l26Code_ac ev xs t b hx ht hr
  have hE := sEarlyFirings_ac ev xs t hx ht hr
  by_cases hq0 : caQ ev xs t r e = 0
  · obtain ⟨hg0, n, r0, e0, rfl, rfl, rfl, hr1, hrm, hen⟩ := caQ_ok hq0
    obtain ⟨n', hnn, h1, h2, h3, h4, h5, h6⟩ := code_ok hg0
    obtain rfl : n = n' := by omega
    have hmm : t.length ≤ 50 := (dueB_ok h5).2.1
    have hrc := (dueB_ok h5).1
    have h0 := (dueB_ok h5).2.2
    have hb := dueB_bnd h5
    rw [liveB_ord h4] at h6
    obtain ⟨ord, ho⟩ := Option.isSome_iff_exists.1 h6
    have hw : IntKind.i64.wrap ((n : Int) - 1) = n - 1 := wrap_in (by omega) (by omega)
    have hw1 : wi (r0 : Int) 1 (t.length : Int) = true := wi_iff.2 ⟨by omega, by omega⟩
    have hw2 : wi (e0 : Int) 0 ((n : Int) - 1) = true := wi_iff.2 ⟨by omega, by omega⟩
    have hcT := hc true
    have hd : dueB (n : Int) t = true := h5
    rw [Bool.true_and, show codeI n xs (dueB n t) = 0 from hg0] at hcT
    have hI1 := l01In_ac (r0 : Int) 1 (t.length : Int)
    have hI2 := l01In_ac (e0 : Int) 0 ((n : Int) - 1)
    rw [hw1] at hI1
    rw [hw2] at hI2
    rw [hg0] at hE
    by_cases hel : (eaOut n xs t).length = 0
    ·
      have hC0 : caOutC n xs t r0 e0 = 0 := by unfold caOutC; rw [if_pos hq0, if_pos hel]
      unfold caOut
      rw [hC0, if_pos rfl, Int.toNat_natCast, Int.toNat_natCast]
      generalize hres : causeA t xs 600 r0 e0 [[(r0 : Int), (e0 : Int)]] = res
      generalize hm : t.length = m at hmm hrc hrm
      refine AC.of_body 0 Try.func42 rfl (fun l h => absurd rfl h) (fun C hC => ?_)
      have hD : ∀ l, ¬ C.D0 l := fun l h => (hC l).1 h rfl
      simp only [startFr, Try.ntmps42, List.length_cons, List.length_nil, Nat.reduceAdd, Nat.reduceSub, List.replicate_succ, List.replicate_zero, List.cons_append, List.nil_append]
      repeat' (first | refine Qa ?_ | ((first | apply Ba | (apply Bb; (· rfl); (· rfl)) | (apply Bc; (· exact nxE)) | (apply Bd; (· rfl); (· rfl); (· exact nxE))); (· first | exact Kz rfl rfl (hI1) (Ad (Ad (Ad An))) | exact Kz rfl rfl (hI2) (Ad (Ad (Ad An))) | exact Kz rfl rfl (hcT) (Aa (Ad (Ad An)) (Ad (Ad An))) | exact Kz rfl rfl (hE) (Aa (Ad (Ad An)) (Ad An)) | exact Ok.bs2 rfl (by conv => lhs; whnf) (by conv => lhs; whnf) (by rfl) (by rfl) (by rfl) (by rfl) (by rfl) (by rfl) (by decide) | exact Ok.pe); (first | refine Na ?_ | refine Nb ?_)) | ((first | apply Ca | (apply Cb; (· exact nxE))); (· first | exact Ok.bs2 rfl (by conv => lhs; whnf) (by conv => lhs; whnf) (by rfl) (by rfl) (by rfl) (by rfl) (by rfl) (by rfl) (by decide) | exact Ok.e0); (first | refine Nc ?_ | refine Nd ?_)) | refine Oa ?_ | refine Ob ?_ | ((first | refine Ga (fun h => ?_) (fun h => ?_) | refine AD.gsplit rfl rfl (fun h => ?_) (fun h => ?_)) <;> try (exfalso; omega; done)) | (first | refine AL.gsplitB rfl rfl (fun h => ?_) (fun h => ?_) | refine AD.gsplitB rfl rfl (fun h => ?_) (fun h => ?_)) | refine Fa ?_ | refine Qb ?_ | refine Qc ?_ | refine Qd ?_ | refine Fb ?_ | refine Qe ?_ | refine Wa ?_ | refine Wb ?_ | (refine AW.ite rfl (fun h => ?_) (fun h => ?_) <;> try (exfalso; omega; done)) | refine AW.cond _ rfl (fun h => ?_) (fun h => ?_) | refine Qf ?_ | refine Qg ?_ | refine Qh ?_ | refine Qi ?_ | refine Xa ?_ | refine Xb ?_ | refine Xc ?_ | refine Xd ?_ | refine Fc ?_)
      refine AW.loop (X := {s : Nat × Nat × Nat × List (List Int) // CaInv t xs m n ord res s}) (fun s => ⟨[Oo, TL t, I s.1.2.1, I s.1.2.2.1, Bx 2 0, Oo, Oo, Oo, Oo, Oo, Oo, Oo, Oo, TL s.1.2.2.2, Oo, Oo, Oo, Oo, Oo, Oo, Oo, Oo, Oo, Oo, Oo, Oo, Oo, Oo, Oo, Oo, Oo, Oo, Oo, Oo, Oo, Oo, Oo, Oo, Oo, Oo, Oo, Oo, Oo, Oo, Oo, Oo, Oo, Oo, Oo, Oo, Oo, Oo, Oo, Oo, Oo, Oo, Oo, Oo, Oo, Oo, Oo, Oo, Oo, Oo, Oo, Oo, Oo, Oo, Oo, Oo, Oo, Oo, Oo, Oo, Oo, Oo, Oo, Oo, Oo, Oo, Oo, Oo, Oo, Oo, Oo, Oo, Oo, Oo, Oo], heapL [(⟨0, []⟩, ⟨0, []⟩, ⟨2, [[I n, PL xs]]⟩)], 900⟩) (fun s => s.1.1) ⟨(600, r0, e0, [[(r0 : Int), (e0 : Int)]]), ⟨hr1, hrm, hen, mesC_max hrm hmm h2 ((ord_idx ho).2.2 e0 hen), rfl, hres⟩⟩ ?_ (fun s => ?_)
      ·
        (apply Le.headZ [_] rfl)
        all_goals (try dsimp only [srcs])
        (case' hfr | hob => (repeat' (first | exact AR.mix rfl rfl rfl (by simp) (by simp) (by simp) | refine La ?_ ?_ | exact Lc | refine Lo ?_ | refine ⟨⟨_, rfl, ?_⟩, ?_⟩ | refine ObA.box ?_ | refine ObA.frE ?_ | refine ObA.dataE ?_ | refine ARs.agg ?_ | refine ARs.tup ?_ | refine AR.b ?_ | refine AR.iE ?_ | refine AR.e ?_ | refine AR.clo' ARs.nil ?_)))
        all_goals (first | (rfl) | exact Ld)
      obtain ⟨⟨K, r, e, acc⟩, hI⟩ := s
      simp only
      have hr1 : 1 ≤ r := hI.r1
      have hrm : r ≤ m := hI.rm
      have hen : e < n := hI.en
      have hln : acc.length + K = 601 := hI.ln
      have hA := l26Allowed_ac n m xs t r e hx h4 hrc hb hrm (by omega)
      obtain ⟨R, hR1, hR2, hR3⟩ := hrc.get (show r - 1 < m by omega) hen
      have hRr : (mRows 1 (TR t))[((r : Int) - 1).toNat]? = some [.sl 1 (IR R)] := by
        have := TR_get hR1
        rwa [show ((r : Int) - 1).toNat = ((r - 1 : Nat) : Int).toNat by omega]
      have hRf := IR_get hR2
      have hRl : (IR R).length = n := by rw [IR_len, hR3]
      by_cases hs : stopC t xs r e
      ·
        rw [hI.stop hs]
        unfold stopC at hs
        generalize hal : alA t r e xs xs.length = A at hA hs
        obtain ⟨a1, a2⟩ := A
        simp only at hA hs
        repeat' (first | refine Qa ?_ | ((first | apply Ba | (apply Bb; (· rfl); (· rfl)) | (apply Bc; (· exact nxE)) | (apply Bd; (· rfl); (· rfl); (· exact nxE))); (· first | exact Kz rfl rfl (hA) (Aa (Ad (Ad An)) (Ad (Ad (Ad An)))) | exact Ok.pe); (first | refine Na ?_ | refine Nb ?_)) | ((first | apply Ca | (apply Cb; (· exact nxE))); (· first | exact Ok.e0); (first | refine Nc ?_ | refine Nd ?_)) | refine Oa ?_ | refine Ob ?_ | ((first | refine Ga (fun h => ?_) (fun h => ?_) | refine AD.gsplit rfl rfl (fun h => ?_) (fun h => ?_)) <;> try (exfalso; omega; done)) | (first | refine AL.gsplitB rfl rfl (fun h => ?_) (fun h => ?_) | refine AD.gsplitB rfl rfl (fun h => ?_) (fun h => ?_)) | refine Fa ?_ | refine Qb ?_ | refine Qc ?_ | refine Qd ?_ | refine Fb ?_ | refine Qe ?_ | refine Wa ?_ | refine Wb ?_ | (refine AW.ite rfl (fun h => ?_) (fun h => ?_) <;> try (exfalso; omega; done)) | refine AW.cond _ rfl (fun h => ?_) (fun h => ?_) | refine Qf ?_ | refine Qg ?_ | refine Qh ?_ | refine Qi ?_ | refine Xa ?_ | refine Xb ?_ | refine Xc ?_ | refine Xd ?_ | refine Fc ?_)
        all_goals
          refine Yb ?_
          (apply Le.headZ (hs := []) [] rfl)
          all_goals (try dsimp only [srcs])
          (case' hfr => (repeat' (first | refine La ?_ ?_ | exact Lc | refine Lo ?_ | refine ⟨⟨_, rfl, ?_⟩, ?_⟩ | refine ObA.box ?_ | refine ObA.frE ?_ | refine ObA.dataE ?_ | refine ARs.agg ?_ | refine ARs.tup ?_ | refine AR.b ?_ | refine AR.iE ?_ | refine AR.e ?_ | refine AR.clo' ARs.nil ?_)))
          all_goals (first | exact Ld | exact trivial | (rfl))
      ·
        obtain ⟨i, p, hp, ha2, hpk, hK, hI2⟩ := hI.step ho h4 (fun i j => (h0 i j).1) hs
        unfold stopC at hs
        rw [ha2] at hs hA
        generalize hal : (alA t r e xs xs.length).1 = a1 at hA hs
        have hil := (List.getElem?_eq_some_iff.1 hp).1
        obtain ⟨⟨g1, g2⟩, ⟨g3, g4⟩, ⟨g5, g6⟩, ⟨g7, g8⟩⟩ := h4 p (List.mem_of_getElem? hp)
        obtain ⟨pf, pt, pd, pk⟩ := p
        simp only at g1 g2 g3 g4 g5 g6 g7 g8 hpk
        have hrow : (xs.map Pl.row)[((i : Nat) : Int).toNat]? = some [DI pf, DI pt, DI pd, DI pk] := row_get hp
        have hrp : (r : Int) - pk = ((r - pk.toNat : Nat) : Int) := by omega
        have hfp : pf = ((pf.toNat : Nat) : Int) := by omega
        have hTl : (mRows 1 (TR acc)).length = acc.length := mTR_len
        repeat' (first | refine Qa ?_ | ((first | apply Ba | (apply Bb; (· rfl); (· rfl)) | (apply Bc; (· exact nxE)) | (apply Bd; (· rfl); (· rfl); (· exact nxE))); (· first | exact Kz rfl rfl (hA) (Aa (Ad (Ad An)) (Ad (Ad (Ad An)))) | exact Ok.bs2 rfl (by conv => lhs; whnf) (by conv => lhs; whnf) (by rfl) (by rfl) (by rfl) (by rfl) (by rfl) (by rfl) (by decide) | exact Ok.appendTD rfl rfl (by decide) rfl rfl rfl rfl rfl hTl TR_row1 TR_one (by omega) (by omega) | exact Ok.pe); (first | refine Na ?_ | refine Nb ?_)) | ((first | apply Ca | (apply Cb; (· exact nxE))); (· first | exact Ok.bs2 rfl (by conv => lhs; whnf) (by conv => lhs; whnf) (by rfl) (by rfl) (by rfl) (by rfl) (by rfl) (by rfl) (by decide) | exact Ok.appendTD rfl rfl (by decide) rfl rfl rfl rfl rfl hTl TR_row1 TR_one (by omega) (by omega) | exact Ok.e0); (first | refine Nc ?_ | refine Nd ?_)) | refine Oa ?_ | refine Ob ?_ | ((first | refine Ga (fun h => ?_) (fun h => ?_) | refine AD.gsplit rfl rfl (fun h => ?_) (fun h => ?_)) <;> try (exfalso; omega; done)) | (first | refine AL.gsplitB rfl rfl (fun h => ?_) (fun h => ?_) | refine AD.gsplitB rfl rfl (fun h => ?_) (fun h => ?_)) | refine Fa ?_ | refine Qb ?_ | refine Qc ?_ | refine Qd ?_ | refine Fb ?_ | refine Qe ?_ | refine Wa ?_ | refine Wb ?_ | (refine AW.ite rfl (fun h => ?_) (fun h => ?_) <;> try (exfalso; omega; done)) | refine AW.cond _ rfl (fun h => ?_) (fun h => ?_) | refine Qf ?_ | refine Qg ?_ | refine Qh ?_ | refine Qi ?_ | refine Xa ?_ | refine Xb ?_ | refine Xc ?_ | refine Xd ?_ | refine Fc ?_)
        refine ⟨⟨_, hI2⟩, ?_, by simp only; omega⟩
        simp only
        rw [← hrp, ← hfp]
        (apply Le.headZ [_] rfl)
        all_goals (try dsimp only [srcs])
        (case' hfr | hob => (repeat' (first | exact AR.mix rfl rfl rfl (by simp; omega) (by simp) (by simp) | refine La ?_ ?_ | exact Lc | refine Lo ?_ | refine ⟨⟨_, rfl, ?_⟩, ?_⟩ | refine ObA.box ?_ | refine ObA.frE ?_ | refine ObA.dataE ?_ | refine ARs.agg ?_ | refine ARs.tup ?_ | refine AR.b ?_ | refine AR.iE ?_ | refine AR.e ?_ | refine AR.clo' ARs.nil ?_)))
        all_goals (first | (rfl) | exact Ld)
    ·
      have hC4 : caOutC n xs t r0 e0 = 4 := by unfold caOutC; rw [if_pos hq0, if_neg hel]
      unfold caOut
      rw [hC4, if_neg (by decide)]
      refine AC.of_body 0 Try.func42 rfl (fun l h => absurd rfl h) (fun C hC => ?_)
      have hD : ∀ l, ¬ C.D0 l := fun l h => (hC l).1 h rfl
      simp only [startFr, Try.ntmps42, List.length_cons, List.length_nil, Nat.reduceAdd, Nat.reduceSub, List.replicate_succ, List.replicate_zero, List.cons_append, List.nil_append]
      repeat' (first | refine Qa ?_ | ((first | apply Ba | (apply Bb; (· rfl); (· rfl)) | (apply Bc; (· exact nxE)) | (apply Bd; (· rfl); (· rfl); (· exact nxE))); (· first | exact Kz rfl rfl (hI1) (Ad (Ad (Ad An))) | exact Kz rfl rfl (hI2) (Ad (Ad (Ad An))) | exact Kz rfl rfl (hcT) (Aa (Ad (Ad An)) (Ad (Ad An))) | exact Kz rfl rfl (hE) (Aa (Ad (Ad An)) (Ad An)) | exact Ok.pe); (first | refine Na ?_ | refine Nb ?_)) | ((first | apply Ca | (apply Cb; (· exact nxE))); (· first | exact Ok.e0); (first | refine Nc ?_ | refine Nd ?_)) | refine Oa ?_ | refine Ob ?_ | ((first | refine Ga (fun h => ?_) (fun h => ?_) | refine AD.gsplit rfl rfl (fun h => ?_) (fun h => ?_)) <;> try (exfalso; omega; done)) | (first | refine AL.gsplitB rfl rfl (fun h => ?_) (fun h => ?_) | refine AD.gsplitB rfl rfl (fun h => ?_) (fun h => ?_)) | refine Fa ?_ | refine Qb ?_ | refine Qc ?_ | refine Qd ?_ | refine Fb ?_ | refine Qe ?_ | refine Wa ?_ | refine Wb ?_ | (refine AW.ite rfl (fun h => ?_) (fun h => ?_) <;> try (exfalso; omega; done)) | refine AW.cond _ rfl (fun h => ?_) (fun h => ?_) | refine Qf ?_ | refine Qg ?_ | refine Qh ?_ | refine Qi ?_ | refine Xa ?_ | refine Xb ?_ | refine Xc ?_ | refine Xd ?_ | refine Fc ?_)
      refine Yb ?_
      (apply Le.headZ (hs := []) [] rfl)
      all_goals (try dsimp only [srcs])
      (case' hfr => (repeat' (first | refine La ?_ ?_ | exact Lc | refine Lo ?_ | refine ⟨⟨_, rfl, ?_⟩, ?_⟩ | refine ObA.box ?_ | refine ObA.frE ?_ | refine ObA.dataE ?_ | refine ARs.agg ?_ | refine ARs.tup ?_ | refine AR.b ?_ | refine AR.iE ?_ | refine AR.e ?_ | refine AR.clo' ARs.nil ?_)))
      all_goals (first | exact Ld | exact trivial | (rfl))
  · have hC : caOutC ev xs t r e = caQ ev xs t r e := by unfold caOutC; rw [if_neg hq0]
    unfold caOut
    rw [hC, if_neg hq0]
    have hI1 := l01In_ac r 1 (t.length : Int)
    have hI2 := l01In_ac e 0 (IntKind.i64.wrap (ev - 1))
    have hcc := hc (inC ev t r e)
    rw [show codeI ev xs (inC ev t r e && dueB ev t) = caQ ev xs t r e from rfl] at hcc
    unfold inC at hcc
    generalize hQ : caQ ev xs t r e = Q at hcc hq0
    cases h1 : wi r 1 (t.length : Int)
    ·
      rw [h1] at hI1 hcc
      rw [Bool.false_and] at hcc
      refine AC.of_body 0 Try.func42 rfl (fun l h => absurd rfl h) (fun C hC => ?_)
      have hD : ∀ l, ¬ C.D0 l := fun l h => (hC l).1 h rfl
      simp only [startFr, Try.ntmps42, List.length_cons, List.length_nil, Nat.reduceAdd, Nat.reduceSub, List.replicate_succ, List.replicate_zero, List.cons_append, List.nil_append]
      repeat' (first | refine Qa ?_ | ((first | apply Ba | (apply Bb; (· rfl); (· rfl)) | (apply Bc; (· exact nxE)) | (apply Bd; (· rfl); (· rfl); (· exact nxE))); (· first | exact Kz rfl rfl (hI1) (Ad (Ad (Ad An))) | exact Kz rfl rfl (hcc) (Aa (Ad (Ad An)) (Ad (Ad An))) | exact Ok.pe); (first | refine Na ?_ | refine Nb ?_)) | ((first | apply Ca | (apply Cb; (· exact nxE))); (· first | exact Ok.e0); (first | refine Nc ?_ | refine Nd ?_)) | refine Oa ?_ | refine Ob ?_ | ((first | refine Ga (fun h => ?_) (fun h => ?_) | refine AD.gsplit rfl rfl (fun h => ?_) (fun h => ?_)) <;> try (exfalso; omega; done)) | (first | refine AL.gsplitB rfl rfl (fun h => ?_) (fun h => ?_) | refine AD.gsplitB rfl rfl (fun h => ?_) (fun h => ?_)) | refine Fa ?_ | refine Qb ?_ | refine Qc ?_ | refine Qd ?_ | refine Fb ?_ | refine Qe ?_ | refine Wa ?_ | refine Wb ?_ | (refine AW.ite rfl (fun h => ?_) (fun h => ?_) <;> try (exfalso; omega; done)) | refine AW.cond _ rfl (fun h => ?_) (fun h => ?_) | refine Qf ?_ | refine Qg ?_ | refine Qh ?_ | refine Qi ?_ | refine Xa ?_ | refine Xb ?_ | refine Xc ?_ | refine Xd ?_ | refine Fc ?_)
      refine Yb ?_
      (apply Le.headZ (hs := []) [] rfl)
      all_goals (try dsimp only [srcs])
      (case' hfr => (repeat' (first | refine La ?_ ?_ | exact Lc | refine Lo ?_ | refine ⟨⟨_, rfl, ?_⟩, ?_⟩ | refine ObA.box ?_ | refine ObA.frE ?_ | refine ObA.dataE ?_ | refine ARs.agg ?_ | refine ARs.tup ?_ | refine AR.b ?_ | refine AR.iE ?_ | refine AR.e ?_ | refine AR.clo' ARs.nil ?_)))
      all_goals (first | exact Ld | exact trivial | (rfl))
    ·
      rw [h1] at hI1 hcc
      rw [Bool.true_and] at hcc
      refine AC.of_body 0 Try.func42 rfl (fun l h => absurd rfl h) (fun C hC => ?_)
      have hD : ∀ l, ¬ C.D0 l := fun l h => (hC l).1 h rfl
      simp only [startFr, Try.ntmps42, List.length_cons, List.length_nil, Nat.reduceAdd, Nat.reduceSub, List.replicate_succ, List.replicate_zero, List.cons_append, List.nil_append]
      repeat' (first | refine Qa ?_ | ((first | apply Ba | (apply Bb; (· rfl); (· rfl)) | (apply Bc; (· exact nxE)) | (apply Bd; (· rfl); (· rfl); (· exact nxE))); (· first | exact Kz rfl rfl (hI1) (Ad (Ad (Ad An))) | exact Kz rfl rfl (hI2) (Ad (Ad (Ad An))) | exact Kz rfl rfl (hcc) (Aa (Ad (Ad An)) (Ad (Ad An))) | exact Ok.subW rfl rfl rfl | exact Ok.pe); (first | refine Na ?_ | refine Nb ?_)) | ((first | apply Ca | (apply Cb; (· exact nxE))); (· first | exact Ok.e0); (first | refine Nc ?_ | refine Nd ?_)) | refine Oa ?_ | refine Ob ?_ | ((first | refine Ga (fun h => ?_) (fun h => ?_) | refine AD.gsplit rfl rfl (fun h => ?_) (fun h => ?_)) <;> try (exfalso; omega; done)) | (first | refine AL.gsplitB rfl rfl (fun h => ?_) (fun h => ?_) | refine AD.gsplitB rfl rfl (fun h => ?_) (fun h => ?_)) | refine Fa ?_ | refine Qb ?_ | refine Qc ?_ | refine Qd ?_ | refine Fb ?_ | refine Qe ?_ | refine Wa ?_ | refine Wb ?_ | (refine AW.ite rfl (fun h => ?_) (fun h => ?_) <;> try (exfalso; omega; done)) | refine AW.cond _ rfl (fun h => ?_) (fun h => ?_) | refine Qf ?_ | refine Qg ?_ | refine Qh ?_ | refine Qi ?_ | refine Xa ?_ | refine Xb ?_ | refine Xc ?_ | refine Xd ?_ | refine Fc ?_)
      all_goals
        refine Yb ?_
        (apply Le.headZ (hs := []) [] rfl)
        all_goals (try dsimp only [srcs])
        (case' hfr => (repeat' (first | refine La ?_ ?_ | exact Lc | refine Lo ?_ | refine ⟨⟨_, rfl, ?_⟩, ?_⟩ | refine ObA.box ?_ | refine ObA.frE ?_ | refine ObA.dataE ?_ | refine ARs.agg ?_ | refine ARs.tup ?_ | refine AR.b ?_ | refine AR.iE ?_ | refine AR.e ?_ | refine AR.clo' ARs.nil ?_)))
        all_goals (first | exact Ld | exact trivial | (rfl))
set_option maxHeartbeats 4000000 in
theorem iCauseOf_ac (ev : Int) (xs : List Pl) (t : List (List Int)) (r e : Int) (hx : xs.length ≤ 100000000) (ht : t.length ≤ 100000000) (hr : ∀ r ∈ t, r.length ≤ 100000000) : AC Try.prog 41 [grD ev xs, TL t, I r, I e] H0 (.tup [own1 1 (caOut ev xs t r e).length, I (caOutC ev xs t r e)]) (hpM 1 (TR (caOut ev xs t r e))) := by
  have hE := iIsEventGraph_ac ev xs hx
  have nilEnd : TR ([] : List (List Int)) = [] := rfl
  cases hg : isEG ev xs
  · have hC : caOutC ev xs t r e = 1 := by unfold caOutC caQ codeI liveI; simp [hg]
    unfold caOut
    rw [hC, if_neg (by decide)]
    rw [hg] at hE
    refine AC.of_body 0 Try.func41 rfl (fun l h => absurd rfl h) (fun C hC => ?_)
    have hD : ∀ l, ¬ C.D0 l := fun l h => (hC l).1 h rfl
    simp only [startFr, Try.ntmps41, List.length_cons, List.length_nil, Nat.reduceAdd, Nat.reduceSub, List.replicate_succ, List.replicate_zero, List.cons_append, List.nil_append]
    repeat' (first | refine Qa ?_ | ((first | apply Ba | (apply Bb; (· rfl); (· rfl)) | (apply Bc; (· exact nxE)) | (apply Bd; (· rfl); (· rfl); (· exact nxE))); (· first | exact Kz rfl rfl (hE) (Aa (Ad (Ad An)) An) | exact Ok.pe); (first | refine Na ?_ | refine Nb ?_)) | ((first | apply Ca | (apply Cb; (· exact nxE))); (· first | exact Ok.e0); (first | refine Nc ?_ | refine Nd ?_)) | refine Oa ?_ | refine Ob ?_ | ((first | refine Ga (fun h => ?_) (fun h => ?_) | refine AD.gsplit rfl rfl (fun h => ?_) (fun h => ?_)) <;> try (exfalso; omega; done)) | (first | refine AL.gsplitB rfl rfl (fun h => ?_) (fun h => ?_) | refine AD.gsplitB rfl rfl (fun h => ?_) (fun h => ?_)) | refine Fa ?_ | refine Qb ?_ | refine Qc ?_ | refine Qd ?_ | refine Fb ?_ | refine Qe ?_ | refine Wa ?_ | refine Wb ?_ | (refine AW.ite rfl (fun h => ?_) (fun h => ?_) <;> try (exfalso; omega; done)) | refine AW.cond _ rfl (fun h => ?_) (fun h => ?_) | refine Qf ?_ | refine Qg ?_ | refine Qh ?_ | refine Qi ?_ | refine Xa ?_ | refine Xb ?_ | refine Xc ?_ | refine Xd ?_ | refine Fc ?_)
    rw [nilEnd, hpM_nil]
    exact end2nil (.inl rfl) rfl (rT rfl) (rT rfl) hD
  · obtain ⟨n, rfl, h1, h2, h3, h4⟩ := isEG_ok hg
    rw [hg] at hE
    have hw : IntKind.i64.wrap ((n : Int) - 1) = n - 1 := wrap_in (by omega) (by omega)
    have hTt := isTimeTable_ac n xs t (by omega) ht hr
    have hWi := within_ac r 1 (t.length : Int)
    have hEv := isEvent_ac n xs e
    cases hb : (inC n t r e && dueB n t)
    · have hC : caOutC n xs t r e = 2 := by
        unfold caOutC caQ
        rw [hb]
        unfold codeI liveI
        rw [hg]
        cases liveB n xs <;> simp
      unfold caOut
      rw [hC, if_neg (by decide)]
      unfold inC at hb
      cases hd : dueB n t
      · rw [hd] at hTt
        refine AC.of_body 0 Try.func41 rfl (fun l h => absurd rfl h) (fun C hC => ?_)
        have hD : ∀ l, ¬ C.D0 l := fun l h => (hC l).1 h rfl
        simp only [startFr, Try.ntmps41, List.length_cons, List.length_nil, Nat.reduceAdd, Nat.reduceSub, List.replicate_succ, List.replicate_zero, List.cons_append, List.nil_append]
        repeat' (first | refine Qa ?_ | ((first | apply Ba | (apply Bb; (· rfl); (· rfl)) | (apply Bc; (· exact nxE)) | (apply Bd; (· rfl); (· rfl); (· exact nxE))); (· first | exact Kz rfl rfl (hE) (Aa (Ad (Ad An)) An) | exact Kz rfl rfl (hTt) (Aa (Ad (Ad An)) (Ad An)) | exact Ok.pe); (first | refine Na ?_ | refine Nb ?_)) | ((first | apply Ca | (apply Cb; (· exact nxE))); (· first | exact Ok.e0); (first | refine Nc ?_ | refine Nd ?_)) | refine Oa ?_ | refine Ob ?_ | ((first | refine Ga (fun h => ?_) (fun h => ?_) | refine AD.gsplit rfl rfl (fun h => ?_) (fun h => ?_)) <;> try (exfalso; omega; done)) | (first | refine AL.gsplitB rfl rfl (fun h => ?_) (fun h => ?_) | refine AD.gsplitB rfl rfl (fun h => ?_) (fun h => ?_)) | refine Fa ?_ | refine Qb ?_ | refine Qc ?_ | refine Qd ?_ | refine Fb ?_ | refine Qe ?_ | refine Wa ?_ | refine Wb ?_ | (refine AW.ite rfl (fun h => ?_) (fun h => ?_) <;> try (exfalso; omega; done)) | refine AW.cond _ rfl (fun h => ?_) (fun h => ?_) | refine Qf ?_ | refine Qg ?_ | refine Qh ?_ | refine Qi ?_ | refine Xa ?_ | refine Xb ?_ | refine Xc ?_ | refine Xd ?_ | refine Fc ?_)
        rw [nilEnd, hpM_nil]
        exact end2nil (.inl rfl) rfl (rT rfl) (rT rfl) hD
      · rw [hd] at hTt
        cases h5 : wi r 1 (t.length : Int)
        · rw [h5] at hWi
          refine AC.of_body 0 Try.func41 rfl (fun l h => absurd rfl h) (fun C hC => ?_)
          have hD : ∀ l, ¬ C.D0 l := fun l h => (hC l).1 h rfl
          simp only [startFr, Try.ntmps41, List.length_cons, List.length_nil, Nat.reduceAdd, Nat.reduceSub, List.replicate_succ, List.replicate_zero, List.cons_append, List.nil_append]
          repeat' (first | refine Qa ?_ | ((first | apply Ba | (apply Bb; (· rfl); (· rfl)) | (apply Bc; (· exact nxE)) | (apply Bd; (· rfl); (· rfl); (· exact nxE))); (· first | exact Kz rfl rfl (hE) (Aa (Ad (Ad An)) An) | exact Kz rfl rfl (hTt) (Aa (Ad (Ad An)) (Ad An)) | exact Kz rfl rfl (hWi) (Ad (Ad (Ad An))) | exact Ok.pe); (first | refine Na ?_ | refine Nb ?_)) | ((first | apply Ca | (apply Cb; (· exact nxE))); (· first | exact Ok.e0); (first | refine Nc ?_ | refine Nd ?_)) | refine Oa ?_ | refine Ob ?_ | ((first | refine Ga (fun h => ?_) (fun h => ?_) | refine AD.gsplit rfl rfl (fun h => ?_) (fun h => ?_)) <;> try (exfalso; omega; done)) | (first | refine AL.gsplitB rfl rfl (fun h => ?_) (fun h => ?_) | refine AD.gsplitB rfl rfl (fun h => ?_) (fun h => ?_)) | refine Fa ?_ | refine Qb ?_ | refine Qc ?_ | refine Qd ?_ | refine Fb ?_ | refine Qe ?_ | refine Wa ?_ | refine Wb ?_ | (refine AW.ite rfl (fun h => ?_) (fun h => ?_) <;> try (exfalso; omega; done)) | refine AW.cond _ rfl (fun h => ?_) (fun h => ?_) | refine Qf ?_ | refine Qg ?_ | refine Qh ?_ | refine Qi ?_ | refine Xa ?_ | refine Xb ?_ | refine Xc ?_ | refine Xd ?_ | refine Fc ?_)
          rw [nilEnd, hpM_nil]
          exact end2nil (.inl rfl) rfl (rT rfl) (rT rfl) hD
        · rw [h5] at hWi
          have h6 : wi e 0 (IntKind.i64.wrap ((n : Int) - 1)) = false := by rw [hd, h5] at hb; simpa using hb
          rw [h6] at hEv
          refine AC.of_body 0 Try.func41 rfl (fun l h => absurd rfl h) (fun C hC => ?_)
          have hD : ∀ l, ¬ C.D0 l := fun l h => (hC l).1 h rfl
          simp only [startFr, Try.ntmps41, List.length_cons, List.length_nil, Nat.reduceAdd, Nat.reduceSub, List.replicate_succ, List.replicate_zero, List.cons_append, List.nil_append]
          repeat' (first | refine Qa ?_ | ((first | apply Ba | (apply Bb; (· rfl); (· rfl)) | (apply Bc; (· exact nxE)) | (apply Bd; (· rfl); (· rfl); (· exact nxE))); (· first | exact Kz rfl rfl (hE) (Aa (Ad (Ad An)) An) | exact Kz rfl rfl (hTt) (Aa (Ad (Ad An)) (Ad An)) | exact Kz rfl rfl (hWi) (Ad (Ad (Ad An))) | exact Kz rfl rfl (hEv) (Aa (Ad (Ad An)) (Ad An)) | exact Ok.pe); (first | refine Na ?_ | refine Nb ?_)) | ((first | apply Ca | (apply Cb; (· exact nxE))); (· first | exact Ok.e0); (first | refine Nc ?_ | refine Nd ?_)) | refine Oa ?_ | refine Ob ?_ | ((first | refine Ga (fun h => ?_) (fun h => ?_) | refine AD.gsplit rfl rfl (fun h => ?_) (fun h => ?_)) <;> try (exfalso; omega; done)) | (first | refine AL.gsplitB rfl rfl (fun h => ?_) (fun h => ?_) | refine AD.gsplitB rfl rfl (fun h => ?_) (fun h => ?_)) | refine Fa ?_ | refine Qb ?_ | refine Qc ?_ | refine Qd ?_ | refine Fb ?_ | refine Qe ?_ | refine Wa ?_ | refine Wb ?_ | (refine AW.ite rfl (fun h => ?_) (fun h => ?_) <;> try (exfalso; omega; done)) | refine AW.cond _ rfl (fun h => ?_) (fun h => ?_) | refine Qf ?_ | refine Qg ?_ | refine Qh ?_ | refine Qi ?_ | refine Xa ?_ | refine Xb ?_ | refine Xc ?_ | refine Xd ?_ | refine Fc ?_)
          rw [nilEnd, hpM_nil]
          exact end2nil (.inl rfl) rfl (rT rfl) (rT rfl) hD
    · have hb0 := hb
      simp only [inC, Bool.and_eq_true] at hb
      obtain ⟨⟨h5, h6⟩, hd⟩ := hb
      rw [h5] at hWi
      rw [h6] at hEv
      rw [hd] at hTt
      have hL := isLive_ac n xs h2 hx h4
      cases hl : liveB n xs
      · have hC : caOutC n xs t r e = 5 := by
          unfold caOutC caQ
          rw [hb0]
          unfold codeI liveI
          rw [hg, hl]; simp
        unfold caOut
        rw [hC, if_neg (by decide)]
        rw [hl] at hL
        refine AC.of_body 0 Try.func41 rfl (fun l h => absurd rfl h) (fun C hC => ?_)
        have hD : ∀ l, ¬ C.D0 l := fun l h => (hC l).1 h rfl
        simp only [startFr, Try.ntmps41, List.length_cons, List.length_nil, Nat.reduceAdd, Nat.reduceSub, List.replicate_succ, List.replicate_zero, List.cons_append, List.nil_append]
        repeat' (first | refine Qa ?_ | ((first | apply Ba | (apply Bb; (· rfl); (· rfl)) | (apply Bc; (· exact nxE)) | (apply Bd; (· rfl); (· rfl); (· exact nxE))); (· first | exact Kz rfl rfl (hE) (Aa (Ad (Ad An)) An) | exact Kz rfl rfl (hTt) (Aa (Ad (Ad An)) (Ad An)) | exact Kz rfl rfl (hWi) (Ad (Ad (Ad An))) | exact Kz rfl rfl (hEv) (Aa (Ad (Ad An)) (Ad An)) | exact Kz rfl rfl (hL) (Aa (Ad (Ad An)) An) | exact Ok.pe); (first | refine Na ?_ | refine Nb ?_)) | ((first | apply Ca | (apply Cb; (· exact nxE))); (· first | exact Ok.e0); (first | refine Nc ?_ | refine Nd ?_)) | refine Oa ?_ | refine Ob ?_ | ((first | refine Ga (fun h => ?_) (fun h => ?_) | refine AD.gsplit rfl rfl (fun h => ?_) (fun h => ?_)) <;> try (exfalso; omega; done)) | (first | refine AL.gsplitB rfl rfl (fun h => ?_) (fun h => ?_) | refine AD.gsplitB rfl rfl (fun h => ?_) (fun h => ?_)) | refine Fa ?_ | refine Qb ?_ | refine Qc ?_ | refine Qd ?_ | refine Fb ?_ | refine Qe ?_ | refine Wa ?_ | refine Wb ?_ | (refine AW.ite rfl (fun h => ?_) (fun h => ?_) <;> try (exfalso; omega; done)) | refine AW.cond _ rfl (fun h => ?_) (fun h => ?_) | refine Qf ?_ | refine Qg ?_ | refine Qh ?_ | refine Qi ?_ | refine Xa ?_ | refine Xb ?_ | refine Xc ?_ | refine Xd ?_ | refine Fc ?_)
        rw [nilEnd, hpM_nil]
        exact end2nil (.inl rfl) rfl (rT rfl) (rT rfl) hD
      · rw [hl] at hL
        have hq0 : caQ n xs t r e = 0 := by
          unfold caQ
          rw [hb0]
          unfold codeI liveI
          rw [hg, hl]; simp
        obtain ⟨hg0, n', r0, e0, hnn, rfl, rfl, hr1, hrm, hen⟩ := caQ_ok hq0
        obtain rfl : n = n' := by omega
        have hmm : t.length ≤ 50 := (dueB_ok hd).2.1
        have hrc := (dueB_ok hd).1
        have h0 := (dueB_ok hd).2.2
        have hEF := (earlyFirings_ac n t.length xs t hx h4 hrc (dueB_bnd hd) h2 (by omega)).frzT (by simp)
        have heq : eaOut n xs t = earT (eaC t (alFn t xs)) n t.length := by unfold eaOut; rw [if_pos hg0, Int.toNat_natCast]
        rw [← heq] at hEF
        have hol := liveB_ord h4
        rw [hl] at hol
        obtain ⟨ord, ho⟩ := Option.isSome_iff_exists.1 hol.symm
        by_cases hel : (eaOut n xs t).length = 0
        ·
          have hC0 : caOutC n xs t r0 e0 = 0 := by unfold caOutC; rw [if_pos hq0, if_pos hel]
          unfold caOut
          rw [hC0, if_pos rfl, Int.toNat_natCast, Int.toNat_natCast]
          have hCa := causeOf_ac n t.length xs t ord r0 e0 hx h4 hrc h0 h2 hmm ho hr1 hrm hen
          generalize hres : causeA t xs 600 r0 e0 [[(r0 : Int), (e0 : Int)]] = res at hCa
          refine AC.of_body 0 Try.func41 rfl (fun l h => absurd rfl h) (fun C hC => ?_)
          have hD : ∀ l, ¬ C.D0 l := fun l h => (hC l).1 h rfl
          simp only [startFr, Try.ntmps41, List.length_cons, List.length_nil, Nat.reduceAdd, Nat.reduceSub, List.replicate_succ, List.replicate_zero, List.cons_append, List.nil_append]
          repeat' (first | refine Qa ?_ | ((first | apply Ba | (apply Bb; (· rfl); (· rfl)) | (apply Bc; (· exact nxE)) | (apply Bd; (· rfl); (· rfl); (· exact nxE))); (· first | exact Kz rfl rfl (hE) (Aa (Ad (Ad An)) An) | exact Kz rfl rfl (hTt) (Aa (Ad (Ad An)) (Ad An)) | exact Kz rfl rfl (hWi) (Ad (Ad (Ad An))) | exact Kz rfl rfl (hEv) (Aa (Ad (Ad An)) (Ad An)) | exact Kz rfl rfl (hL) (Aa (Ad (Ad An)) An) | exact Kz rfl rfl (hEF) (Aa (Ad (Ad An)) (Ad An)) | exact Tb rfl rfl (hCa) (Sa (Sd (Sd Sn)) (Sd (Sd (Sd Sn)))) | exact Ok.pe); (first | refine Na ?_ | refine Nb ?_)) | ((first | apply Ca | (apply Cb; (· exact nxE))); (· first | exact Tb rfl rfl (hCa) (Sa (Sd (Sd Sn)) (Sd (Sd (Sd Sn)))) | exact Ok.e0); (first | refine Nc ?_ | refine Nd ?_)) | refine Oa ?_ | refine Ob ?_ | ((first | refine Ga (fun h => ?_) (fun h => ?_) | refine AD.gsplit rfl rfl (fun h => ?_) (fun h => ?_)) <;> try (exfalso; omega; done)) | (first | refine AL.gsplitB rfl rfl (fun h => ?_) (fun h => ?_) | refine AD.gsplitB rfl rfl (fun h => ?_) (fun h => ?_)) | refine Fa ?_ | refine Qb ?_ | refine Qc ?_ | refine Qd ?_ | refine Fb ?_ | refine Qe ?_ | refine Wa ?_ | refine Wb ?_ | (refine AW.ite rfl (fun h => ?_) (fun h => ?_) <;> try (exfalso; omega; done)) | refine AW.cond _ rfl (fun h => ?_) (fun h => ?_) | refine Qf ?_ | refine Qg ?_ | refine Qh ?_ | refine Qi ?_ | refine Xa ?_ | refine Xb ?_ | refine Xc ?_ | refine Xd ?_ | refine Fc ?_)
          refine Yb ?_
          (apply Le.headG [] [{ l := ⟨0, []⟩, k := 1, R := TR res, src := ⟨35, [0]⟩, base := ⟨35, [0]⟩ }] (fun _ => False))
          (case' hlen => rfl)
          (case' hms => rfl)
          all_goals (try dsimp only [srcs])
          (case' hfr | hob => (repeat' (first | refine La ?_ ?_ | exact Lc | refine Lo ?_ | refine ⟨⟨_, rfl, ?_⟩, ?_⟩ | refine ObA.box ?_ | refine ObA.frE ?_ | refine ObA.dataE ?_ | refine ARs.agg ?_ | refine ARs.tup ?_ | refine AR.b ?_ | refine AR.iE ?_ | refine AR.e ?_ | refine AR.clo' ARs.nil ?_)))
          (case' hok => first | exact ⟨MI.ok_same rfl (Cg), trivial⟩ | exact trivial)
          (case' hN => rfl)
          (case' hS => rfl)
          all_goals (first | exact Ld | (rfl))
        ·
          have hC4 : caOutC n xs t r0 e0 = 4 := by unfold caOutC; rw [if_pos hq0, if_neg hel]
          unfold caOut
          rw [hC4, if_neg (by decide)]
          refine AC.of_body 0 Try.func41 rfl (fun l h => absurd rfl h) (fun C hC => ?_)
          have hD : ∀ l, ¬ C.D0 l := fun l h => (hC l).1 h rfl
          simp only [startFr, Try.ntmps41, List.length_cons, List.length_nil, Nat.reduceAdd, Nat.reduceSub, List.replicate_succ, List.replicate_zero, List.cons_append, List.nil_append]
          repeat' (first | refine Qa ?_ | ((first | apply Ba | (apply Bb; (· rfl); (· rfl)) | (apply Bc; (· exact nxE)) | (apply Bd; (· rfl); (· rfl); (· exact nxE))); (· first | exact Kz rfl rfl (hE) (Aa (Ad (Ad An)) An) | exact Kz rfl rfl (hTt) (Aa (Ad (Ad An)) (Ad An)) | exact Kz rfl rfl (hWi) (Ad (Ad (Ad An))) | exact Kz rfl rfl (hEv) (Aa (Ad (Ad An)) (Ad An)) | exact Kz rfl rfl (hL) (Aa (Ad (Ad An)) An) | exact Kz rfl rfl (hEF) (Aa (Ad (Ad An)) (Ad An)) | exact Ok.pe); (first | refine Na ?_ | refine Nb ?_)) | ((first | apply Ca | (apply Cb; (· exact nxE))); (· first | exact Ok.e0); (first | refine Nc ?_ | refine Nd ?_)) | refine Oa ?_ | refine Ob ?_ | ((first | refine Ga (fun h => ?_) (fun h => ?_) | refine AD.gsplit rfl rfl (fun h => ?_) (fun h => ?_)) <;> try (exfalso; omega; done)) | (first | refine AL.gsplitB rfl rfl (fun h => ?_) (fun h => ?_) | refine AD.gsplitB rfl rfl (fun h => ?_) (fun h => ?_)) | refine Fa ?_ | refine Qb ?_ | refine Qc ?_ | refine Qd ?_ | refine Fb ?_ | refine Qe ?_ | refine Wa ?_ | refine Wb ?_ | (refine AW.ite rfl (fun h => ?_) (fun h => ?_) <;> try (exfalso; omega; done)) | refine AW.cond _ rfl (fun h => ?_) (fun h => ?_) | refine Qf ?_ | refine Qg ?_ | refine Qh ?_ | refine Qi ?_ | refine Xa ?_ | refine Xb ?_ | refine Xc ?_ | refine Xd ?_ | refine Fc ?_)
          rw [nilEnd, hpM_nil]
          exact end2nil (.inl rfl) rfl (rT rfl) (rT rfl) hD
end Go.Proofs.Ytegfjedklebbfaa
