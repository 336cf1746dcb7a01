/-
  Walks in the abstract reading, part 15.
-/
import Derived.Test.YtikadoicplnkgaaGreatKeU13
import Derived.Test.YtikadoicplnkgaaGreatKeU14
import Derived.Test.YtikadoicplnkgaaGreatKeA3
section
namespace Go.Proofs.YtikadoicplnkgaaGreat
set_option linter.unusedSimpArgs false
set_option linter.unusedVariables false
open Go Go.RowKit
attribute [local irreducible] AL AD AW OpOk Le AC thenQ blockQ EndQ

def cyOk (W : Nat → Nat → Int) (n : Nat) (c : List Int) : Prop := ∃ f r, c = cN (f :: r) ∧ f < n ∧ (∀ x ∈ r, x < n) ∧ (f :: r).Nodup ∧ kP W f (r ++ [f])
noncomputable def cyB (W : Nat → Nat → Int) (n : Nat) (c : List Int) : Bool := open Classical in decide (cyOk W n c)
noncomputable def cyV (W : Nat → Nat → Int) (n : Nat) (c : List Int) : Int := if cyB W n c = true then cyS W (hdN (c.map Int.toNat)) (c.map Int.toNat).tail else 0
theorem toNat_cN (l : List Nat) : (cN l).map Int.toNat = l := by
  unfold cN
  rw [List.map_map]
  conv => rhs; rw [← List.map_id l]
  exact List.map_congr_left fun x _ => by simp
theorem cN_inj {a b : List Nat} (h : cN a = cN b) : a = b := by rw [← toNat_cN a, h, toNat_cN]
theorem cy_no {W : Nat → Nat → Int} {n : Nat} {c : List Int} (h : ¬ cyOk W n c) : cyB W n c = false ∧ cyV W n c = 0 := by
  have : cyB W n c = false := by unfold cyB; simp [h]
  refine ⟨this, ?_⟩
  unfold cyV
  rw [this]; rfl
theorem cy_yes {W : Nat → Nat → Int} {n f : Nat} {r : List Nat} (h : cyOk W n (cN (f :: r))) : cyB W n (cN (f :: r)) = true ∧ cyV W n (cN (f :: r)) = cyS W f r := by
  have : cyB W n (cN (f :: r)) = true := by unfold cyB; simp only [h, decide_true]
  refine ⟨this, ?_⟩
  unfold cyV
  rw [if_pos this, toNat_cN]; rfl
theorem wiB_of {c : List Int} {n : Nat} (h : wiB c c.length 0 ((n : Int) - 1) = true) : ∃ l : List Nat, c = cN l ∧ ∀ x ∈ l, x < n := by
  unfold wiB at h
  rw [Bool.and_eq_true, List.all_eq_true] at h
  have h1 := fun x hx => wi_iff.1 (h.1 x hx)
  refine ⟨c.map Int.toNat, ?_, fun x hx => ?_⟩
  · unfold cN
    rw [List.map_map]
    conv => lhs; rw [← List.map_id c]
    exact List.map_congr_left fun x hx => by have := h1 x hx; simp; omega
  · obtain ⟨y, hy, rfl⟩ := List.mem_map.1 hx
    have := h1 y hy
    omega
theorem l03NodesG_ac (t : List (List Int)) (n : Nat) (h : Sq t n) (c : List Int) (hn : n ≤ 1000) (hl : c.length ≤ 100000000) : AC Tryz.prog 153 [TL t, IL c] H0 (Bo (wiB c c.length 0 ((n : Int) - 1))) H0 := by
  have hcl : (IR c).length = c.length := by simp
  have hlen : (mRows 1 (TR t)).length = n := by rw [mTR_len, h.l]
  have hI := l01Within_ac c c.length 0 ((n : Int) - 1) hl
  refine AC.of_body 0 Tryz.func153 rfl (fun l h => absurd rfl h) (fun C hC => ?_)
  have hD : ∀ l, ¬ C.D0 l := fun l h => (hC l).1 h rfl
  simp only [startFr, Tryz.ntmps153, List.length_cons, List.length_nil, Nat.reduceAdd, Nat.reduceSub, List.replicate_succ, List.replicate_zero, List.cons_append, List.nil_append]
  repeat' (first | ((first | apply Ba | (apply Bb; (· rfl); (· rfl)) | (apply Bc; (· exact nxE)) | (apply Bd; (· rfl); (· rfl); (· exact nxE))); (· first | exact Ok.lenD rfl rfl hcl | exact Ok.lenD rfl rfl hlen | exact Kz rfl rfl (hI) (Ad (Ad (Ad (Ad An)))) | exact Ok.pe)) | ((first | apply Ca | (apply Cb; (· exact nxE))); (· first | exact Ok.e0)) | refine Sx ?_ | (refine Sy (fun h => ?_) (fun h => ?_) <;> try (exfalso; omega; done)) | refine Sz (fun h => ?_) (fun h => ?_))
  refine Ya ?_
  (apply Le.headZ (hs := []) [] rfl)
  all_goals (try dsimp only [srcs])
  (case' hfr => (repeat' (first | refine La ?_ ?_ | exact Lc | refine Lo ?_ | refine ⟨⟨_, rfl, ?_⟩, ?_⟩ | refine Lx ?_)))
  all_goals (first | exact Ld | exact trivial | (rfl))
set_option maxHeartbeats 1000000 in
theorem l03Walk_no (t : List (List Int)) (n : Nat) (hM : MatOk t n) (f : Nat) (r : List Nat) (hf : f < n) (hr : ∀ x ∈ r, x < n) (hp : ¬ kP (entN t) f r) (hl : r.length ≤ 1000) : AC Tryz.prog 154 [TL t, IL (cN (f :: r))] H0 (.tup [I 0, Bo false]) H0 := by
  have hcl : (IR (cN (f :: r))).length = r.length + 1 := by simp
  refine AC.of_body 0 Tryz.func154 rfl (fun l h => absurd rfl h) (fun C hC => ?_)
  have hD : ∀ l, ¬ C.D0 l := fun l h => (hC l).1 h rfl
  simp only [startFr, Tryz.ntmps154, List.length_cons, List.length_nil, Nat.reduceAdd, Nat.reduceSub, List.replicate_succ, List.replicate_zero, List.cons_append, List.nil_append]
  repeat' (first | ((first | apply Ba | (apply Bb; (· rfl); (· rfl)) | (apply Bc; (· exact nxE)) | (apply Bd; (· rfl); (· rfl); (· exact nxE))); (· first | exact Ok.pe)) | ((first | apply Ca | (apply Cb; (· exact nxE))); (· first | exact Ok.e0)) | refine Sx ?_ | (refine Sy (fun h => ?_) (fun h => ?_) <;> try (exfalso; omega; done)) | refine Sz (fun h => ?_) (fun h => ?_))
  refine AW.loop (X := {k : Nat // k ≤ r.length ∧ kP (entN t) f (r.take k)}) (fun k => ⟨[TL t, IL (cN (f :: r)), Oo, Oo, Oo, Oo, I (kW (entN t) f (r.take (k.1 : Nat))), I ((k.1 : Nat) + 1 : Nat), Oo, Oo, Oo, Oo, Oo, Oo, Oo, Oo, Oo, Oo, Oo, Oo, Oo, Oo, Oo, Oo, Oo, Oo, Oo, Oo, Oo, Oo, Oo, Oo, Oo, Oo, Oo], heapL [], 900⟩) (fun k => r.length - k.1) ⟨0, Nat.zero_le _, by exact trivial⟩ ?_ (fun k => ?_)
  ·
    (apply Le.headZ [] rfl)
    all_goals (try dsimp only [srcs])
    (case' hfr | hob => (repeat' (first | refine La ?_ ?_ | exact Lc | refine Lo ?_ | refine ⟨⟨_, rfl, ?_⟩, ?_⟩ | refine Lx ?_)))
    all_goals (first | ((first | rfl | (simp [kW]; done))) | exact Ld)
  obtain ⟨k, hk, h2⟩ := k
  simp only
  by_cases hlt : k < r.length
  · obtain ⟨v, hv⟩ : ∃ v, r[k]? = some v := ⟨r[k], by simp⟩
    have hvn := hr v (List.mem_of_getElem? hv)
    have h3 := kW_take (W := entN t) (f := f) hv
    have hu := kE_take (f := f) (r := r) (k := k) (by omega)
    have hun : kE f (r.take k) < n := kE_lt hf (fun x hx => hr x (List.mem_of_mem_take hx))
    have h4 := kW_bnd (M := 1000000) hM.b h2
    have h5 := hM.b (kE f (r.take k)) v
    have h6 : (r.take k).length ≤ 1000 := by rw [List.length_take]; omega
    have hnext : entN t v (kE f (r.take k)) ≠ BOT → kP (entN t) f (r.take (k + 1)) := fun hne => by
      obtain ⟨hk', rfl⟩ := List.getElem?_eq_some_iff.1 hv
      rw [List.take_succ_eq_append_getElem hk']
      exact (kP_app _ _ _).2 ⟨h2, hne, trivial⟩
    generalize kE f (r.take k) = u at *
    generalize kW (entN t) f (r.take k) = w at *
    obtain ⟨R, hR1, hR2, hR3⟩ := hM.sq.get hvn hun
    have hRr := TR_get hR1
    have hRf := IR_get hR2
    have hRl : (IR R).length = n := by rw [IR_len, hR3]
    have hi1 : (IR (cN (f :: r)))[((k + 1 : Nat) : Int).toNat]? = some [DI (v : Nat)] := IR_get (by simp [cN, hv])
    have hi2 : (IR (cN (f :: r)))[(((k + 1 : Nat) : Int) - 1).toNat]? = some [DI (u : Nat)] := by
      rw [show (((k + 1 : Nat) : Int) - 1).toNat = ((k : Nat) : Int).toNat by omega]
      exact IR_get (by unfold cN; rw [List.getElem?_map, hu]; rfl)
    generalize entN t v u = e at *
    unfold BOT at h5 hnext
    by_cases he : e = -1000000000000000
    ·
      repeat' (first | ((first | apply Ba | (apply Bb; (· rfl); (· rfl)) | (apply Bc; (· exact nxE)) | (apply Bd; (· rfl); (· rfl); (· exact nxE))); (· first | exact Ok.lenD rfl rfl hcl | exact Ok.pe)) | ((first | apply Ca | (apply Cb; (· exact nxE))); (· first | exact Ok.e0)) | refine Sx ?_ | (refine Sy (fun h => ?_) (fun h => ?_) <;> try (exfalso; omega; done)) | refine Sz (fun h => ?_) (fun h => ?_))
      refine Yb ?_
      (apply Le.headZ (hs := []) [] rfl)
      all_goals (try dsimp only [srcs])
      (case' hfr => (repeat' (first | refine La ?_ ?_ | exact Lc | refine Lo ?_ | refine ⟨⟨_, rfl, ?_⟩, ?_⟩ | refine Lx ?_)))
      all_goals (first | exact Ld | exact trivial | (rfl))
    · have h5 := h5 he
      repeat' (first | ((first | apply Ba | (apply Bb; (· rfl); (· rfl)) | (apply Bc; (· exact nxE)) | (apply Bd; (· rfl); (· rfl); (· exact nxE))); (· first | exact Ok.lenD rfl rfl hcl | exact Ok.pe)) | ((first | apply Ca | (apply Cb; (· exact nxE))); (· first | exact Ok.e0)) | refine Sx ?_ | (refine Sy (fun h => ?_) (fun h => ?_) <;> try (exfalso; omega; done)) | refine Sz (fun h => ?_) (fun h => ?_))
      refine ⟨⟨k + 1, by omega, hnext he⟩, ?_, by simp only; omega⟩
      (apply Le.headZ [] rfl)
      all_goals (try dsimp only [srcs])
      (case' hfr | hob => (repeat' (first | refine La ?_ ?_ | exact Lc | refine Lo ?_ | refine ⟨⟨_, rfl, ?_⟩, ?_⟩ | refine Lx ?_)))
      all_goals (first | ((first | rfl | (rw [h3]; done))) | exact Ld)
  · obtain rfl : k = r.length := by omega
    rw [List.take_length] at h2
    exact absurd h2 hp
theorem any_take {c : List Nat} {k v : Nat} : ((cN c).take k).any (fun x => decide (x = (v : Int))) = decide (v ∈ c.take k) := by
  rw [Bool.eq_iff_iff, List.any_eq_true, decide_eq_true_eq]
  unfold cN
  rw [← List.map_take]
  constructor
  · rintro ⟨x, hx, h⟩
    obtain ⟨y, hy, rfl⟩ := List.mem_map.1 hx
    have : (y : Int) = v := of_decide_eq_true h
    obtain rfl : y = v := by omega
    exact hy
  · intro h
    exact ⟨(v : Int), List.mem_map.2 ⟨v, h, rfl⟩, by simp⟩
theorem nodup_take {c : List Nat} {k v : Nat} (hv : c[k]? = some v) (h : (c.take k).Nodup) (hn : v ∉ c.take k) : (c.take (k + 1)).Nodup := by
  obtain ⟨hk, rfl⟩ := List.getElem?_eq_some_iff.1 hv
  rw [List.take_succ_eq_append_getElem hk]
  refine List.nodup_append.2 ⟨h, by simp, fun a ha b hb => ?_⟩
  simp at hb; subst hb
  intro e; subst e; exact hn ha
theorem nodup_not {c : List Nat} {k v : Nat} (hv : c[k]? = some v) (h : v ∈ c.take k) : ¬ c.Nodup := fun hnd => by
  obtain ⟨hk, rfl⟩ := List.getElem?_eq_some_iff.1 hv
  have h2 := hnd
  rw [← List.take_append_drop k c] at h2
  exact (List.nodup_append.1 h2).2.2 _ h c[k] (by rw [List.drop_eq_getElem_cons hk]; exact List.mem_cons_self) rfl
set_option maxHeartbeats 2000000 in
theorem l03CycleG_ac (t : List (List Int)) (n : Nat) (h : MatOk t n) (c : List Int) (hl : c.length ≤ 100000000) : AC Tryz.prog 115 [TL t, IL c] H0 (.tup [I (cyV (entN t) n c), Bo (cyB (entN t) n c)]) H0 := by
  have hn := h.le
  have hN := l03NodesG_ac t n h.sq c (by omega) hl
  have hcl : (IR c).length = c.length := by simp
  by_cases h0 : c = []
  · obtain ⟨e1, e2⟩ := cy_no (W := entN t) (n := n) (c := c) (fun ⟨f, r, e, _⟩ => by rw [h0] at e; simp at e)
    rw [e1, e2]
    have hc0 : c.length = 0 := by rw [h0]; rfl
    refine AC.of_body 0 Tryz.func115 rfl (fun l h => absurd rfl h) (fun C hC => ?_)
    have hD : ∀ l, ¬ C.D0 l := fun l h => (hC l).1 h rfl
    simp only [startFr, Tryz.ntmps115, List.length_cons, List.length_nil, Nat.reduceAdd, Nat.reduceSub, List.replicate_succ, List.replicate_zero, List.cons_append, List.nil_append]
    repeat' (first | ((first | apply Ba | (apply Bb; (· rfl); (· rfl)) | (apply Bc; (· exact nxE)) | (apply Bd; (· rfl); (· rfl); (· exact nxE))); (· first | exact Ok.lenD rfl rfl hcl | exact Ok.pe)) | ((first | apply Ca | (apply Cb; (· exact nxE))); (· first | exact Ok.e0)) | refine Sx ?_ | (refine Sy (fun h => ?_) (fun h => ?_) <;> try (exfalso; omega; done)) | refine Sz (fun h => ?_) (fun h => ?_))
    refine Yb ?_
    (apply Le.headZ (hs := []) [] rfl)
    all_goals (try dsimp only [srcs])
    (case' hfr => (repeat' (first | refine La ?_ ?_ | exact Lc | refine Lo ?_ | refine ⟨⟨_, rfl, ?_⟩, ?_⟩ | refine Lx ?_)))
    all_goals (first | exact Ld | exact trivial | (rfl))
  have hpos := List.length_pos_iff.2 h0
  cases hw : wiB c c.length 0 ((n : Int) - 1)
  · rw [hw] at hN
    obtain ⟨e1, e2⟩ := cy_no (W := entN t) (n := n) (c := c) (fun ⟨f, r, e, h1, h2, _⟩ => by
      have := wiB_nodes (c := f :: r) (n := n) (fun x hx => by
        rcases List.mem_cons.1 hx with rfl | hx
        · exact h1
        · exact h2 x hx)
      rw [e] at hw
      rw [show (cN (f :: r)).length = (f :: r).length by simp [cN], this] at hw
      cases hw)
    rw [e1, e2]
    refine AC.of_body 0 Tryz.func115 rfl (fun l h => absurd rfl h) (fun C hC => ?_)
    have hD : ∀ l, ¬ C.D0 l := fun l h => (hC l).1 h rfl
    simp only [startFr, Tryz.ntmps115, List.length_cons, List.length_nil, Nat.reduceAdd, Nat.reduceSub, List.replicate_succ, List.replicate_zero, List.cons_append, List.nil_append]
    repeat' (first | ((first | apply Ba | (apply Bb; (· rfl); (· rfl)) | (apply Bc; (· exact nxE)) | (apply Bd; (· rfl); (· rfl); (· exact nxE))); (· first | exact Ok.lenD rfl rfl hcl | exact Kz rfl rfl (hN) (Ad (Ad An)) | exact Ok.pe)) | ((first | apply Ca | (apply Cb; (· exact nxE))); (· first | exact Ok.e0)) | refine Sx ?_ | (refine Sy (fun h => ?_) (fun h => ?_) <;> try (exfalso; omega; done)) | refine Sz (fun h => ?_) (fun h => ?_))
    refine Yb ?_
    (apply Le.headZ (hs := []) [] rfl)
    all_goals (try dsimp only [srcs])
    (case' hfr => (repeat' (first | refine La ?_ ?_ | exact Lc | refine Lo ?_ | refine ⟨⟨_, rfl, ?_⟩, ?_⟩ | refine Lx ?_)))
    all_goals (first | exact Ld | exact trivial | (rfl))
  rw [hw] at hN
  obtain ⟨l, rfl, hln⟩ := wiB_of hw
  obtain ⟨f, r, rfl⟩ : ∃ f r, l = f :: r := by cases l with | nil => exact absurd rfl h0 | cons a b => exact ⟨a, b, rfl⟩
  have hf := hln f (by simp)
  have hr : ∀ x ∈ r, x < n := fun x hx => hln x (by simp [hx])
  have hcl2 : (cN (f :: r)).length = (f :: r).length := by simp [cN]
  have hcl3 : (IR (cN (f :: r))).length = (f :: r).length := by simp
  by_cases hnd : (f :: r).Nodup
  case neg =>
    obtain ⟨e1, e2⟩ := cy_no (W := entN t) (n := n) (c := cN (f :: r)) (fun ⟨f', r', e, _, _, h3, _⟩ => hnd (by rw [cN_inj e]; exact h3))
    rw [e1, e2]
    rw [hcl2] at hpos hl
    generalize f :: r = q at *
    refine AC.of_body 0 Tryz.func115 rfl (fun l h => absurd rfl h) (fun C hC => ?_)
    have hD : ∀ l, ¬ C.D0 l := fun l h => (hC l).1 h rfl
    simp only [startFr, Tryz.ntmps115, List.length_cons, List.length_nil, Nat.reduceAdd, Nat.reduceSub, List.replicate_succ, List.replicate_zero, List.cons_append, List.nil_append]
    repeat' (first | ((first | apply Ba | (apply Bb; (· rfl); (· rfl)) | (apply Bc; (· exact nxE)) | (apply Bd; (· rfl); (· rfl); (· exact nxE))); (· first | exact Ok.lenD rfl rfl hcl3 | exact Kz rfl rfl (hN) (Ad (Ad An)) | exact Ok.pe)) | ((first | apply Ca | (apply Cb; (· exact nxE))); (· first | exact Ok.e0)) | refine Sx ?_ | (refine Sy (fun h => ?_) (fun h => ?_) <;> try (exfalso; omega; done)) | refine Sz (fun h => ?_) (fun h => ?_))
    refine AW.loop (X := {k : Nat // k ≤ q.length ∧ (q.take k).Nodup}) (fun k => ⟨[TL t, IL (cN q), Oo, Oo, Oo, Oo, I (k.1 : Nat), Oo, Oo, Oo, Oo, Oo, Oo, Oo, Oo, Oo, Oo, Oo, Oo, Oo, Oo, Oo, Oo, Oo, Oo, Oo, Oo, Oo, Oo, Oo, Oo, Oo, Oo, Oo, Oo, Oo, Oo, Oo, Oo, Oo, Oo], heapL [], 900⟩) (fun k => q.length - k.1) ⟨0, Nat.zero_le _, by simp⟩ ?_ (fun k => ?_)
    ·
      (apply Le.headZ [] rfl)
      all_goals (try dsimp only [srcs])
      (case' hfr | hob => (repeat' (first | refine La ?_ ?_ | exact Lc | refine Lo ?_ | refine ⟨⟨_, rfl, ?_⟩, ?_⟩ | refine Lx ?_)))
      all_goals (first | (rfl) | exact Ld)
    obtain ⟨k, hk, hdk⟩ := k
    simp only
    by_cases hlt : k < q.length
    · obtain ⟨v, hv⟩ : ∃ v, q[k]? = some v := ⟨q[k], by simp⟩
      have hrow : (IR (cN q))[((k : Nat) : Int).toNat]? = some [DI (v : Nat)] := IR_get (by simp [cN, hv])
      have hH := l01Has_ac ((cN q).take k) (v : Nat) (by rw [List.length_take]; omega)
      rw [any_take] at hH
      by_cases hm : v ∈ q.take k
      · rw [decide_eq_true hm] at hH
        repeat' (first | ((first | apply Ba | (apply Bb; (· rfl); (· rfl)) | (apply Bc; (· exact nxE)) | (apply Bd; (· rfl); (· rfl); (· exact nxE))); (· first | exact Ok.lenD rfl rfl hcl3 | exact Ok.sliceTo (row := fun n => [DI n]) rfl rfl rfl (by omega) (by rw [hcl2]; omega) | exact Kz rfl rfl (hH) (Ad (Ad An)) | exact Ok.pe)) | ((first | apply Ca | (apply Cb; (· exact nxE))); (· first | exact Ok.e0)) | refine Sx ?_ | (refine Sy (fun h => ?_) (fun h => ?_) <;> try (exfalso; omega; done)) | refine Sz (fun h => ?_) (fun h => ?_))
        refine Yb ?_
        (apply Le.headZ (hs := []) [] rfl)
        all_goals (try dsimp only [srcs])
        (case' hfr => (repeat' (first | refine La ?_ ?_ | exact Lc | refine Lo ?_ | refine ⟨⟨_, rfl, ?_⟩, ?_⟩ | refine Lx ?_)))
        all_goals (first | exact Ld | exact trivial | (rfl))
      · rw [decide_eq_false hm] at hH
        have hnx := nodup_take hv hdk hm
        repeat' (first | ((first | apply Ba | (apply Bb; (· rfl); (· rfl)) | (apply Bc; (· exact nxE)) | (apply Bd; (· rfl); (· rfl); (· exact nxE))); (· first | exact Ok.lenD rfl rfl hcl3 | exact Ok.sliceTo (row := fun n => [DI n]) rfl rfl rfl (by omega) (by rw [hcl2]; omega) | exact Kz rfl rfl (hH) (Ad (Ad An)) | exact Ok.pe)) | ((first | apply Ca | (apply Cb; (· exact nxE))); (· first | exact Ok.e0)) | refine Sx ?_ | (refine Sy (fun h => ?_) (fun h => ?_) <;> try (exfalso; omega; done)) | refine Sz (fun h => ?_) (fun h => ?_))
        refine ⟨⟨k + 1, by omega, hnx⟩, ?_, by simp only; omega⟩
        (apply Le.headZ [] rfl)
        all_goals (try dsimp only [srcs])
        (case' hfr | hob => (repeat' (first | refine La ?_ ?_ | exact Lc | refine Lo ?_ | refine ⟨⟨_, rfl, ?_⟩, ?_⟩ | refine Lx ?_)))
        all_goals (first | (rfl) | exact Ld)
    · obtain rfl : k = q.length := by omega
      rw [List.take_length] at hdk
      exact absurd hdk hnd
  have hlen := nodup_le n (f :: r) (by simpa using hnd) hln
  have hrl : (r ++ [f]).length ≤ 1000 := by simp at hlen ⊢; omega
  have hra : ∀ x ∈ r ++ [f], x < n := fun x hx => by
    rcases List.mem_append.1 hx with hx | hx
    · exact hr x hx
    · simp at hx; subst hx; exact hf
  have hS : kW (entN t) f (r ++ [f]) = cyS (entN t) f r := by rw [kW_app]; simp [kW, cyS]
  have hWk : AC Tryz.prog 154 [TL t, IL (cN (f :: (r ++ [f])))] H0 (.tup [I (cyV (entN t) n (cN (f :: r))), Bo (cyB (entN t) n (cN (f :: r)))]) H0 := by
    by_cases hp : kP (entN t) f (r ++ [f])
    · obtain ⟨e1, e2⟩ := cy_yes (W := entN t) (n := n) (f := f) (r := r) ⟨f, r, rfl, hf, hr, hnd, hp⟩
      rw [e1, e2, ← hS]
      exact l03Walk_ac t n h f (r ++ [f]) hf hra hp hrl
    · obtain ⟨e1, e2⟩ := cy_no (W := entN t) (n := n) (c := cN (f :: r)) (fun ⟨f', r', e, _, _, _, h4⟩ => hp (by
        have := cN_inj e
        simp only [List.cons.injEq] at this
        rw [this.1, this.2]; exact h4))
      rw [e1, e2]
      exact l03Walk_no t n h f (r ++ [f]) hf hra hp hrl
  generalize cyV (entN t) n (cN (f :: r)) = w at *
  generalize cyB (entN t) n (cN (f :: r)) = b at *
  have hOw := l01Own_ac (cN (f :: r)) (by rw [hcl2]; omega)
  have h0g : (IR (cN (f :: r)))[(0 : Int).toNat]? = some [DI (f : Nat)] := rfl
  have hWq : AC Tryz.prog 154 [TL t, .d (.sl 1 (IR (cN (f :: r)) ++ [[DI (f : Nat)]]))] H0 (.tup [I w, Bo b]) H0 := by
    have e : IR (cN (f :: r)) ++ [[DI (f : Nat)]] = IR (cN (f :: (r ++ [f]))) := by simp [cN]
    rw [e]; exact hWk
  clear hWk
  have hlp : 0 < (f :: r).length := by simp
  generalize f :: r = q at *
  rw [hcl2] at hOw
  refine AC.of_body 0 Tryz.func115 rfl (fun l h => absurd rfl h) (fun C hC => ?_)
  have hD : ∀ l, ¬ C.D0 l := fun l h => (hC l).1 h rfl
  simp only [startFr, Tryz.ntmps115, List.length_cons, List.length_nil, Nat.reduceAdd, Nat.reduceSub, List.replicate_succ, List.replicate_zero, List.cons_append, List.nil_append]
  repeat' (first | ((first | apply Ba | (apply Bb; (· rfl); (· rfl)) | (apply Bc; (· exact nxE)) | (apply Bd; (· rfl); (· rfl); (· exact nxE))); (· first | exact Ok.lenD rfl rfl hcl3 | exact Kz rfl rfl (hN) (Ad (Ad An)) | exact Ok.pe)) | ((first | apply Ca | (apply Cb; (· exact nxE))); (· first | exact Ok.e0)) | refine Sx ?_ | (refine Sy (fun h => ?_) (fun h => ?_) <;> try (exfalso; omega; done)) | refine Sz (fun h => ?_) (fun h => ?_))
  refine AW.loop (X := {k : Nat // k ≤ q.length}) (fun k => ⟨[TL t, IL (cN q), Oo, Oo, Oo, Oo, I (k.1 : Nat), Oo, Oo, Oo, Oo, Oo, Oo, Oo, Oo, Oo, Oo, Oo, Oo, Oo, Oo, Oo, Oo, Oo, Oo, Oo, Oo, Oo, Oo, Oo, Oo, Oo, Oo, Oo, Oo, Oo, Oo, Oo, Oo, Oo, Oo], heapL [], 900⟩) (fun k => q.length - k.1) ⟨0, Nat.zero_le _⟩ ?_ (fun k => ?_)
  ·
    (apply Le.headZ [] rfl)
    all_goals (try dsimp only [srcs])
    (case' hfr | hob => (repeat' (first | refine La ?_ ?_ | exact Lc | refine Lo ?_ | refine ⟨⟨_, rfl, ?_⟩, ?_⟩ | refine Lx ?_)))
    all_goals (first | (rfl) | exact Ld)
  obtain ⟨k, hk⟩ := k
  simp only
  by_cases hlt : k < q.length
  · obtain ⟨v, hv⟩ : ∃ v, q[k]? = some v := ⟨q[k], by simp⟩
    have hrow : (IR (cN q))[((k : Nat) : Int).toNat]? = some [DI (v : Nat)] := IR_get (by simp [cN, hv])
    have hH := l01Has_ac ((cN q).take k) (v : Nat) (by rw [List.length_take]; omega)
    rw [any_take, decide_eq_false (fun hm => nodup_not hv hm hnd)] at hH
    repeat' (first | ((first | apply Ba | (apply Bb; (· rfl); (· rfl)) | (apply Bc; (· exact nxE)) | (apply Bd; (· rfl); (· rfl); (· exact nxE))); (· first | exact Ok.lenD rfl rfl hcl3 | exact Ok.sliceTo (row := fun n => [DI n]) rfl rfl rfl (by omega) (by rw [hcl2]; omega) | exact Kz rfl rfl (hH) (Ad (Ad An)) | exact Ok.pe)) | ((first | apply Ca | (apply Cb; (· exact nxE))); (· first | exact Ok.e0)) | refine Sx ?_ | (refine Sy (fun h => ?_) (fun h => ?_) <;> try (exfalso; omega; done)) | refine Sz (fun h => ?_) (fun h => ?_))
    refine ⟨⟨k + 1, by omega⟩, ?_, by simp only; omega⟩
    (apply Le.headZ [] rfl)
    all_goals (try dsimp only [srcs])
    (case' hfr | hob => (repeat' (first | refine La ?_ ?_ | exact Lc | refine Lo ?_ | refine ⟨⟨_, rfl, ?_⟩, ?_⟩ | refine Lx ?_)))
    all_goals (first | (rfl) | exact Ld)
  · obtain rfl : k = q.length := by omega
    repeat' (first | ((first | apply Ba | (apply Bb; (· rfl); (· rfl)) | (apply Bc; (· exact nxE)) | (apply Bd; (· rfl); (· rfl); (· exact nxE))); (· first | exact Ok.lenD rfl rfl hcl3 | exact Ez rfl rfl (hWq) (Sd (Sw Sn)) | exact Eo rfl rfl (hOw) (Sd Sn) | exact Ok.append1 (row := [DI (f : Nat)]) rfl rfl (by decide) rfl rfl hcl3 rfl rfl rfl (by rfl) (by omega) (by omega) | exact Ok.pe)) | ((first | apply Ca | (apply Cb; (· exact nxE))); (· first | exact Eo rfl rfl (hOw) (Sd Sn) | exact Ok.append1 (row := [DI (f : Nat)]) rfl rfl (by decide) rfl rfl hcl3 rfl rfl rfl (by rfl) (by omega) (by omega) | exact Ok.e0)) | refine Sx ?_ | (refine Sy (fun h => ?_) (fun h => ?_) <;> try (exfalso; omega; done)) | refine Sz (fun h => ?_) (fun h => ?_))
    refine Yb ?_
    (apply Le.headZ (hs := []) [] rfl)
    all_goals (try dsimp only [srcs])
    (case' hfr => (repeat' (first | refine La ?_ ?_ | exact Lc | refine Lo ?_ | refine ⟨⟨_, rfl, ?_⟩, ?_⟩ | refine Lx ?_)))
    all_goals (first | exact Ld | exact trivial | (rfl))
end Go.Proofs.YtikadoicplnkgaaGreat
end

section
namespace Go.Proofs.YtikadoicplnkgaaGreat
set_option linter.unusedSimpArgs false
set_option linter.unusedVariables false
open Go Go.RowKit
attribute [local irreducible] AL AD AW OpOk Le AC thenQ blockQ EndQ

/-! ### Nodes -/
def nodB (t : List (List Int)) (e : Int) : Bool := wi e 0 ((t.length : Int) - 1)
theorem isNode_ac (t : List (List Int)) (e : Int) (ht : t.length ≤ 100000000) : AC Tryz.prog 82 [TL t, I e] H0 (Bo (nodB t e)) H0 := by
  have hW := within_ac e 0 ((t.length : Int) - 1)
  have hlen : (mRows 1 (TR t)).length = t.length := mTR_len
  refine AC.of_body 0 Tryz.func82 rfl (fun l h => absurd rfl h) (fun C hC => ?_)
  have hD : ∀ l, ¬ C.D0 l := fun l h => (hC l).1 h rfl
  simp only [startFr, Tryz.ntmps82, List.length_cons, List.length_nil, Nat.reduceAdd, Nat.reduceSub, List.replicate_succ, List.replicate_zero, List.cons_append, List.nil_append]
  repeat' (first | ((first | apply Ba | (apply Bb; (· rfl); (· rfl)) | (apply Bc; (· exact nxE)) | (apply Bd; (· rfl); (· rfl); (· exact nxE))); (· first | exact Ok.lenD rfl rfl hlen | exact Kz rfl rfl (hW) (Ad (Ad (Ad An))) | exact Ok.pe)) | ((first | apply Ca | (apply Cb; (· exact nxE))); (· first | exact Ok.e0)) | refine Sx ?_ | (refine Sy (fun h => ?_) (fun h => ?_) <;> try (exfalso; omega; done)) | refine Sz (fun h => ?_) (fun h => ?_))
  refine Ya ?_
  (apply Le.headZ (hs := []) [] rfl)
  all_goals (try dsimp only [srcs])
  (case' hfr => (repeat' (first | refine La ?_ ?_ | exact Lc | refine Lo ?_ | refine ⟨⟨_, rfl, ?_⟩, ?_⟩ | refine Lx ?_)))
  all_goals (first | exact Ld | exact trivial | (rfl))
/-! ### The mean upstream -/
end Go.Proofs.YtikadoicplnkgaaGreat
end

section
namespace Go.Proofs.YtikadoicplnkgaaGreat
set_option linter.unusedSimpArgs false
set_option linter.unusedVariables false
open Go Go.RowKit
attribute [local irreducible] AL AD AW OpOk Le AC thenQ blockQ EndQ

structure CwI (W : Nat → Nat → Int) (n : Nat) (c : List Int) (k : Nat) (w b : Int) : Prop where
  nodes : ∀ x ∈ c.take k, 0 ≤ x ∧ x < n
  nd : ((c.map Int.toNat).take k).Nodup
  zero : k = 0 → w = 0 ∧ c[c.length - 1]? = some b
  pos : 0 < k → (∃ z : Nat, c[c.length - 1]? = some (z : Int) ∧ z < n ∧ W (hdN (c.map Int.toNat)) z ≠ BOT ∧ w = W (hdN (c.map Int.toNat)) z + kW W (hdN (c.map Int.toNat)) ((c.map Int.toNat).tail.take (k - 1))) ∧ kP W (hdN (c.map Int.toNat)) ((c.map Int.toNat).tail.take (k - 1)) ∧ c[k - 1]? = some b
section
variable {W : Nat → Nat → Int} {n : Nat} {c : List Int}
theorem ns_hd (h : 0 < c.length) : c.map Int.toNat = hdN (c.map Int.toNat) :: (c.map Int.toNat).tail := by
  cases c with
  | nil => simp at h
  | cons a q => rfl
theorem ns_get {k : Nat} {v : Int} (h : c[k]? = some v) : (c.map Int.toNat)[k]? = some v.toNat := by rw [List.getElem?_map, h]; rfl
theorem CwI.start (h : 0 < c.length) {b : Int} (hb : c[c.length - 1]? = some b) : CwI W n c 0 0 b := ⟨by simp, by simp, fun _ => ⟨rfl, hb⟩, fun h => by omega⟩
theorem CwI.step {k : Nat} {w b : Int} {v z : Nat} (h : CwI W n c k w b) (hk : k < c.length) (hv : c[k]? = some (v : Int)) (hvn : v < n) (hb : b = z) (hz : z < n) (hno : v ∉ (c.map Int.toNat).take k) (hW : W v z ≠ BOT) : CwI W n c (k + 1) (w + W v z) v := by
  have hns := ns_hd (c := c) (by omega)
  have hvs := ns_get hv
  rw [Int.toNat_natCast] at hvs
  refine ⟨fun x hx => ?_, nodup_take hvs h.nd hno, fun e => by omega, fun _ => ?_⟩
  · obtain ⟨hk', e⟩ := List.getElem?_eq_some_iff.1 hv
    rw [List.take_succ_eq_append_getElem hk', List.mem_append] at hx
    rcases hx with hx | hx
    · exact h.nodes x hx
    · simp at hx; rw [hx, e]; omega
  · rw [Nat.add_sub_cancel]
    by_cases e : k = 0
    · subst e
      obtain ⟨e1, e2⟩ := h.zero rfl
      have hf : hdN (c.map Int.toNat) = v := by
        rw [hns] at hvs
        simpa using hvs
      rw [hf, List.take_zero]
      refine ⟨⟨z, by rw [e2, hb], hz, hW, ?_⟩, trivial, by simpa using hv⟩
      rw [e1]; simp [kW]
    · obtain ⟨⟨y, y1, y2, y3, y4⟩, p2, p3⟩ := h.pos (by omega)
      have hps := ns_get p3
      rw [hb, Int.toNat_natCast] at hps
      rw [hns] at hvs hps
      generalize hdN (c.map Int.toNat) = f at *
      generalize (c.map Int.toNat).tail = r at *
      have hrv : r[k - 1]? = some v := by
        rw [show k = (k - 1) + 1 by omega, List.getElem?_cons_succ] at hvs
        exact hvs
      have hkl := (List.getElem?_eq_some_iff.1 hrv).1
      have hE := kE_take (f := f) (r := r) (k := k - 1) (by omega)
      rw [hps] at hE
      have hE := Option.some.inj hE
      have h3 := kW_take (W := W) (f := f) hrv
      rw [show k - 1 + 1 = k by omega, ← hE] at h3
      refine ⟨⟨y, y1, y2, y3, by rw [h3, y4]; omega⟩, ?_, hv⟩
      obtain ⟨hk', e⟩ := List.getElem?_eq_some_iff.1 hrv
      rw [show r.take k = r.take (k - 1) ++ [v] by rw [show k = k - 1 + 1 by omega, List.take_succ_eq_append_getElem hk', e]; simp]
      exact (kP_app _ _ _).2 ⟨p2, by rw [← hE]; exact ⟨hW, trivial⟩⟩
theorem CwI.fin {w b : Int} (h : CwI W n c c.length w b) (h0 : 0 < c.length) : cyB W n c = true ∧ cyV W n c = w := by
  have hns := ns_hd (c := c) h0
  obtain ⟨⟨z, z1, z2, z3, z4⟩, p2, p3⟩ := h.pos h0
  have hc : c = cN (c.map Int.toNat) := by
    unfold cN
    rw [List.map_map]
    conv => lhs; rw [← List.map_id c]
    exact List.map_congr_left fun x hx => by have := h.nodes x (by rwa [List.take_length]); simp; omega
  have hnd := h.nd
  rw [List.take_of_length_le (by simp)] at hnd
  have hnode : ∀ x ∈ c.map Int.toNat, x < n := fun x hx => by
    obtain ⟨y, hy, rfl⟩ := List.mem_map.1 hx
    have := h.nodes y (by rwa [List.take_length])
    omega
  have hlz := ns_get z1
  rw [Int.toNat_natCast] at hlz
  have hlen : (c.map Int.toNat).length = c.length := by simp
  generalize c.map Int.toNat = l at *
  generalize hdN l = f at *
  generalize l.tail = r at *
  subst hns
  simp only [List.length_cons] at hlen
  rw [← hlen, Nat.add_sub_cancel, List.take_length] at p2 z4
  rw [← hlen, Nat.add_sub_cancel] at hlz
  have hE := kE_take (f := f) (r := r) (k := r.length) (Nat.le_refl _)
  rw [hlz, List.take_length] at hE
  have hE := Option.some.inj hE
  rw [hc]
  obtain ⟨e1, e2⟩ := cy_yes (W := W) (n := n) (f := f) (r := r) ⟨f, r, rfl, hnode f (by simp), fun x hx => hnode x (by simp [hx]), hnd, (kP_app r [f] f).2 ⟨p2, by rw [← hE]; exact ⟨z3, trivial⟩⟩⟩
  refine ⟨e1, ?_⟩
  rw [e2, z4]
  unfold cyS
  rw [← hE]; omega
theorem cyOk.node (h : cyOk W n c) {k : Nat} {x : Int} (hx : c[k]? = some x) : 0 ≤ x ∧ x < n := by
  obtain ⟨f, r, rfl, h1, h2, _⟩ := h
  unfold cN at hx
  rw [List.getElem?_map, Option.map_eq_some_iff] at hx
  obtain ⟨y, hy, rfl⟩ := hx
  have := List.mem_of_getElem? hy
  rcases List.mem_cons.1 this with rfl | hm
  · omega
  · have := h2 y hm; omega
theorem cyOk.nodup (h : cyOk W n c) {k v : Nat} (hv : c[k]? = some (v : Int)) : v ∉ (c.map Int.toNat).take k := fun hm => by
  obtain ⟨f, r, rfl, _, _, h3, _⟩ := h
  rw [toNat_cN] at hm
  have := ns_get hv
  rw [toNat_cN, Int.toNat_natCast] at this
  exact nodup_not this hm h3
theorem cyOk.arc (h : cyOk W n c) {k v z : Nat} (hv : c[k]? = some (v : Int)) (hz : c[if k = 0 then c.length - 1 else k - 1]? = some (z : Int)) : W v z ≠ BOT := by
  obtain ⟨f, r, rfl, h1, h2, h3, h4⟩ := h
  obtain ⟨p1, p2⟩ := (kP_app r [f] f).1 h4
  have hv := ns_get hv
  have hz := ns_get hz
  rw [toNat_cN, Int.toNat_natCast] at hv hz
  by_cases e : k = 0
  · subst e
    simp at hv; subst hv
    rw [if_pos rfl, show (cN (f :: r)).length - 1 = r.length by simp [cN]] at hz
    have hE := kE_take (f := f) (r := r) (k := r.length) (Nat.le_refl _)
    rw [hz, List.take_length] at hE
    rw [Option.some.inj hE]
    exact p2.1
  · rw [if_neg e] at hz
    have hrv : r[k - 1]? = some v := by
      rw [show k = (k - 1) + 1 by omega, List.getElem?_cons_succ] at hv
      exact hv
    have hkl := (List.getElem?_eq_some_iff.1 hrv).1
    have hE := kE_take (f := f) (r := r) (k := k - 1) (by omega)
    rw [hz] at hE
    rw [Option.some.inj hE]
    exact (kP_at p1 hrv).1
theorem CwI.bnd {k : Nat} {w b : Int} (h : CwI W n c k w b) (hb : ∀ u v, W v u ≠ BOT → -1000000 ≤ W v u ∧ W v u ≤ 1000000) (hk : k ≤ 1000000) : -2000000000000 ≤ w ∧ w ≤ 2000000000000 := by
  by_cases e : k = 0
  · have := (h.zero e).1; omega
  · obtain ⟨⟨z, _, _, z3, z4⟩, p2, _⟩ := h.pos (by omega)
    have h1 := hb _ _ z3
    have h2 := kW_bnd (M := 1000000) hb p2
    have h3 : ((c.map Int.toNat).tail.take (k - 1)).length ≤ 1000000 := by rw [List.length_take]; omega
    generalize ((c.map Int.toNat).tail.take (k - 1)).length = m at *
    omega
theorem CwI.prev {k : Nat} {w b : Int} (h : CwI W n c k w b) : c[if k = 0 then c.length - 1 else k - 1]? = some b := by
  by_cases e : k = 0
  · rw [if_pos e]; exact (h.zero e).2
  · rw [if_neg e]; exact (h.pos (by omega)).2.2
end
theorem any_takeI {c : List Int} {k v : Nat} (h : ∀ x ∈ c.take k, 0 ≤ x) : (c.take k).any (fun x => decide (x = (v : Int))) = decide (v ∈ (c.map Int.toNat).take k) := by
  rw [Bool.eq_iff_iff, List.any_eq_true, decide_eq_true_eq, ← List.map_take]
  constructor
  · rintro ⟨x, hx, e⟩
    exact List.mem_map.2 ⟨x, hx, by have := of_decide_eq_true e; omega⟩
  · intro hm
    obtain ⟨y, hy, e⟩ := List.mem_map.1 hm
    exact ⟨y, hy, decide_eq_true (by have := h y hy; omega)⟩
theorem nodB_nat {t : List (List Int)} {n : Nat} {e : Int} (hl : t.length = n) (h : nodB t e = true) : ∃ v : Nat, e = v ∧ v < n := by
  have := wi_iff.1 h
  exact ⟨e.toNat, by omega, by omega⟩
theorem nodB_no {t : List (List Int)} {n : Nat} {e : Int} (hl : t.length = n) (h : nodB t e = false) : ¬ (0 ≤ e ∧ e < n) := fun hh => by
  have : nodB t e = true := wi_iff.2 (by omega)
  rw [h] at this; cases this
set_option maxHeartbeats 4000000 in
theorem cycleWeight_ac (t : List (List Int)) (n : Nat) (hM : MatOk t n) (c : List Int) (hl : c.length ≤ 1000000) : AC Tryz.prog 55 [TL t, IL c] H0 (.tup [I (cyV (entN t) n c), Bo (cyB (entN t) n c)]) H0 := by
  have hn := hM.le
  have htl := hM.sq.l
  have hcl : (IR c).length = c.length := by simp
  by_cases h0 : c.length = 0
  · obtain ⟨e1, e2⟩ := cy_no (W := entN t) (n := n) (c := c) (fun ⟨f, r, e, _⟩ => by rw [e] at h0; simp [cN] at h0)
    rw [e1, e2]
    refine AC.of_body 0 Tryz.func55 rfl (fun l h => absurd rfl h) (fun C hC => ?_)
    have hD : ∀ l, ¬ C.D0 l := fun l h => (hC l).1 h rfl
    simp only [startFr, Tryz.ntmps55, List.length_cons, List.length_nil, Nat.reduceAdd, Nat.reduceSub, List.replicate_succ, List.replicate_zero, List.cons_append, List.nil_append]
    repeat' (first | ((first | apply Ba | (apply Bb; (· rfl); (· rfl)) | (apply Bc; (· exact nxE)) | (apply Bd; (· rfl); (· rfl); (· exact nxE))); (· first | exact Ok.lenD rfl rfl hcl | exact Ok.pe)) | ((first | apply Ca | (apply Cb; (· exact nxE))); (· first | exact Ok.e0)) | refine Sx ?_ | (refine Sy (fun h => ?_) (fun h => ?_) <;> try (exfalso; omega; done)) | refine Sz (fun h => ?_) (fun h => ?_))
    refine Yb ?_
    (apply Le.headZ (hs := []) [] rfl)
    all_goals (try dsimp only [srcs])
    (case' hfr => (repeat' (first | refine La ?_ ?_ | exact Lc | refine Lo ?_ | refine ⟨⟨_, rfl, ?_⟩, ?_⟩ | refine Lx ?_)))
    all_goals (first | exact Ld | exact trivial | (rfl))
  obtain ⟨bl, hbl⟩ : ∃ b, c[c.length - 1]? = some b := ⟨c[c.length - 1]'(by omega), List.getElem?_eq_getElem _⟩
  have hblr : (IR c)[((c.length : Int) - 1).toNat]? = some [DI bl] := by
    rw [show ((c.length : Int) - 1).toNat = c.length - 1 by omega]
    simp [hbl]
  refine AC.of_body 0 Tryz.func55 rfl (fun l h => absurd rfl h) (fun C hC => ?_)
  have hD : ∀ l, ¬ C.D0 l := fun l h => (hC l).1 h rfl
  simp only [startFr, Tryz.ntmps55, List.length_cons, List.length_nil, Nat.reduceAdd, Nat.reduceSub, List.replicate_succ, List.replicate_zero, List.cons_append, List.nil_append]
  repeat' (first | ((first | apply Ba | (apply Bb; (· rfl); (· rfl)) | (apply Bc; (· exact nxE)) | (apply Bd; (· rfl); (· rfl); (· exact nxE))); (· first | exact Ok.lenD rfl rfl hcl | exact Ok.pe)) | ((first | apply Ca | (apply Cb; (· exact nxE))); (· first | exact Ok.e0)) | refine Sx ?_ | (refine Sy (fun h => ?_) (fun h => ?_) <;> try (exfalso; omega; done)) | refine Sz (fun h => ?_) (fun h => ?_))
  refine AW.loop (X := {s : Nat × Int × Int // s.1 ≤ c.length ∧ CwI (entN t) n c s.1 s.2.1 s.2.2}) (fun s => ⟨[TL t, IL c, Oo, Oo, Oo, Oo, I s.1.2.1, I s.1.2.2, Oo, Oo, Oo, Oo, Oo, Oo, Oo, Oo, Oo, Oo, Oo, IL c, I c.length, I (s.1.1 : Nat), Oo, Oo, Oo, Oo, Oo, Oo, Oo, Oo, Oo, Oo, Oo, Oo, Oo, Oo, Oo, Oo, Oo, Oo, Oo, Oo, Oo, Oo, Oo, Oo, Oo, Oo, Oo, Oo, Oo, Oo, Oo, Oo, Oo, Oo, Oo, Oo, Oo, Oo, Oo, Oo, Oo, Oo, Oo], heapL [], 900⟩) (fun s => c.length - s.1.1) ⟨(0, 0, bl), Nat.zero_le _, .start (by omega) hbl⟩ ?_ (fun s => ?_)
  ·
    (apply Le.headZ [] rfl)
    all_goals (try dsimp only [srcs])
    (case' hfr | hob => (repeat' (first | refine La ?_ ?_ | exact Lc | refine Lo ?_ | refine ⟨⟨_, rfl, ?_⟩, ?_⟩ | refine Lx ?_)))
    all_goals (first | (rfl) | exact Ld)
  obtain ⟨⟨k, w, b⟩, hk, hI⟩ := s
  simp only at hk hI ⊢
  by_cases hlt : k < c.length
  case neg =>
    obtain rfl : k = c.length := by omega
    obtain ⟨e1, e2⟩ := hI.fin (by omega)
    rw [e1, e2]
    repeat' (first | ((first | apply Ba | (apply Bb; (· rfl); (· rfl)) | (apply Bc; (· exact nxE)) | (apply Bd; (· rfl); (· rfl); (· exact nxE))); (· first | exact Ok.pe)) | ((first | apply Ca | (apply Cb; (· exact nxE))); (· first | exact Ok.e0)) | refine Sx ?_ | (refine Sy (fun h => ?_) (fun h => ?_) <;> try (exfalso; omega; done)) | refine Sz (fun h => ?_) (fun h => ?_))
    refine Yb ?_
    (apply Le.headZ (hs := []) [] rfl)
    all_goals (try dsimp only [srcs])
    (case' hfr => (repeat' (first | refine La ?_ ?_ | exact Lc | refine Lo ?_ | refine ⟨⟨_, rfl, ?_⟩, ?_⟩ | refine Lx ?_)))
    all_goals (first | exact Ld | exact trivial | (rfl))
  obtain ⟨x, hx⟩ : ∃ x, c[k]? = some x := ⟨c[k], by simp⟩
  have hrow := IR_get hx
  have hN1 := isNode_ac t x (by omega)
  have hbw := hI.bnd hM.b (by omega)
  have hprev := hI.prev
  cases hnx : nodB t x
  · rw [hnx] at hN1
    obtain ⟨e1, e2⟩ := cy_no (fun hok : cyOk (entN t) n c => nodB_no htl hnx (hok.node hx))
    rw [e1, e2]
    repeat' (first | ((first | apply Ba | (apply Bb; (· rfl); (· rfl)) | (apply Bc; (· exact nxE)) | (apply Bd; (· rfl); (· rfl); (· exact nxE))); (· first | exact Kz rfl rfl (hN1) (Ad (Ad An)) | exact Ok.pe)) | ((first | apply Ca | (apply Cb; (· exact nxE))); (· first | exact Ok.e0)) | refine Sx ?_ | (refine Sy (fun h => ?_) (fun h => ?_) <;> try (exfalso; omega; done)) | refine Sz (fun h => ?_) (fun h => ?_))
    refine Yb ?_
    (apply Le.headZ (hs := []) [] rfl)
    all_goals (try dsimp only [srcs])
    (case' hfr => (repeat' (first | refine La ?_ ?_ | exact Lc | refine Lo ?_ | refine ⟨⟨_, rfl, ?_⟩, ?_⟩ | refine Lx ?_)))
    all_goals (first | exact Ld | exact trivial | (rfl))
  rw [hnx] at hN1
  obtain ⟨v, rfl, hvn⟩ := nodB_nat htl hnx
  have hN2 := isNode_ac t b (by omega)
  cases hnb : nodB t b
  · rw [hnb] at hN2
    obtain ⟨e1, e2⟩ := cy_no (fun hok : cyOk (entN t) n c => nodB_no htl hnb (hok.node hprev))
    rw [e1, e2]
    by_cases hvb : ((v : Nat) : Int) = b
    · rw [hvb] at hnx; rw [hnx] at hnb; cases hnb
    repeat' (first | ((first | apply Ba | (apply Bb; (· rfl); (· rfl)) | (apply Bc; (· exact nxE)) | (apply Bd; (· rfl); (· rfl); (· exact nxE))); (· first | exact Kz rfl rfl (hN1) (Ad (Ad An)) | exact Kz rfl rfl (hN2) (Ad (Ad An)) | exact Ok.pe)) | ((first | apply Ca | (apply Cb; (· exact nxE))); (· first | exact Ok.e0)) | refine Sx ?_ | (refine Sy (fun h => ?_) (fun h => ?_) <;> try (exfalso; omega; done)) | refine Sz (fun h => ?_) (fun h => ?_))
    refine Yb ?_
    (apply Le.headZ (hs := []) [] rfl)
    all_goals (try dsimp only [srcs])
    (case' hfr => (repeat' (first | refine La ?_ ?_ | exact Lc | refine Lo ?_ | refine ⟨⟨_, rfl, ?_⟩, ?_⟩ | refine Lx ?_)))
    all_goals (first | exact Ld | exact trivial | (rfl))
  rw [hnb] at hN2
  obtain ⟨z, rfl, hzn⟩ := nodB_nat htl hnb
  have hC := containsInt_ac (c.take k) (v : Nat) (by rw [List.length_take]; omega)
  rw [any_takeI (fun x hx => (hI.nodes x hx).1)] at hC
  by_cases hm : v ∈ (c.map Int.toNat).take k
  · rw [decide_eq_true hm] at hC
    obtain ⟨e1, e2⟩ := cy_no (fun hok : cyOk (entN t) n c => hok.nodup hx hm)
    rw [e1, e2]
    repeat' (first | ((first | apply Ba | (apply Bb; (· rfl); (· rfl)) | (apply Bc; (· exact nxE)) | (apply Bd; (· rfl); (· rfl); (· exact nxE))); (· first | exact Kz rfl rfl (hN1) (Ad (Ad An)) | exact Kz rfl rfl (hN2) (Ad (Ad An)) | exact Ok.sliceTo (row := fun n => [DI n]) rfl rfl rfl (by omega) (by omega) | exact Kz rfl rfl (hC) (Ad (Ad An)) | exact Ok.pe)) | ((first | apply Ca | (apply Cb; (· exact nxE))); (· first | exact Ok.e0)) | refine Sx ?_ | (refine Sy (fun h => ?_) (fun h => ?_) <;> try (exfalso; omega; done)) | refine Sz (fun h => ?_) (fun h => ?_))
    refine Yb ?_
    (apply Le.headZ (hs := []) [] rfl)
    all_goals (try dsimp only [srcs])
    (case' hfr => (repeat' (first | refine La ?_ ?_ | exact Lc | refine Lo ?_ | refine ⟨⟨_, rfl, ?_⟩, ?_⟩ | refine Lx ?_)))
    all_goals (first | exact Ld | exact trivial | (rfl))
  rw [decide_eq_false hm] at hC
  have hst := fun hne => hI.step hlt hx hvn rfl hzn hm hne
  have harc := fun hok : cyOk (entN t) n c => hok.arc hx hprev
  have hcy := fun he : ¬ entN t v z ≠ BOT => cy_no (fun hok : cyOk (entN t) n c => he (harc hok))
  have h5 := hM.b z v
  obtain ⟨R, hR1, hR2, hR3⟩ := hM.sq.get hvn hzn
  have hRr := TR_get hR1
  have hRf := IR_get hR2
  have hRl : (IR R).length = n := by rw [IR_len, hR3]
  generalize entN t v z = e at hst hcy h5 hRf
  by_cases he : e = BOT
  · obtain ⟨e1, e2⟩ := hcy (by simp [he])
    rw [e1, e2]
    rw [he] at hRf
    unfold BOT at hRf
    repeat' (first | ((first | apply Ba | (apply Bb; (· rfl); (· rfl)) | (apply Bc; (· exact nxE)) | (apply Bd; (· rfl); (· rfl); (· exact nxE))); (· first | exact Kz rfl rfl (hN1) (Ad (Ad An)) | exact Kz rfl rfl (hN2) (Ad (Ad An)) | exact Ok.sliceTo (row := fun n => [DI n]) rfl rfl rfl (by omega) (by omega) | exact Kz rfl rfl (hC) (Ad (Ad An)) | exact Ok.pe)) | ((first | apply Ca | (apply Cb; (· exact nxE))); (· first | exact Ok.e0)) | refine Sx ?_ | (refine Sy (fun h => ?_) (fun h => ?_) <;> try (exfalso; omega; done)) | refine Sz (fun h => ?_) (fun h => ?_))
    refine Yb ?_
    (apply Le.headZ (hs := []) [] rfl)
    all_goals (try dsimp only [srcs])
    (case' hfr => (repeat' (first | refine La ?_ ?_ | exact Lc | refine Lo ?_ | refine ⟨⟨_, rfl, ?_⟩, ?_⟩ | refine Lx ?_)))
    all_goals (first | exact Ld | exact trivial | (rfl))
  · have hst := hst he
    have h5 := h5 he
    unfold BOT at he
    repeat' (first | ((first | apply Ba | (apply Bb; (· rfl); (· rfl)) | (apply Bc; (· exact nxE)) | (apply Bd; (· rfl); (· rfl); (· exact nxE))); (· first | exact Kz rfl rfl (hN1) (Ad (Ad An)) | exact Kz rfl rfl (hN2) (Ad (Ad An)) | exact Ok.sliceTo (row := fun n => [DI n]) rfl rfl rfl (by omega) (by omega) | exact Kz rfl rfl (hC) (Ad (Ad An)) | exact Ok.pe)) | ((first | apply Ca | (apply Cb; (· exact nxE))); (· first | exact Ok.e0)) | refine Sx ?_ | (refine Sy (fun h => ?_) (fun h => ?_) <;> try (exfalso; omega; done)) | refine Sz (fun h => ?_) (fun h => ?_))
    refine ⟨⟨(k + 1, w + e, v), by omega, hst⟩, ?_, by simp only; omega⟩
    (apply Le.headZ [] rfl)
    all_goals (try dsimp only [srcs])
    (case' hfr | hob => (repeat' (first | refine La ?_ ?_ | exact Lc | refine Lo ?_ | refine ⟨⟨_, rfl, ?_⟩, ?_⟩ | refine Lx ?_)))
    all_goals (first | (rfl) | exact Ld)
end Go.Proofs.YtikadoicplnkgaaGreat
end

section
namespace Go.Proofs.YtikadoicplnkgaaGreat
set_option linter.unusedSimpArgs false
set_option linter.unusedVariables false
open Go Go.RowKit
attribute [local irreducible] AL AD AW OpOk Le AC thenQ blockQ EndQ

section
variable {o : Oper} {A : Operand → AV} {H : Heap} {new : Nat} {t' : TypeId} {x y : Operand} {a b a' b' : Int}
theorem OpOk.eqRt (ho : o.op = .binOp .eql 27 x y t') (hx : A x = .agg [I a, I b]) (hy : A y = .agg [I a', I b']) : OpOk Tryz.prog o A [] H new (Bo (decide ((a, b) = (a', b')))) [] :=
  .still [] fun ι F w H1 ρ _ hs hv => by
    have h1 := hv x (by simp [ho, Op.operands])
    have h2 := hv y (by simp [ho, Op.operands])
    rw [hx] at h1; rw [hy] at h2
    refine ⟨_, ?_, .d (.v _)⟩
    simp [execOp, ho, h1.ints2, h2.ints2, rtGuard .eql x y a b a' b' w, eqRt_run a b a' b' w]
end
noncomputable def cyR (W : Nat → Nat → Int) (n : Nat) (c : List Int) : Int × Int := if cyB W n c = true then redR (cyV W n c) c.length else (0, 0)
noncomputable def mcB (t : List (List Int)) (r : Int × Int) (c x : List Int) : Bool := isSq t && (isRtG r && (potB t t.length r x && (cyB (entN t) t.length c && decide (cyR (entN t) t.length c = r))))
theorem cyV_bnd {t : List (List Int)} {n : Nat} (hM : MatOk t n) {c : List Int} (h : cyB (entN t) n c = true) : (-10000000 ≤ cyV (entN t) n c ∧ cyV (entN t) n c ≤ 10000000) ∧ 1 ≤ c.length := by
  have hok : cyOk (entN t) n c := by
    apply Classical.byContradiction
    intro hn
    rw [(cy_no hn).1] at h; cases h
  obtain ⟨f, r, rfl, h1, h2, h3, h4⟩ := hok
  obtain ⟨_, e⟩ := cy_yes (W := entN t) (n := n) (f := f) (r := r) ⟨f, r, rfl, h1, h2, h3, h4⟩
  have hl := nodup_le n (f :: r) (by simpa using h3) (fun x hx => by
    rcases List.mem_cons.1 hx with rfl | hx
    · exact h1
    · exact h2 x hx)
  have hb := kW_bnd (M := 1000000) hM.b h4
  have hle := hM.le
  simp only [List.length_cons, List.length_append, List.length_nil] at hl hb
  rw [kW_app] at hb
  simp only [kW, Int.add_zero] at hb
  rw [e]
  unfold cyS
  refine ⟨by omega, by simp [cN]⟩
set_option maxHeartbeats 1000000 in
theorem l04MeanG_ac (t : List (List Int)) (n : Nat) (h : MatOk t n) (c : List Int) (hl : c.length ≤ 1000000) : AC Tryz.prog 58 [TL t, IL c] H0 (.tup [.agg [I (cyR (entN t) n c).1, I (cyR (entN t) n c).2], Bo (cyB (entN t) n c)]) H0 := by
  have hCy := l03CycleG_ac t n h c (by omega)
  have hcl : (IR c).length = c.length := by simp
  have hb := cyV_bnd h (c := c)
  unfold cyR
  generalize cyV (entN t) n c = w at *
  cases hc : cyB (entN t) n c
  · rw [hc] at hCy
    rw [if_neg (by decide)]
    refine AC.of_body 0 Tryz.func58 rfl (fun l h => absurd rfl h) (fun C hC => ?_)
    have hD : ∀ l, ¬ C.D0 l := fun l h => (hC l).1 h rfl
    simp only [startFr, Tryz.ntmps58, List.length_cons, List.length_nil, Nat.reduceAdd, Nat.reduceSub, List.replicate_succ, List.replicate_zero, List.cons_append, List.nil_append]
    repeat' (first | ((first | apply Ba | (apply Bb; (· rfl); (· rfl)) | (apply Bc; (· exact nxE)) | (apply Bd; (· rfl); (· rfl); (· exact nxE))); (· first | exact Kz rfl rfl (hCy) (Ad (Ad An)) | exact Ok.pe)) | ((first | apply Ca | (apply Cb; (· exact nxE))); (· first | exact Ok.e0)) | refine Sx ?_ | (refine Sy (fun h => ?_) (fun h => ?_) <;> try (exfalso; omega; done)) | refine Sz (fun h => ?_) (fun h => ?_))
    refine Yb ?_
    (apply Le.headZ (hs := []) [] rfl)
    all_goals (try dsimp only [srcs])
    (case' hfr => (repeat' (first | refine La ?_ ?_ | exact Lc | refine Lo ?_ | refine ⟨⟨_, rfl, ?_⟩, ?_⟩ | refine Lx ?_)))
    all_goals (first | exact Ld | exact trivial | (rfl))
  · rw [hc] at hCy
    rw [if_pos rfl]
    have hb := hb hc
    have hR := l01RatioZ_ac w c.length (by omega) (by omega)
    generalize redR w c.length = m at *
    refine AC.of_body 0 Tryz.func58 rfl (fun l h => absurd rfl h) (fun C hC => ?_)
    have hD : ∀ l, ¬ C.D0 l := fun l h => (hC l).1 h rfl
    simp only [startFr, Tryz.ntmps58, List.length_cons, List.length_nil, Nat.reduceAdd, Nat.reduceSub, List.replicate_succ, List.replicate_zero, List.cons_append, List.nil_append]
    repeat' (first | ((first | apply Ba | (apply Bb; (· rfl); (· rfl)) | (apply Bc; (· exact nxE)) | (apply Bd; (· rfl); (· rfl); (· exact nxE))); (· first | exact Kz rfl rfl (hCy) (Ad (Ad An)) | exact Ok.lenD rfl rfl hcl | exact Kz rfl rfl (hR) (Ad (Ad An)) | exact Ok.pe)) | ((first | apply Ca | (apply Cb; (· exact nxE))); (· first | exact Ok.e0)) | refine Sx ?_ | (refine Sy (fun h => ?_) (fun h => ?_) <;> try (exfalso; omega; done)) | refine Sz (fun h => ?_) (fun h => ?_))
    refine Yb ?_
    (apply Le.headZ (hs := []) [] rfl)
    all_goals (try dsimp only [srcs])
    (case' hfr => (repeat' (first | refine La ?_ ?_ | exact Lc | refine Lo ?_ | refine ⟨⟨_, rfl, ?_⟩, ?_⟩ | refine Lx ?_)))
    all_goals (first | exact Ld | exact trivial | (rfl))
set_option maxHeartbeats 2000000 in
theorem sIsMeanCertificate_ac (t : List (List Int)) (r : Int × Int) (c x : List Int) (hr : DrR r) (ht : t.length ≤ 100000000) (hrr : ∀ q ∈ t, q.length ≤ 100000000) (hc : c.length ≤ 1000000) (hx : x.length ≤ 100000000) : AC Tryz.prog 16 [TL t, .agg [I r.1, I r.2], IL c, IL x] H0 (Bo (mcB t r c x)) H0 := by
  have hQ := l02Square_ac t ht hrr
  have hR := sIsRatioG_ac r (by have := hr.n; omega)
  have hs10 := hr.s
  have hrok := isRtG_ok (r := r)
  have hn := hr.n
  have hd := hr.d
  obtain ⟨p, q⟩ := r
  simp only at hR hs10 hrok hn hd
  have hP : AC Tryz.prog 57 [TL t, .agg [I p, I q], IL x] H0 (Bo (isSq t && (isRtG (p, q) && potB t t.length (p, q) x))) H0 := by
    cases hs : isSq t
    · rw [hs] at hQ
      refine AC.of_body 0 Tryz.func57 rfl (fun l h => absurd rfl h) (fun C hC => ?_)
      have hD : ∀ l, ¬ C.D0 l := fun l h => (hC l).1 h rfl
      simp only [startFr, Tryz.ntmps57, List.length_cons, List.length_nil, Nat.reduceAdd, Nat.reduceSub, List.replicate_succ, List.replicate_zero, List.cons_append, List.nil_append]
      repeat' (first | ((first | apply Ba | (apply Bb; (· rfl); (· rfl)) | (apply Bc; (· exact nxE)) | (apply Bd; (· rfl); (· rfl); (· exact nxE))); (· first | exact Kz rfl rfl (hQ) (Ad An) | exact Kz rfl rfl (hR) (Aa (Ad (Ad An)) An) | exact Ok.pe)) | ((first | apply Ca | (apply Cb; (· exact nxE))); (· first | exact Ok.e0)) | refine Sx ?_ | (refine Sy (fun h => ?_) (fun h => ?_) <;> try (exfalso; omega; done)) | refine Sz (fun h => ?_) (fun h => ?_))
      refine Ya ?_
      (apply Le.headZ (hs := []) [] rfl)
      all_goals (try dsimp only [srcs])
      (case' hfr => (repeat' (first | refine La ?_ ?_ | exact Lc | refine Lo ?_ | refine ⟨⟨_, rfl, ?_⟩, ?_⟩ | refine Lx ?_)))
      all_goals (first | exact Ld | exact trivial | (rfl))
    rw [hs] at hQ
    cases hg : isRtG (p, q)
    · rw [hg] at hR
      refine AC.of_body 0 Tryz.func57 rfl (fun l h => absurd rfl h) (fun C hC => ?_)
      have hD : ∀ l, ¬ C.D0 l := fun l h => (hC l).1 h rfl
      simp only [startFr, Tryz.ntmps57, List.length_cons, List.length_nil, Nat.reduceAdd, Nat.reduceSub, List.replicate_succ, List.replicate_zero, List.cons_append, List.nil_append]
      repeat' (first | ((first | apply Ba | (apply Bb; (· rfl); (· rfl)) | (apply Bc; (· exact nxE)) | (apply Bd; (· rfl); (· rfl); (· exact nxE))); (· first | exact Kz rfl rfl (hQ) (Ad An) | exact Kz rfl rfl (hR) (Aa (Ad (Ad An)) An) | exact Ok.pe)) | ((first | apply Ca | (apply Cb; (· exact nxE))); (· first | exact Ok.e0)) | refine Sx ?_ | (refine Sy (fun h => ?_) (fun h => ?_) <;> try (exfalso; omega; done)) | refine Sz (fun h => ?_) (fun h => ?_))
      refine Ya ?_
      (apply Le.headZ (hs := []) [] rfl)
      all_goals (try dsimp only [srcs])
      (case' hfr => (repeat' (first | refine La ?_ ?_ | exact Lc | refine Lo ?_ | refine ⟨⟨_, rfl, ?_⟩, ?_⟩ | refine Lx ?_)))
      all_goals (first | exact Ld | exact trivial | (rfl))
    rw [hg] at hR
    have hs10 := hs10 hg
    obtain ⟨hz, hi⟩ := hrok hg
    have hzd := hz.d
    simp only at hzd
    have hH := l04Holds_ac t t.length (isSq_ok hs) p q (by omega) (by omega) x hx
    rw [Bool.true_and, Bool.true_and]
    generalize potB t t.length (p, q) x = z at *
    refine AC.of_body 0 Tryz.func57 rfl (fun l h => absurd rfl h) (fun C hC => ?_)
    have hD : ∀ l, ¬ C.D0 l := fun l h => (hC l).1 h rfl
    simp only [startFr, Tryz.ntmps57, List.length_cons, List.length_nil, Nat.reduceAdd, Nat.reduceSub, List.replicate_succ, List.replicate_zero, List.cons_append, List.nil_append]
    repeat' (first | ((first | apply Ba | (apply Bb; (· rfl); (· rfl)) | (apply Bc; (· exact nxE)) | (apply Bd; (· rfl); (· rfl); (· exact nxE))); (· first | exact Kz rfl rfl (hQ) (Ad An) | exact Kz rfl rfl (hR) (Aa (Ad (Ad An)) An) | exact Kz rfl rfl (hH) (Ad (Aa (Ad (Ad An)) (Ad An))) | exact Ok.pe)) | ((first | apply Ca | (apply Cb; (· exact nxE))); (· first | exact Ok.e0)) | refine Sx ?_ | (refine Sy (fun h => ?_) (fun h => ?_) <;> try (exfalso; omega; done)) | refine Sz (fun h => ?_) (fun h => ?_))
    refine Ya ?_
    (apply Le.headZ (hs := []) [] rfl)
    all_goals (try dsimp only [srcs])
    (case' hfr => (repeat' (first | refine La ?_ ?_ | exact Lc | refine Lo ?_ | refine ⟨⟨_, rfl, ?_⟩, ?_⟩ | refine Lx ?_)))
    all_goals (first | exact Ld | exact trivial | (rfl))
  unfold mcB
  simp only
  rw [← Bool.and_assoc (isRtG (p, q)), ← Bool.and_assoc (isSq t)]
  cases hb : (isSq t && (isRtG (p, q) && potB t t.length (p, q) x))
  · rw [hb] at hP
    rw [Bool.false_and]
    refine AC.of_body 0 Tryz.func16 rfl (fun l h => absurd rfl h) (fun C hC => ?_)
    have hD : ∀ l, ¬ C.D0 l := fun l h => (hC l).1 h rfl
    simp only [startFr, Tryz.ntmps16, List.length_cons, List.length_nil, Nat.reduceAdd, Nat.reduceSub, List.replicate_succ, List.replicate_zero, List.cons_append, List.nil_append]
    repeat' (first | ((first | apply Ba | (apply Bb; (· rfl); (· rfl)) | (apply Bc; (· exact nxE)) | (apply Bd; (· rfl); (· rfl); (· exact nxE))); (· first | exact Kz rfl rfl (hP) (Ad (Aa (Ad (Ad An)) (Ad An))) | exact Ok.pe)) | ((first | apply Ca | (apply Cb; (· exact nxE))); (· first | exact Ok.e0)) | refine Sx ?_ | (refine Sy (fun h => ?_) (fun h => ?_) <;> try (exfalso; omega; done)) | refine Sz (fun h => ?_) (fun h => ?_))
    refine Ya ?_
    (apply Le.headZ (hs := []) [] rfl)
    all_goals (try dsimp only [srcs])
    (case' hfr => (repeat' (first | refine La ?_ ?_ | exact Lc | refine Lo ?_ | refine ⟨⟨_, rfl, ?_⟩, ?_⟩ | refine Lx ?_)))
    all_goals (first | exact Ld | exact trivial | (rfl))
  rw [hb] at hP
  rw [Bool.true_and]
  have hs : isSq t = true := by rw [Bool.and_eq_true] at hb; exact hb.1
  have hM := l04MeanG_ac t t.length (isSq_ok hs) c hc
  generalize cyR (entN t) t.length c = m at *
  obtain ⟨u, v⟩ := m
  simp only at hM
  cases hcb : cyB (entN t) t.length c
  · rw [hcb] at hM
    rw [Bool.false_and]
    refine AC.of_body 0 Tryz.func16 rfl (fun l h => absurd rfl h) (fun C hC => ?_)
    have hD : ∀ l, ¬ C.D0 l := fun l h => (hC l).1 h rfl
    simp only [startFr, Tryz.ntmps16, List.length_cons, List.length_nil, Nat.reduceAdd, Nat.reduceSub, List.replicate_succ, List.replicate_zero, List.cons_append, List.nil_append]
    repeat' (first | ((first | apply Ba | (apply Bb; (· rfl); (· rfl)) | (apply Bc; (· exact nxE)) | (apply Bd; (· rfl); (· rfl); (· exact nxE))); (· first | exact Kz rfl rfl (hP) (Ad (Aa (Ad (Ad An)) (Ad An))) | exact Kz rfl rfl (hM) (Ad (Ad An)) | exact Ok.pe)) | ((first | apply Ca | (apply Cb; (· exact nxE))); (· first | exact Ok.e0)) | refine Sx ?_ | (refine Sy (fun h => ?_) (fun h => ?_) <;> try (exfalso; omega; done)) | refine Sz (fun h => ?_) (fun h => ?_))
    refine Ya ?_
    (apply Le.headZ (hs := []) [] rfl)
    all_goals (try dsimp only [srcs])
    (case' hfr => (repeat' (first | refine La ?_ ?_ | exact Lc | refine Lo ?_ | refine ⟨⟨_, rfl, ?_⟩, ?_⟩ | refine Lx ?_)))
    all_goals (first | exact Ld | exact trivial | (rfl))
  · rw [hcb] at hM
    rw [Bool.true_and]
    refine AC.of_body 0 Tryz.func16 rfl (fun l h => absurd rfl h) (fun C hC => ?_)
    have hD : ∀ l, ¬ C.D0 l := fun l h => (hC l).1 h rfl
    simp only [startFr, Tryz.ntmps16, List.length_cons, List.length_nil, Nat.reduceAdd, Nat.reduceSub, List.replicate_succ, List.replicate_zero, List.cons_append, List.nil_append]
    repeat' (first | ((first | apply Ba | (apply Bb; (· rfl); (· rfl)) | (apply Bc; (· exact nxE)) | (apply Bd; (· rfl); (· rfl); (· exact nxE))); (· first | exact Kz rfl rfl (hP) (Ad (Aa (Ad (Ad An)) (Ad An))) | exact Kz rfl rfl (hM) (Ad (Ad An)) | exact OpOk.eqRt rfl rfl rfl | exact Ok.pe)) | ((first | apply Ca | (apply Cb; (· exact nxE))); (· first | exact Ok.e0)) | refine Sx ?_ | (refine Sy (fun h => ?_) (fun h => ?_) <;> try (exfalso; omega; done)) | refine Sz (fun h => ?_) (fun h => ?_))
    refine Ya ?_
    (apply Le.headZ (hs := []) [] rfl)
    all_goals (try dsimp only [srcs])
    (case' hfr => (repeat' (first | refine La ?_ ?_ | exact Lc | refine Lo ?_ | refine ⟨⟨_, rfl, ?_⟩, ?_⟩ | refine Lx ?_)))
    all_goals (first | exact Ld | exact trivial | (rfl))
set_option maxHeartbeats 2000000 in
theorem iIsMeanCertificate_ac (t : List (List Int)) (r : Int × Int) (c x : List Int) (hr : DrR r) (ht : t.length ≤ 100000000) (hrr : ∀ q ∈ t, q.length ≤ 100000000) (hc : c.length ≤ 1000000) (hx : x.length ≤ 100000000) : AC Tryz.prog 15 [TL t, .agg [I r.1, I r.2], IL c, IL x] H0 (Bo (mcB t r c x)) H0 := by
  have hQ := iIsSquare_ac t ht hrr
  have hR := iIsRatioG_ac r (by have := hr.n; omega)
  have hs10 := hr.s
  have hrok := isRtG_ok (r := r)
  have hn := hr.n
  have hd := hr.d
  obtain ⟨p, q⟩ := r
  simp only at hR hs10 hrok hn hd
  have hcl : (IR c).length = c.length := by simp
  unfold mcB
  simp only
  cases hs : isSq t
  · rw [hs] at hQ
    rw [Bool.false_and]
    refine AC.of_body 0 Tryz.func15 rfl (fun l h => absurd rfl h) (fun C hC => ?_)
    have hD : ∀ l, ¬ C.D0 l := fun l h => (hC l).1 h rfl
    simp only [startFr, Tryz.ntmps15, List.length_cons, List.length_nil, Nat.reduceAdd, Nat.reduceSub, List.replicate_succ, List.replicate_zero, List.cons_append, List.nil_append]
    repeat' (first | ((first | apply Ba | (apply Bb; (· rfl); (· rfl)) | (apply Bc; (· exact nxE)) | (apply Bd; (· rfl); (· rfl); (· exact nxE))); (· first | exact Kz rfl rfl (hQ) (Ad An) | exact Kz rfl rfl (hR) (Aa (Ad (Ad An)) An) | exact Ok.pe)) | ((first | apply Ca | (apply Cb; (· exact nxE))); (· first | exact Ok.e0)) | refine Sx ?_ | (refine Sy (fun h => ?_) (fun h => ?_) <;> try (exfalso; omega; done)) | refine Sz (fun h => ?_) (fun h => ?_))
    refine Ya ?_
    (apply Le.headZ (hs := []) [] rfl)
    all_goals (try dsimp only [srcs])
    (case' hfr => (repeat' (first | refine La ?_ ?_ | exact Lc | refine Lo ?_ | refine ⟨⟨_, rfl, ?_⟩, ?_⟩ | refine Lx ?_)))
    all_goals (first | exact Ld | exact trivial | (rfl))
  rw [hs] at hQ
  rw [Bool.true_and]
  cases hg : isRtG (p, q)
  · rw [hg] at hR
    rw [Bool.false_and]
    refine AC.of_body 0 Tryz.func15 rfl (fun l h => absurd rfl h) (fun C hC => ?_)
    have hD : ∀ l, ¬ C.D0 l := fun l h => (hC l).1 h rfl
    simp only [startFr, Tryz.ntmps15, List.length_cons, List.length_nil, Nat.reduceAdd, Nat.reduceSub, List.replicate_succ, List.replicate_zero, List.cons_append, List.nil_append]
    repeat' (first | ((first | apply Ba | (apply Bb; (· rfl); (· rfl)) | (apply Bc; (· exact nxE)) | (apply Bd; (· rfl); (· rfl); (· exact nxE))); (· first | exact Kz rfl rfl (hQ) (Ad An) | exact Kz rfl rfl (hR) (Aa (Ad (Ad An)) An) | exact Ok.pe)) | ((first | apply Ca | (apply Cb; (· exact nxE))); (· first | exact Ok.e0)) | refine Sx ?_ | (refine Sy (fun h => ?_) (fun h => ?_) <;> try (exfalso; omega; done)) | refine Sz (fun h => ?_) (fun h => ?_))
    refine Ya ?_
    (apply Le.headZ (hs := []) [] rfl)
    all_goals (try dsimp only [srcs])
    (case' hfr => (repeat' (first | refine La ?_ ?_ | exact Lc | refine Lo ?_ | refine ⟨⟨_, rfl, ?_⟩, ?_⟩ | refine Lx ?_)))
    all_goals (first | exact Ld | exact trivial | (rfl))
  rw [hg] at hR
  rw [Bool.true_and]
  have hs10 := hs10 hg
  obtain ⟨hz, hi⟩ := hrok hg
  have hzd := hz.d
  simp only at hzd
  have hH := isPotential_ac t t.length (isSq_ok hs) p q (by omega) (by omega) x hx
  cases hpb : potB t t.length (p, q) x
  · rw [hpb] at hH
    rw [Bool.false_and]
    refine AC.of_body 0 Tryz.func15 rfl (fun l h => absurd rfl h) (fun C hC => ?_)
    have hD : ∀ l, ¬ C.D0 l := fun l h => (hC l).1 h rfl
    simp only [startFr, Tryz.ntmps15, List.length_cons, List.length_nil, Nat.reduceAdd, Nat.reduceSub, List.replicate_succ, List.replicate_zero, List.cons_append, List.nil_append]
    repeat' (first | ((first | apply Ba | (apply Bb; (· rfl); (· rfl)) | (apply Bc; (· exact nxE)) | (apply Bd; (· rfl); (· rfl); (· exact nxE))); (· first | exact Kz rfl rfl (hQ) (Ad An) | exact Kz rfl rfl (hR) (Aa (Ad (Ad An)) An) | exact Kz rfl rfl (hH) (Ad (Aa (Ad (Ad An)) (Ad An))) | exact Ok.pe)) | ((first | apply Ca | (apply Cb; (· exact nxE))); (· first | exact Ok.e0)) | refine Sx ?_ | (refine Sy (fun h => ?_) (fun h => ?_) <;> try (exfalso; omega; done)) | refine Sz (fun h => ?_) (fun h => ?_))
    refine Ya ?_
    (apply Le.headZ (hs := []) [] rfl)
    all_goals (try dsimp only [srcs])
    (case' hfr => (repeat' (first | refine La ?_ ?_ | exact Lc | refine Lo ?_ | refine ⟨⟨_, rfl, ?_⟩, ?_⟩ | refine Lx ?_)))
    all_goals (first | exact Ld | exact trivial | (rfl))
  rw [hpb] at hH
  rw [Bool.true_and]
  have hW := cycleWeight_ac t t.length (isSq_ok hs) c hc
  have hb := cyV_bnd (isSq_ok hs) (c := c)
  unfold cyR
  generalize cyV (entN t) t.length c = w at *
  cases hcb : cyB (entN t) t.length c
  · rw [hcb] at hW
    rw [Bool.false_and]
    refine AC.of_body 0 Tryz.func15 rfl (fun l h => absurd rfl h) (fun C hC => ?_)
    have hD : ∀ l, ¬ C.D0 l := fun l h => (hC l).1 h rfl
    simp only [startFr, Tryz.ntmps15, List.length_cons, List.length_nil, Nat.reduceAdd, Nat.reduceSub, List.replicate_succ, List.replicate_zero, List.cons_append, List.nil_append]
    repeat' (first | ((first | apply Ba | (apply Bb; (· rfl); (· rfl)) | (apply Bc; (· exact nxE)) | (apply Bd; (· rfl); (· rfl); (· exact nxE))); (· first | exact Kz rfl rfl (hQ) (Ad An) | exact Kz rfl rfl (hR) (Aa (Ad (Ad An)) An) | exact Kz rfl rfl (hH) (Ad (Aa (Ad (Ad An)) (Ad An))) | exact Kz rfl rfl (hW) (Ad (Ad An)) | exact Ok.pe)) | ((first | apply Ca | (apply Cb; (· exact nxE))); (· first | exact Ok.e0)) | refine Sx ?_ | (refine Sy (fun h => ?_) (fun h => ?_) <;> try (exfalso; omega; done)) | refine Sz (fun h => ?_) (fun h => ?_))
    refine Ya ?_
    (apply Le.headZ (hs := []) [] rfl)
    all_goals (try dsimp only [srcs])
    (case' hfr => (repeat' (first | refine La ?_ ?_ | exact Lc | refine Lo ?_ | refine ⟨⟨_, rfl, ?_⟩, ?_⟩ | refine Lx ?_)))
    all_goals (first | exact Ld | exact trivial | (rfl))
  · rw [hcb] at hW
    rw [Bool.true_and, if_pos rfl]
    have hb := hb hcb
    have hRa := ratioOfZ_ac w c.length (by omega) (by omega)
    generalize redR w c.length = m at *
    obtain ⟨u, v⟩ := m
    simp only at hRa
    refine AC.of_body 0 Tryz.func15 rfl (fun l h => absurd rfl h) (fun C hC => ?_)
    have hD : ∀ l, ¬ C.D0 l := fun l h => (hC l).1 h rfl
    simp only [startFr, Tryz.ntmps15, List.length_cons, List.length_nil, Nat.reduceAdd, Nat.reduceSub, List.replicate_succ, List.replicate_zero, List.cons_append, List.nil_append]
    repeat' (first | ((first | apply Ba | (apply Bb; (· rfl); (· rfl)) | (apply Bc; (· exact nxE)) | (apply Bd; (· rfl); (· rfl); (· exact nxE))); (· first | exact Kz rfl rfl (hQ) (Ad An) | exact Kz rfl rfl (hR) (Aa (Ad (Ad An)) An) | exact Kz rfl rfl (hH) (Ad (Aa (Ad (Ad An)) (Ad An))) | exact Kz rfl rfl (hW) (Ad (Ad An)) | exact Ok.lenD rfl rfl hcl | exact Kz rfl rfl (hRa) (Ad (Ad An)) | exact OpOk.eqRt rfl rfl rfl | exact Ok.pe)) | ((first | apply Ca | (apply Cb; (· exact nxE))); (· first | exact Ok.e0)) | refine Sx ?_ | (refine Sy (fun h => ?_) (fun h => ?_) <;> try (exfalso; omega; done)) | refine Sz (fun h => ?_) (fun h => ?_))
    refine Ya ?_
    (apply Le.headZ (hs := []) [] rfl)
    all_goals (try dsimp only [srcs])
    (case' hfr => (repeat' (first | refine La ?_ ?_ | exact Lc | refine Lo ?_ | refine ⟨⟨_, rfl, ?_⟩, ?_⟩ | refine Lx ?_)))
    all_goals (first | exact Ld | exact trivial | (rfl))
/-! ### The certificate that is told -/
theorem apA_at {f : Nat → Nat → Int} {v : Nat → Int} {i : Nat} : ∀ {k : Nat}, apA f v i k = BOT ∨ ∃ j, j < k ∧ apA f v i k = timesB (f i j) (v j)
  | 0 => .inl rfl
  | k + 1 => by
    simp only [apA]
    rcases apA_at (f := f) (v := v) (i := i) (k := k) with e | ⟨j, hj, e⟩
    · by_cases h : timesB (f i k) (v k) ≤ apA f v i k
      · left; omega
      · right; exact ⟨k, by omega, by omega⟩
    · by_cases h : timesB (f i k) (v k) ≤ apA f v i k
      · right; exact ⟨j, by omega, by omega⟩
      · right; exact ⟨k, by omega, by omega⟩
theorem poL_pot {T : List (List Int)} {n : Nat} (hst : StarM T n) (i j : Nat) (hi : i < n) (hj : j < n) (hW : entN T i j ≠ BOT) : entN T i j + (poL T n).getD j 0 ≤ (poL T n).getD i 0 := by
  have hs := hst.ok
  have hx : ∀ k, k < n → (poL T n).getD k 0 = apA (entN (tabF n n (starF (entN T) n))) (fun _ => 0) k n := fun k hk => by
    unfold poL
    rw [List.getD_eq_getElem?_getD, rowF_get hk]; rfl
  have hne : (poL T n).getD j 0 ≠ BOT := by
    refine poL_ne hst _ ?_
    have hl : (poL T n).length = n := rowF_len
    rw [List.getD_eq_getElem?_getD, List.getElem?_eq_getElem (by omega)]
    exact List.getElem_mem _
  rw [hx j hj] at hne
  rw [hx i hi, hx j hj]
  rcases apA_at (f := entN (tabF n n (starF (entN T) n))) (v := fun _ => 0) (i := j) (k := n) with e | ⟨m, hm, e⟩
  · exact absurd e hne
  · rw [e] at hne ⊢
    rw [tabF_ent hj hm, timesB_0] at hne ⊢
    have hge := apA_geM (f := entN (tabF n n (starF (entN T) n))) (v := fun _ => 0) (i := i) (j := m) (k := n) hm
    rw [tabF_ent hi hm, timesB_0] at hge
    have hsup : starF (entN T) n i m ≠ BOT ∧ entN T i j + starF (entN T) n j m ≤ starF (entN T) n i m := by
      rcases hs.some m j hm hj with e1 | ⟨e1, e2⟩ | ⟨c, c1, c2, c3⟩
      · exact absurd e1 hne
      · subst e1
        have := hs.all m i [] hm hi (by simp) hW
        simp only [wM] at this
        exact ⟨this.1, by omega⟩
      · have := hs.all m i (c ++ [j]) hm hi (fun x hx => by
          rcases List.mem_append.1 hx with hx | hx
          · exact c2 x hx
          · simp at hx; subst hx; exact hj) (WM.app.2 ⟨c1, hW⟩)
        rw [wM_app] at this
        simp only [wM] at this
        exact ⟨this.1, by omega⟩
    omega
theorem cert_ok {t : List (List Int)} (h : cfC t = 0) : mcB t (cfR t) (cfL t) (cfX t) = true := by
  have hs := cfC_sq h
  have hM := isSq_ok hs
  have hcm : cmC t = 0 ∧ (ctP t).all isVal = true := by
    unfold cfC at h
    by_cases h1 : cmC t = 0
    · rw [if_pos h1] at h
      by_cases h2 : (ctP t).all isVal = true
      · exact ⟨h1, h2⟩
      · rw [if_neg h2] at h; cases h
    · rw [if_neg h1] at h; exact absurd h h1
  obtain ⟨h1, h2⟩ := hcm
  obtain ⟨_, k2, k3, k4, k5⟩ := cm_ok h1
  obtain ⟨m1, m2, m3, m4⟩ := kmR_ok hM.b hM.le k2
  obtain ⟨f, r, e1, hcy, e2⟩ := best_ne hM.b hM.le k2
  have hst := starM_k hM k2
  have hrt := kmR_rt hM k2
  unfold cfR cfL cfX
  rw [if_pos h, if_pos h, if_pos h]
  have hbm : bmL t = f :: r := by unfold bmL; rw [if_pos k5]; exact e1
  rw [hbm]
  have hcok : cyOk (entN t) t.length (cN (f :: r)) := ⟨f, r, rfl, hcy.lt, fun x hx => (hcy.gt x hx).2, hcy.nd, (kP_app r [f] f).2 ⟨hcy.path, hcy.close, trivial⟩⟩
  obtain ⟨y1, y2⟩ := cy_yes hcok
  unfold mcB
  rw [hs, isRtG_of hrt, k3, y1]
  simp only [Bool.true_and, Bool.and_eq_true, decide_eq_true_eq]
  refine ⟨?_, ?_⟩
  · unfold potB
    rw [Bool.and_eq_true, Bool.and_eq_true, decide_eq_true_eq]
    refine ⟨by unfold ctP; exact rowF_len, ?_, ?_⟩
    · rw [← finL_eq]
      unfold ctP at h2 ⊢
      rw [poL_ok hst]; exact h2
    · unfold potT
      rw [List.all_eq_true]
      intro i hi
      unfold potRow
      rw [List.all_eq_true]
      intro j hj
      rw [decide_eq_true_eq]
      have hi := List.mem_range.1 hi
      have hj := List.mem_range.1 hj
      by_cases hb : shF (entN t) (kmR (entN t) t.length).1 (kmR (entN t) t.length).2 i j = BOT
      · exact .inl hb
      · right
        rw [← shT_ent hi hj] at hb ⊢
        exact poL_pot hst i j hi hj hb
  · unfold cyR
    rw [if_pos y1, y2, ← e2]
    unfold mR
    congr 1
    simp [cN]
end Go.Proofs.YtikadoicplnkgaaGreat
end
