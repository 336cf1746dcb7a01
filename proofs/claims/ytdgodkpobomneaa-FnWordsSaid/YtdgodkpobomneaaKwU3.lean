/-
  Walks in the abstract reading, part 3.
-/
import Derived.Test.YtdgodkpobomneaaKwU2
import Derived.Test.YtdgodkpobomneaaKwA2
import Derived.Test.YtdgodkpobomneaaKwU1
import Derived.Test.YtdgodkpobomneaaKwA3
section
namespace Go.Proofs.Ytdgodkpobomneaa
set_option linter.unusedSimpArgs false
set_option linter.unusedVariables false
open Go Go.RowKit
attribute [local irreducible] AL AD AW OpOk Le AC thenQ blockQ EndQ

/-! ### Tables told by a function -/
def rowF (n : Nat) (g : Nat → Int) : List Int := (List.range n).map g
def tabF (m n : Nat) (f : Nat → Nat → Int) : List (List Int) := (List.range m).map fun i => rowF n (f i)
theorem rowF_len [Mode] {n : Nat} {g : Nat → Int} : (rowF n g).length = n := by simp [rowF]
theorem tabF_len [Mode] {m n : Nat} {f : Nat → Nat → Int} : (tabF m n f).length = m := by simp [tabF]
theorem rowF_get [Mode] {n j : Nat} {g : Nat → Int} (h : j < n) : (rowF n g)[j]? = some (g j) := by simp [rowF, h]
theorem tabF_get [Mode] {m n i : Nat} {f : Nat → Nat → Int} (h : i < m) : (tabF m n f)[i]? = some (rowF n (f i)) := by simp [tabF, h]
theorem TRF_get [Mode] {m n i : Nat} {f : Nat → Nat → Int} (h : i < m) : (TR (tabF m n f))[i]? = some (IR (rowF n (f i))) := by simp [tabF_get h]
theorem IRF_get [Mode] {n j : Nat} {g : Nat → Int} (h : j < n) : (IR (rowF n g))[j]? = some [DI (g j)] := by simp [rowF_get h]
theorem tabF_rc [Mode] {m n : Nat} {f : Nat → Nat → Int} : Rc (tabF m n f) m n := ⟨tabF_len, fun r hr => by obtain ⟨i, _, rfl⟩ := List.mem_map.1 hr; exact rowF_len⟩
theorem tabF_ent [Mode] {m n i j : Nat} {f : Nat → Nat → Int} (hi : i < m) (hj : j < n) : entN (tabF m n f) i j = f i j := by
  unfold entN; rw [tabF_get hi, Option.getD_some, rowF_get hj, Option.getD_some]
theorem rowF_congr [Mode] {n : Nat} {f g : Nat → Int} (h : ∀ j, j < n → f j = g j) : rowF n f = rowF n g := List.map_congr_left fun j hj => h j (List.mem_range.1 hj)
theorem tabF_congr [Mode] {m n : Nat} {f g : Nat → Nat → Int} (h : ∀ i j, i < m → j < n → f i j = g i j) : tabF m n f = tabF m n g := List.map_congr_left fun i hi => rowF_congr fun j hj => h i j (List.mem_range.1 hi) hj
theorem rowF_self [Mode] {r : List Int} {n : Nat} (h : r.length = n) : rowF n (fun j => (r[j]?).getD 0) = r := by
  subst h
  apply List.ext_getElem?
  intro j
  by_cases hj : j < r.length
  · rw [rowF_get hj]; simp [hj]
  · rw [List.getElem?_eq_none (by rw [rowF_len]; omega), List.getElem?_eq_none (by omega)]
theorem tabF_self [Mode] {t : List (List Int)} {m n : Nat} (h : Rc t m n) : tabF m n (entN t) = t := by
  apply List.ext_getElem?
  intro i
  by_cases hi : i < m
  · have h1 : i < t.length := by rw [h.l]; exact hi
    rw [tabF_get hi, List.getElem?_eq_getElem h1]
    congr 1
    have := rowF_self (h.r _ (List.getElem_mem h1))
    rw [← this]
    refine rowF_congr fun j hj => ?_
    unfold entN
    rw [List.getElem?_eq_getElem h1, Option.getD_some]
  · rw [List.getElem?_eq_none (by rw [tabF_len]; omega), List.getElem?_eq_none (by rw [h.l]; omega)]
theorem rowF_set [Mode] {n j : Nat} {g : Nat → Int} {v : Int} : (rowF n g).set j v = rowF n (fun b => if b = j then v else g b) := by
  apply List.ext_getElem?
  intro b
  rw [List.getElem?_set]
  by_cases hb : b < n
  · rw [rowF_get hb, rowF_get hb, rowF_len]
    by_cases e : j = b
    · subst e; rw [if_pos rfl, if_pos hb, if_pos rfl]
    · rw [if_neg e, if_neg (fun h => e h.symm)]
  · rw [List.getElem?_eq_none (l := rowF n g) (by rw [rowF_len]; omega), List.getElem?_eq_none (l := rowF n _) (by rw [rowF_len]; omega), rowF_len]
    split
    · rename_i e; subst e; rw [if_neg hb]
    · rfl
/-- One cell of a table written. -/
theorem tabF_set [Mode] {m n i j : Nat} {f f' : Nat → Nat → Int} {v : Int} (h : ∀ a b, a < m → b < n → f' a b = if a = i ∧ b = j then v else f a b) : TR (tabF m n f') = (TR (tabF m n f)).set i (IR ((rowF n (f i)).set j v)) := by
  have e : tabF m n f' = (tabF m n f).set i ((rowF n (f i)).set j v) := by
    apply List.ext_getElem?
    intro a
    rw [List.getElem?_set]
    by_cases ha : a < m
    · rw [tabF_get ha]
      by_cases e : i = a
      · subst e
        rw [if_pos rfl, if_pos (by rw [tabF_len]; exact ha), rowF_set]
        congr 1
        exact rowF_congr fun b hb => by rw [h i b ha hb]; simp
      · rw [if_neg e, tabF_get ha]
        congr 1
        exact rowF_congr fun b hb => by rw [h a b ha hb, if_neg (fun h => e h.1.symm)]
    · rw [List.getElem?_eq_none (by rw [tabF_len]; omega)]
      split
      · rw [if_neg (by rw [tabF_len]; omega)]
      · rw [List.getElem?_eq_none (by rw [tabF_len]; omega)]
  rw [e]; simp [List.map_set]
theorem IR_ne [Mode] {xs : List Int} : ∀ r ∈ IR xs, r ≠ [] := fun r hr => by obtain ⟨p, _, rfl⟩ := List.mem_map.1 hr; simp
theorem cloneInt_ac [Mode] (xs : List Int) (hn : xs.length ≤ 100000000) : AC Try.prog 49 [IL xs] H0 (own1 1 xs.length) (hp1 (IO xs)) := by
  refine AC.of_body 0 Try.func49 rfl (fun l h => absurd rfl h) (fun C hC => ?_)
  have hD : ∀ l, ¬ C.D0 l := fun l h => (hC l).1 h rfl
  simp only [startFr, Try.ntmps49, List.length_cons, List.length_nil, Nat.reduceAdd, Nat.reduceSub, List.replicate_succ, List.replicate_zero, List.cons_append, List.nil_append]
  repeat' (first | ((first | apply Ba | (apply Bb; (· rfl); (· rfl)) | (apply Bc; (· exact nxE)) | (apply Bd; (· rfl); (· rfl); (· exact nxE))); (· first | exact Ok.pe)) | ((first | apply Ca | (apply Cb; (· exact nxE))); (· first | exact Ok.e0)) | refine Sx ?_ | (refine Sy (fun h => ?_) (fun h => ?_) <;> try (exfalso; omega; done)) | refine Sz (fun h => ?_) (fun h => ?_))
  refine AL.stAny (OpAny.eqNilD rfl rfl rfl IR_ne) rfl (fun b hb => ?_)
  cases b
  · simp only [List.set_cons_succ, List.set_cons_zero]
    repeat' (first | ((first | apply Ba | (apply Bb; (· rfl); (· rfl)) | (apply Bc; (· exact nxE)) | (apply Bd; (· rfl); (· rfl); (· exact nxE))); (· first | exact Ok.appendD (rows := []) rfl rfl (by decide) rfl rfl rfl rfl IR_len IR_row IR_all (by omega) (by omega) | exact Ok.pe)) | ((first | apply Ca | (apply Cb; (· exact nxE))); (· first | exact Ok.appendD (rows := []) rfl rfl (by decide) rfl rfl rfl rfl IR_len IR_row IR_all (by omega) (by omega) | exact Ok.e0)) | refine Sx ?_ | (refine Sy (fun h => ?_) (fun h => ?_) <;> try (exfalso; omega; done)) | refine Sz (fun h => ?_) (fun h => ?_))
    refine Ya ?_
    (apply Le.head [(⟨0, []⟩, _, _)])
    (case' hfr | hob => (repeat' (first | refine La ?_ ?_ | exact Lc | refine Lo ?_ | refine ⟨⟨_, rfl, ?_⟩, ?_⟩ | refine Lx ?_)))
    all_goals (first | exact Ld | (rfl))
  · have h0 : xs = [] := by simpa using hb rfl
    subst h0
    simp only [List.set_cons_succ, List.set_cons_zero]
    repeat' (first | ((first | apply Ba | (apply Bb; (· rfl); (· rfl)) | (apply Bc; (· exact nxE)) | (apply Bd; (· rfl); (· rfl); (· exact nxE))); (· first | exact Ok.pe)) | ((first | apply Ca | (apply Cb; (· exact nxE))); (· first | exact Ok.e0)) | refine Sx ?_ | (refine Sy (fun h => ?_) (fun h => ?_) <;> try (exfalso; omega; done)) | refine Sz (fun h => ?_) (fun h => ?_))
    exact end1nil (.inl rfl) rfl (rT rfl) hD
theorem TR_take [Mode] {t : List (List Int)} {k : Nat} {r : List Int} (h : t[k]? = some r) : TR (t.take (k + 1)) = TR (t.take k) ++ [IR r] := by
  obtain ⟨hk, rfl⟩ := List.getElem?_eq_some_iff.1 h
  rw [List.take_succ_eq_append_getElem hk]; exact List.map_append
set_option maxHeartbeats 1000000 in
theorem cloneMatrix_ac [Mode] (t : List (List Int)) (hn : t.length ≤ 10000000) (hr : ∀ r ∈ t, r.length ≤ 100000000) : AC Try.prog 108 [TL t] H0 (own1 1 t.length) (hpM 1 (TR t)) := by
  refine AC.of_body 0 Try.func108 rfl (fun l h => absurd rfl h) (fun C hC => ?_)
  have hD : ∀ l, ¬ C.D0 l := fun l h => (hC l).1 h rfl
  simp only [startFr, Try.ntmps108, List.length_cons, List.length_nil, Nat.reduceAdd, Nat.reduceSub, List.replicate_succ, List.replicate_zero, List.cons_append, List.nil_append]
  repeat' (first | ((first | apply Ba | (apply Bb; (· rfl); (· rfl)) | (apply Bc; (· exact nxE)) | (apply Bd; (· rfl); (· rfl); (· exact nxE))); (· first | exact Ok.pe)) | ((first | apply Ca | (apply Cb; (· exact nxE))); (· first | exact Ok.e0)) | refine Sx ?_ | (refine Sy (fun h => ?_) (fun h => ?_) <;> try (exfalso; omega; done)) | refine Sz (fun h => ?_) (fun h => ?_))
  refine AW.loop (X := {k : Nat // k ≤ t.length}) (fun k => ⟨[Oo, Oo, Oo, .own 1 ⟨1, []⟩ 0 t.length, Oo, Oo, Oo, Oo, Oo, TL t, I t.length, I (k.1 : Nat), Oo, Oo, Oo, Oo, Oo, Oo, Oo, Oo, Oo, Oo, Oo], heapX [] [{ l := ⟨1, []⟩, k := 1, R := TR (t.take k.1), nils := t.length - k.1, src := ⟨1, []⟩, base := ⟨1, []⟩ }], 900⟩) (fun k => t.length - k.1) ⟨0, Nat.zero_le _⟩ ?_ (fun k => ?_)
  ·
    (apply Le.headG [] [{ l := ⟨1, []⟩, k := 1, R := [], nils := t.length, src := ⟨3, []⟩, base := ⟨3, []⟩ }] (fun _ => False))
    (case' hlen => rfl)
    (case' hms => rfl)
    all_goals (try dsimp only [srcs])
    (case' hfr | hob => (repeat' (first | refine La ?_ ?_ | exact Lc | refine Lo ?_ | refine ⟨⟨_, rfl, ?_⟩, ?_⟩ | refine Lx ?_)))
    (case' hok => first | exact ⟨MI.ok_make rfl, trivial⟩ | exact trivial)
    (case' hN => rfl)
    (case' hS => rfl)
    all_goals (first | exact Ld | (rfl))
  obtain ⟨k, hk⟩ := k
  simp only
  by_cases hlt : k < t.length
  · obtain ⟨r, hr1⟩ : ∃ r, t[k]? = some r := ⟨t[k], by simp⟩
    have hrow := TR_get hr1
    have htk : (TR (t.take k)).length = k := by simp; omega
    rw [show t.length - k = (t.length - (k + 1)) + 1 by omega]
    repeat' (first | ((first | apply Ba | (apply Bb; (· rfl); (· rfl)) | (apply Bc; (· exact nxE)) | (apply Bd; (· rfl); (· rfl); (· exact nxE))); (· first | exact Eo rfl rfl (cloneInt_ac r (hr r (List.mem_of_getElem? hr1))) (Sd Sn) | exact Ok.stT rfl rfl rfl (by dsimp only; rw [htk]; omega) rfl | exact Ok.pe)) | ((first | apply Ca | (apply Cb; (· exact nxE))); (· first | exact Eo rfl rfl (cloneInt_ac r (hr r (List.mem_of_getElem? hr1))) (Sd Sn) | exact Ok.stT rfl rfl rfl (by dsimp only; rw [htk]; omega) rfl | exact Ok.e0)) | refine Sx ?_ | (refine Sy (fun h => ?_) (fun h => ?_) <;> try (exfalso; omega; done)) | refine Sz (fun h => ?_) (fun h => ?_))
    refine ⟨⟨k + 1, by omega⟩, ?_, by simp only; omega⟩
    (apply Le.headG [] [{ l := ⟨1, []⟩, k := 1, R := TR (t.take (k + 1)), nils := t.length - (k + 1), src := ⟨1, []⟩, base := ⟨1, []⟩, cut := k, ext := some ⟨909, [0]⟩ }] (fun _ => False))
    (case' hlen => rfl)
    (case' hms => rfl)
    all_goals (try dsimp only [srcs])
    (case' hfr | hob => (repeat' (first | refine La ?_ ?_ | exact Lc | refine Lo ?_ | refine ⟨⟨_, rfl, ?_⟩, ?_⟩ | refine Lx ?_)))
    (case' hok => first | exact ⟨MI.ok_fill (TR_take hr1) htk IR_len rfl (Cg) rfl, trivial⟩ | exact trivial)
    (case' hN => rfl)
    (case' hS => rfl)
    all_goals (first | exact Ld | ((simp [AllP]; omega)))
  ·
    have hkn : k = t.length := by omega
    subst hkn
    rw [List.take_length, Nat.sub_self]
    repeat' (first | ((first | apply Ba | (apply Bb; (· rfl); (· rfl)) | (apply Bc; (· exact nxE)) | (apply Bd; (· rfl); (· rfl); (· exact nxE))); (· first | exact Ok.pe)) | ((first | apply Ca | (apply Cb; (· exact nxE))); (· first | exact Ok.e0)) | refine Sx ?_ | (refine Sy (fun h => ?_) (fun h => ?_) <;> try (exfalso; omega; done)) | refine Sz (fun h => ?_) (fun h => ?_))
    refine Ya ?_
    (apply Le.headG [] [{ l := ⟨0, []⟩, k := 1, R := TR t, src := ⟨1, []⟩, base := ⟨1, []⟩ }] (fun _ => False))
    (case' hlen => rfl)
    (case' hms => rfl)
    all_goals (try dsimp only [srcs])
    (case' hfr | hob => (repeat' (first | refine La ?_ ?_ | exact Lc | refine Lo ?_ | refine ⟨⟨_, rfl, ?_⟩, ?_⟩ | refine Lx ?_)))
    (case' hok => first | exact ⟨MI.ok_same rfl (Cg), trivial⟩ | exact trivial)
    (case' hN => rfl)
    (case' hS => rfl)
    all_goals (first | exact Ld | (rfl))
end Go.Proofs.Ytdgodkpobomneaa
end

section
namespace Go.Proofs.Ytdgodkpobomneaa
set_option linter.unusedSimpArgs false
set_option linter.unusedVariables false
open Go Go.RowKit
attribute [local irreducible] AL AD AW OpOk Le AC thenQ blockQ EndQ

/-- A table of which the first rows, and the first cells of the next one, have been written. -/
def mixF (f g : Nat → Nat → Int) (K J : Nat) : Nat → Nat → Int := fun a b => if a < K ∨ (a = K ∧ b < J) then f a b else g a b
theorem mixF_0 [Mode] {f g : Nat → Nat → Int} {m n : Nat} : tabF m n (mixF f g 0 0) = tabF m n g := tabF_congr fun i j _ _ => by simp [mixF]
theorem mixF_row [Mode] {f g : Nat → Nat → Int} {m n K : Nat} : tabF m n (mixF f g K n) = tabF m n (mixF f g (K + 1) 0) := tabF_congr fun i j _ hj => by
  unfold mixF
  by_cases h : i < K ∨ (i = K ∧ j < n)
  · rw [if_pos h, if_pos (by omega)]
  · rw [if_neg h, if_neg (by omega)]
theorem mixF_all [Mode] {f g : Nat → Nat → Int} {m n : Nat} : tabF m n (mixF f g m 0) = tabF m n f := tabF_congr fun i j hi _ => by simp [mixF, hi]
theorem mixF_set [Mode] {f g : Nat → Nat → Int} {K J a b : Nat} : mixF f g K (J + 1) a b = if a = K ∧ b = J then f K J else mixF f g K J a b := by
  unfold mixF
  by_cases h : a = K ∧ b = J
  · obtain ⟨rfl, rfl⟩ := h; simp
  · rw [if_neg h]
    by_cases h2 : a < K ∨ (a = K ∧ b < J)
    · rw [if_pos h2, if_pos (by omega)]
    · rw [if_neg h2, if_neg (by omega)]
end Go.Proofs.Ytdgodkpobomneaa
end

section
namespace Go.Proofs.Ytdgodkpobomneaa
set_option linter.unusedSimpArgs false
set_option linter.unusedVariables false
open Go Go.RowKit
attribute [local irreducible] AL AD AW OpOk Le AC thenQ blockQ EndQ

def okP (r e : Nat) (p : Pl) : Prop := p.t = e ∧ p.k + 1 ≤ r
instance {r e : Nat} {p : Pl} : Decidable (okP r e p) := by unfold okP; exact inferInstance
/-! ### Causes -/
/-- Does a cause end at this firing? -/
def stopC (t : List (List Int)) (xs : List Pl) (r e : Nat) : Prop := (alA t r e xs xs.length).2 < 0 ∨ (alA t r e xs xs.length).1 < entN t (r - 1) e
instance {t : List (List Int)} {xs : List Pl} {r e : Nat} : Decidable (stopC t xs r e) := by unfold stopC; exact inferInstance
end Go.Proofs.Ytdgodkpobomneaa
end

section
namespace Go.Proofs.Ytdgodkpobomneaa
set_option linter.unusedSimpArgs false
set_option linter.unusedVariables false
open Go Go.RowKit
attribute [local irreducible] AL AD AW OpOk Le AC thenQ blockQ EndQ

/-! ### Fractions -/
/-! ### Live graphs -/
theorem Live.over [Mode] {n : Nat} {xs : List Pl} (hl : Live xs n) {u1 u2 over : Int} {c : List Nat} (hc : Circ xs c) (hw : over < wgt xs u1 u2 c) : overC xs u1 u2 over n ≠ [] := overC_finds hc (hl.circ hc).1 hw
end Go.Proofs.Ytdgodkpobomneaa
end

section
namespace Go.Proofs.Ytdgodkpobomneaa
open Go Go.RowKit
set_option linter.unusedSimpArgs false
set_option linter.unusedVariables false
attribute [local irreducible] AL AD AW OpOk Le AC thenQ blockQ EndQ

end Go.Proofs.Ytdgodkpobomneaa
end

section
namespace Go.Proofs.Ytdgodkpobomneaa
set_option linter.unusedSimpArgs false
set_option linter.unusedVariables false
open Go Go.RowKit
attribute [local irreducible] AL AD AW OpOk Le AC thenQ blockQ EndQ

end Go.Proofs.Ytdgodkpobomneaa
end

section
namespace Go.Proofs.Ytdgodkpobomneaa
set_option linter.unusedSimpArgs false
set_option linter.unusedVariables false
open Go Go.RowKit
attribute [local irreducible] AL AD AW OpOk Le AC thenQ blockQ EndQ

end Go.Proofs.Ytdgodkpobomneaa
end

section
namespace Go.Proofs.Ytdgodkpobomneaa
set_option linter.unusedSimpArgs false
set_option linter.unusedVariables false
open Go Go.RowKit
attribute [local irreducible] AL AD AW OpOk Le AC thenQ blockQ EndQ

end Go.Proofs.Ytdgodkpobomneaa
end

section
namespace Go.Proofs.Ytdgodkpobomneaa
set_option linter.unusedSimpArgs false
set_option linter.unusedVariables false
open Go Go.RowKit
attribute [local irreducible] AL AD AW OpOk Le AC thenQ blockQ EndQ

noncomputable def perL (f : Nat → Nat) (z : Nat) : Nat := open Classical in if h : ∃ L, Per f z L then Classical.choose h else 0
theorem perL_eq [Mode] {f : Nat → Nat} {z L : Nat} (h : Per f z L) : perL f z = L := by
  have he : ∃ L, Per f z L := ⟨L, h⟩
  unfold perL
  rw [dif_pos he]
  exact Per.uniq (Classical.choose_spec he) h
abbrev predF (xs : List Pl) (y : Nat → Nat) : Nat → Nat := fun v => plF xs (y v)
noncomputable def btL (xs : List Pl) (n : Nat) (s : BF) : List Nat := (backC s.y (predF xs s.y) (iter (predF xs s.y) n s.last.toNat) (perL (predF xs s.y) (iter (predF xs s.y) n s.last.toNat))).reverse
theorem btL_eq [Mode] {xs : List Pl} {n : Nat} {r : Int × Int} {s : BF} {v z L : Nat} (h : Found xs n r s v z L) : btL xs n s = (backC s.y (predF xs s.y) z L).reverse := by
  unfold btL
  rw [h.last, Int.toNat_natCast]
  have e : iter (predF xs s.y) n v = z := h.zv
  rw [e, perL_eq h.per]
/-- Before round q + 1. -/
structure BtSt (xs : List Pl) (n : Nat) (r : Int × Int) (q : Nat) (s : BF) : Prop where
  le : q ≤ n + 1
  run : bfRun xs r (n + 1) bf0 = bfRun xs r (n + 1 - q) s
  bnd : ∀ v, 0 ≤ s.b v ∧ s.b v ≤ 30000000 * (q : Int)
end Go.Proofs.Ytdgodkpobomneaa
end

section
namespace Go.Proofs.Ytdgodkpobomneaa
set_option linter.unusedSimpArgs false
set_option linter.unusedVariables false
open Go Go.RowKit
attribute [local irreducible] AL AD AW OpOk Le AC thenQ blockQ EndQ

structure CtSt (xs : List Pl) (r : Int × Int) : Prop where
  n1 : 0 ≤ r.1 ∧ r.1 ≤ 100000
  n2 : 0 < r.2 ∧ r.2 ≤ 50
  red : Int.gcd r.1 r.2 = 1
  walk : ∃ c u, c ≠ [] ∧ Wk xs u c u ∧ 0 ≤ wgt xs r.1 r.2 c
theorem CtSt.fin [Mode] {n : Nat} {xs : List Pl} (hl : Live xs n) {r : Int × Int} (h : CtSt xs r) (hb : bfRun xs r (n + 1) bf0 = none) : Go.Proofs.Ytdgodkpobomneaa.maxR xs = r := by
  obtain ⟨c, u, h1, h2, h3⟩ := h.walk
  have hs := (bf_spec (n := n) (r := r) (fun i hi => by have := (hl.pl i hi).2.1; simp only [plT]; omega)).1 hb
  exact maxR_eq hl (MaxR.of_walk h.n2.1 h.red (fun c hc => hs c _ hc.wk) h1 h2 h3)
/-- A better circuit: the next fraction. -/
theorem CtSt.next [Mode] {n : Nat} {xs : List Pl} (hl : Live xs n) (hn : n ≤ 10) {r : Int × Int} (h : CtSt xs r) {s : BF} (hb : bfRun xs r (n + 1) bf0 = some s) : ∃ c, btL xs n s = c ∧ 0 < c.length ∧ c.length ≤ n ∧ (∀ i ∈ c, i < xs.length) ∧ (0 ≤ sumD xs c ∧ sumD xs c ≤ 100000) ∧ (0 < sumT xs c ∧ sumT xs c ≤ 50) ∧ CtSt xs (redR (sumD xs c) (sumT xs c)) ∧ rank 1000 r < rank 1000 (redR (sumD xs c) (sumT xs c)) := by
  obtain ⟨v, z, L, hF⟩ := bf_found (n := n) (fun i hi => by have := (hl.pl i hi).2.1; simp only [plT]; omega) hb
  have hw : Wk xs (z : Nat) (backC s.y (predF xs s.y) z L).reverse (z : Nat) := by
    have := back_walk (xs := xs) (y := s.y) (z := z) (fun p hp => by
      obtain ⟨i, hi, rfl⟩ := List.getElem_of_mem hp
      have := hl.pl i hi
      simp only [plA, List.getElem?_eq_getElem hi, Option.getD_some] at this
      exact ⟨this.1.1, this.2.1.1⟩) hF.ok L
    have e : iter (predF xs s.y) L z = z := hF.per.back
    rw [show iter (fun v => plF xs (s.y v)) L z = z from e] at this
    exact this
  have hlen : (backC s.y (predF xs s.y) z L).reverse.length = L := by simp [backC]
  have hpos := hF.pos
  rw [← wgt_rev] at hpos
  have hpL := hF.per.pos
  have hLn := hF.Ln
  refine ⟨_, rfl, ?_⟩
  rw [btL_eq hF]
  have hpos2 : 0 < wgt xs r.1 r.2 (backC s.y (predF xs s.y) z L).reverse := hpos
  generalize (backC s.y (predF xs s.y) z L).reverse = c at *
  have hne : c ≠ [] := by intro e; rw [e] at hlen; simp at hlen; omega
  have hk := hl.tok c _ hne hw
  have hsb := sum_bnd (fun i hi => (hl.pl i hi).2.2) hw.lt
  have hrd := hl.red hn (c := c) (by omega) hw.lt hk
  have h1 := h.n1
  have h2 := h.n2
  exact ⟨by omega, by omega, hw.lt, by omega, by omega, ⟨hrd.1, hrd.2.1, hrd.2.2, c, _, hne, hw, by rw [wgt_redR hk]; exact Int.le_refl _⟩, rank_redR (M := 1000) h2.1 (by omega) hk (by omega) hpos2⟩
noncomputable def btV (xs : List Pl) (n new : Nat) : Option BF → AV
  | none => nilS
  | some s => .own 1 ⟨new, [0]⟩ 0 (btL xs n s).length
noncomputable def btW (xs : List Pl) (n new : Nat) : Option BF → List W
  | none => []
  | some s => [.one ⟨new, [0]⟩ (some (IO (cN (btL xs n s))))]
attribute [local irreducible] btV btW
end Go.Proofs.Ytdgodkpobomneaa
end

section
namespace Go.Proofs.Ytdgodkpobomneaa
set_option linter.unusedSimpArgs false
set_option linter.unusedVariables false
open Go Go.RowKit
attribute [local irreducible] AL AD AW OpOk Le AC thenQ blockQ EndQ

theorem Wk.same [Mode] {xs ys : List Pl} (hl : ys.length = xs.length) (h : ∀ i, (plA ys i).f = (plA xs i).f ∧ (plA ys i).t = (plA xs i).t) : ∀ {c : List Nat} {u v : Int}, Wk xs u c v → Wk ys u c v
  | [], _, _, hw => hw
  | i :: c, u, v, ⟨h1, h2, h3⟩ => ⟨by omega, by rw [(h i).1]; exact h2, by rw [(h i).2]; exact Wk.same hl h h3⟩
theorem Circ.same [Mode] {xs ys : List Pl} (hl : ys.length = xs.length) (h : ∀ i, (plA ys i).f = (plA xs i).f ∧ (plA ys i).t = (plA xs i).t) {c : List Nat} (hc : Circ xs c) : Circ ys c := by
  have e : (c.map fun i => (plA ys i).f) = c.map fun i => (plA xs i).f := List.map_congr_left fun i _ => (h i).1
  refine ⟨hc.ne, ?_, by rw [e]; exact hc.nd, fun i hi => ?_⟩
  · have := hc.wk.same hl h
    simp only [firstF] at this ⊢
    rw [(h (hdN c)).1]
    exact this
  · have := hc.mn i hi
    simp only [firstF] at this ⊢
    rw [(h (hdN c)).1, (h i).1]
    exact this
end Go.Proofs.Ytdgodkpobomneaa
end

section
namespace Go.Proofs.Ytdgodkpobomneaa
set_option linter.unusedSimpArgs false
set_option linter.unusedVariables false
/-! ### Walks along arcs -/
/-- From node u to node v by the nodes of c between them: a walk of at least one arc. W v u: the weight of the arc from u to v. -/
def WM (W : Nat → Nat → Int) : Nat → List Nat → Nat → Prop
  | u, [], v => W v u ≠ BOT
  | u, m :: c, v => W m u ≠ BOT ∧ WM W m c v
def wM (W : Nat → Nat → Int) : Nat → List Nat → Nat → Int
  | u, [], v => W v u
  | u, m :: c, v => W m u + wM W m c v
theorem WM.app {W : Nat → Nat → Int} : ∀ {a b : List Nat} {u k v : Nat}, WM W u (a ++ k :: b) v ↔ WM W u a k ∧ WM W k b v
  | [], b, u, k, v => by simp [WM]
  | x :: a, b, u, k, v => by simp only [List.cons_append, WM, WM.app (a := a)]; exact and_assoc.symm
theorem wM_app {W : Nat → Nat → Int} : ∀ (a b : List Nat) (u k v : Nat), wM W u (a ++ k :: b) v = wM W u a k + wM W k b v
  | [], b, u, k, v => by simp [wM]
  | x :: a, b, u, k, v => by simp only [List.cons_append, wM, wM_app a b]; omega
/-- No closed walk weighs more than nothing. -/
def NoPos (W : Nat → Nat → Int) (n : Nat) : Prop := ∀ (u : Nat) (c : List Nat), u < n → (∀ x ∈ c, x < n) → WM W u c u → wM W u c u ≤ 0
/-- A walk without a node twice, and not less heavy. -/
theorem walk_short {W : Nat → Nat → Int} {n : Nat} (hn : NoPos W n) : ∀ (m : Nat) (c : List Nat) (u v : Nat), c.length ≤ m → u < n → (∀ x ∈ c, x < n) → WM W u c v → ∃ c', WM W u c' v ∧ c'.length + 1 ≤ n ∧ (∀ x ∈ c', x < n) ∧ wM W u c v ≤ wM W u c' v
  | m, c, u, v, hm, hu, hc, h => by
    by_cases hnd : ((u :: c).map id).Nodup
    · exact ⟨c, h, by simpa using nodup_le n (u :: c) (by simpa using hnd) (fun x hx => by
        rcases List.mem_cons.1 hx with rfl | hx
        · exact hu
        · exact hc x hx), hc, Int.le_refl _⟩
    · by_cases huc : u ∈ c
      · obtain ⟨a, e, rfl⟩ := List.append_of_mem huc
        rw [WM.app] at h
        cases m with
        | zero => simp at hm
        | succ m =>
          have hp := hn u a hu (fun x hx => hc x (by simp [hx])) h.1
          obtain ⟨c', g1, g2, g3, g4⟩ := walk_short hn m e u v (by simp at hm ⊢; omega) hu (fun x hx => hc x (by simp [hx])) h.2
          exact ⟨c', g1, g2, g3, by rw [wM_app]; omega⟩
      · have hnd2 : ¬ (c.map id).Nodup := fun h2 => hnd (by simp at h2 ⊢; exact ⟨huc, h2⟩)
        obtain ⟨a, i, b, j, e, rfl, hij⟩ := not_nodup_split hnd2
        simp only [id] at hij
        subst hij
        rw [WM.app] at h
        obtain ⟨h1, h2⟩ := h
        rw [WM.app] at h1
        obtain ⟨h3, h4⟩ := h1
        cases m with
        | zero => simp at hm
        | succ m =>
          have hp := hn i b (hc i (by simp)) (fun x hx => hc x (by simp [hx])) h4
          obtain ⟨c', g1, g2, g3, g4⟩ := walk_short hn m (a ++ i :: e) u v (by simp at hm ⊢; omega) hu (fun x hx => hc x (by
            simp only [List.mem_append, List.mem_cons] at hx ⊢
            rcases hx with hx | hx | hx
            · exact .inl (.inl hx)
            · exact .inr (.inl hx)
            · exact .inr (.inr hx))) (by rw [WM.app]; exact ⟨h3, h2⟩)
          refine ⟨c', g1, g2, g3, ?_⟩
          rw [wM_app] at g4
          rw [wM_app, wM_app]
          omega
theorem wM_le {W : Nat → Nat → Int} {M : Int} (hW : ∀ u v, W v u ≠ BOT → -M ≤ W v u ∧ W v u ≤ M) : ∀ {c : List Nat} {u v : Nat}, WM W u c v → -M * (c.length + 1) ≤ wM W u c v ∧ wM W u c v ≤ M * (c.length + 1)
  | [], u, v, h => by
    have := hW u v h
    simp only [wM, List.length_nil]
    constructor <;> simp <;> omega
  | m :: c, u, v, h => by
    have h1 := hW u m h.1
    have h2 := wM_le hW h.2
    simp only [wM, List.length_cons, Int.natCast_add, Int.mul_add] at h2 ⊢
    have e : -M * ((c.length : Int)) = -(M * c.length) := Int.neg_mul _ _
    rw [e] at h2 ⊢
    simp at h2 ⊢
    omega
/-- The star: what is told, node by node. -/
structure StarOk (W : Nat → Nat → Int) (n : Nat) (s : Nat → Nat → Int) : Prop where
  some : ∀ u v, u < n → v < n → s v u = BOT ∨ (u = v ∧ s v u = 0) ∨ ∃ c, WM W u c v ∧ (∀ x ∈ c, x < n) ∧ s v u = wM W u c v
  dia : ∀ u, u < n → s u u ≠ BOT ∧ 0 ≤ s u u
  all : ∀ u v c, u < n → v < n → (∀ x ∈ c, x < n) → WM W u c v → s v u ≠ BOT ∧ wM W u c v ≤ s v u
theorem StarOk.uniq {W : Nat → Nat → Int} {n : Nat} {s s' : Nat → Nat → Int} (h : StarOk W n s) (h' : StarOk W n s') {u v : Nat} (hu : u < n) (hv : v < n) : s v u = s' v u := by
  rcases h.some u v hu hv with e | ⟨e1, e2⟩ | ⟨c, c1, c2, c3⟩
  · rcases h'.some u v hu hv with e' | ⟨e1', e2'⟩ | ⟨c', c1', c2', c3'⟩
    · rw [e, e']
    · subst e1'; exact absurd e (h.dia u hu).1
    · exact absurd e (h.all u v c' hu hv c2' c1').1
  · subst e1
    have := h'.dia u hu
    rcases h'.some u u hu hu with e' | ⟨_, e2'⟩ | ⟨c', c1', c2', c3'⟩
    · exact absurd e' this.1
    · omega
    · have := h.all u u c' hu hu c2' c1'; omega
  · have h1 := h'.all u v c hu hv c2 c1
    rcases h'.some u v hu hv with e' | ⟨e1', e2'⟩ | ⟨c', c1', c2', c3'⟩
    · exact absurd e' h1.1
    · subst e1'; have := (h.dia u hu).2; omega
    · have := h.all u v c' hu hv c2' c1'; omega
/-! ### The star by tripling nodes (Floyd, Warshall), in place -/
def timesB (a b : Int) : Int := if a = BOT ∨ b = BOT then BOT else a + b
structure FW (W : Nat → Nat → Int) (n : Nat) (M : Int) (k : Nat) (s : Nat → Nat → Int) : Prop where
  some : ∀ u v, u < n → v < n → s v u = BOT ∨ (u = v ∧ s v u = 0) ∨ ∃ c, WM W u c v ∧ (∀ x ∈ c, x < n) ∧ s v u = wM W u c v
  dia : ∀ u, u < n → s u u ≠ BOT ∧ 0 ≤ s u u
  all : ∀ u v c, u < n → v < n → (∀ x ∈ c, x < k) → WM W u c v → s v u ≠ BOT ∧ wM W u c v ≤ s v u
  low : ∀ u v, u < n → v < n → s v u ≠ BOT → -(M * 2 ^ k) ≤ s v u
theorem star_hi {W : Nat → Nat → Int} {n : Nat} {M : Int} (hn : NoPos W n) (hM : 0 ≤ M) (hW : ∀ u v, W v u ≠ BOT → -M ≤ W v u ∧ W v u ≤ M) {s : Nat → Nat → Int} (h : ∀ u v, u < n → v < n → s v u = BOT ∨ (u = v ∧ s v u = 0) ∨ ∃ c, WM W u c v ∧ (∀ x ∈ c, x < n) ∧ s v u = wM W u c v) {u v : Nat} (hu : u < n) (hv : v < n) : s v u ≤ M * n := by
  have h0 : 0 ≤ M * n := Int.mul_nonneg hM (by omega)
  rcases h u v hu hv with e | ⟨_, e⟩ | ⟨c, h1, h2, e⟩
  · rw [e]; simp only [BOT]; omega
  · omega
  · obtain ⟨c', g1, g2, g3, g4⟩ := walk_short hn c.length c u v (Nat.le_refl _) hu h2 h1
    have h5 := (wM_le hW g1).2
    have h6 : M * ((c'.length : Int) + 1) ≤ M * n := Int.mul_le_mul_of_nonneg_left (by omega) hM
    omega
theorem star_dia0 {W : Nat → Nat → Int} {n : Nat} (hn : NoPos W n) {s : Nat → Nat → Int} (h : ∀ u v, u < n → v < n → s v u = BOT ∨ (u = v ∧ s v u = 0) ∨ ∃ c, WM W u c v ∧ (∀ x ∈ c, x < n) ∧ s v u = wM W u c v) (hd : ∀ u, u < n → s u u ≠ BOT ∧ 0 ≤ s u u) {k : Nat} (hk : k < n) : s k k = 0 := by
  have h1 := hd k hk
  rcases h k k hk hk with e | ⟨_, e⟩ | ⟨c, h2, h3, e⟩
  · exact absurd e h1.1
  · exact e
  · have := hn k c hk h3 h2; omega
def fwS (s : Nat → Nat → Int) (k : Nat) : Nat → Nat → Int := fun i j => max (s i j) (timesB (s i k) (s k j))
theorem timesB_ne {a b : Int} (ha : a ≠ BOT) (hb : b ≠ BOT) : timesB a b = a + b := by simp [timesB, ha, hb]
theorem zero_ne_bot : (0 : Int) ≠ BOT := by decide
theorem timesB_0 {a : Int} : timesB a 0 = a := by
  by_cases h : a = BOT
  · rw [timesB, if_pos (.inl h), h]
  · rw [timesB_ne h zero_ne_bot]; omega
theorem timesB_0' {a : Int} : timesB 0 a = a := by
  by_cases h : a = BOT
  · rw [timesB, if_pos (.inr h), h]
  · rw [timesB_ne zero_ne_bot h]; omega
theorem FW.step {W : Nat → Nat → Int} {n k : Nat} {M : Int} {s : Nat → Nat → Int} (hn : NoPos W n) (hM : 0 ≤ M) (hMb : M * 2 ^ (k + 1) < 1000000000000000) (hk : k < n) (h : FW W n M k s) : FW W n M (k + 1) (fwS s k) ∧ (∀ i, i < n → fwS s k i k = s i k) ∧ ∀ j, j < n → fwS s k k j = s k j := by
  have hkk := star_dia0 hn h.some h.dia hk
  have hpow : M * 2 ^ (k + 1) = M * 2 ^ k * 2 := by rw [Int.pow_succ, Int.mul_assoc]
  have hp0 : 0 ≤ M * 2 ^ k := Int.mul_nonneg hM (Int.pow_nonneg (by omega))
  have hge : ∀ v u, s v u ≤ fwS s k v u := fun v u => by simp only [fwS]; omega
  have hbot : ∀ v u, u < n → v < n → BOT ≤ s v u := fun v u hu hv => by
    by_cases e : s v u = BOT
    · omega
    · have := h.low u v hu hv e; simp only [BOT]; omega
  have hmono : ∀ v u, u < n → v < n → s v u ≠ BOT → fwS s k v u ≠ BOT := fun v u hu hv hne => by
    have h1 := hge v u
    have h2 := hbot v u hu hv
    omega
  refine ⟨⟨fun u v hu hv => ?_, fun u hu => ⟨hmono u u hu hu (h.dia u hu).1, by have := hge u u; have := (h.dia u hu).2; omega⟩, fun u v c hu hv hc hw => ?_, fun u v hu hv hne => ?_⟩, fun i hi => ?_, fun j hj => ?_⟩
  · by_cases hb : timesB (s v k) (s k u) ≤ s v u
    · have e : fwS s k v u = s v u := by simp only [fwS]; omega
      rw [e]; exact h.some u v hu hv
    · have e : fwS s k v u = timesB (s v k) (s k u) := by simp only [fwS]; omega
      rw [e]
      have h1 : s v k ≠ BOT := fun e1 => hb (by rw [timesB, if_pos (.inl e1)]; exact hbot v u hu hv)
      have h2 : s k u ≠ BOT := fun e1 => hb (by rw [timesB, if_pos (.inr e1)]; exact hbot v u hu hv)
      rw [timesB_ne h1 h2]
      right
      rcases h.some k v hk hv with e1 | ⟨e1, e2⟩ | ⟨c2, g1, g2, g3⟩
      · exact absurd e1 h1
      · rw [e2, Int.zero_add, ← e1]
        rcases h.some u k hu hk with e3 | e3 | e3
        · exact absurd e3 h2
        · exact .inl e3
        · exact .inr e3
      · rcases h.some u k hu hk with e3 | ⟨e3, e4⟩ | ⟨c1, g4, g5, g6⟩
        · exact absurd e3 h2
        · rw [e4, Int.add_zero, e3]
          exact .inr ⟨c2, g1, g2, g3⟩
        · refine .inr ⟨c1 ++ k :: c2, by rw [WM.app]; exact ⟨g4, g1⟩, fun x hx => ?_, by rw [wM_app, g3, g6]; omega⟩
          simp only [List.mem_append, List.mem_cons] at hx
          rcases hx with hx | hx | hx
          · exact g5 x hx
          · omega
          · exact g2 x hx
  · have key : ∀ (m : Nat) (c : List Nat), c.length ≤ m → (∀ x ∈ c, x < k + 1) → WM W u c v → fwS s k v u ≠ BOT ∧ wM W u c v ≤ fwS s k v u := by
      intro m
      induction m with
      | zero =>
        intro c hm hc hw
        obtain rfl : c = [] := List.length_eq_zero_iff.1 (by omega)
        have := h.all u v [] hu hv (by simp) hw
        exact ⟨hmono v u hu hv this.1, Int.le_trans this.2 (hge v u)⟩
      | succ m ih =>
        intro c hm hc hw
        by_cases hkc : k ∈ c
        · obtain ⟨a, e, he, hka⟩ := List.eq_append_cons_of_mem hkc
          subst he
          by_cases hke : k ∈ e
          · obtain ⟨b, e', rfl⟩ := List.append_of_mem hke
            rw [WM.app, WM.app] at hw
            have hp := hn k b hk (fun x hx => by have := hc x (by simp [hx]); omega) hw.2.1
            have := ih (a ++ k :: e') (by simp at hm ⊢; omega) (fun x hx => hc x (by
              simp only [List.mem_append, List.mem_cons] at hx ⊢
              rcases hx with hx | hx | hx
              · exact .inl hx
              · exact .inr (.inl hx)
              · exact .inr (.inr (.inr (.inr hx))))) (by rw [WM.app]; exact ⟨hw.1, hw.2.2⟩)
            refine ⟨this.1, ?_⟩
            rw [wM_app, wM_app]
            have h2 := this.2
            rw [wM_app] at h2
            omega
          · rw [WM.app] at hw
            have hlt : ∀ x, x < k + 1 → x ≠ k → x < k := fun x h1 h2 => by omega
            have h1 := h.all u k a hu hk (fun x hx => hlt x (hc x (by simp [hx])) (fun e2 => hka (e2 ▸ hx))) hw.1
            have h2 := h.all k v e hk hv (fun x hx => hlt x (hc x (by simp [hx])) (fun e2 => hke (e2 ▸ hx))) hw.2
            have h3 : timesB (s v k) (s k u) ≤ fwS s k v u := by simp only [fwS]; omega
            rw [timesB_ne h2.1 h1.1] at h3
            have h4 := h.low u k hu hk h1.1
            have h5 := h.low k v hk hv h2.1
            rw [wM_app]
            refine ⟨fun e2 => ?_, by omega⟩
            simp only [BOT] at e2
            omega
        · have := h.all u v c hu hv (fun x hx => by have := hc x hx; have : x ≠ k := fun e2 => hkc (e2 ▸ hx); omega) hw
          exact ⟨hmono v u hu hv this.1, Int.le_trans this.2 (hge v u)⟩
    exact key c.length c (Nat.le_refl _) hc hw
  · rw [hpow]
    by_cases hb : timesB (s v k) (s k u) ≤ s v u
    · have e : fwS s k v u = s v u := by simp only [fwS]; omega
      rw [e] at hne ⊢
      have := h.low u v hu hv hne
      omega
    · have e : fwS s k v u = timesB (s v k) (s k u) := by simp only [fwS]; omega
      rw [e] at hne ⊢
      have h1 : s v k ≠ BOT := fun e1 => hne (by rw [timesB, if_pos (.inl e1)])
      have h2 : s k u ≠ BOT := fun e1 => hne (by rw [timesB, if_pos (.inr e1)])
      rw [timesB_ne h1 h2]
      have h3 := h.low k v hk hv h1
      have h4 := h.low u k hu hk h2
      omega
  · simp only [fwS, hkk, timesB_0]; omega
  · simp only [fwS, hkk, timesB_0']; omega
theorem FW.start {W : Nat → Nat → Int} {n : Nat} {M : Int} (hM : 0 ≤ M) (hMb : M < 1000000000000000) (hW : ∀ u v, W v u ≠ BOT → -M ≤ W v u ∧ W v u ≤ M) : FW W n M 0 (fun i j => max (W i j) (if i = j then 0 else BOT)) := by
  have hWb : ∀ u v, BOT ≤ W v u := fun u v => by
    by_cases e : W v u = BOT
    · omega
    · have := (hW u v e).1; simp only [BOT]; omega
  refine ⟨fun u v hu hv => ?_, fun u hu => ?_, fun u v c hu hv hc hw => ?_, fun u v hu hv hne => ?_⟩
  · have h1 := hWb u v
    by_cases e : v = u
    · subst e
      simp only [if_true]
      by_cases h2 : W v v ≤ 0
      · right; left; exact ⟨by trivial, by omega⟩
      · right; right; exact ⟨[], by simp only [WM, BOT]; omega, by simp, by simp only [wM]; omega⟩
    · simp only [if_neg e]
      by_cases h2 : W v u = BOT
      · left; omega
      · right; right; exact ⟨[], h2, by simp, by simp only [wM]; omega⟩
  · simp only [if_true, BOT]; constructor <;> omega
  · obtain rfl : c = [] := by cases c with
      | nil => rfl
      | cons x c => exact absurd (hc x (by simp)) (by omega)
    have h1 : W v u ≠ BOT := hw
    have h2 := hWb u v
    simp only [wM]
    constructor
    · intro e; apply h1; split at e <;> omega
    · omega
  · by_cases h2 : W v u = BOT
    · rw [h2] at hne ⊢
      by_cases e : v = u
      · rw [if_pos e]; simp only [BOT, Int.pow_zero, Int.mul_one]; omega
      · rw [if_neg e] at hne; exact absurd (by omega) hne
    · have := (hW u v h2).1
      simp only [Int.pow_zero, Int.mul_one]
      omega
theorem FW.star {W : Nat → Nat → Int} {n : Nat} {M : Int} {s : Nat → Nat → Int} (h : FW W n M n s) : StarOk W n s := ⟨h.some, h.dia, h.all⟩
/-! ### The star by powers -/
def unitF (i j : Nat) : Int := if i = j then 0 else BOT
def maxN (f : Nat → Int) : Nat → Int
  | 0 => BOT
  | k + 1 => max (maxN f k) (f k)
theorem maxN_ge {f : Nat → Int} : ∀ {n k : Nat}, k < n → f k ≤ maxN f n
  | 0, k, h => by omega
  | n + 1, k, h => by
    simp only [maxN]
    by_cases e : k = n
    · subst e; omega
    · have := maxN_ge (f := f) (show k < n by omega); omega
theorem maxN_at {f : Nat → Int} : ∀ {n : Nat}, maxN f n = BOT ∨ ∃ k, k < n ∧ maxN f n = f k
  | 0 => .inl rfl
  | n + 1 => by
    simp only [maxN]
    rcases maxN_at (f := f) (n := n) with e | ⟨k, hk, e⟩
    · by_cases h : f n ≤ maxN f n
      · left; omega
      · right; exact ⟨n, by omega, by omega⟩
    · by_cases h : f n ≤ maxN f n
      · right; exact ⟨k, by omega, by omega⟩
      · right; exact ⟨n, by omega, by omega⟩
def powS (W : Nat → Nat → Int) (n : Nat) (s : Nat → Nat → Int) : Nat → Nat → Int := fun i j => max (unitF i j) (maxN (fun k => timesB (W i k) (s k j)) n)
def powN (W : Nat → Nat → Int) (n : Nat) : Nat → Nat → Nat → Int
  | 0 => unitF
  | m + 1 => powS W n (powN W n m)
structure PX (W : Nat → Nat → Int) (n : Nat) (M : Int) (m : Nat) (s : Nat → Nat → Int) : Prop where
  some : ∀ u v, u < n → v < n → s v u = BOT ∨ (u = v ∧ s v u = 0) ∨ ∃ c, WM W u c v ∧ (∀ x ∈ c, x < n) ∧ s v u = wM W u c v
  dia : ∀ u, u < n → s u u ≠ BOT ∧ 0 ≤ s u u
  all : ∀ u v c, u < n → v < n → c.length + 1 ≤ m → (∀ x ∈ c, x < n) → WM W u c v → s v u ≠ BOT ∧ wM W u c v ≤ s v u
  bnd : ∀ u v, u < n → v < n → s v u ≠ BOT → -(M * m) ≤ s v u ∧ s v u ≤ M * m
theorem PX.start {W : Nat → Nat → Int} {n : Nat} {M : Int} : PX W n M 0 unitF := by
  refine ⟨fun u v hu hv => ?_, fun u hu => ⟨by simp only [unitF, if_true]; exact zero_ne_bot, by simp [unitF]⟩, fun u v c hu hv hc => by omega, fun u v hu hv hne => ?_⟩
  · unfold unitF
    by_cases e : v = u
    · subst e; exact .inr (.inl ⟨rfl, by simp⟩)
    · exact .inl (by simp [e])
  · unfold unitF at hne ⊢
    split at hne <;> simp_all
/-- The last node of a walk ahead of its end. -/
theorem WM.lastArc {W : Nat → Nat → Int} : ∀ {c : List Nat} {u v : Nat}, WM W u c v → (c = [] ∧ W v u ≠ BOT) ∨ ∃ c' k, c = c' ++ [k] ∧ WM W u c' k ∧ W v k ≠ BOT ∧ wM W u c v = wM W u c' k + W v k
  | [], u, v, h => .inl ⟨rfl, h⟩
  | m :: c, u, v, h => by
    right
    rcases h.2.lastArc with ⟨e, h1⟩ | ⟨c', k, e, h1, h2, h3⟩
    · subst e; exact ⟨[], m, rfl, h.1, h1, by simp [wM]⟩
    · subst e
      refine ⟨m :: c', k, rfl, ⟨h.1, h1⟩, h2, ?_⟩
      simp only [List.cons_append, wM] at h3 ⊢
      omega
theorem PX.step {W : Nat → Nat → Int} {n m : Nat} {M : Int} {s : Nat → Nat → Int} (hM : 0 ≤ M) (hMb : M * (m + 1) < 1000000000000000) (hW : ∀ u v, W v u ≠ BOT → -M ≤ W v u ∧ W v u ≤ M) (h : PX W n M m s) : PX W n M (m + 1) (powS W n s) := by
  have e1 : M * ((m : Int) + 1) = M * m + M := by rw [Int.mul_add, Int.mul_one]
  have hm0 : 0 ≤ M * (m : Int) := Int.mul_nonneg hM (by omega)
  have hub : ∀ i j, BOT ≤ unitF i j := fun i j => by unfold unitF; split <;> simp only [BOT] <;> omega
  refine ⟨fun u v hu hv => ?_, fun u hu => ?_, fun u v c hu hv hl hc hw => ?_, fun u v hu hv hne => ?_⟩
  · unfold powS
    by_cases hb : maxN (fun k => timesB (W v k) (s k u)) n ≤ unitF v u
    · have e : max (unitF v u) (maxN (fun k => timesB (W v k) (s k u)) n) = unitF v u := by omega
      rw [e]
      unfold unitF
      by_cases e2 : v = u
      · subst e2; exact .inr (.inl ⟨rfl, by simp⟩)
      · exact .inl (by simp [e2])
    · have e : max (unitF v u) (maxN (fun k => timesB (W v k) (s k u)) n) = maxN (fun k => timesB (W v k) (s k u)) n := by omega
      rw [e]
      rcases maxN_at (f := fun k => timesB (W v k) (s k u)) (n := n) with e2 | ⟨k, hk, e2⟩
      · exact .inl e2
      · rw [e2]
        by_cases h1 : W v k = BOT
        · left; simp [timesB, h1]
        · by_cases h2 : s k u = BOT
          · left; simp [timesB, h2]
          · simp only [timesB_ne h1 h2]
            right; right
            rcases h.some u k hu hk with e3 | ⟨e3, e4⟩ | ⟨c, g1, g2, g3⟩
            · exact absurd e3 h2
            · subst e3; exact ⟨[], h1, by simp, by simp [wM, e4]⟩
            · refine ⟨c ++ [k], by rw [WM.app]; exact ⟨g1, h1⟩, fun x hx => ?_, by rw [wM_app, g3]; simp [wM]; omega⟩
              simp only [List.mem_append, List.mem_singleton] at hx
              rcases hx with hx | hx
              · exact g2 x hx
              · omega
  · unfold powS unitF; simp only [if_true, BOT]; constructor <;> omega
  · rcases hw.lastArc with ⟨e, h1⟩ | ⟨c', k, e, h1, h2, h3⟩
    · subst e
      have h4 := maxN_ge (f := fun k => timesB (W v k) (s k u)) hu
      have h5 := h.dia u hu
      simp only [timesB_ne h1 h5.1] at h4
      have h6 := hW u v h1
      unfold powS
      simp only [wM]
      refine ⟨fun e => ?_, by omega⟩
      simp only [BOT] at e; omega
    · subst e
      have hk : k < n := hc k (by simp)
      have h5 := h.all u k c' hu hk (by simp at hl; omega) (fun x hx => hc x (by simp [hx])) h1
      have h4 := maxN_ge (f := fun k => timesB (W v k) (s k u)) hk
      simp only [timesB_ne h2 h5.1] at h4
      have h6 := hW k v h2
      have h7 := h.bnd u k hu hk h5.1
      unfold powS
      rw [h3]
      refine ⟨fun e => ?_, by omega⟩
      simp only [BOT] at e; omega
  · unfold powS at hne ⊢
    simp only [Int.natCast_add, Int.natCast_one, e1]
    by_cases hb : maxN (fun k => timesB (W v k) (s k u)) n ≤ unitF v u
    · have e : max (unitF v u) (maxN (fun k => timesB (W v k) (s k u)) n) = unitF v u := by omega
      rw [e] at hne ⊢
      unfold unitF at hne ⊢
      split at hne
      · rename_i e2; rw [if_pos e2]; omega
      · exact absurd rfl hne
    · have e : max (unitF v u) (maxN (fun k => timesB (W v k) (s k u)) n) = maxN (fun k => timesB (W v k) (s k u)) n := by omega
      rw [e] at hne ⊢
      rcases maxN_at (f := fun k => timesB (W v k) (s k u)) (n := n) with e2 | ⟨k, hk, e2⟩
      · exact absurd e2 hne
      · rw [e2] at hne ⊢
        by_cases h1 : W v k = BOT
        · exact absurd (by simp [timesB, h1]) hne
        · by_cases h2 : s k u = BOT
          · exact absurd (by simp [timesB, h2]) hne
          · simp only [timesB_ne h1 h2]
            have h6 := hW k v h1
            have h7 := h.bnd u k hu hk h2
            omega
theorem PX.star {W : Nat → Nat → Int} {n m : Nat} {M : Int} {s : Nat → Nat → Int} (hn : NoPos W n) (hm : n ≤ m) (h : PX W n M m s) : StarOk W n s := by
  refine ⟨h.some, h.dia, fun u v c hu hv hc hw => ?_⟩
  obtain ⟨c', g1, g2, g3, g4⟩ := walk_short hn c.length c u v (Nat.le_refl _) hu hc hw
  have := h.all u v c' hu hv (by omega) g3 g1
  exact ⟨this.1, by omega⟩
theorem powN_px {W : Nat → Nat → Int} {n : Nat} {M : Int} (hM : 0 ≤ M) (hW : ∀ u v, W v u ≠ BOT → -M ≤ W v u ∧ W v u ≤ M) : ∀ m : Nat, M * (m + 1) < 1000000000000000 → PX W n M m (powN W n m)
  | 0, _ => PX.start
  | m + 1, h => by
    have e1 : M * (((m + 1 : Nat) : Int) + 1) = M * ((m : Int) + 1) + M := by rw [Int.natCast_add, Int.mul_add]; simp
    exact PX.step hM (by omega) hW (powN_px hM hW m (by omega))
noncomputable def starF (W : Nat → Nat → Int) (n : Nat) : Nat → Nat → Int := open Classical in if h : ∃ s, StarOk W n s then Classical.choose h else fun _ _ => 0
theorem starF_eq {W : Nat → Nat → Int} {n : Nat} {s : Nat → Nat → Int} (h : StarOk W n s) {u v : Nat} (hu : u < n) (hv : v < n) : starF W n v u = s v u := by
  have he : ∃ s, StarOk W n s := ⟨s, h⟩
  unfold starF
  rw [dif_pos he]
  exact (Classical.choose_spec he).uniq h hu hv
end Go.Proofs.Ytdgodkpobomneaa
end
