/-
  The abstract reading of the machine, part 3: values, operations, contracts, walks.
-/
import Derived.Test.YtcjidnpkeliieaaKA2
section
namespace Go.Proofs.Ytcjidnpkeliieaa
open Go Go.RowKit
set_option linter.unusedSimpArgs false
set_option linter.unusedVariables false

/-! ### Lists reversed in place -/
/-- The first k and the last k elements swapped. -/
def rvAt {α : Type} (z : α) (xs : List α) (k : Nat) : List α := (List.range xs.length).map fun t => if t < k ∨ xs.length - k ≤ t then (xs[xs.length - 1 - t]?).getD z else (xs[t]?).getD z
theorem rvAt_len {α : Type} {z : α} {xs : List α} {k : Nat} : (rvAt z xs k).length = xs.length := by simp [rvAt]
theorem rvAt_get {α : Type} {z : α} {xs : List α} {k t : Nat} (h : t < xs.length) : (rvAt z xs k)[t]? = some (if t < k ∨ xs.length - k ≤ t then (xs[xs.length - 1 - t]?).getD z else (xs[t]?).getD z) := by simp [rvAt, h]
theorem rvAt_0 {α : Type} {z : α} {xs : List α} : rvAt z xs 0 = xs := by
  refine List.ext_getElem? fun t => ?_
  by_cases h : t < xs.length
  · rw [rvAt_get h, if_neg (by omega)]; simp [h]
  · rw [List.getElem?_eq_none (by rw [rvAt_len]; omega), List.getElem?_eq_none (by omega)]
theorem rvAt_all {α : Type} {z : α} {xs : List α} {k : Nat} (h : 2 * k ≤ xs.length) (h' : xs.length ≤ 2 * k + 1) : rvAt z xs k = xs.reverse := by
  refine List.ext_getElem? fun t => ?_
  by_cases ht : t < xs.length
  · rw [rvAt_get ht, List.getElem?_reverse ht]
    split
    · simp [show xs.length - 1 - t < xs.length by omega]
    · rw [show xs.length - 1 - t = t by omega]; simp [ht]
  · rw [List.getElem?_eq_none (by rw [rvAt_len]; omega), List.getElem?_eq_none (by simp; omega)]
theorem rvAt_i {α : Type} {z : α} {xs : List α} {k : Nat} {p : α} (h : k < xs.length - 1 - k) (hp : xs[k]? = some p) : (rvAt z xs k)[k]? = some p := by
  rw [rvAt_get (by omega), if_neg (by omega), hp]; rfl
theorem rvAt_j {α : Type} {z : α} {xs : List α} {k : Nat} {q : α} (h : k < xs.length - 1 - k) (hq : xs[xs.length - 1 - k]? = some q) : (rvAt z xs k)[xs.length - 1 - k]? = some q := by
  rw [rvAt_get (by omega), if_neg (by omega), hq]; rfl
theorem rvAt_j2 {α : Type} {z : α} {xs : List α} {k : Nat} {q : α} (h : k < xs.length - 1 - k) (hq : xs[xs.length - 1 - k]? = some q) : ((rvAt z xs k).set k q)[xs.length - 1 - k]? = some q := by
  rw [List.getElem?_set_ne (by omega), rvAt_j h hq]
theorem rvAt_swap {α : Type} {z : α} {xs : List α} {k : Nat} {p q : α} (h : k < xs.length - 1 - k) (hp : xs[k]? = some p) (hq : xs[xs.length - 1 - k]? = some q) : ((rvAt z xs k).set k q).set (xs.length - 1 - k) p = rvAt z xs (k + 1) := by
  refine List.ext_getElem? fun t => ?_
  by_cases ht : t < xs.length
  · rw [rvAt_get ht]
    by_cases h1 : t = xs.length - 1 - k
    · subst h1
      rw [List.getElem?_set_self (by simp [rvAt_len]; omega), if_pos (by omega), show xs.length - 1 - (xs.length - 1 - k) = k by omega, hp]; rfl
    · rw [List.getElem?_set_ne (fun e => h1 e.symm)]
      by_cases h2 : t = k
      · subst h2
        rw [List.getElem?_set_self (by simp [rvAt_len]; omega), if_pos (by omega), hq]; rfl
      · rw [List.getElem?_set_ne (fun e => h2 e.symm), rvAt_get ht]
        by_cases h3 : t < k ∨ xs.length - k ≤ t
        · rw [if_pos h3, if_pos (by omega)]
        · rw [if_neg h3, if_neg (by omega)]
  · rw [List.getElem?_eq_none (by simp [rvAt_len]; omega), List.getElem?_eq_none (by rw [rvAt_len]; omega)]
/-! ### A state told anew without new names -/
theorem Le.same {C : Ctx} {fr fr' : List AV} {H H' : Heap} {n n' : Nat} (hH : ∀ l, H l = H' l) (hok : ∀ l ob, H' l = some ob → ∀ r ∈ ob.rows, ∀ c ∈ r, Locs (fun l => H' l ≠ none) c) (hfr : ARs H (fun _ => False) id (fun l => H' l ≠ none) fr' fr) (hn : ∀ l, H' l ≠ none → l.id < n') (hD : ∀ l, C.D0 l → l.id < n') : Le C ⟨fr, H, n⟩ ⟨fr', H', n'⟩ := by
  have e : H = H' := funext hH
  subst e
  refine Le.tell (fun _ => False) id hfr (fun l ob h => ⟨ob, h, rfl, rfl, fun i r r' hr hr' => ?_⟩) (fun l l' _ _ e => e) (fun l _ h => h) hn (fun l h => ⟨hD l h, rfl⟩)
  rw [hr] at hr'; cases hr'
  refine ⟨rfl, fun j c c' hc hc' => ?_⟩
  rw [hc] at hc'; cases hc'
  exact (hok l ob h r (List.mem_of_getElem? hr) c (List.mem_of_getElem? hc)).ar
section
variable {P : Program} {o : Oper} {A : Operand → AV} {H : Heap} {new : Nat} {fo : Operand} {xs : List Operand} {ts : Array TypeId} {f : FuncId} {caps args : List AV} {res res' : AV}
end
end Go.Proofs.Ytcjidnpkeliieaa
end

section
namespace Go.Proofs.Ytcjidnpkeliieaa
open Go Go.RowKit
set_option linter.unusedSimpArgs false
set_option linter.unusedVariables false

section
variable {P : Program} {o : Oper} {A : Operand → AV} {H : Heap} {new : Nat}
theorem Ok.storeR {t : TypeId} {a x : Operand} {k i j : Nat} {l : Loc} {R : List (List AV)} {r r' : List AV} {v : AV} (ho : o.op = .store t a x) (ha : A a = .ptr k l i j) [ht : TyCell P t] (hl : H l = some ⟨k, R.set i r⟩) (hi : i < R.length) (hn : j < r.length) (hx : A x = v) (hc : v.cells = [v]) (h1 : v.one = true) (hr : r.set j v = r') :
    OpOk P o A [l] H new (.d (.v undef)) [.one l (some ⟨k, R.set i r'⟩)] :=
  Ok.storeC ho ha hl rfl (by simp [hi]) hn hx hc h1 (by rw [hr]; simp [List.set_set])
end
/-- The first i of xs marked. -/
def markL {α : Type} (mk : Nat → α) (xs : List α) (i : Nat) : List α := (List.range i).map mk ++ xs.drop i
theorem markL_0 {α : Type} {mk : Nat → α} {xs : List α} : markL mk xs 0 = xs := by simp [markL]
theorem markL_all {α : Type} {mk : Nat → α} {xs : List α} {i : Nat} (h : i = xs.length) : markL mk xs i = (List.range xs.length).map mk := by subst h; simp [markL]
theorem markL_len {α : Type} {mk : Nat → α} {xs : List α} {i : Nat} (h : i ≤ xs.length) : (markL mk xs i).length = xs.length := by simp [markL]; omega
theorem markL_set {α : Type} {mk : Nat → α} {xs : List α} {i : Nat} (h : i < xs.length) : (markL mk xs i).set i (mk i) = markL mk xs (i + 1) := by
  unfold markL
  rw [List.set_append_right _ _ (by simp), List.length_map, List.length_range, Nat.sub_self, List.drop_eq_getElem_cons h, List.set_cons_zero, List.range_succ]
  simp
theorem markL_get {α : Type} {mk : Nat → α} {xs : List α} {i : Nat} {x : α} (h : xs[i]? = some x) : (markL mk xs i)[i]? = some x := by
  unfold markL
  rw [List.getElem?_append_right (by simp), List.length_map, List.length_range, Nat.sub_self]
  simpa using h
def rowsA {α : Type} (row : α → List D) (xs : List α) : List (List AV) := (xs.map row).map fun r => r.map .d
theorem rowsA_len {α : Type} {row : α → List D} {xs : List α} : (rowsA row xs).length = xs.length := by simp [rowsA]
/-- At a round's start: the row spelled out. -/
theorem mark_open {α : Type} {mk : Nat → α} {row : α → List D} {xs : List α} {i m : Nat} {x : α} (h : xs[i]? = some x) : dobj m ((markL mk xs i).map row) = ⟨m, (rowsA row (markL mk xs i)).set (0 + ((i : Nat) : Int).toNat) ((row x).map .d)⟩ := by
  simp only [dobj, rowsA, Int.toNat_natCast, Nat.zero_add, AObj.mk.injEq, true_and]
  have hi := (List.getElem?_eq_some_iff.1 (markL_get (mk := mk) h)).1
  have he := (List.getElem?_eq_some_iff.1 (markL_get (mk := mk) h)).2
  rw [← List.map_set, ← List.map_set]
  congr 2
  conv => lhs; rw [← List.set_getElem_self hi, he]
theorem mark_shut {α : Type} {mk : Nat → α} {row : α → List D} {xs : List α} {i m : Nat} {r : List AV} (h : i < xs.length) (hr : r = (row (mk i)).map .d) : (⟨m, (rowsA row (markL mk xs i)).set (0 + ((i : Nat) : Int).toNat) r⟩ : AObj) = dobj m ((markL mk xs (i + 1)).map row) := by
  subst hr
  simp only [dobj, rowsA, Int.toNat_natCast, Nat.zero_add, AObj.mk.injEq, true_and, ← List.map_set, ← markL_set h]
theorem free_rowsPl {xs : List Pl} : ∀ r ∈ (dobj 4 (xs.map Pl.row)).rows, ∀ c ∈ r, FreeF c := by
  intro r hr c hc
  simp only [dobj, List.map_map, List.mem_map, Function.comp_def, Pl.row] at hr
  obtain ⟨x, _, rfl⟩ := hr
  simp at hc
  rcases hc with rfl | rfl | rfl | rfl <;> exact FreeF.v _
theorem free_rowsEd {xs : List Ed} : ∀ r ∈ (dobj 6 (xs.map Ed.row)).rows, ∀ c ∈ r, FreeF c := by
  intro r hr c hc
  simp only [dobj, List.map_map, List.mem_map, Function.comp_def, Ed.row] at hr
  obtain ⟨x, _, rfl⟩ := hr
  simp at hc
  rcases hc with rfl | rfl | rfl | rfl | rfl | rfl <;> exact FreeF.v _
theorem FreeF.cons {a : AV} {r : List AV} (h : FreeF a) (h' : ∀ c ∈ r, FreeF c) : ∀ c ∈ a :: r, FreeF c := fun c hc => by
  rcases List.mem_cons.1 hc with rfl | hc
  · exact h
  · exact h' c hc
theorem FreeF.nil : ∀ c ∈ ([] : List AV), FreeF c := fun c hc => by cases hc
/-- The marks of places and of edits, counted from k on. -/
def mkP (k : Int) (i : Nat) : Pl := ⟨k + 4 * i, k + 4 * i + 1, k + 4 * i + 1 + 1, k + 4 * i + 1 + 1 + 1⟩
def mkE (k : Int) (i : Nat) : Ed := ⟨k + 6 * i, k + 6 * i + 1, ⟨k + 6 * i + 1 + 1, k + 6 * i + 1 + 1 + 1, k + 6 * i + 1 + 1 + 1 + 1, k + 6 * i + 1 + 1 + 1 + 1 + 1⟩⟩
def mksP (k : Int) (n : Nat) : List Pl := (List.range n).map (mkP k)
def mksE (k : Int) (n : Nat) : List Ed := (List.range n).map (mkE k)
theorem mksP_len (k : Int) (n : Nat) : (mksP k n).length = n := by simp [mksP]
theorem mksE_len (k : Int) (n : Nat) : (mksE k n).length = n := by simp [mksE]
end Go.Proofs.Ytcjidnpkeliieaa
end

section
namespace Go.Proofs.Ytcjidnpkeliieaa
open Go Go.RowKit
set_option linter.unusedSimpArgs false
set_option linter.unusedVariables false

section
variable {P : Program} {o : Oper} {A : Operand → AV} {H : Heap} {new : Nat}
theorem Ok.neqNilV {t t' e : TypeId} {x : Operand} {k b : Nat} {z : Value} (ho : o.op = .binOp .neq t x (.const (.slice none 0 0)) t') [h : TySlice P t e k b z] (hx : A x = .d (.v (.slice none 0 0))) (hc : A (.const (.slice none 0 0)) = .d (.v (.slice none 0 0))) : OpOk P o A [] H new (Bo false) [] :=
  OpOk.bin ho hx hc rfl fun w => run_neq_slice_nil_any w t e none 0 0 0 0 h.u
theorem Ok.neqNilO {t t' e : TypeId} {x : Operand} {k k' b off n : Nat} {l : Loc} {z : Value} (ho : o.op = .binOp .neq t x (.const (.slice none 0 0)) t') [h : TySlice P t e k b z] (hx : A x = .own k' l off n) (hc : A (.const (.slice none 0 0)) = .d (.v (.slice none 0 0))) (hn : 0 < n) : OpOk P o A [] H new (Bo true) [] :=
  .still [] fun ι F w H1 ρ _ _ hv => by
    have h1 := hv x (by simp [ho, Op.operands])
    have h2 := hv (.const (.slice none 0 0)) (by simp [ho, Op.operands])
    rw [hx] at h1
    rw [hc] at h2
    have h3 := h2.v_inv
    rcases h1.own_inv with ⟨b', sz, cap, _, _, _, e1⟩ | ⟨_, _, e1, _⟩
    · refine ⟨.bool true, ?_, .d (.v _)⟩
      have hr := run_neq_slice_nil_any (P := P) w t e (some ⟨b', off * k', none⟩) n cap 0 0 h.u
      have hgd := run_eqGuard (P := P) (op := .neq) (t := t) (x := x) (y := .const (.slice none 0 0)) (a := .slice (some ⟨b', off * k', none⟩) n cap) (b := .slice none 0 0) (w := w) rfl
      simp [execOp, ho, e1, h3, hgd, hr]
    · omega
end
end Go.Proofs.Ytcjidnpkeliieaa
end

section
namespace Go.Proofs.Ytcjidnpkeliieaa
open Go Go.RowKit
set_option linter.unusedSimpArgs false
set_option linter.unusedVariables false
section
variable {P : Program} {o : Oper} {A : Operand → AV} {H : Heap} {new : Nat} {fo : Operand} {xs : List Operand} {ts : Array TypeId} {f : FuncId} {caps args : List AV} {res res' : AV}
theorem OpOk.callSR (hs : HL) (l1 : Loc) (ob : AObj) (ho : o.op = .call { callee := .value fo, args := xs.toArray, argTypes := ts }) [FnBody P f] (hfo : A fo = .clo (.func f) [] caps) (hc : AC P f args (heapL hs) res (heapL ((l1, l1, ob) :: hs)))
    (hH : ∀ p ∈ hs, H p.1 = heapL hs p.1) (hok : HOk hs) (hsep : l1 ∉ hs.map (·.1)) (hpl : ∀ g, rnO g ob = ob) (hargs : ARs H (fun _ => False) id (· ∈ hs.map (·.1)) args (xs.map A ++ caps)) (hr : rn (emb id (hs.map (·.1)) new) res = res') :
    OpOk P o A (hs.map (·.1)) H new res' [.one ⟨new, l1.id :: l1.sub⟩ (some ob)] := by
  subst hr
  have hemb : ∀ l, l ∈ hs.map (·.1) → emb id (hs.map (·.1)) new l = l := fun l hl => by unfold emb; rw [if_pos hl]; rfl
  refine OpOk.callGen (P := P) (o := o) (A := A) (H := H) (new := new) (fun _ => False) (hs.map (·.1)) id (hs.map (·.1)) (fun _ h => h.elim) (fun l hl => .mem (by first | (simp; done) | simpa using hl)) ho hfo hc (fun l => heapL_iff) (fun l _ l' _ e => e) (fun l _ h => h)
    (fun l ob hob => by
      have hl := heapL_iff.1 (by rw [hob]; simp : heapL hs l ≠ none)
      obtain ⟨p, hp, rfl, rfl⟩ := heapL_mem hob
      refine ⟨p.2.2, (hH p hp).trans hob, rfl, rfl, fun i r r' hr hr' => ?_⟩
      rw [hr] at hr'; cases hr'
      refine ⟨rfl, fun j c c' hc' hc2 => ?_⟩
      rw [hc'] at hc2; cases hc2
      exact (hok p hp r (List.mem_of_getElem? hr) c (List.mem_of_getElem? hc')).ar) (.inl fun _ h => h) hargs (fun H2 h2 h3 => ?_)
  have hH2 : ∀ l, l ∈ hs.map (·.1) → H2 l = heapL hs l := fun l hl => by
    obtain ⟨p, hp, rfl⟩ := List.mem_map.1 hl
    exact (h3 p.1 hl).trans (hH p hp)
  have hid : ∀ l, l ∈ hs.map (·.1) → l.id ≠ new := fun l hl e => by
    have h4 := heapL_iff.2 hl
    rw [← hH2 l hl] at h4
    exact h4 (by obtain ⟨id, sub⟩ := l; simp only at e; subst e; exact h2 sub)
  have hcons : ∀ l, heapL ((l1, l1, ob) :: hs) l = if l = l1 then some ob else heapL hs l := fun l => rfl
  funext l
  simp only [upds, W.app, merge, upd]
  cases hf : (hs.map (·.1)).find? (fun lc => id lc == l) with
  | some lc =>
    have hlc := List.mem_of_find?_eq_some hf
    have he : lc = l := by have := List.find?_some hf; simpa using this
    subst he
    rw [if_neg (fun e => hid lc hlc (by rw [e]))]
    simp only
    rw [hH2 lc hlc, hcons, if_neg (fun e => hsep (by rw [← e]; exact hlc))]
    cases hob : heapL hs lc with
    | none => rfl
    | some ob' =>
      obtain ⟨p, hp, rfl, rfl⟩ := heapL_mem hob
      simp only [Option.map_some]
      congr 1
      exact (rnO_ok hok hemb hp).symm
  | none =>
    simp only
    obtain ⟨id', sub⟩ := l
    by_cases e : id' = new
    · subst e
      rw [if_pos rfl]
      cases sub with
      | nil => rw [if_neg (by simp)]; exact h2 []
      | cons i s =>
        simp only
        by_cases hl : (⟨i, s⟩ : Loc) ∈ hs.map (·.1)
        · rw [if_pos hl, if_neg]
          · exact h2 _
          · intro e
            simp only [Loc.mk.injEq, List.cons.injEq, true_and] at e
            exact hsep (by obtain ⟨a, b⟩ := l1; simp only at e; obtain ⟨rfl, rfl⟩ := e; exact hl)
        · rw [if_neg hl, hcons]
          by_cases e : (⟨i, s⟩ : Loc) = l1
          · subst e
            rw [if_pos rfl, if_pos rfl]
            simp [hpl]
          · rw [if_neg (fun h => e (by simp only [Loc.mk.injEq, List.cons.injEq, true_and] at h; obtain ⟨a, b⟩ := l1; simp only at h; obtain ⟨rfl, rfl⟩ := h; rfl)), if_neg e]
            have : heapL hs ⟨i, s⟩ = none := by
              cases hh : heapL hs ⟨i, s⟩ with
              | none => rfl
              | some ob => exact absurd (heapL_iff.1 (by rw [hh]; simp)) hl
            rw [this]; exact h2 _
    · rw [if_neg (fun h => e (by simp at h; exact h.1)), if_neg e]
end
end Go.Proofs.Ytcjidnpkeliieaa
end
