/-
  Rows marked one after the other, and stores into one cell of a row.
-/
import Derived.Test.YtemomjcgkpinfaaM2
namespace Go.Proofs.Ytemomjcgkpinfaa
open Go Go.RowKit
set_option linter.unusedSimpArgs false
set_option linter.unusedVariables false

section
variable {P : Program} {o : Oper} {A : Operand → AV} {H : Heap} {new : Nat}
theorem Ok.storeR {t : TypeId} {a x : Operand} {k i j : Nat} {l : Loc} {R : List (List AV)} {r r' : List AV} {v : AV} (ho : o.op = .store t a x) (ha : A a = .ptr k l i j) [ht : TyCell P t] (hl : H l = some ⟨k, R.set i r⟩) (hi : i < R.length) (hn : j < r.length) (hx : A x = v) (hc : v.cells = [v]) (h1 : v.one = true) (hr : r.set j v = r') :
    OpOk P o A [l] H new (.d (.v undef)) [.one l (some ⟨k, R.set i r'⟩)] :=
  Ok.storeC ho ha hl rfl (by simp [hi]) hn hx hc h1 (by rw [hr]; simp [List.set_set])
end
/-- The first i of xs marked. -/
def markL {α : Type} (mk : Nat → α) (xs : List α) (i : Nat) : List α := (List.range i).map mk ++ xs.drop i
theorem markL_0 {α : Type} {mk : Nat → α} {xs : List α} : markL mk xs 0 = xs := by simp [markL]
theorem markL_all {α : Type} {mk : Nat → α} {xs : List α} {i : Nat} (h : i = xs.length) : markL mk xs i = (List.range xs.length).map mk := by subst h; simp [markL]
theorem markL_len {α : Type} {mk : Nat → α} {xs : List α} {i : Nat} (h : i ≤ xs.length) : (markL mk xs i).length = xs.length := by simp [markL]; omega
theorem markL_set {α : Type} {mk : Nat → α} {xs : List α} {i : Nat} (h : i < xs.length) : (markL mk xs i).set i (mk i) = markL mk xs (i + 1) := by
  unfold markL
  rw [List.set_append_right _ _ (by simp), List.length_map, List.length_range, Nat.sub_self, List.drop_eq_getElem_cons h, List.set_cons_zero, List.range_succ]
  simp
theorem markL_get {α : Type} {mk : Nat → α} {xs : List α} {i : Nat} {x : α} (h : xs[i]? = some x) : (markL mk xs i)[i]? = some x := by
  unfold markL
  rw [List.getElem?_append_right (by simp), List.length_map, List.length_range, Nat.sub_self]
  simpa using h
def rowsA {α : Type} (row : α → List D) (xs : List α) : List (List AV) := (xs.map row).map fun r => r.map .d
theorem rowsA_len {α : Type} {row : α → List D} {xs : List α} : (rowsA row xs).length = xs.length := by simp [rowsA]
/-- At a round's start: the row spelled out. -/
theorem mark_open {α : Type} {mk : Nat → α} {row : α → List D} {xs : List α} {i m : Nat} {x : α} (h : xs[i]? = some x) : dobj m ((markL mk xs i).map row) = ⟨m, (rowsA row (markL mk xs i)).set (0 + ((i : Nat) : Int).toNat) ((row x).map .d)⟩ := by
  simp only [dobj, rowsA, Int.toNat_natCast, Nat.zero_add, AObj.mk.injEq, true_and]
  have hi := (List.getElem?_eq_some_iff.1 (markL_get (mk := mk) h)).1
  have he := (List.getElem?_eq_some_iff.1 (markL_get (mk := mk) h)).2
  rw [← List.map_set, ← List.map_set]
  congr 2
  conv => lhs; rw [← List.set_getElem_self hi, he]
theorem mark_shut {α : Type} {mk : Nat → α} {row : α → List D} {xs : List α} {i m : Nat} {r : List AV} (h : i < xs.length) (hr : r = (row (mk i)).map .d) : (⟨m, (rowsA row (markL mk xs i)).set (0 + ((i : Nat) : Int).toNat) r⟩ : AObj) = dobj m ((markL mk xs (i + 1)).map row) := by
  subst hr
  simp only [dobj, rowsA, Int.toNat_natCast, Nat.zero_add, AObj.mk.injEq, true_and, ← List.map_set, ← markL_set h]
theorem free_rowsPl {xs : List Pl} : ∀ r ∈ (dobj 4 (xs.map Pl.row)).rows, ∀ c ∈ r, FreeF c := by
  intro r hr c hc
  simp only [dobj, List.map_map, List.mem_map, Function.comp_def, Pl.row] at hr
  obtain ⟨x, _, rfl⟩ := hr
  simp at hc
  rcases hc with rfl | rfl | rfl | rfl <;> exact FreeF.v _
theorem free_rowsEd {xs : List Ed} : ∀ r ∈ (dobj 6 (xs.map Ed.row)).rows, ∀ c ∈ r, FreeF c := by
  intro r hr c hc
  simp only [dobj, List.map_map, List.mem_map, Function.comp_def, Ed.row] at hr
  obtain ⟨x, _, rfl⟩ := hr
  simp at hc
  rcases hc with rfl | rfl | rfl | rfl | rfl | rfl <;> exact FreeF.v _
theorem FreeF.cons {a : AV} {r : List AV} (h : FreeF a) (h' : ∀ c ∈ r, FreeF c) : ∀ c ∈ a :: r, FreeF c := fun c hc => by
  rcases List.mem_cons.1 hc with rfl | hc
  · exact h
  · exact h' c hc
theorem FreeF.nil : ∀ c ∈ ([] : List AV), FreeF c := fun c hc => by cases hc
/-- The marks of places and of edits, counted from k on. -/
def mkP (k : Int) (i : Nat) : Pl := ⟨k + 4 * i, k + 4 * i + 1, k + 4 * i + 1 + 1, k + 4 * i + 1 + 1 + 1⟩
def mkE (k : Int) (i : Nat) : Ed := ⟨k + 6 * i, k + 6 * i + 1, ⟨k + 6 * i + 1 + 1, k + 6 * i + 1 + 1 + 1, k + 6 * i + 1 + 1 + 1 + 1, k + 6 * i + 1 + 1 + 1 + 1 + 1⟩⟩
def mksP (k : Int) (n : Nat) : List Pl := (List.range n).map (mkP k)
def mksE (k : Int) (n : Nat) : List Ed := (List.range n).map (mkE k)
theorem mksP_len (k : Int) (n : Nat) : (mksP k n).length = n := by simp [mksP]
theorem mksE_len (k : Int) (n : Nat) : (mksE k n).length = n := by simp [mksE]
theorem mksP_get {k : Int} {n i : Nat} (h : i < n) : (mksP k n)[i]? = some (mkP k i) := by simp [mksP, h]
theorem mksE_get {k : Int} {n i : Nat} (h : i < n) : (mksE k n)[i]? = some (mkE k i) := by simp [mksE, h]
end Go.Proofs.Ytemomjcgkpinfaa
