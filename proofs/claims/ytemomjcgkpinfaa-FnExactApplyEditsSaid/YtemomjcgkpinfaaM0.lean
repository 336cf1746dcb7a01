/-
  Plain records, as the abstract reading has them.
-/
import Derived.Test.YtemomjcgkpinfaaA13
import Derived.Test.YtemomjcgkpinfaaBase2
namespace Go.Proofs.Ytemomjcgkpinfaa
open Go Go.RowKit
set_option linter.unusedSimpArgs false
set_option linter.unusedVariables false

instance : DecidableEq Pl := fun p q => decidable_of_iff (p.eq q = true) (Pl.eq_iff p q)
instance : DecidableEq Ed := fun p q => decidable_of_iff (p.eq q = true) (Ed.eq_iff p q)
abbrev Bx (k id : Nat) : AV := .ptr k ⟨id, []⟩ 0 0
def Pl.row (p : Pl) : List D := [DI p.f, DI p.t, DI p.d, DI p.k]
abbrev Pl.av (p : Pl) : AV := .agg [I p.f, I p.t, I p.d, I p.k]
def Ed.row (e : Ed) : List D := [DI e.kind, DI e.idx, DI e.pl.f, DI e.pl.t, DI e.pl.d, DI e.pl.k]
abbrev Ed.av (e : Ed) : AV := .agg [I e.kind, I e.idx, I e.pl.f, I e.pl.t, I e.pl.d, I e.pl.k]
abbrev PL (xs : List Pl) : AV := .d (.sl 4 (xs.map Pl.row))
abbrev EL (xs : List Ed) : AV := .d (.sl 6 (xs.map Ed.row))
abbrev grD (ev : Int) (xs : List Pl) : AV := .agg [I ev, .d (.sl 4 (xs.map Pl.row))]
theorem row_get {α : Type} {row : α → List D} {xs : List α} {k : Nat} {p : α} (h : xs[k]? = some p) : (xs.map row)[((k : Nat) : Int).toNat]? = some (row p) := by simp [h]
/-- The index of the first that fits, counted from i on; -1: none does. -/
def idxOf {α : Type} (f : α → Bool) : List α → Nat → Int
  | [], _ => -1
  | x :: xs, i => if f x then i else idxOf f xs (i + 1)
theorem idxOf_at {α : Type} {f : α → Bool} {xs : List α} {k : Nat} {x : α} (h : xs[k]? = some x) (i : Nat) : idxOf f (xs.drop k) i = if f x then (i : Int) else idxOf f (xs.drop (k + 1)) (i + 1) := by
  obtain ⟨h1, rfl⟩ := List.getElem?_eq_some_iff.1 h
  rw [List.drop_eq_getElem_cons h1, idxOf]
theorem idxOf_any {α : Type} {f : α → Bool} : ∀ (xs : List α) (i : Nat), decide (0 ≤ idxOf f xs i) = xs.any f
  | [], i => by simp [idxOf]
  | x :: xs, i => by
    unfold idxOf
    cases h : f x
    · simp [h, idxOf_any xs (i + 1)]
    · simp [h]
/-- A function value, made. -/
theorem OpOk.makeFunc {P : Program} {o : Oper} {A : Operand → AV} {H : Heap} {new : Nat} {fn : Fn} {fs cs : Array Operand} {fv cv : List AV} (ho : o.op = .makeFunc fn fs cs) (hf : fs.toList.map A = fv) (hc : cs.toList.map A = cv) : OpOk P o A [] H new (.clo fn fv cv) [] :=
  .still [] fun ι F w H1 ρ _ _ hv => by
    refine ⟨.func fn (fs.map ρ) (cs.map ρ), by simp [execOp, ho, Instr.makeFunc], ?_⟩
    have e1 : fs.map ρ = (fs.toList.map ρ).toArray := by apply Array.ext'; simp
    have e2 : cs.map ρ = (cs.toList.map ρ).toArray := by apply Array.ext'; simp
    rw [e1, e2]
    subst hf hc
    refine .clo fn _ _ _ _ (by simp) (by simp) (fun i c v hc hv' => ?_) (fun i c v hc hv' => ?_)
    all_goals
      simp only [List.getElem?_map, Option.map_eq_some_iff] at hc hv'
      obtain ⟨x, hx, rfl⟩ := hc
      obtain ⟨x', hx', rfl⟩ := hv'
      rw [hx] at hx'; cases hx'
      refine hv x ?_
      simp only [ho, Op.operands]
      have := List.mem_of_getElem? hx
      simp at this ⊢
      first | exact .inl this | exact .inr this
end Go.Proofs.Ytemomjcgkpinfaa
