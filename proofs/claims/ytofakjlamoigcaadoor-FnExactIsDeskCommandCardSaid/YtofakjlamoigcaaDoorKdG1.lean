/-
  Plain law: cycles and firing orders of a graph. A search of cycles finds one exactly if there is one; there is an order in which each node comes behind those that lead to it exactly if there is none.
-/
namespace Go.Proofs.YtofakjlamoigcaaDoor
set_option linter.unusedSimpArgs false
set_option linter.unusedVariables false

abbrev BOT : Int := -1000000000000000
def hdN (p : List Nat) : Nat := p.headD 0
def lsN (p : List Nat) : Nat := p.getLastD 0
/-- Each node has an arc to the next one. -/
def pathP (a : Nat → Nat → Int) (c : List Nat) : Prop := ∀ i, i + 1 < c.length → a (c.getD (i + 1) 0) (c.getD i 0) ≠ BOT
structure Cyc (a : Nat → Nat → Int) (n : Nat) (c : List Nat) : Prop where
  ne : c ≠ []
  lt : ∀ v ∈ c, v < n
  path : pathP a c
  close : a (hdN c) (lsN c) ≠ BOT
end Go.Proofs.YtofakjlamoigcaaDoor
