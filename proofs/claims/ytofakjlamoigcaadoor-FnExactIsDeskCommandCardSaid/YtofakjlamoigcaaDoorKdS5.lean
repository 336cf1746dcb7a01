/-
  Walks in the abstract reading: firings, their tests, their lines.
-/
import Derived.Test.YtofakjlamoigcaaDoorKdS2
import Derived.Test.YtofakjlamoigcaaDoorKdC1
namespace Go.Proofs.YtofakjlamoigcaaDoor
set_option linter.unusedSimpArgs false
set_option linter.unusedVariables false
open Go Go.RowKit
attribute [local irreducible] AL AD AW OpOk Le AC thenQ blockQ EndQ

/-- A firing. -/
structure Fi where
  e : Int
  n : Int
  t : Int
  deriving DecidableEq
def Fi.row (f : Fi) : List D := [DI f.e, DI f.n, DI f.t]
/-- A firing that can be written. -/
def wrF (f : Fi) : Bool := wi f.e 0 9 && wi f.t 0 1000000
/-- The chain after a firing. -/
def nxI (c : Int) (f : Fi) : Int := (31 * c + 7 * f.e + f.t).tmod 9973
/-- The line of a firing. -/
def trL (c : Int) (f : Fi) : List UInt8 := dec f.e.toNat ++ [32] ++ dec f.t.toNat ++ [32] ++ dec (nxI c f).toNat
def trN (c : Int) (f : Fi) : List UInt8 := trL c f ++ [10]
/-- The chain after all firings, and their text. -/
def chA : Int → List Fi → Int
  | c, [] => c
  | c, f :: fs => chA (nxI c f) fs
def trT : Int → List Fi → List UInt8
  | _, [] => []
  | c, f :: fs => trN c f ++ trT (nxI c f) fs
end Go.Proofs.YtofakjlamoigcaaDoor
