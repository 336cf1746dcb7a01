/-
  What a text's longest beginning that is a trace is: plain laws.
-/
import Derived.Test.YtofakjlamoigcaaDoorKdS17
import Derived.Test.YtofakjlamoigcaaDoorKdS8
import Derived.Test.YtofakjlamoigcaaDoorKdS4
namespace Go.Proofs.YtofakjlamoigcaaDoor
set_option linter.unusedSimpArgs false
set_option linter.unusedVariables false
open Go Go.RowKit

/-- How many firings of an event there are. -/
def cnt (fs : List Fi) (e : Int) : Nat := fs.countP fun f => decide (f.e = e)
/-- The firings of the longest beginning of a text that is a trace; r: what is left. -/
structure RecOf (s : List UInt8) (fs : List Fi) (r : List UInt8) : Prop where
  len : fs.length ≤ 500
  wr : fs.all wrF = true
  num : ∀ (k : Nat) (f : Fi), fs[k]? = some f → f.n = cnt (fs.take k) f.e + 1
  txt : s = trT 1 fs ++ r
  stop : fs.length < 500 → ∀ f, wrF f = true → ∀ b, r ≠ trN (chA 1 fs) f ++ b
/-! Lines and words. -/
end Go.Proofs.YtofakjlamoigcaaDoor
