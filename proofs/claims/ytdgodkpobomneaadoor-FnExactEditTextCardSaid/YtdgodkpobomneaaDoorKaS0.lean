/-
  Library functions in the reading: numerals written and read, texts cut and split; what is asked of the world at the beginning for them.
-/
import Derived.Test.YtdgodkpobomneaaDoorKaSh
import Derived.Test.YtdgodkpobomneaaDoorKaA2
import Derived.Test.YtdgodkpobomneaaDoorKaA1
import Derived.Test.YtdgodkpobomneaaDoorKaA3
import Derived.Test.YtdgodkpobomneaaDoorKaG25
import Derived.Lib.AppendIntMem
import Derived.Lib.AtoiErrMem
namespace Go.Proofs.YtdgodkpobomneaaDoor
set_option linter.unusedSimpArgs false
set_option linter.unusedVariables false
open Go Go.RowKit
attribute [local irreducible] AL AD AW OpOk Le AC thenQ blockQ EndQ

/-- The world at the beginning holds the library's table of powers. -/
class HasTab [Mode] : Prop where
  tab : ∀ w, Mode.good w → Lib.TabIs Tryd.prog w "internal/strconv.uint64pow10" .u64 Lib.pow10Tab
/-- It holds the library's two errors. -/
class HasErr [Mode] : Prop where
  err : ∀ w, Mode.good w → (∃ t p, w.var? Tryd.prog "strconv.ErrSyntax" = some #[.iface t p]) ∧ ∃ t p, w.var? Tryd.prog "strconv.ErrRange" = some #[.iface t p]
/-- It holds the length up to which the library searches by an instruction. -/
class HasLen [Mode] : Prop where
  len : ∀ w, Mode.good w → ∃ m, w.var? Tryd.prog "internal/bytealg.MaxLen" = some #[.int .i64 m]
theorem formatInt_ac [Mode] [HasTab] (n : Int) (h0 : -9223372036854775808 ≤ n) (h1 : n ≤ 9223372036854775807) : AC Tryd.prog 59 [I n, I 10] H0 (Str (Lib.itoa n)) H0 := AC.ofCalls fun ι F w vs hs hv => by
  have := hv.inv2; subst this
  obtain ⟨w0, hg, hc, hvv⟩ := hs.gl.held
  refine (Tryd.strconv_FormatInt_10 n h0 h1 w (hvv _ _ _ (HasTab.tab w0 hg))).mono ?_
  rintro e w' ⟨rfl, k, os, rfl⟩
  exact ⟨_, rfl, fun _ _ => .d (.v _), Lib.below_grow _ _ (Nat.le_refl _) _ _⟩
end Go.Proofs.YtdgodkpobomneaaDoor
