/-
  Library functions in the reading: numerals written and read, texts cut and split; what is asked of the world at the beginning for them.
-/
import Derived.Test.YtofakjlamoigcaaDoorKdSh
import Derived.Test.YtofakjlamoigcaaDoorKdA2
import Derived.Test.YtofakjlamoigcaaDoorKdA1
import Derived.Test.YtofakjlamoigcaaDoorKdA3
import Derived.Test.YtofakjlamoigcaaDoorKdG25
import Derived.Lib.AppendIntMem
import Derived.Lib.AtoiErrMem
namespace Go.Proofs.YtofakjlamoigcaaDoor
set_option linter.unusedSimpArgs false
set_option linter.unusedVariables false
open Go Go.RowKit
attribute [local irreducible] AL AD AW OpOk Le AC thenQ blockQ EndQ

/-- The world at the beginning holds the library's table of powers. -/
class HasTab [Mode] : Prop where
  tab : ∀ w, Mode.good w → Lib.TabIs Tryd.prog w "internal/strconv.uint64pow10" .u64 Lib.pow10Tab
/-- It holds the library's two errors. -/
class HasErr [Mode] : Prop where
  err : ∀ w, Mode.good w → (∃ t p, w.var? Tryd.prog "strconv.ErrSyntax" = some #[.iface t p]) ∧ ∃ t p, w.var? Tryd.prog "strconv.ErrRange" = some #[.iface t p]
/-- It holds the length up to which the library searches by an instruction. -/
class HasLen [Mode] : Prop where
  len : ∀ w, Mode.good w → ∃ m, w.var? Tryd.prog "internal/bytealg.MaxLen" = some #[.int .i64 m]
theorem cut_ac [Mode] [HasLen] (s sep : List UInt8) (hs : s.length < 4294967281) : AC Tryd.prog 37 [Str s, Str sep] H0 (.tup [Str (Lib.cut s sep).1, Str (Lib.cut s sep).2.1, Bo (Lib.cut s sep).2.2]) H0 := AC.ofCalls fun ι F w vs hsim hv => by
  have := hv.inv2; subst this
  obtain ⟨w0, hg, hc, hvv⟩ := hsim.gl.held
  obtain ⟨m, hm⟩ := HasLen.len w0 hg
  have hm' := hvv _ _ _ hm
  refine (Tryd.strings_Cut ⟨s.toArray⟩ ⟨sep.toArray⟩ m w (by rw [size_mk]; exact hs) (by refine (World.var?_cell ?h hm' 0).trans ?t; (· kernel_rfl); (· simp))).mono ?_
  rintro e w' ⟨rfl, n, rfl⟩
  exact ⟨_, rfl, fun _ _ => VRs.tup (.cons (.d (.v _)) (.cons (.d (.v _)) (.cons (.d (.v _)) .nil))), rfl, rfl, rfl, Nat.le_refl _, fun _ _ => rfl⟩
/-- Texts as rows. -/
def stR (ss : List (List UInt8)) : List (List D) := ss.map fun s => [StrD s]
theorem stR_len [Mode] (ss : List (List UInt8)) : (stR ss).length = ss.length := by simp [stR]
end Go.Proofs.YtofakjlamoigcaaDoor
