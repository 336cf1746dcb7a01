/-
  The text of a trace by the program: a walk in the machine's own terms (the library's builder), told as a contract of the reading.
-/
import Derived.Test.YtofakjlamoigcaaDoorKdS5
import Derived.Test.YtofakjlamoigcaaDoorKdA2
namespace Go.Proofs.YtofakjlamoigcaaDoor
set_option linter.unusedSimpArgs false
set_option linter.unusedVariables false
open Go Go.RowKit

/-- A contract of the reading, used in the machine's terms. -/
theorem AC.at [Mode] {P : Program} {f : FuncId} {args : List AV} {res : AV} {w : World} {vs : List Value} (h : AC P f args H0 res H0) (hg : Glb (fun b => b < w.heap.size) w) (hv : VRs (fun _ => none) (fun b => b < w.heap.size) w args vs) :
    Calls P f vs.toArray w fun e w' => ∃ v ι F, e = .returned v ∧ VR ι F w' res v ∧ Below w.heap.size w w' := by
  refine (h (fun _ => none) (fun b => b < w.heap.size) w vs ⟨fun l o h => (by cases h), fun l l' b s s' h => absurd rfl h, fun l b s h => absurd rfl h, fun b h => h, hg⟩ (fun _ _ => rfl) hv).mono ?_
  rintro e w' ⟨v, ι', F', rfl, hr, _, hst, _⟩
  exact ⟨v, ι', F', rfl, hr, hst.os, hst.tape, hst.output, hst.size, fun b hb => hst.block b hb fun ⟨l, hl, _⟩ => absurd rfl hl⟩
def Fi.enc (f : Fi) : List Value := [.int .i64 f.e, .int .i64 f.n, .int .i64 f.t]
end Go.Proofs.YtofakjlamoigcaaDoor
