/-
  No cell of these rows narrows 'for every input' (looked for: loops, veiled, ifaces, maps, wideKeys, modest, calm, conditions, laid).
  DERIVED. THE GIVEN ROWS OF THIS SEAT. 9 by the template 'for every input the law returns true; each argument reads behind the call as it read before'; 0 by the template 'total and deterministic' (their statements: YtemomjcgkpinfaaTotals.lean).
  GIVEN WITH THE SEED: the statements are not yours to turn. If you find one false, say at which input.
  Laid BY PROGRAM, IN A SANDBOX (cutbox-rows.mjs): the forced cells as the released guide's own fill.sh prints them over the translation ca345ac92ba243c9… (all of the seat's roots in one cut). By AI agents, Wed Nov 11 2026. No macro, syntax, notation, axiom, sorry.
-/
import Derived.Test.YtemomjcgkpinfaaChecked
import GoSem.Claim
import GoSem.ClaimJoined
import GoSem.ClaimMapViews
import Derived.JoinedTies
import Derived.KernelRfl
namespace Go.Proofs.Ytemomjcgkpinfaa
/- THE CELL 'sum', in the pinned program and in every row, IS THE sha256 OF THE DUMP (.gsa) THAT YtemomjcgkpinfaaProg.lean LOADS. Nothing in Lean hashes anything: it is a label: what it is worth is what the hold of that sum in a sandbox is worth. -/
noncomputable def Try.pinned : Pinned := { name := "ytemomjcgkpinfaa", sum := "ca345ac92ba243c970eb4d50600edcf1f8e50be291a8288d2b3a3a141da2902d", checked := Try.checked }
namespace Rows
def none {H : Type} : Left H := { results := [], args := [] }

/-- 'laws.FnExactCanEdit': WHATEVER THE INPUT: true; the input reads as it did. -/
def fnExactCanEditSpec : ChangeSpec := { name := "fnExactCanEdit", fn := fun _ => fun
  | [d1, d2] => { results := [.lit (.bool true)], args := [d1, d2] }
  | _ => none }
def fnExactCanEditRow : OpenClaim := { program := "ytemomjcgkpinfaa", sum := "ca345ac92ba243c970eb4d50600edcf1f8e50be291a8288d2b3a3a141da2902d", func := "loop.example/g00941/laws.FnExactCanEdit", spec := "fnExactCanEdit", unfollowed := true, recurses := true, apart := false }
def FnExactCanEditSaid : Prop := fnExactCanEditRow.holds Try.pinned (OpenSpec.ofChange fnExactCanEditSpec)

/-- ITS FALSE NEIGHBOUR: 'it returns false'. Refute it at one input. -/
def fnExactCanEditWrong : ChangeSpec := { name := "fnExactCanEdit", fn := fun _ => fun
  | [d1, d2] => { results := [.lit (.bool false)], args := [d1, d2] }
  | _ => none }
def FnExactCanEditWrongFalsely : Prop := fnExactCanEditRow.holds Try.pinned (OpenSpec.ofChange fnExactCanEditWrong)

/-- 'laws.FnExactNewDesk': WHATEVER THE INPUT: true; the input reads as it did. -/
def fnExactNewDeskSpec : ChangeSpec := { name := "fnExactNewDesk", fn := fun _ => fun
  | [] => { results := [.lit (.bool true)], args := [] }
  | _ => none }
def fnExactNewDeskRow : OpenClaim := { program := "ytemomjcgkpinfaa", sum := "ca345ac92ba243c970eb4d50600edcf1f8e50be291a8288d2b3a3a141da2902d", func := "loop.example/g00941/laws.FnExactNewDesk", spec := "fnExactNewDesk", apart := false }
def FnExactNewDeskSaid : Prop := fnExactNewDeskRow.holds Try.pinned (OpenSpec.ofChange fnExactNewDeskSpec)

/-- ITS FALSE NEIGHBOUR: 'it returns false'. Refute it at one input. -/
def fnExactNewDeskWrong : ChangeSpec := { name := "fnExactNewDesk", fn := fun _ => fun
  | [] => { results := [.lit (.bool false)], args := [] }
  | _ => none }
def FnExactNewDeskWrongFalsely : Prop := fnExactNewDeskRow.holds Try.pinned (OpenSpec.ofChange fnExactNewDeskWrong)

/-- 'laws.FnExactInverseEdit': WHATEVER THE INPUT: true; the input reads as it did. -/
def fnExactInverseEditSpec : ChangeSpec := { name := "fnExactInverseEdit", fn := fun _ => fun
  | [d1, d2] => { results := [.lit (.bool true)], args := [d1, d2] }
  | _ => none }
def fnExactInverseEditRow : OpenClaim := { program := "ytemomjcgkpinfaa", sum := "ca345ac92ba243c970eb4d50600edcf1f8e50be291a8288d2b3a3a141da2902d", func := "loop.example/g00941/laws.FnExactInverseEdit", spec := "fnExactInverseEdit", unfollowed := true, recurses := true, apart := false }
def FnExactInverseEditSaid : Prop := fnExactInverseEditRow.holds Try.pinned (OpenSpec.ofChange fnExactInverseEditSpec)

/-- ITS FALSE NEIGHBOUR: 'it returns false'. Refute it at one input. -/
def fnExactInverseEditWrong : ChangeSpec := { name := "fnExactInverseEdit", fn := fun _ => fun
  | [d1, d2] => { results := [.lit (.bool false)], args := [d1, d2] }
  | _ => none }
def FnExactInverseEditWrongFalsely : Prop := fnExactInverseEditRow.holds Try.pinned (OpenSpec.ofChange fnExactInverseEditWrong)

/-- 'laws.FnExactEditsBetween': WHATEVER THE INPUT: true; the input reads as it did. -/
def fnExactEditsBetweenSpec : ChangeSpec := { name := "fnExactEditsBetween", fn := fun _ => fun
  | [d1, d2] => { results := [.lit (.bool true)], args := [d1, d2] }
  | _ => none }
def fnExactEditsBetweenRow : OpenClaim := { program := "ytemomjcgkpinfaa", sum := "ca345ac92ba243c970eb4d50600edcf1f8e50be291a8288d2b3a3a141da2902d", func := "loop.example/g00941/laws.FnExactEditsBetween", spec := "fnExactEditsBetween", unfollowed := true, recurses := true, apart := false }
def FnExactEditsBetweenSaid : Prop := fnExactEditsBetweenRow.holds Try.pinned (OpenSpec.ofChange fnExactEditsBetweenSpec)

/-- ITS FALSE NEIGHBOUR: 'it returns false'. Refute it at one input. -/
def fnExactEditsBetweenWrong : ChangeSpec := { name := "fnExactEditsBetween", fn := fun _ => fun
  | [d1, d2] => { results := [.lit (.bool false)], args := [d1, d2] }
  | _ => none }
def FnExactEditsBetweenWrongFalsely : Prop := fnExactEditsBetweenRow.holds Try.pinned (OpenSpec.ofChange fnExactEditsBetweenWrong)

/-- 'laws.FnExactApplyEdit': WHATEVER THE INPUT: true; the input reads as it did. -/
def fnExactApplyEditSpec : ChangeSpec := { name := "fnExactApplyEdit", fn := fun _ => fun
  | [d1, d2] => { results := [.lit (.bool true)], args := [d1, d2] }
  | _ => none }
def fnExactApplyEditRow : OpenClaim := { program := "ytemomjcgkpinfaa", sum := "ca345ac92ba243c970eb4d50600edcf1f8e50be291a8288d2b3a3a141da2902d", func := "loop.example/g00941/laws.FnExactApplyEdit", spec := "fnExactApplyEdit", inPlace := ["slices.overlaps[loop.example/g00941/impl.Place]"], unfollowed := true, recurses := true, apart := false }
def FnExactApplyEditSaid : Prop := fnExactApplyEditRow.holds Try.pinned (OpenSpec.ofChange fnExactApplyEditSpec)

/-- ITS FALSE NEIGHBOUR: 'it returns false'. Refute it at one input. -/
def fnExactApplyEditWrong : ChangeSpec := { name := "fnExactApplyEdit", fn := fun _ => fun
  | [d1, d2] => { results := [.lit (.bool false)], args := [d1, d2] }
  | _ => none }
def FnExactApplyEditWrongFalsely : Prop := fnExactApplyEditRow.holds Try.pinned (OpenSpec.ofChange fnExactApplyEditWrong)

/-- 'laws.FnExactIsDesk': WHATEVER THE INPUT: true; the input reads as it did. -/
def fnExactIsDeskSpec : ChangeSpec := { name := "fnExactIsDesk", fn := fun _ => fun
  | [d] => { results := [.lit (.bool true)], args := [d] }
  | _ => none }
def fnExactIsDeskRow : OpenClaim := { program := "ytemomjcgkpinfaa", sum := "ca345ac92ba243c970eb4d50600edcf1f8e50be291a8288d2b3a3a141da2902d", func := "loop.example/g00941/laws.FnExactIsDesk", spec := "fnExactIsDesk", inPlace := ["slices.overlaps[loop.example/g00941/impl.Place]"], unfollowed := true, recurses := true, apart := false }
def FnExactIsDeskSaid : Prop := fnExactIsDeskRow.holds Try.pinned (OpenSpec.ofChange fnExactIsDeskSpec)

/-- ITS FALSE NEIGHBOUR: 'it returns false'. Refute it at one input. -/
def fnExactIsDeskWrong : ChangeSpec := { name := "fnExactIsDesk", fn := fun _ => fun
  | [d] => { results := [.lit (.bool false)], args := [d] }
  | _ => none }
def FnExactIsDeskWrongFalsely : Prop := fnExactIsDeskRow.holds Try.pinned (OpenSpec.ofChange fnExactIsDeskWrong)

/-- 'laws.FnExactApplyEdits': WHATEVER THE INPUT: true; the input reads as it did. -/
def fnExactApplyEditsSpec : ChangeSpec := { name := "fnExactApplyEdits", fn := fun _ => fun
  | [d1, d2] => { results := [.lit (.bool true)], args := [d1, d2] }
  | _ => none }
def fnExactApplyEditsRow : OpenClaim := { program := "ytemomjcgkpinfaa", sum := "ca345ac92ba243c970eb4d50600edcf1f8e50be291a8288d2b3a3a141da2902d", func := "loop.example/g00941/laws.FnExactApplyEdits", spec := "fnExactApplyEdits", inPlace := ["slices.overlaps[loop.example/g00941/impl.Place]"], unfollowed := true, recurses := true, apart := false }
def FnExactApplyEditsSaid : Prop := fnExactApplyEditsRow.holds Try.pinned (OpenSpec.ofChange fnExactApplyEditsSpec)

/-- ITS FALSE NEIGHBOUR: 'it returns false'. Refute it at one input. -/
def fnExactApplyEditsWrong : ChangeSpec := { name := "fnExactApplyEdits", fn := fun _ => fun
  | [d1, d2] => { results := [.lit (.bool false)], args := [d1, d2] }
  | _ => none }
def FnExactApplyEditsWrongFalsely : Prop := fnExactApplyEditsRow.holds Try.pinned (OpenSpec.ofChange fnExactApplyEditsWrong)

/-- 'laws.FnExactInverseEdits': WHATEVER THE INPUT: true; the input reads as it did. -/
def fnExactInverseEditsSpec : ChangeSpec := { name := "fnExactInverseEdits", fn := fun _ => fun
  | [d1, d2] => { results := [.lit (.bool true)], args := [d1, d2] }
  | _ => none }
def fnExactInverseEditsRow : OpenClaim := { program := "ytemomjcgkpinfaa", sum := "ca345ac92ba243c970eb4d50600edcf1f8e50be291a8288d2b3a3a141da2902d", func := "loop.example/g00941/laws.FnExactInverseEdits", spec := "fnExactInverseEdits", inPlace := ["slices.overlaps[loop.example/g00941/impl.Place]"], unfollowed := true, recurses := true, apart := false }
def FnExactInverseEditsSaid : Prop := fnExactInverseEditsRow.holds Try.pinned (OpenSpec.ofChange fnExactInverseEditsSpec)

/-- ITS FALSE NEIGHBOUR: 'it returns false'. Refute it at one input. -/
def fnExactInverseEditsWrong : ChangeSpec := { name := "fnExactInverseEdits", fn := fun _ => fun
  | [d1, d2] => { results := [.lit (.bool false)], args := [d1, d2] }
  | _ => none }
def FnExactInverseEditsWrongFalsely : Prop := fnExactInverseEditsRow.holds Try.pinned (OpenSpec.ofChange fnExactInverseEditsWrong)

/-- 'laws.FnEditLists': WHATEVER THE INPUT: true; the input reads as it did. -/
def fnEditListsSpec : ChangeSpec := { name := "fnEditLists", fn := fun _ => fun
  | [d] => { results := [.lit (.bool true)], args := [d] }
  | _ => none }
def fnEditListsRow : OpenClaim := { program := "ytemomjcgkpinfaa", sum := "ca345ac92ba243c970eb4d50600edcf1f8e50be291a8288d2b3a3a141da2902d", func := "loop.example/g00941/laws.FnEditLists", spec := "fnEditLists", inPlace := ["slices.overlaps[loop.example/g00941/impl.Place]"], unfollowed := true, recurses := true, apart := false }
def FnEditListsSaid : Prop := fnEditListsRow.holds Try.pinned (OpenSpec.ofChange fnEditListsSpec)

/-- ITS FALSE NEIGHBOUR: 'it returns false'. Refute it at one input. -/
def fnEditListsWrong : ChangeSpec := { name := "fnEditLists", fn := fun _ => fun
  | [d] => { results := [.lit (.bool false)], args := [d] }
  | _ => none }
def FnEditListsWrongFalsely : Prop := fnEditListsRow.holds Try.pinned (OpenSpec.ofChange fnEditListsWrong)

/- THE SECOND FORM. 'bulk': how many values and letters a reading holds, each counted each time it is reached (what is shared counts as often as it is met; a slice's spare places count too). A statement '..UptoSaid' is the law's where the arguments, and the package variables that the reading takes, are together of bulk at most 1048576: NARROWER than '..Said'. Prove '..Said' where nothing that the law and all that it calls make is longer than what came in: it says more and counts as full. Else prove '..UptoSaid'. A law counts once. -/
mutual
def uptoBulk {H : Type} : DataW H → Nat
  | .lit (.string bytes) => bytes.length + 1
  | .lit _ => 1
  | .nil => 1
  | .ptr d => uptoBulk d + 1
  | .slice elems spare => uptoBulkAll elems + uptoBulkAll spare + 1
  | .agg parts => uptoBulkAll parts + 1
  | .iface _ d => uptoBulk d + 1
  | .map entries => uptoBulkEntries entries + 1
  | .held _ => 1
def uptoBulkAll {H : Type} : List (DataW H) → Nat
  | [] => 0
  | d :: r => uptoBulk d + uptoBulkAll r
def uptoBulkEntries {H : Type} : List (Lit × DataW H) → Nat
  | [] => 0
  | x :: r => uptoBulkEntry x + uptoBulkEntries r
def uptoBulkEntry {H : Type} : Lit × DataW H → Nat
  | (.string bytes, d) => bytes.length + uptoBulk d + 1
  | (_, d) => uptoBulk d + 1
 end
def uptoSmall : (H : Type) → List (DataW H) → Bool := fun _ ds => decide (uptoBulkAll ds ≤ 1048576)
def OpenSpec.upto (s : _root_.Go.ChangeSpec) : _root_.Go.OpenSpec := { _root_.Go.OpenSpec.ofChange s with cond := some uptoSmall }

/-- 'laws.FnExactCanEdit', WHERE WHAT IT READS IS OF BULK AT MOST 1048576: true; the input reads as it did. -/
def fnExactCanEditUptoRow : OpenClaim := { program := "ytemomjcgkpinfaa", sum := "ca345ac92ba243c970eb4d50600edcf1f8e50be291a8288d2b3a3a141da2902d", func := "loop.example/g00941/laws.FnExactCanEdit", spec := "fnExactCanEdit", unfollowed := true, recurses := true, apart := false, narrowed := true }
def FnExactCanEditUptoSaid : Prop := fnExactCanEditUptoRow.holds Try.pinned (OpenSpec.upto fnExactCanEditSpec)

/-- 'laws.FnExactNewDesk', WHERE WHAT IT READS IS OF BULK AT MOST 1048576: true; the input reads as it did. -/
def fnExactNewDeskUptoRow : OpenClaim := { program := "ytemomjcgkpinfaa", sum := "ca345ac92ba243c970eb4d50600edcf1f8e50be291a8288d2b3a3a141da2902d", func := "loop.example/g00941/laws.FnExactNewDesk", spec := "fnExactNewDesk", apart := false, narrowed := true }
def FnExactNewDeskUptoSaid : Prop := fnExactNewDeskUptoRow.holds Try.pinned (OpenSpec.upto fnExactNewDeskSpec)

/-- 'laws.FnExactInverseEdit', WHERE WHAT IT READS IS OF BULK AT MOST 1048576: true; the input reads as it did. -/
def fnExactInverseEditUptoRow : OpenClaim := { program := "ytemomjcgkpinfaa", sum := "ca345ac92ba243c970eb4d50600edcf1f8e50be291a8288d2b3a3a141da2902d", func := "loop.example/g00941/laws.FnExactInverseEdit", spec := "fnExactInverseEdit", unfollowed := true, recurses := true, apart := false, narrowed := true }
def FnExactInverseEditUptoSaid : Prop := fnExactInverseEditUptoRow.holds Try.pinned (OpenSpec.upto fnExactInverseEditSpec)

/-- 'laws.FnExactEditsBetween', WHERE WHAT IT READS IS OF BULK AT MOST 1048576: true; the input reads as it did. -/
def fnExactEditsBetweenUptoRow : OpenClaim := { program := "ytemomjcgkpinfaa", sum := "ca345ac92ba243c970eb4d50600edcf1f8e50be291a8288d2b3a3a141da2902d", func := "loop.example/g00941/laws.FnExactEditsBetween", spec := "fnExactEditsBetween", unfollowed := true, recurses := true, apart := false, narrowed := true }
def FnExactEditsBetweenUptoSaid : Prop := fnExactEditsBetweenUptoRow.holds Try.pinned (OpenSpec.upto fnExactEditsBetweenSpec)

/-- 'laws.FnExactApplyEdit', WHERE WHAT IT READS IS OF BULK AT MOST 1048576: true; the input reads as it did. -/
def fnExactApplyEditUptoRow : OpenClaim := { program := "ytemomjcgkpinfaa", sum := "ca345ac92ba243c970eb4d50600edcf1f8e50be291a8288d2b3a3a141da2902d", func := "loop.example/g00941/laws.FnExactApplyEdit", spec := "fnExactApplyEdit", inPlace := ["slices.overlaps[loop.example/g00941/impl.Place]"], unfollowed := true, recurses := true, apart := false, narrowed := true }
def FnExactApplyEditUptoSaid : Prop := fnExactApplyEditUptoRow.holds Try.pinned (OpenSpec.upto fnExactApplyEditSpec)

/-- 'laws.FnExactIsDesk', WHERE WHAT IT READS IS OF BULK AT MOST 1048576: true; the input reads as it did. -/
def fnExactIsDeskUptoRow : OpenClaim := { program := "ytemomjcgkpinfaa", sum := "ca345ac92ba243c970eb4d50600edcf1f8e50be291a8288d2b3a3a141da2902d", func := "loop.example/g00941/laws.FnExactIsDesk", spec := "fnExactIsDesk", inPlace := ["slices.overlaps[loop.example/g00941/impl.Place]"], unfollowed := true, recurses := true, apart := false, narrowed := true }
def FnExactIsDeskUptoSaid : Prop := fnExactIsDeskUptoRow.holds Try.pinned (OpenSpec.upto fnExactIsDeskSpec)

/-- 'laws.FnExactApplyEdits', WHERE WHAT IT READS IS OF BULK AT MOST 1048576: true; the input reads as it did. -/
def fnExactApplyEditsUptoRow : OpenClaim := { program := "ytemomjcgkpinfaa", sum := "ca345ac92ba243c970eb4d50600edcf1f8e50be291a8288d2b3a3a141da2902d", func := "loop.example/g00941/laws.FnExactApplyEdits", spec := "fnExactApplyEdits", inPlace := ["slices.overlaps[loop.example/g00941/impl.Place]"], unfollowed := true, recurses := true, apart := false, narrowed := true }
def FnExactApplyEditsUptoSaid : Prop := fnExactApplyEditsUptoRow.holds Try.pinned (OpenSpec.upto fnExactApplyEditsSpec)

/-- 'laws.FnExactInverseEdits', WHERE WHAT IT READS IS OF BULK AT MOST 1048576: true; the input reads as it did. -/
def fnExactInverseEditsUptoRow : OpenClaim := { program := "ytemomjcgkpinfaa", sum := "ca345ac92ba243c970eb4d50600edcf1f8e50be291a8288d2b3a3a141da2902d", func := "loop.example/g00941/laws.FnExactInverseEdits", spec := "fnExactInverseEdits", inPlace := ["slices.overlaps[loop.example/g00941/impl.Place]"], unfollowed := true, recurses := true, apart := false, narrowed := true }
def FnExactInverseEditsUptoSaid : Prop := fnExactInverseEditsUptoRow.holds Try.pinned (OpenSpec.upto fnExactInverseEditsSpec)

/-- 'laws.FnEditLists', WHERE WHAT IT READS IS OF BULK AT MOST 1048576: true; the input reads as it did. -/
def fnEditListsUptoRow : OpenClaim := { program := "ytemomjcgkpinfaa", sum := "ca345ac92ba243c970eb4d50600edcf1f8e50be291a8288d2b3a3a141da2902d", func := "loop.example/g00941/laws.FnEditLists", spec := "fnEditLists", inPlace := ["slices.overlaps[loop.example/g00941/impl.Place]"], unfollowed := true, recurses := true, apart := false, narrowed := true }
def FnEditListsUptoSaid : Prop := fnEditListsUptoRow.holds Try.pinned (OpenSpec.upto fnEditListsSpec)

end Rows
end Go.Proofs.Ytemomjcgkpinfaa
