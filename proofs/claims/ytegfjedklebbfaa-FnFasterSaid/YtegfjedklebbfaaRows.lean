/-
  No cell of these rows narrows 'for every input' (looked for: loops, veiled, ifaces, maps, wideKeys, modest, calm, conditions, laid).
  DERIVED. THE GIVEN ROWS OF THIS SEAT. 10 by the template 'for every input the law returns true; each argument reads behind the call as it read before'; 0 by the template 'total and deterministic' (their statements: YtegfjedklebbfaaTotals.lean).
  GIVEN WITH THE SEED: the statements are not yours to turn. If you find one false, say at which input.
  Laid BY PROGRAM, IN A SANDBOX (cutbox-rows.mjs): the forced cells as the released guide's own fill.sh prints them over the translation 0ab53e0f97b10731… (all of the seat's roots in one cut). By AI agents, Wed Nov 11 2026. No macro, syntax, notation, axiom, sorry.
-/
import Derived.Test.YtegfjedklebbfaaChecked
import GoSem.Claim
import GoSem.ClaimJoined
import GoSem.ClaimMapViews
import Derived.JoinedTies
import Derived.KernelRfl
namespace Go.Proofs.Ytegfjedklebbfaa
/- THE CELL 'sum', in the pinned program and in every row, IS THE sha256 OF THE DUMP (.gsa) THAT YtegfjedklebbfaaProg.lean LOADS. Nothing in Lean hashes anything: it is a label: what it is worth is what the hold of that sum in a sandbox is worth. -/
noncomputable def Try.pinned : Pinned := { name := "ytegfjedklebbfaa", sum := "0ab53e0f97b10731b33b65f9f75c9f78ad54903cc42e80cec4a521af76eef2fb", checked := Try.checked }
namespace Rows
def none {H : Type} : Left H := { results := [], args := [] }

/-- 'laws.FnFaster': WHATEVER THE INPUT: true; the input reads as it did. -/
def fnFasterSpec : ChangeSpec := { name := "fnFaster", fn := fun _ => fun
  | [d] => { results := [.lit (.bool true)], args := [d] }
  | _ => none }
def fnFasterRow : OpenClaim := { program := "ytegfjedklebbfaa", sum := "0ab53e0f97b10731b33b65f9f75c9f78ad54903cc42e80cec4a521af76eef2fb", func := "loop.example/g00941/laws.FnFaster", spec := "fnFaster", unfollowed := true, recurses := true, apart := false }
def FnFasterSaid : Prop := fnFasterRow.holds Try.pinned (OpenSpec.ofChange fnFasterSpec)

/-- ITS FALSE NEIGHBOUR: 'it returns false'. Refute it at one input. -/
def fnFasterWrong : ChangeSpec := { name := "fnFaster", fn := fun _ => fun
  | [d] => { results := [.lit (.bool false)], args := [d] }
  | _ => none }
def FnFasterWrongFalsely : Prop := fnFasterRow.holds Try.pinned (OpenSpec.ofChange fnFasterWrong)

/-- 'laws.FnMargins': WHATEVER THE INPUT: true; the input reads as it did. -/
def fnMarginsSpec : ChangeSpec := { name := "fnMargins", fn := fun _ => fun
  | [d] => { results := [.lit (.bool true)], args := [d] }
  | _ => none }
def fnMarginsRow : OpenClaim := { program := "ytegfjedklebbfaa", sum := "0ab53e0f97b10731b33b65f9f75c9f78ad54903cc42e80cec4a521af76eef2fb", func := "loop.example/g00941/laws.FnMargins", spec := "fnMargins", unfollowed := true, recurses := true, apart := false }
def FnMarginsSaid : Prop := fnMarginsRow.holds Try.pinned (OpenSpec.ofChange fnMarginsSpec)

/-- ITS FALSE NEIGHBOUR: 'it returns false'. Refute it at one input. -/
def fnMarginsWrong : ChangeSpec := { name := "fnMargins", fn := fun _ => fun
  | [d] => { results := [.lit (.bool false)], args := [d] }
  | _ => none }
def FnMarginsWrongFalsely : Prop := fnMarginsRow.holds Try.pinned (OpenSpec.ofChange fnMarginsWrong)

/-- 'laws.FnCauses': WHATEVER THE INPUT: true; the input reads as it did. -/
def fnCausesSpec : ChangeSpec := { name := "fnCauses", fn := fun _ => fun
  | [d] => { results := [.lit (.bool true)], args := [d] }
  | _ => none }
def fnCausesRow : OpenClaim := { program := "ytegfjedklebbfaa", sum := "0ab53e0f97b10731b33b65f9f75c9f78ad54903cc42e80cec4a521af76eef2fb", func := "loop.example/g00941/laws.FnCauses", spec := "fnCauses", unfollowed := true, recurses := true, apart := false }
def FnCausesSaid : Prop := fnCausesRow.holds Try.pinned (OpenSpec.ofChange fnCausesSpec)

/-- ITS FALSE NEIGHBOUR: 'it returns false'. Refute it at one input. -/
def fnCausesWrong : ChangeSpec := { name := "fnCauses", fn := fun _ => fun
  | [d] => { results := [.lit (.bool false)], args := [d] }
  | _ => none }
def FnCausesWrongFalsely : Prop := fnCausesRow.holds Try.pinned (OpenSpec.ofChange fnCausesWrong)

/-- 'laws.FnObserved': WHATEVER THE INPUT: true; the input reads as it did. -/
def fnObservedSpec : ChangeSpec := { name := "fnObserved", fn := fun _ => fun
  | [d] => { results := [.lit (.bool true)], args := [d] }
  | _ => none }
def fnObservedRow : OpenClaim := { program := "ytegfjedklebbfaa", sum := "0ab53e0f97b10731b33b65f9f75c9f78ad54903cc42e80cec4a521af76eef2fb", func := "loop.example/g00941/laws.FnObserved", spec := "fnObserved", unfollowed := true, recurses := true, apart := false }
def FnObservedSaid : Prop := fnObservedRow.holds Try.pinned (OpenSpec.ofChange fnObservedSpec)

/-- ITS FALSE NEIGHBOUR: 'it returns false'. Refute it at one input. -/
def fnObservedWrong : ChangeSpec := { name := "fnObserved", fn := fun _ => fun
  | [d] => { results := [.lit (.bool false)], args := [d] }
  | _ => none }
def FnObservedWrongFalsely : Prop := fnObservedRow.holds Try.pinned (OpenSpec.ofChange fnObservedWrong)

/-- 'laws.FnRepaired': WHATEVER THE INPUT: true; the input reads as it did. -/
def fnRepairedSpec : ChangeSpec := { name := "fnRepaired", fn := fun _ => fun
  | [d] => { results := [.lit (.bool true)], args := [d] }
  | _ => none }
def fnRepairedRow : OpenClaim := { program := "ytegfjedklebbfaa", sum := "0ab53e0f97b10731b33b65f9f75c9f78ad54903cc42e80cec4a521af76eef2fb", func := "loop.example/g00941/laws.FnRepaired", spec := "fnRepaired", unfollowed := true, recurses := true, apart := false }
def FnRepairedSaid : Prop := fnRepairedRow.holds Try.pinned (OpenSpec.ofChange fnRepairedSpec)

/-- ITS FALSE NEIGHBOUR: 'it returns false'. Refute it at one input. -/
def fnRepairedWrong : ChangeSpec := { name := "fnRepaired", fn := fun _ => fun
  | [d] => { results := [.lit (.bool false)], args := [d] }
  | _ => none }
def FnRepairedWrongFalsely : Prop := fnRepairedRow.holds Try.pinned (OpenSpec.ofChange fnRepairedWrong)

/-- 'laws.FnEditLists': WHATEVER THE INPUT: true; the input reads as it did. -/
def fnEditListsSpec : ChangeSpec := { name := "fnEditLists", fn := fun _ => fun
  | [d] => { results := [.lit (.bool true)], args := [d] }
  | _ => none }
def fnEditListsRow : OpenClaim := { program := "ytegfjedklebbfaa", sum := "0ab53e0f97b10731b33b65f9f75c9f78ad54903cc42e80cec4a521af76eef2fb", func := "loop.example/g00941/laws.FnEditLists", spec := "fnEditLists", inPlace := ["slices.overlaps[loop.example/g00941/impl.Place]"], unfollowed := true, recurses := true, apart := false }
def FnEditListsSaid : Prop := fnEditListsRow.holds Try.pinned (OpenSpec.ofChange fnEditListsSpec)

/-- ITS FALSE NEIGHBOUR: 'it returns false'. Refute it at one input. -/
def fnEditListsWrong : ChangeSpec := { name := "fnEditLists", fn := fun _ => fun
  | [d] => { results := [.lit (.bool false)], args := [d] }
  | _ => none }
def FnEditListsWrongFalsely : Prop := fnEditListsRow.holds Try.pinned (OpenSpec.ofChange fnEditListsWrong)

/-- 'laws.FnOrders': WHATEVER THE INPUT: true; the input reads as it did. -/
def fnOrdersSpec : ChangeSpec := { name := "fnOrders", fn := fun _ => fun
  | [d] => { results := [.lit (.bool true)], args := [d] }
  | _ => none }
def fnOrdersRow : OpenClaim := { program := "ytegfjedklebbfaa", sum := "0ab53e0f97b10731b33b65f9f75c9f78ad54903cc42e80cec4a521af76eef2fb", func := "loop.example/g00941/laws.FnOrders", spec := "fnOrders", unfollowed := true, recurses := true, apart := false }
def FnOrdersSaid : Prop := fnOrdersRow.holds Try.pinned (OpenSpec.ofChange fnOrdersSpec)

/-- ITS FALSE NEIGHBOUR: 'it returns false'. Refute it at one input. -/
def fnOrdersWrong : ChangeSpec := { name := "fnOrders", fn := fun _ => fun
  | [d] => { results := [.lit (.bool false)], args := [d] }
  | _ => none }
def FnOrdersWrongFalsely : Prop := fnOrdersRow.holds Try.pinned (OpenSpec.ofChange fnOrdersWrong)

/-- 'laws.FnEventTimes': WHATEVER THE INPUT: true; the input reads as it did. -/
def fnEventTimesSpec : ChangeSpec := { name := "fnEventTimes", fn := fun _ => fun
  | [d] => { results := [.lit (.bool true)], args := [d] }
  | _ => none }
def fnEventTimesRow : OpenClaim := { program := "ytegfjedklebbfaa", sum := "0ab53e0f97b10731b33b65f9f75c9f78ad54903cc42e80cec4a521af76eef2fb", func := "loop.example/g00941/laws.FnEventTimes", spec := "fnEventTimes", unfollowed := true, recurses := true, apart := false }
def FnEventTimesSaid : Prop := fnEventTimesRow.holds Try.pinned (OpenSpec.ofChange fnEventTimesSpec)

/-- ITS FALSE NEIGHBOUR: 'it returns false'. Refute it at one input. -/
def fnEventTimesWrong : ChangeSpec := { name := "fnEventTimes", fn := fun _ => fun
  | [d] => { results := [.lit (.bool false)], args := [d] }
  | _ => none }
def FnEventTimesWrongFalsely : Prop := fnEventTimesRow.holds Try.pinned (OpenSpec.ofChange fnEventTimesWrong)

/-- 'laws.FnTimetables': WHATEVER THE INPUT: true; the input reads as it did. -/
def fnTimetablesSpec : ChangeSpec := { name := "fnTimetables", fn := fun _ => fun
  | [d] => { results := [.lit (.bool true)], args := [d] }
  | _ => none }
def fnTimetablesRow : OpenClaim := { program := "ytegfjedklebbfaa", sum := "0ab53e0f97b10731b33b65f9f75c9f78ad54903cc42e80cec4a521af76eef2fb", func := "loop.example/g00941/laws.FnTimetables", spec := "fnTimetables", unfollowed := true, recurses := true, apart := false }
def FnTimetablesSaid : Prop := fnTimetablesRow.holds Try.pinned (OpenSpec.ofChange fnTimetablesSpec)

/-- ITS FALSE NEIGHBOUR: 'it returns false'. Refute it at one input. -/
def fnTimetablesWrong : ChangeSpec := { name := "fnTimetables", fn := fun _ => fun
  | [d] => { results := [.lit (.bool false)], args := [d] }
  | _ => none }
def FnTimetablesWrongFalsely : Prop := fnTimetablesRow.holds Try.pinned (OpenSpec.ofChange fnTimetablesWrong)

/-- 'laws.FnLeastPeriods': WHATEVER THE INPUT: true; the input reads as it did. -/
def fnLeastPeriodsSpec : ChangeSpec := { name := "fnLeastPeriods", fn := fun _ => fun
  | [d] => { results := [.lit (.bool true)], args := [d] }
  | _ => none }
def fnLeastPeriodsRow : OpenClaim := { program := "ytegfjedklebbfaa", sum := "0ab53e0f97b10731b33b65f9f75c9f78ad54903cc42e80cec4a521af76eef2fb", func := "loop.example/g00941/laws.FnLeastPeriods", spec := "fnLeastPeriods", unfollowed := true, recurses := true, apart := false }
def FnLeastPeriodsSaid : Prop := fnLeastPeriodsRow.holds Try.pinned (OpenSpec.ofChange fnLeastPeriodsSpec)

/-- ITS FALSE NEIGHBOUR: 'it returns false'. Refute it at one input. -/
def fnLeastPeriodsWrong : ChangeSpec := { name := "fnLeastPeriods", fn := fun _ => fun
  | [d] => { results := [.lit (.bool false)], args := [d] }
  | _ => none }
def FnLeastPeriodsWrongFalsely : Prop := fnLeastPeriodsRow.holds Try.pinned (OpenSpec.ofChange fnLeastPeriodsWrong)

/- THE SECOND FORM. 'bulk': how many values and letters a reading holds, each counted each time it is reached (what is shared counts as often as it is met; a slice's spare places count too). A statement '..UptoSaid' is the law's where the arguments, and the package variables that the reading takes, are together of bulk at most 1048576: NARROWER than '..Said'. Prove '..Said' where nothing that the law and all that it calls make is longer than what came in: it says more and counts as full. Else prove '..UptoSaid'. A law counts once. -/
mutual
def uptoBulk {H : Type} : DataW H → Nat
  | .lit (.string bytes) => bytes.length + 1
  | .lit _ => 1
  | .nil => 1
  | .ptr d => uptoBulk d + 1
  | .slice elems spare => uptoBulkAll elems + uptoBulkAll spare + 1
  | .agg parts => uptoBulkAll parts + 1
  | .iface _ d => uptoBulk d + 1
  | .map entries => uptoBulkEntries entries + 1
  | .held _ => 1
def uptoBulkAll {H : Type} : List (DataW H) → Nat
  | [] => 0
  | d :: r => uptoBulk d + uptoBulkAll r
def uptoBulkEntries {H : Type} : List (Lit × DataW H) → Nat
  | [] => 0
  | x :: r => uptoBulkEntry x + uptoBulkEntries r
def uptoBulkEntry {H : Type} : Lit × DataW H → Nat
  | (.string bytes, d) => bytes.length + uptoBulk d + 1
  | (_, d) => uptoBulk d + 1
 end
def uptoSmall : (H : Type) → List (DataW H) → Bool := fun _ ds => decide (uptoBulkAll ds ≤ 1048576)
def OpenSpec.upto (s : _root_.Go.ChangeSpec) : _root_.Go.OpenSpec := { _root_.Go.OpenSpec.ofChange s with cond := some uptoSmall }

/-- 'laws.FnFaster', WHERE WHAT IT READS IS OF BULK AT MOST 1048576: true; the input reads as it did. -/
def fnFasterUptoRow : OpenClaim := { program := "ytegfjedklebbfaa", sum := "0ab53e0f97b10731b33b65f9f75c9f78ad54903cc42e80cec4a521af76eef2fb", func := "loop.example/g00941/laws.FnFaster", spec := "fnFaster", unfollowed := true, recurses := true, apart := false, narrowed := true }
def FnFasterUptoSaid : Prop := fnFasterUptoRow.holds Try.pinned (OpenSpec.upto fnFasterSpec)

/-- 'laws.FnMargins', WHERE WHAT IT READS IS OF BULK AT MOST 1048576: true; the input reads as it did. -/
def fnMarginsUptoRow : OpenClaim := { program := "ytegfjedklebbfaa", sum := "0ab53e0f97b10731b33b65f9f75c9f78ad54903cc42e80cec4a521af76eef2fb", func := "loop.example/g00941/laws.FnMargins", spec := "fnMargins", unfollowed := true, recurses := true, apart := false, narrowed := true }
def FnMarginsUptoSaid : Prop := fnMarginsUptoRow.holds Try.pinned (OpenSpec.upto fnMarginsSpec)

/-- 'laws.FnCauses', WHERE WHAT IT READS IS OF BULK AT MOST 1048576: true; the input reads as it did. -/
def fnCausesUptoRow : OpenClaim := { program := "ytegfjedklebbfaa", sum := "0ab53e0f97b10731b33b65f9f75c9f78ad54903cc42e80cec4a521af76eef2fb", func := "loop.example/g00941/laws.FnCauses", spec := "fnCauses", unfollowed := true, recurses := true, apart := false, narrowed := true }
def FnCausesUptoSaid : Prop := fnCausesUptoRow.holds Try.pinned (OpenSpec.upto fnCausesSpec)

/-- 'laws.FnObserved', WHERE WHAT IT READS IS OF BULK AT MOST 1048576: true; the input reads as it did. -/
def fnObservedUptoRow : OpenClaim := { program := "ytegfjedklebbfaa", sum := "0ab53e0f97b10731b33b65f9f75c9f78ad54903cc42e80cec4a521af76eef2fb", func := "loop.example/g00941/laws.FnObserved", spec := "fnObserved", unfollowed := true, recurses := true, apart := false, narrowed := true }
def FnObservedUptoSaid : Prop := fnObservedUptoRow.holds Try.pinned (OpenSpec.upto fnObservedSpec)

/-- 'laws.FnRepaired', WHERE WHAT IT READS IS OF BULK AT MOST 1048576: true; the input reads as it did. -/
def fnRepairedUptoRow : OpenClaim := { program := "ytegfjedklebbfaa", sum := "0ab53e0f97b10731b33b65f9f75c9f78ad54903cc42e80cec4a521af76eef2fb", func := "loop.example/g00941/laws.FnRepaired", spec := "fnRepaired", unfollowed := true, recurses := true, apart := false, narrowed := true }
def FnRepairedUptoSaid : Prop := fnRepairedUptoRow.holds Try.pinned (OpenSpec.upto fnRepairedSpec)

/-- 'laws.FnEditLists', WHERE WHAT IT READS IS OF BULK AT MOST 1048576: true; the input reads as it did. -/
def fnEditListsUptoRow : OpenClaim := { program := "ytegfjedklebbfaa", sum := "0ab53e0f97b10731b33b65f9f75c9f78ad54903cc42e80cec4a521af76eef2fb", func := "loop.example/g00941/laws.FnEditLists", spec := "fnEditLists", inPlace := ["slices.overlaps[loop.example/g00941/impl.Place]"], unfollowed := true, recurses := true, apart := false, narrowed := true }
def FnEditListsUptoSaid : Prop := fnEditListsUptoRow.holds Try.pinned (OpenSpec.upto fnEditListsSpec)

/-- 'laws.FnOrders', WHERE WHAT IT READS IS OF BULK AT MOST 1048576: true; the input reads as it did. -/
def fnOrdersUptoRow : OpenClaim := { program := "ytegfjedklebbfaa", sum := "0ab53e0f97b10731b33b65f9f75c9f78ad54903cc42e80cec4a521af76eef2fb", func := "loop.example/g00941/laws.FnOrders", spec := "fnOrders", unfollowed := true, recurses := true, apart := false, narrowed := true }
def FnOrdersUptoSaid : Prop := fnOrdersUptoRow.holds Try.pinned (OpenSpec.upto fnOrdersSpec)

/-- 'laws.FnEventTimes', WHERE WHAT IT READS IS OF BULK AT MOST 1048576: true; the input reads as it did. -/
def fnEventTimesUptoRow : OpenClaim := { program := "ytegfjedklebbfaa", sum := "0ab53e0f97b10731b33b65f9f75c9f78ad54903cc42e80cec4a521af76eef2fb", func := "loop.example/g00941/laws.FnEventTimes", spec := "fnEventTimes", unfollowed := true, recurses := true, apart := false, narrowed := true }
def FnEventTimesUptoSaid : Prop := fnEventTimesUptoRow.holds Try.pinned (OpenSpec.upto fnEventTimesSpec)

/-- 'laws.FnTimetables', WHERE WHAT IT READS IS OF BULK AT MOST 1048576: true; the input reads as it did. -/
def fnTimetablesUptoRow : OpenClaim := { program := "ytegfjedklebbfaa", sum := "0ab53e0f97b10731b33b65f9f75c9f78ad54903cc42e80cec4a521af76eef2fb", func := "loop.example/g00941/laws.FnTimetables", spec := "fnTimetables", unfollowed := true, recurses := true, apart := false, narrowed := true }
def FnTimetablesUptoSaid : Prop := fnTimetablesUptoRow.holds Try.pinned (OpenSpec.upto fnTimetablesSpec)

/-- 'laws.FnLeastPeriods', WHERE WHAT IT READS IS OF BULK AT MOST 1048576: true; the input reads as it did. -/
def fnLeastPeriodsUptoRow : OpenClaim := { program := "ytegfjedklebbfaa", sum := "0ab53e0f97b10731b33b65f9f75c9f78ad54903cc42e80cec4a521af76eef2fb", func := "loop.example/g00941/laws.FnLeastPeriods", spec := "fnLeastPeriods", unfollowed := true, recurses := true, apart := false, narrowed := true }
def FnLeastPeriodsUptoSaid : Prop := fnLeastPeriodsUptoRow.holds Try.pinned (OpenSpec.upto fnLeastPeriodsSpec)

end Rows
end Go.Proofs.Ytegfjedklebbfaa
