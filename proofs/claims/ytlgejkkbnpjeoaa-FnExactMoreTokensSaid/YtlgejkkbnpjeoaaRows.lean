/-
  No cell of these rows narrows 'for every input' (looked for: loops, veiled, ifaces, maps, wideKeys, modest, calm, conditions, laid).
  DERIVED. THE GIVEN ROWS OF THIS SEAT. 12 by the template 'for every input the law returns true; each argument reads behind the call as it read before'; 0 by the template 'total and deterministic' (their statements: YtlgejkkbnpjeoaaTotals.lean).
  GIVEN WITH THE SEED: the statements are not yours to turn. If you find one false, say at which input.
  Laid BY PROGRAM, IN A SANDBOX (cutbox-rows.mjs): the forced cells as the released guide's own fill.sh prints them over the translation 292c03ecdad907c8… (all of the seat's roots in one cut). By AI agents, Wed Nov 11 2026. No macro, syntax, notation, axiom, sorry.
-/
import Derived.Test.YtlgejkkbnpjeoaaChecked
import GoSem.Claim
import GoSem.ClaimJoined
import GoSem.ClaimMapViews
import Derived.JoinedTies
import Derived.KernelRfl
namespace Go.Proofs.Ytlgejkkbnpjeoaa
/- THE CELL 'sum', in the pinned program and in every row, IS THE sha256 OF THE DUMP (.gsa) THAT YtlgejkkbnpjeoaaProg.lean LOADS. Nothing in Lean hashes anything: it is a label: what it is worth is what the hold of that sum in a sandbox is worth. -/
noncomputable def Try.pinned : Pinned := { name := "ytlgejkkbnpjeoaa", sum := "292c03ecdad907c8ec08c937c79db641110a9af0336eaddbac8fab8b65887b9c", checked := Try.checked }
namespace Rows
def none {H : Type} : Left H := { results := [], args := [] }

/-- 'laws.FnExactAllowedTimes': WHATEVER THE INPUT: true; the input reads as it did. -/
def fnExactAllowedTimesSpec : ChangeSpec := { name := "fnExactAllowedTimes", fn := fun _ => fun
  | [d1, d2] => { results := [.lit (.bool true)], args := [d1, d2] }
  | _ => none }
def fnExactAllowedTimesRow : OpenClaim := { program := "ytlgejkkbnpjeoaa", sum := "292c03ecdad907c8ec08c937c79db641110a9af0336eaddbac8fab8b65887b9c", func := "loop.example/g00941/laws.FnExactAllowedTimes", spec := "fnExactAllowedTimes", unfollowed := true, recurses := true, apart := false }
def FnExactAllowedTimesSaid : Prop := fnExactAllowedTimesRow.holds Try.pinned (OpenSpec.ofChange fnExactAllowedTimesSpec)

/-- ITS FALSE NEIGHBOUR: 'it returns false'. Refute it at one input. -/
def fnExactAllowedTimesWrong : ChangeSpec := { name := "fnExactAllowedTimes", fn := fun _ => fun
  | [d1, d2] => { results := [.lit (.bool false)], args := [d1, d2] }
  | _ => none }
def FnExactAllowedTimesWrongFalsely : Prop := fnExactAllowedTimesRow.holds Try.pinned (OpenSpec.ofChange fnExactAllowedTimesWrong)

/-- 'laws.FnExactHeldBy': WHATEVER THE INPUT: true; the input reads as it did. -/
def fnExactHeldBySpec : ChangeSpec := { name := "fnExactHeldBy", fn := fun _ => fun
  | [d1, d2] => { results := [.lit (.bool true)], args := [d1, d2] }
  | _ => none }
def fnExactHeldByRow : OpenClaim := { program := "ytlgejkkbnpjeoaa", sum := "292c03ecdad907c8ec08c937c79db641110a9af0336eaddbac8fab8b65887b9c", func := "loop.example/g00941/laws.FnExactHeldBy", spec := "fnExactHeldBy", unfollowed := true, recurses := true, apart := false }
def FnExactHeldBySaid : Prop := fnExactHeldByRow.holds Try.pinned (OpenSpec.ofChange fnExactHeldBySpec)

/-- ITS FALSE NEIGHBOUR: 'it returns false'. Refute it at one input. -/
def fnExactHeldByWrong : ChangeSpec := { name := "fnExactHeldBy", fn := fun _ => fun
  | [d1, d2] => { results := [.lit (.bool false)], args := [d1, d2] }
  | _ => none }
def FnExactHeldByWrongFalsely : Prop := fnExactHeldByRow.holds Try.pinned (OpenSpec.ofChange fnExactHeldByWrong)

/-- 'laws.FnExactRepairTable': WHATEVER THE INPUT: true; the input reads as it did. -/
def fnExactRepairTableSpec : ChangeSpec := { name := "fnExactRepairTable", fn := fun _ => fun
  | [d1, d2] => { results := [.lit (.bool true)], args := [d1, d2] }
  | _ => none }
def fnExactRepairTableRow : OpenClaim := { program := "ytlgejkkbnpjeoaa", sum := "292c03ecdad907c8ec08c937c79db641110a9af0336eaddbac8fab8b65887b9c", func := "loop.example/g00941/laws.FnExactRepairTable", spec := "fnExactRepairTable", unfollowed := true, recurses := true, apart := false }
def FnExactRepairTableSaid : Prop := fnExactRepairTableRow.holds Try.pinned (OpenSpec.ofChange fnExactRepairTableSpec)

/-- ITS FALSE NEIGHBOUR: 'it returns false'. Refute it at one input. -/
def fnExactRepairTableWrong : ChangeSpec := { name := "fnExactRepairTable", fn := fun _ => fun
  | [d1, d2] => { results := [.lit (.bool false)], args := [d1, d2] }
  | _ => none }
def FnExactRepairTableWrongFalsely : Prop := fnExactRepairTableRow.holds Try.pinned (OpenSpec.ofChange fnExactRepairTableWrong)

/-- 'laws.FnExactEarlyFirings': WHATEVER THE INPUT: true; the input reads as it did. -/
def fnExactEarlyFiringsSpec : ChangeSpec := { name := "fnExactEarlyFirings", fn := fun _ => fun
  | [d1, d2] => { results := [.lit (.bool true)], args := [d1, d2] }
  | _ => none }
def fnExactEarlyFiringsRow : OpenClaim := { program := "ytlgejkkbnpjeoaa", sum := "292c03ecdad907c8ec08c937c79db641110a9af0336eaddbac8fab8b65887b9c", func := "loop.example/g00941/laws.FnExactEarlyFirings", spec := "fnExactEarlyFirings", unfollowed := true, recurses := true, apart := false }
def FnExactEarlyFiringsSaid : Prop := fnExactEarlyFiringsRow.holds Try.pinned (OpenSpec.ofChange fnExactEarlyFiringsSpec)

/-- ITS FALSE NEIGHBOUR: 'it returns false'. Refute it at one input. -/
def fnExactEarlyFiringsWrong : ChangeSpec := { name := "fnExactEarlyFirings", fn := fun _ => fun
  | [d1, d2] => { results := [.lit (.bool false)], args := [d1, d2] }
  | _ => none }
def FnExactEarlyFiringsWrongFalsely : Prop := fnExactEarlyFiringsRow.holds Try.pinned (OpenSpec.ofChange fnExactEarlyFiringsWrong)

/-- 'laws.FnExactBlameOf': WHATEVER THE INPUT: true; the input reads as it did. -/
def fnExactBlameOfSpec : ChangeSpec := { name := "fnExactBlameOf", fn := fun _ => fun
  | [d1, d2] => { results := [.lit (.bool true)], args := [d1, d2] }
  | _ => none }
def fnExactBlameOfRow : OpenClaim := { program := "ytlgejkkbnpjeoaa", sum := "292c03ecdad907c8ec08c937c79db641110a9af0336eaddbac8fab8b65887b9c", func := "loop.example/g00941/laws.FnExactBlameOf", spec := "fnExactBlameOf", unfollowed := true, recurses := true, apart := false }
def FnExactBlameOfSaid : Prop := fnExactBlameOfRow.holds Try.pinned (OpenSpec.ofChange fnExactBlameOfSpec)

/-- ITS FALSE NEIGHBOUR: 'it returns false'. Refute it at one input. -/
def fnExactBlameOfWrong : ChangeSpec := { name := "fnExactBlameOf", fn := fun _ => fun
  | [d1, d2] => { results := [.lit (.bool false)], args := [d1, d2] }
  | _ => none }
def FnExactBlameOfWrongFalsely : Prop := fnExactBlameOfRow.holds Try.pinned (OpenSpec.ofChange fnExactBlameOfWrong)

/-- 'laws.FnExactSuspectsOf': WHATEVER THE INPUT: true; the input reads as it did. -/
def fnExactSuspectsOfSpec : ChangeSpec := { name := "fnExactSuspectsOf", fn := fun _ => fun
  | [d1, d2] => { results := [.lit (.bool true)], args := [d1, d2] }
  | _ => none }
def fnExactSuspectsOfRow : OpenClaim := { program := "ytlgejkkbnpjeoaa", sum := "292c03ecdad907c8ec08c937c79db641110a9af0336eaddbac8fab8b65887b9c", func := "loop.example/g00941/laws.FnExactSuspectsOf", spec := "fnExactSuspectsOf", unfollowed := true, recurses := true, apart := false }
def FnExactSuspectsOfSaid : Prop := fnExactSuspectsOfRow.holds Try.pinned (OpenSpec.ofChange fnExactSuspectsOfSpec)

/-- ITS FALSE NEIGHBOUR: 'it returns false'. Refute it at one input. -/
def fnExactSuspectsOfWrong : ChangeSpec := { name := "fnExactSuspectsOf", fn := fun _ => fun
  | [d1, d2] => { results := [.lit (.bool false)], args := [d1, d2] }
  | _ => none }
def FnExactSuspectsOfWrongFalsely : Prop := fnExactSuspectsOfRow.holds Try.pinned (OpenSpec.ofChange fnExactSuspectsOfWrong)

/-- 'laws.FnExactCauseOf': WHATEVER THE INPUT: true; the input reads as it did. -/
def fnExactCauseOfSpec : ChangeSpec := { name := "fnExactCauseOf", fn := fun _ => fun
  | [d1, d2, d3, d4] => { results := [.lit (.bool true)], args := [d1, d2, d3, d4] }
  | _ => none }
def fnExactCauseOfRow : OpenClaim := { program := "ytlgejkkbnpjeoaa", sum := "292c03ecdad907c8ec08c937c79db641110a9af0336eaddbac8fab8b65887b9c", func := "loop.example/g00941/laws.FnExactCauseOf", spec := "fnExactCauseOf", unfollowed := true, recurses := true, apart := false }
def FnExactCauseOfSaid : Prop := fnExactCauseOfRow.holds Try.pinned (OpenSpec.ofChange fnExactCauseOfSpec)

/-- ITS FALSE NEIGHBOUR: 'it returns false'. Refute it at one input. -/
def fnExactCauseOfWrong : ChangeSpec := { name := "fnExactCauseOf", fn := fun _ => fun
  | [d1, d2, d3, d4] => { results := [.lit (.bool false)], args := [d1, d2, d3, d4] }
  | _ => none }
def FnExactCauseOfWrongFalsely : Prop := fnExactCauseOfRow.holds Try.pinned (OpenSpec.ofChange fnExactCauseOfWrong)

/-- 'laws.FnOrders': WHATEVER THE INPUT: true; the input reads as it did. -/
def fnOrdersSpec : ChangeSpec := { name := "fnOrders", fn := fun _ => fun
  | [d] => { results := [.lit (.bool true)], args := [d] }
  | _ => none }
def fnOrdersRow : OpenClaim := { program := "ytlgejkkbnpjeoaa", sum := "292c03ecdad907c8ec08c937c79db641110a9af0336eaddbac8fab8b65887b9c", func := "loop.example/g00941/laws.FnOrders", spec := "fnOrders", unfollowed := true, recurses := true, apart := false }
def FnOrdersSaid : Prop := fnOrdersRow.holds Try.pinned (OpenSpec.ofChange fnOrdersSpec)

/-- ITS FALSE NEIGHBOUR: 'it returns false'. Refute it at one input. -/
def fnOrdersWrong : ChangeSpec := { name := "fnOrders", fn := fun _ => fun
  | [d] => { results := [.lit (.bool false)], args := [d] }
  | _ => none }
def FnOrdersWrongFalsely : Prop := fnOrdersRow.holds Try.pinned (OpenSpec.ofChange fnOrdersWrong)

/-- 'laws.FnRepaired': WHATEVER THE INPUT: true; the input reads as it did. -/
def fnRepairedSpec : ChangeSpec := { name := "fnRepaired", fn := fun _ => fun
  | [d] => { results := [.lit (.bool true)], args := [d] }
  | _ => none }
def fnRepairedRow : OpenClaim := { program := "ytlgejkkbnpjeoaa", sum := "292c03ecdad907c8ec08c937c79db641110a9af0336eaddbac8fab8b65887b9c", func := "loop.example/g00941/laws.FnRepaired", spec := "fnRepaired", unfollowed := true, recurses := true, apart := false }
def FnRepairedSaid : Prop := fnRepairedRow.holds Try.pinned (OpenSpec.ofChange fnRepairedSpec)

/-- ITS FALSE NEIGHBOUR: 'it returns false'. Refute it at one input. -/
def fnRepairedWrong : ChangeSpec := { name := "fnRepaired", fn := fun _ => fun
  | [d] => { results := [.lit (.bool false)], args := [d] }
  | _ => none }
def FnRepairedWrongFalsely : Prop := fnRepairedRow.holds Try.pinned (OpenSpec.ofChange fnRepairedWrong)

/-- 'laws.FnExactMoreTokens': WHATEVER THE INPUT: true; the input reads as it did. -/
def fnExactMoreTokensSpec : ChangeSpec := { name := "fnExactMoreTokens", fn := fun _ => fun
  | [d1, d2] => { results := [.lit (.bool true)], args := [d1, d2] }
  | _ => none }
def fnExactMoreTokensRow : OpenClaim := { program := "ytlgejkkbnpjeoaa", sum := "292c03ecdad907c8ec08c937c79db641110a9af0336eaddbac8fab8b65887b9c", func := "loop.example/g00941/laws.FnExactMoreTokens", spec := "fnExactMoreTokens", unfollowed := true, recurses := true, apart := false }
def FnExactMoreTokensSaid : Prop := fnExactMoreTokensRow.holds Try.pinned (OpenSpec.ofChange fnExactMoreTokensSpec)

/-- ITS FALSE NEIGHBOUR: 'it returns false'. Refute it at one input. -/
def fnExactMoreTokensWrong : ChangeSpec := { name := "fnExactMoreTokens", fn := fun _ => fun
  | [d1, d2] => { results := [.lit (.bool false)], args := [d1, d2] }
  | _ => none }
def FnExactMoreTokensWrongFalsely : Prop := fnExactMoreTokensRow.holds Try.pinned (OpenSpec.ofChange fnExactMoreTokensWrong)

/-- 'laws.FnExactFasterPlace': WHATEVER THE INPUT: true; the input reads as it did. -/
def fnExactFasterPlaceSpec : ChangeSpec := { name := "fnExactFasterPlace", fn := fun _ => fun
  | [d1, d2, d3] => { results := [.lit (.bool true)], args := [d1, d2, d3] }
  | _ => none }
def fnExactFasterPlaceRow : OpenClaim := { program := "ytlgejkkbnpjeoaa", sum := "292c03ecdad907c8ec08c937c79db641110a9af0336eaddbac8fab8b65887b9c", func := "loop.example/g00941/laws.FnExactFasterPlace", spec := "fnExactFasterPlace", unfollowed := true, recurses := true, apart := false }
def FnExactFasterPlaceSaid : Prop := fnExactFasterPlaceRow.holds Try.pinned (OpenSpec.ofChange fnExactFasterPlaceSpec)

/-- ITS FALSE NEIGHBOUR: 'it returns false'. Refute it at one input. -/
def fnExactFasterPlaceWrong : ChangeSpec := { name := "fnExactFasterPlace", fn := fun _ => fun
  | [d1, d2, d3] => { results := [.lit (.bool false)], args := [d1, d2, d3] }
  | _ => none }
def FnExactFasterPlaceWrongFalsely : Prop := fnExactFasterPlaceRow.holds Try.pinned (OpenSpec.ofChange fnExactFasterPlaceWrong)

/-- 'laws.FnExactBestCycle': WHATEVER THE INPUT: true; the input reads as it did. -/
def fnExactBestCycleSpec : ChangeSpec := { name := "fnExactBestCycle", fn := fun _ => fun
  | [d] => { results := [.lit (.bool true)], args := [d] }
  | _ => none }
def fnExactBestCycleRow : OpenClaim := { program := "ytlgejkkbnpjeoaa", sum := "292c03ecdad907c8ec08c937c79db641110a9af0336eaddbac8fab8b65887b9c", func := "loop.example/g00941/laws.FnExactBestCycle", spec := "fnExactBestCycle", unfollowed := true, recurses := true, apart := false }
def FnExactBestCycleSaid : Prop := fnExactBestCycleRow.holds Try.pinned (OpenSpec.ofChange fnExactBestCycleSpec)

/-- ITS FALSE NEIGHBOUR: 'it returns false'. Refute it at one input. -/
def fnExactBestCycleWrong : ChangeSpec := { name := "fnExactBestCycle", fn := fun _ => fun
  | [d] => { results := [.lit (.bool false)], args := [d] }
  | _ => none }
def FnExactBestCycleWrongFalsely : Prop := fnExactBestCycleRow.holds Try.pinned (OpenSpec.ofChange fnExactBestCycleWrong)

/- THE SECOND FORM. 'bulk': how many values and letters a reading holds, each counted each time it is reached (what is shared counts as often as it is met; a slice's spare places count too). A statement '..UptoSaid' is the law's where the arguments, and the package variables that the reading takes, are together of bulk at most 1048576: NARROWER than '..Said'. Prove '..Said' where nothing that the law and all that it calls make is longer than what came in: it says more and counts as full. Else prove '..UptoSaid'. A law counts once. -/
mutual
def uptoBulk {H : Type} : DataW H → Nat
  | .lit (.string bytes) => bytes.length + 1
  | .lit _ => 1
  | .nil => 1
  | .ptr d => uptoBulk d + 1
  | .slice elems spare => uptoBulkAll elems + uptoBulkAll spare + 1
  | .agg parts => uptoBulkAll parts + 1
  | .iface _ d => uptoBulk d + 1
  | .map entries => uptoBulkEntries entries + 1
  | .held _ => 1
def uptoBulkAll {H : Type} : List (DataW H) → Nat
  | [] => 0
  | d :: r => uptoBulk d + uptoBulkAll r
def uptoBulkEntries {H : Type} : List (Lit × DataW H) → Nat
  | [] => 0
  | x :: r => uptoBulkEntry x + uptoBulkEntries r
def uptoBulkEntry {H : Type} : Lit × DataW H → Nat
  | (.string bytes, d) => bytes.length + uptoBulk d + 1
  | (_, d) => uptoBulk d + 1
 end
def uptoSmall : (H : Type) → List (DataW H) → Bool := fun _ ds => decide (uptoBulkAll ds ≤ 1048576)
def OpenSpec.upto (s : _root_.Go.ChangeSpec) : _root_.Go.OpenSpec := { _root_.Go.OpenSpec.ofChange s with cond := some uptoSmall }

/-- 'laws.FnExactAllowedTimes', WHERE WHAT IT READS IS OF BULK AT MOST 1048576: true; the input reads as it did. -/
def fnExactAllowedTimesUptoRow : OpenClaim := { program := "ytlgejkkbnpjeoaa", sum := "292c03ecdad907c8ec08c937c79db641110a9af0336eaddbac8fab8b65887b9c", func := "loop.example/g00941/laws.FnExactAllowedTimes", spec := "fnExactAllowedTimes", unfollowed := true, recurses := true, apart := false, narrowed := true }
def FnExactAllowedTimesUptoSaid : Prop := fnExactAllowedTimesUptoRow.holds Try.pinned (OpenSpec.upto fnExactAllowedTimesSpec)

/-- 'laws.FnExactHeldBy', WHERE WHAT IT READS IS OF BULK AT MOST 1048576: true; the input reads as it did. -/
def fnExactHeldByUptoRow : OpenClaim := { program := "ytlgejkkbnpjeoaa", sum := "292c03ecdad907c8ec08c937c79db641110a9af0336eaddbac8fab8b65887b9c", func := "loop.example/g00941/laws.FnExactHeldBy", spec := "fnExactHeldBy", unfollowed := true, recurses := true, apart := false, narrowed := true }
def FnExactHeldByUptoSaid : Prop := fnExactHeldByUptoRow.holds Try.pinned (OpenSpec.upto fnExactHeldBySpec)

/-- 'laws.FnExactRepairTable', WHERE WHAT IT READS IS OF BULK AT MOST 1048576: true; the input reads as it did. -/
def fnExactRepairTableUptoRow : OpenClaim := { program := "ytlgejkkbnpjeoaa", sum := "292c03ecdad907c8ec08c937c79db641110a9af0336eaddbac8fab8b65887b9c", func := "loop.example/g00941/laws.FnExactRepairTable", spec := "fnExactRepairTable", unfollowed := true, recurses := true, apart := false, narrowed := true }
def FnExactRepairTableUptoSaid : Prop := fnExactRepairTableUptoRow.holds Try.pinned (OpenSpec.upto fnExactRepairTableSpec)

/-- 'laws.FnExactEarlyFirings', WHERE WHAT IT READS IS OF BULK AT MOST 1048576: true; the input reads as it did. -/
def fnExactEarlyFiringsUptoRow : OpenClaim := { program := "ytlgejkkbnpjeoaa", sum := "292c03ecdad907c8ec08c937c79db641110a9af0336eaddbac8fab8b65887b9c", func := "loop.example/g00941/laws.FnExactEarlyFirings", spec := "fnExactEarlyFirings", unfollowed := true, recurses := true, apart := false, narrowed := true }
def FnExactEarlyFiringsUptoSaid : Prop := fnExactEarlyFiringsUptoRow.holds Try.pinned (OpenSpec.upto fnExactEarlyFiringsSpec)

/-- 'laws.FnExactBlameOf', WHERE WHAT IT READS IS OF BULK AT MOST 1048576: true; the input reads as it did. -/
def fnExactBlameOfUptoRow : OpenClaim := { program := "ytlgejkkbnpjeoaa", sum := "292c03ecdad907c8ec08c937c79db641110a9af0336eaddbac8fab8b65887b9c", func := "loop.example/g00941/laws.FnExactBlameOf", spec := "fnExactBlameOf", unfollowed := true, recurses := true, apart := false, narrowed := true }
def FnExactBlameOfUptoSaid : Prop := fnExactBlameOfUptoRow.holds Try.pinned (OpenSpec.upto fnExactBlameOfSpec)

/-- 'laws.FnExactSuspectsOf', WHERE WHAT IT READS IS OF BULK AT MOST 1048576: true; the input reads as it did. -/
def fnExactSuspectsOfUptoRow : OpenClaim := { program := "ytlgejkkbnpjeoaa", sum := "292c03ecdad907c8ec08c937c79db641110a9af0336eaddbac8fab8b65887b9c", func := "loop.example/g00941/laws.FnExactSuspectsOf", spec := "fnExactSuspectsOf", unfollowed := true, recurses := true, apart := false, narrowed := true }
def FnExactSuspectsOfUptoSaid : Prop := fnExactSuspectsOfUptoRow.holds Try.pinned (OpenSpec.upto fnExactSuspectsOfSpec)

/-- 'laws.FnExactCauseOf', WHERE WHAT IT READS IS OF BULK AT MOST 1048576: true; the input reads as it did. -/
def fnExactCauseOfUptoRow : OpenClaim := { program := "ytlgejkkbnpjeoaa", sum := "292c03ecdad907c8ec08c937c79db641110a9af0336eaddbac8fab8b65887b9c", func := "loop.example/g00941/laws.FnExactCauseOf", spec := "fnExactCauseOf", unfollowed := true, recurses := true, apart := false, narrowed := true }
def FnExactCauseOfUptoSaid : Prop := fnExactCauseOfUptoRow.holds Try.pinned (OpenSpec.upto fnExactCauseOfSpec)

/-- 'laws.FnOrders', WHERE WHAT IT READS IS OF BULK AT MOST 1048576: true; the input reads as it did. -/
def fnOrdersUptoRow : OpenClaim := { program := "ytlgejkkbnpjeoaa", sum := "292c03ecdad907c8ec08c937c79db641110a9af0336eaddbac8fab8b65887b9c", func := "loop.example/g00941/laws.FnOrders", spec := "fnOrders", unfollowed := true, recurses := true, apart := false, narrowed := true }
def FnOrdersUptoSaid : Prop := fnOrdersUptoRow.holds Try.pinned (OpenSpec.upto fnOrdersSpec)

/-- 'laws.FnRepaired', WHERE WHAT IT READS IS OF BULK AT MOST 1048576: true; the input reads as it did. -/
def fnRepairedUptoRow : OpenClaim := { program := "ytlgejkkbnpjeoaa", sum := "292c03ecdad907c8ec08c937c79db641110a9af0336eaddbac8fab8b65887b9c", func := "loop.example/g00941/laws.FnRepaired", spec := "fnRepaired", unfollowed := true, recurses := true, apart := false, narrowed := true }
def FnRepairedUptoSaid : Prop := fnRepairedUptoRow.holds Try.pinned (OpenSpec.upto fnRepairedSpec)

/-- 'laws.FnExactMoreTokens', WHERE WHAT IT READS IS OF BULK AT MOST 1048576: true; the input reads as it did. -/
def fnExactMoreTokensUptoRow : OpenClaim := { program := "ytlgejkkbnpjeoaa", sum := "292c03ecdad907c8ec08c937c79db641110a9af0336eaddbac8fab8b65887b9c", func := "loop.example/g00941/laws.FnExactMoreTokens", spec := "fnExactMoreTokens", unfollowed := true, recurses := true, apart := false, narrowed := true }
def FnExactMoreTokensUptoSaid : Prop := fnExactMoreTokensUptoRow.holds Try.pinned (OpenSpec.upto fnExactMoreTokensSpec)

/-- 'laws.FnExactFasterPlace', WHERE WHAT IT READS IS OF BULK AT MOST 1048576: true; the input reads as it did. -/
def fnExactFasterPlaceUptoRow : OpenClaim := { program := "ytlgejkkbnpjeoaa", sum := "292c03ecdad907c8ec08c937c79db641110a9af0336eaddbac8fab8b65887b9c", func := "loop.example/g00941/laws.FnExactFasterPlace", spec := "fnExactFasterPlace", unfollowed := true, recurses := true, apart := false, narrowed := true }
def FnExactFasterPlaceUptoSaid : Prop := fnExactFasterPlaceUptoRow.holds Try.pinned (OpenSpec.upto fnExactFasterPlaceSpec)

/-- 'laws.FnExactBestCycle', WHERE WHAT IT READS IS OF BULK AT MOST 1048576: true; the input reads as it did. -/
def fnExactBestCycleUptoRow : OpenClaim := { program := "ytlgejkkbnpjeoaa", sum := "292c03ecdad907c8ec08c937c79db641110a9af0336eaddbac8fab8b65887b9c", func := "loop.example/g00941/laws.FnExactBestCycle", spec := "fnExactBestCycle", unfollowed := true, recurses := true, apart := false, narrowed := true }
def FnExactBestCycleUptoSaid : Prop := fnExactBestCycleUptoRow.holds Try.pinned (OpenSpec.upto fnExactBestCycleSpec)

end Rows
end Go.Proofs.Ytlgejkkbnpjeoaa
