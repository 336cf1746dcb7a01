/-
  DERIVED. GIVEN WITH THE SEED: THE CARDS: each row of YtofakjlamoigcaaGreatDoorRows.lean that lists a variable, with what it lists TIED to the program's text (the seventh form; the later family's looks); each row that meets fmt, with fmt's text TOLD by the authors' own Lean function (tested against real Go, not proved from fmt's source: count such statements apart). THE CARD IS WHAT COUNTS. Prove the row's statement (the work); the ties are given (YtofakjlamoigcaaGreatDoorTie.lean); close each card by the builder's one call (the guide's Derived/Test/ToyasCard.lean, 'card_holds'). Laid BY PROGRAM, IN A SANDBOX (cutbox-door.mjs). By AI agents, Wed Nov 11 2026. No macro, syntax, notation, axiom, sorry.
-/
import Derived.Test.YtofakjlamoigcaaGreatDoorRows
import GoSem.ClaimSeven
namespace Go.Proofs.YtofakjlamoigcaaGreatDoor
namespace Rows

/-- THE TIED CARD OF 'laws.FnTraces'. -/
def fnTracesCard : Claim7 := { stood := { row := fnTracesRow, standIns := [], harness := (true, "f5708a131e4b8e674fdefd43e885190b441af0f4fb8832f037ea577f250b89d2"), looks := true }, kinds := [], alts := [], laidByText := true, laidKinds := [.data, .data, .data, .data, .sentinel, .sentinel, .pinned], laidTests := true, laidLooks := .later }
def FnTracesCardSaid : Prop := Claim7.holds Tryz.pinned (.plain (OpenSpec.ofChange fnTracesSpec)) fnTracesCard

/-- THE TIED CARD OF 'laws.FnExactReplayTrace'. -/
def fnExactReplayTraceCard : Claim7 := { stood := { row := fnExactReplayTraceRow, standIns := [], harness := (true, "f5708a131e4b8e674fdefd43e885190b441af0f4fb8832f037ea577f250b89d2"), looks := true }, kinds := [], alts := [], laidByText := true, laidKinds := [.data, .data, .data, .data, .sentinel, .sentinel, .pinned], laidTests := true, laidLooks := .later }
def FnExactReplayTraceCardSaid : Prop := Claim7.holds Tryz.pinned (.plain (OpenSpec.ofChange fnExactReplayTraceSpec)) fnExactReplayTraceCard

/-- THE TIED CARD OF 'laws.FnReplayed'. -/
def fnReplayedCard : Claim7 := { stood := { row := fnReplayedRow, standIns := [], harness := (true, "f5708a131e4b8e674fdefd43e885190b441af0f4fb8832f037ea577f250b89d2"), looks := true }, kinds := [], alts := [], laidByText := true, laidKinds := [.data, .data, .data, .data, .sentinel, .sentinel, .pinned], laidTests := true, laidLooks := .later }
def FnReplayedCardSaid : Prop := Claim7.holds Tryz.pinned (.plain (OpenSpec.ofChange fnReplayedSpec)) fnReplayedCard

/-- THE SECOND FORM's CARD OF 'laws.FnTraces'. -/
def fnTracesUptoCard : Claim7 := { stood := { row := fnTracesUptoRow, standIns := [], harness := (true, "f5708a131e4b8e674fdefd43e885190b441af0f4fb8832f037ea577f250b89d2"), looks := true }, kinds := [], alts := [], laidByText := true, laidKinds := [.data, .data, .data, .data, .sentinel, .sentinel, .pinned], laidTests := true, laidLooks := .later }
def FnTracesUptoCardSaid : Prop := Claim7.holds Tryz.pinned (.plain (OpenSpec.upto fnTracesSpec)) fnTracesUptoCard

/-- THE SECOND FORM's CARD OF 'laws.FnExactReplayTrace'. -/
def fnExactReplayTraceUptoCard : Claim7 := { stood := { row := fnExactReplayTraceUptoRow, standIns := [], harness := (true, "f5708a131e4b8e674fdefd43e885190b441af0f4fb8832f037ea577f250b89d2"), looks := true }, kinds := [], alts := [], laidByText := true, laidKinds := [.data, .data, .data, .data, .sentinel, .sentinel, .pinned], laidTests := true, laidLooks := .later }
def FnExactReplayTraceUptoCardSaid : Prop := Claim7.holds Tryz.pinned (.plain (OpenSpec.upto fnExactReplayTraceSpec)) fnExactReplayTraceUptoCard

/-- THE SECOND FORM's CARD OF 'laws.FnReplayed'. -/
def fnReplayedUptoCard : Claim7 := { stood := { row := fnReplayedUptoRow, standIns := [], harness := (true, "f5708a131e4b8e674fdefd43e885190b441af0f4fb8832f037ea577f250b89d2"), looks := true }, kinds := [], alts := [], laidByText := true, laidKinds := [.data, .data, .data, .data, .sentinel, .sentinel, .pinned], laidTests := true, laidLooks := .later }
def FnReplayedUptoCardSaid : Prop := Claim7.holds Tryz.pinned (.plain (OpenSpec.upto fnReplayedSpec)) fnReplayedUptoCard
end Rows
end Go.Proofs.YtofakjlamoigcaaGreatDoor
