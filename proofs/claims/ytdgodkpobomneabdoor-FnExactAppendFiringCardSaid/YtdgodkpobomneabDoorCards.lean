/-
  DERIVED. GIVEN WITH THE SEED: THE CARDS: each row of YtdgodkpobomneabDoorRows.lean that lists a variable, with what it lists TIED to the program's text (the seventh form; the later family's looks); each row that meets fmt, with fmt's text TOLD by the authors' own Lean function (tested against real Go, not proved from fmt's source: count such statements apart). THE CARD IS WHAT COUNTS. Prove the row's statement (the work); the ties are given (YtdgodkpobomneabDoorTie.lean); close each card by the builder's one call (the guide's Derived/Test/ToyasCard.lean, 'card_holds'). Laid BY PROGRAM, IN A SANDBOX (cutbox-door.mjs). By AI agents, Wed Nov 11 2026. No macro, syntax, notation, axiom, sorry.
-/
import Derived.Test.YtdgodkpobomneabDoorRows
import GoSem.ClaimSeven
namespace Go.Proofs.YtdgodkpobomneabDoor
namespace Rows

/-- THE TIED CARD OF 'laws.FnExactAppendFiring'. -/
def fnExactAppendFiringCard : Claim7 := { stood := { row := fnExactAppendFiringRow, standIns := [], harness := (true, "aac2fd3679dc8b38a047b6b6dcbabe180c37883bdd8afd55ff8eb3d0b4aad09e"), looks := true }, kinds := [], alts := [], laidByText := true, laidKinds := [.data, .data, .data, .data, .sentinel, .sentinel, .pinned], laidTests := true, laidLooks := .later }
def FnExactAppendFiringCardSaid : Prop := Claim7.holds Tryd.pinned (.plain (OpenSpec.ofChange fnExactAppendFiringSpec)) fnExactAppendFiringCard

/-- THE TIED CARD OF 'laws.FnEdits'. -/
def fnEditsCard : Claim7 := { stood := { row := fnEditsRow, standIns := [], harness := (true, "aac2fd3679dc8b38a047b6b6dcbabe180c37883bdd8afd55ff8eb3d0b4aad09e"), looks := true }, kinds := [], alts := [], laidByText := true, laidKinds := [.data, .data, .data, .sentinel, .sentinel], laidTests := true, laidLooks := .later }
def FnEditsCardSaid : Prop := Claim7.holds Tryd.pinned (.plain (OpenSpec.ofChange fnEditsSpec)) fnEditsCard

/-- THE SECOND FORM's CARD OF 'laws.FnExactAppendFiring'. -/
def fnExactAppendFiringUptoCard : Claim7 := { stood := { row := fnExactAppendFiringUptoRow, standIns := [], harness := (true, "aac2fd3679dc8b38a047b6b6dcbabe180c37883bdd8afd55ff8eb3d0b4aad09e"), looks := true }, kinds := [], alts := [], laidByText := true, laidKinds := [.data, .data, .data, .data, .sentinel, .sentinel, .pinned], laidTests := true, laidLooks := .later }
def FnExactAppendFiringUptoCardSaid : Prop := Claim7.holds Tryd.pinned (.plain (OpenSpec.upto fnExactAppendFiringSpec)) fnExactAppendFiringUptoCard

/-- THE SECOND FORM's CARD OF 'laws.FnEdits'. -/
def fnEditsUptoCard : Claim7 := { stood := { row := fnEditsUptoRow, standIns := [], harness := (true, "aac2fd3679dc8b38a047b6b6dcbabe180c37883bdd8afd55ff8eb3d0b4aad09e"), looks := true }, kinds := [], alts := [], laidByText := true, laidKinds := [.data, .data, .data, .sentinel, .sentinel], laidTests := true, laidLooks := .later }
def FnEditsUptoCardSaid : Prop := Claim7.holds Tryd.pinned (.plain (OpenSpec.upto fnEditsSpec)) fnEditsUptoCard
end Rows
end Go.Proofs.YtdgodkpobomneabDoor
