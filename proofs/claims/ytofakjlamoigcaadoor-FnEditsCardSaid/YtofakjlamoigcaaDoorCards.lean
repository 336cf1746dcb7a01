/-
  DERIVED. GIVEN WITH THE SEED: THE CARDS: each row of YtofakjlamoigcaaDoorRows.lean that lists a variable, with what it lists TIED to the program's text (the seventh form; the later family's looks); each row that meets fmt, with fmt's text TOLD by the authors' own Lean function (tested against real Go, not proved from fmt's source: count such statements apart). THE CARD IS WHAT COUNTS. Prove the row's statement (the work); the ties are given (YtofakjlamoigcaaDoorTie.lean); close each card by the builder's one call (the guide's Derived/Test/ToyasCard.lean, 'card_holds'). Laid BY PROGRAM, IN A SANDBOX (cutbox-door.mjs). By AI agents, Wed Nov 11 2026. No macro, syntax, notation, axiom, sorry.
-/
import Derived.Test.YtofakjlamoigcaaDoorRows
import GoSem.ClaimSeven
namespace Go.Proofs.YtofakjlamoigcaaDoor
namespace Rows

/-- THE TIED CARD OF 'laws.FnExactIsDeskCommand'. -/
def fnExactIsDeskCommandCard : Claim7 := { stood := { row := fnExactIsDeskCommandRow, standIns := [], harness := (true, "af7a59498717c6360266b20c29f8f8ae5d2d59afb839aa24a95a69b1d30ee8b8"), looks := true }, kinds := [], alts := [], laidByText := true, laidKinds := [.data, .data, .data, .data, .sentinel, .sentinel, .pinned], laidTests := true, laidLooks := .later }
def FnExactIsDeskCommandCardSaid : Prop := Claim7.holds Tryd.pinned (.plain (OpenSpec.ofChange fnExactIsDeskCommandSpec)) fnExactIsDeskCommandCard

/-- THE TIED CARD OF 'laws.FnEdits'. -/
def fnEditsCard : Claim7 := { stood := { row := fnEditsRow, standIns := [], harness := (true, "af7a59498717c6360266b20c29f8f8ae5d2d59afb839aa24a95a69b1d30ee8b8"), looks := true }, kinds := [], alts := [], laidByText := true, laidKinds := [.data, .data, .data, .sentinel, .sentinel], laidTests := true, laidLooks := .later }
def FnEditsCardSaid : Prop := Claim7.holds Tryd.pinned (.plain (OpenSpec.ofChange fnEditsSpec)) fnEditsCard

/-- THE SECOND FORM's CARD OF 'laws.FnExactIsDeskCommand'. -/
def fnExactIsDeskCommandUptoCard : Claim7 := { stood := { row := fnExactIsDeskCommandUptoRow, standIns := [], harness := (true, "af7a59498717c6360266b20c29f8f8ae5d2d59afb839aa24a95a69b1d30ee8b8"), looks := true }, kinds := [], alts := [], laidByText := true, laidKinds := [.data, .data, .data, .data, .sentinel, .sentinel, .pinned], laidTests := true, laidLooks := .later }
def FnExactIsDeskCommandUptoCardSaid : Prop := Claim7.holds Tryd.pinned (.plain (OpenSpec.upto fnExactIsDeskCommandSpec)) fnExactIsDeskCommandUptoCard

/-- THE SECOND FORM's CARD OF 'laws.FnEdits'. -/
def fnEditsUptoCard : Claim7 := { stood := { row := fnEditsUptoRow, standIns := [], harness := (true, "af7a59498717c6360266b20c29f8f8ae5d2d59afb839aa24a95a69b1d30ee8b8"), looks := true }, kinds := [], alts := [], laidByText := true, laidKinds := [.data, .data, .data, .sentinel, .sentinel], laidTests := true, laidLooks := .later }
def FnEditsUptoCardSaid : Prop := Claim7.holds Tryd.pinned (.plain (OpenSpec.upto fnEditsSpec)) fnEditsUptoCard
end Rows
end Go.Proofs.YtofakjlamoigcaaDoor
