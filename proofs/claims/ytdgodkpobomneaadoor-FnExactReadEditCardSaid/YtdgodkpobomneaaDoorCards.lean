/-
  DERIVED. GIVEN WITH THE SEED: THE CARDS: each row of YtdgodkpobomneaaDoorRows.lean that lists a variable, with what it lists TIED to the program's text (the seventh form; the later family's looks); each row that meets fmt, with fmt's text TOLD by the authors' own Lean function (tested against real Go, not proved from fmt's source: count such statements apart). THE CARD IS WHAT COUNTS. Prove the row's statement (the work); the ties are given (YtdgodkpobomneaaDoorTie.lean); close each card by the builder's one call (the guide's Derived/Test/ToyasCard.lean, 'card_holds'). Laid BY PROGRAM, IN A SANDBOX (cutbox-door.mjs). By AI agents, Wed Nov 11 2026. No macro, syntax, notation, axiom, sorry.
-/
import Derived.Test.YtdgodkpobomneaaDoorRows
import GoSem.ClaimSeven
namespace Go.Proofs.YtdgodkpobomneaaDoor
namespace Rows

/-- THE TIED CARD OF 'laws.FnExactEditText'. -/
def fnExactEditTextCard : Claim7 := { stood := { row := fnExactEditTextRow, standIns := [], harness := (true, "2032fa2da401eff61f768b050977c01dda669764fa257b37dcc0da6075234add"), looks := true }, kinds := [], alts := [], laidByText := true, laidKinds := [.data, .data, .data], laidTests := true, laidLooks := .later }
def FnExactEditTextCardSaid : Prop := Claim7.holds Tryd.pinned (.plain (OpenSpec.ofChange fnExactEditTextSpec)) fnExactEditTextCard

/-- THE TIED CARD OF 'laws.FnExactChainAfter'. -/
def fnExactChainAfterCard : Claim7 := { stood := { row := fnExactChainAfterRow, standIns := [], harness := (true, "2032fa2da401eff61f768b050977c01dda669764fa257b37dcc0da6075234add"), looks := true }, kinds := [], alts := [], laidByText := true, laidKinds := [.data, .data, .data], laidTests := true, laidLooks := .later }
def FnExactChainAfterCardSaid : Prop := Claim7.holds Tryd.pinned (.plain (OpenSpec.ofChange fnExactChainAfterSpec)) fnExactChainAfterCard

/-- THE TIED CARD OF 'laws.FnExactTraceText'. -/
def fnExactTraceTextCard : Claim7 := { stood := { row := fnExactTraceTextRow, standIns := [], harness := (true, "2032fa2da401eff61f768b050977c01dda669764fa257b37dcc0da6075234add"), looks := true }, kinds := [], alts := [], laidByText := true, laidKinds := [.data, .data, .data], laidTests := true, laidLooks := .later }
def FnExactTraceTextCardSaid : Prop := Claim7.holds Tryd.pinned (.plain (OpenSpec.ofChange fnExactTraceTextSpec)) fnExactTraceTextCard

/-- THE TIED CARD OF 'laws.FnExactReadEdit'. -/
def fnExactReadEditCard : Claim7 := { stood := { row := fnExactReadEditRow, standIns := [], harness := (true, "2032fa2da401eff61f768b050977c01dda669764fa257b37dcc0da6075234add"), looks := true }, kinds := [], alts := [], laidByText := true, laidKinds := [.data, .data, .data, .sentinel, .sentinel], laidTests := true, laidLooks := .later }
def FnExactReadEditCardSaid : Prop := Claim7.holds Tryd.pinned (.plain (OpenSpec.ofChange fnExactReadEditSpec)) fnExactReadEditCard

/-- THE TIED CARD OF 'laws.FnExactIsDeskCommand'. -/
def fnExactIsDeskCommandCard : Claim7 := { stood := { row := fnExactIsDeskCommandRow, standIns := [], harness := (true, "2032fa2da401eff61f768b050977c01dda669764fa257b37dcc0da6075234add"), looks := true }, kinds := [], alts := [], laidByText := true, laidKinds := [.data, .data, .data, .data, .sentinel, .sentinel, .pinned], laidTests := true, laidLooks := .later }
def FnExactIsDeskCommandCardSaid : Prop := Claim7.holds Tryd.pinned (.plain (OpenSpec.ofChange fnExactIsDeskCommandSpec)) fnExactIsDeskCommandCard

/-- THE TIED CARD OF 'laws.FnExactFirstDifference'. -/
def fnExactFirstDifferenceCard : Claim7 := { stood := { row := fnExactFirstDifferenceRow, standIns := [], harness := (true, "2032fa2da401eff61f768b050977c01dda669764fa257b37dcc0da6075234add"), looks := true }, kinds := [], alts := [], laidByText := true, laidKinds := [.data, .data, .data, .data, .sentinel, .sentinel, .pinned], laidTests := true, laidLooks := .later }
def FnExactFirstDifferenceCardSaid : Prop := Claim7.holds Tryd.pinned (.plain (OpenSpec.ofChange fnExactFirstDifferenceSpec)) fnExactFirstDifferenceCard

/-- THE TIED CARD OF 'laws.FnExactRecoverTrace'. -/
def fnExactRecoverTraceCard : Claim7 := { stood := { row := fnExactRecoverTraceRow, standIns := [], harness := (true, "2032fa2da401eff61f768b050977c01dda669764fa257b37dcc0da6075234add"), looks := true }, kinds := [], alts := [], laidByText := true, laidKinds := [.data, .data, .data, .data, .sentinel, .sentinel, .pinned], laidTests := true, laidLooks := .later }
def FnExactRecoverTraceCardSaid : Prop := Claim7.holds Tryd.pinned (.plain (OpenSpec.ofChange fnExactRecoverTraceSpec)) fnExactRecoverTraceCard

/-- THE SECOND FORM's CARD OF 'laws.FnExactEditText'. -/
def fnExactEditTextUptoCard : Claim7 := { stood := { row := fnExactEditTextUptoRow, standIns := [], harness := (true, "2032fa2da401eff61f768b050977c01dda669764fa257b37dcc0da6075234add"), looks := true }, kinds := [], alts := [], laidByText := true, laidKinds := [.data, .data, .data], laidTests := true, laidLooks := .later }
def FnExactEditTextUptoCardSaid : Prop := Claim7.holds Tryd.pinned (.plain (OpenSpec.upto fnExactEditTextSpec)) fnExactEditTextUptoCard

/-- THE SECOND FORM's CARD OF 'laws.FnExactChainAfter'. -/
def fnExactChainAfterUptoCard : Claim7 := { stood := { row := fnExactChainAfterUptoRow, standIns := [], harness := (true, "2032fa2da401eff61f768b050977c01dda669764fa257b37dcc0da6075234add"), looks := true }, kinds := [], alts := [], laidByText := true, laidKinds := [.data, .data, .data], laidTests := true, laidLooks := .later }
def FnExactChainAfterUptoCardSaid : Prop := Claim7.holds Tryd.pinned (.plain (OpenSpec.upto fnExactChainAfterSpec)) fnExactChainAfterUptoCard

/-- THE SECOND FORM's CARD OF 'laws.FnExactTraceText'. -/
def fnExactTraceTextUptoCard : Claim7 := { stood := { row := fnExactTraceTextUptoRow, standIns := [], harness := (true, "2032fa2da401eff61f768b050977c01dda669764fa257b37dcc0da6075234add"), looks := true }, kinds := [], alts := [], laidByText := true, laidKinds := [.data, .data, .data], laidTests := true, laidLooks := .later }
def FnExactTraceTextUptoCardSaid : Prop := Claim7.holds Tryd.pinned (.plain (OpenSpec.upto fnExactTraceTextSpec)) fnExactTraceTextUptoCard

/-- THE SECOND FORM's CARD OF 'laws.FnExactReadEdit'. -/
def fnExactReadEditUptoCard : Claim7 := { stood := { row := fnExactReadEditUptoRow, standIns := [], harness := (true, "2032fa2da401eff61f768b050977c01dda669764fa257b37dcc0da6075234add"), looks := true }, kinds := [], alts := [], laidByText := true, laidKinds := [.data, .data, .data, .sentinel, .sentinel], laidTests := true, laidLooks := .later }
def FnExactReadEditUptoCardSaid : Prop := Claim7.holds Tryd.pinned (.plain (OpenSpec.upto fnExactReadEditSpec)) fnExactReadEditUptoCard

/-- THE SECOND FORM's CARD OF 'laws.FnExactIsDeskCommand'. -/
def fnExactIsDeskCommandUptoCard : Claim7 := { stood := { row := fnExactIsDeskCommandUptoRow, standIns := [], harness := (true, "2032fa2da401eff61f768b050977c01dda669764fa257b37dcc0da6075234add"), looks := true }, kinds := [], alts := [], laidByText := true, laidKinds := [.data, .data, .data, .data, .sentinel, .sentinel, .pinned], laidTests := true, laidLooks := .later }
def FnExactIsDeskCommandUptoCardSaid : Prop := Claim7.holds Tryd.pinned (.plain (OpenSpec.upto fnExactIsDeskCommandSpec)) fnExactIsDeskCommandUptoCard

/-- THE SECOND FORM's CARD OF 'laws.FnExactFirstDifference'. -/
def fnExactFirstDifferenceUptoCard : Claim7 := { stood := { row := fnExactFirstDifferenceUptoRow, standIns := [], harness := (true, "2032fa2da401eff61f768b050977c01dda669764fa257b37dcc0da6075234add"), looks := true }, kinds := [], alts := [], laidByText := true, laidKinds := [.data, .data, .data, .data, .sentinel, .sentinel, .pinned], laidTests := true, laidLooks := .later }
def FnExactFirstDifferenceUptoCardSaid : Prop := Claim7.holds Tryd.pinned (.plain (OpenSpec.upto fnExactFirstDifferenceSpec)) fnExactFirstDifferenceUptoCard

/-- THE SECOND FORM's CARD OF 'laws.FnExactRecoverTrace'. -/
def fnExactRecoverTraceUptoCard : Claim7 := { stood := { row := fnExactRecoverTraceUptoRow, standIns := [], harness := (true, "2032fa2da401eff61f768b050977c01dda669764fa257b37dcc0da6075234add"), looks := true }, kinds := [], alts := [], laidByText := true, laidKinds := [.data, .data, .data, .data, .sentinel, .sentinel, .pinned], laidTests := true, laidLooks := .later }
def FnExactRecoverTraceUptoCardSaid : Prop := Claim7.holds Tryd.pinned (.plain (OpenSpec.upto fnExactRecoverTraceSpec)) fnExactRecoverTraceUptoCard
end Rows
end Go.Proofs.YtdgodkpobomneaaDoor
