/-
  DERIVED. GIVEN WITH THE SEED: THE CARDS: each row of YtabecknjhcjpfaaGreatDoorRows.lean that lists a variable, with what it lists TIED to the program's text (the seventh form; the later family's looks); each row that meets fmt, with fmt's text TOLD by the authors' own Lean function (tested against real Go, not proved from fmt's source: count such statements apart). THE CARD IS WHAT COUNTS. Prove the row's statement (the work); the ties are given (YtabecknjhcjpfaaGreatDoorTie.lean); close each card by the builder's one call (the guide's Derived/Test/ToyasCard.lean, 'card_holds'). Laid BY PROGRAM, IN A SANDBOX (cutbox-door.mjs). By AI agents, Wed Nov 11 2026. No macro, syntax, notation, axiom, sorry.
-/
import Derived.Test.YtabecknjhcjpfaaGreatDoorRows
import GoSem.ClaimSeven
namespace Go.Proofs.YtabecknjhcjpfaaGreatDoor
namespace Rows

/-- THE TIED CARD OF 'laws.FnExactStateOk'. -/
def fnExactStateOkCard : Claim7 := { stood := { row := fnExactStateOkRow, standIns := [], harness := (true, "448d84383100c39116fc6880f603007bd9e31648ac4ca991ea175e8aa57eb1ae"), looks := true }, kinds := [], alts := [], laidByText := true, laidKinds := [.data, .data, .data, .sentinel, .sentinel], laidTests := true, laidLooks := .later }
def FnExactStateOkCardSaid : Prop := Claim7.holds Tryz.pinned (.plain (OpenSpec.ofChange fnExactStateOkSpec)) fnExactStateOkCard

/-- THE TIED CARD OF 'laws.FnExactTainted'. -/
def fnExactTaintedCard : Claim7 := { stood := { row := fnExactTaintedRow, standIns := [], harness := (true, "448d84383100c39116fc6880f603007bd9e31648ac4ca991ea175e8aa57eb1ae"), looks := true }, kinds := [], alts := [], laidByText := true, laidKinds := [.data, .data, .data, .sentinel, .sentinel], laidTests := true, laidLooks := .later }
def FnExactTaintedCardSaid : Prop := Claim7.holds Tryz.pinned (.plain (OpenSpec.ofChange fnExactTaintedSpec)) fnExactTaintedCard

/-- THE TIED CARD OF 'laws.FnExactNeeds'. -/
def fnExactNeedsCard : Claim7 := { stood := { row := fnExactNeedsRow, standIns := [], harness := (true, "448d84383100c39116fc6880f603007bd9e31648ac4ca991ea175e8aa57eb1ae"), looks := true }, kinds := [], alts := [], laidByText := true, laidKinds := [.data, .data, .data, .sentinel, .sentinel], laidTests := true, laidLooks := .later }
def FnExactNeedsCardSaid : Prop := Claim7.holds Tryz.pinned (.plain (OpenSpec.ofChange fnExactNeedsSpec)) fnExactNeedsCard

/-- THE TIED CARD OF 'laws.FnExactEntryOf'. -/
def fnExactEntryOfCard : Claim7 := { stood := { row := fnExactEntryOfRow, standIns := [], harness := (true, "448d84383100c39116fc6880f603007bd9e31648ac4ca991ea175e8aa57eb1ae"), looks := true }, kinds := [], alts := [], laidByText := true, laidKinds := [.data, .data, .data, .sentinel, .sentinel], laidTests := true, laidLooks := .later }
def FnExactEntryOfCardSaid : Prop := Claim7.holds Tryz.pinned (.plain (OpenSpec.ofChange fnExactEntryOfSpec)) fnExactEntryOfCard

/-- THE TIED CARD OF 'laws.FnExactEventBytes'. -/
def fnExactEventBytesCard : Claim7 := { stood := { row := fnExactEventBytesRow, standIns := [], harness := (true, "448d84383100c39116fc6880f603007bd9e31648ac4ca991ea175e8aa57eb1ae"), looks := true }, kinds := [], alts := [], laidByText := true, laidKinds := [.data, .data, .data, .sentinel, .sentinel], laidTests := true, laidLooks := .later }
def FnExactEventBytesCardSaid : Prop := Claim7.holds Tryz.pinned (.plain (OpenSpec.ofChange fnExactEventBytesSpec)) fnExactEventBytesCard

/-- THE TIED CARD OF 'laws.FnExactDo'. -/
def fnExactDoCard : Claim7 := { stood := { row := fnExactDoRow, standIns := [], harness := (true, "448d84383100c39116fc6880f603007bd9e31648ac4ca991ea175e8aa57eb1ae"), looks := true }, kinds := [], alts := [], laidByText := true, laidKinds := [.data, .data, .data, .sentinel, .sentinel], laidTests := true, laidLooks := .later }
def FnExactDoCardSaid : Prop := Claim7.holds Tryz.pinned (.plain (OpenSpec.ofChange fnExactDoSpec)) fnExactDoCard

/-- THE TIED CARD OF 'laws.FnExactDiffer'. -/
def fnExactDifferCard : Claim7 := { stood := { row := fnExactDifferRow, standIns := [], harness := (true, "448d84383100c39116fc6880f603007bd9e31648ac4ca991ea175e8aa57eb1ae"), looks := true }, kinds := [], alts := [], laidByText := true, laidKinds := [.data, .data, .data, .sentinel, .sentinel], laidTests := true, laidLooks := .later }
def FnExactDifferCardSaid : Prop := Claim7.holds Tryz.pinned (.plain (OpenSpec.ofChange fnExactDifferSpec)) fnExactDifferCard

/-- THE TIED CARD OF 'laws.FnExactHistOk'. -/
def fnExactHistOkCard : Claim7 := { stood := { row := fnExactHistOkRow, standIns := [], harness := (true, "448d84383100c39116fc6880f603007bd9e31648ac4ca991ea175e8aa57eb1ae"), looks := true }, kinds := [], alts := [], laidByText := true, laidKinds := [.data, .data, .data, .sentinel, .sentinel], laidTests := true, laidLooks := .later }
def FnExactHistOkCardSaid : Prop := Claim7.holds Tryz.pinned (.plain (OpenSpec.ofChange fnExactHistOkSpec)) fnExactHistOkCard

/-- THE TIED CARD OF 'laws.FnExactHistHead'. -/
def fnExactHistHeadCard : Claim7 := { stood := { row := fnExactHistHeadRow, standIns := [], harness := (true, "448d84383100c39116fc6880f603007bd9e31648ac4ca991ea175e8aa57eb1ae"), looks := true }, kinds := [], alts := [], laidByText := true, laidKinds := [.data, .data, .data, .sentinel, .sentinel], laidTests := true, laidLooks := .later }
def FnExactHistHeadCardSaid : Prop := Claim7.holds Tryz.pinned (.plain (OpenSpec.ofChange fnExactHistHeadSpec)) fnExactHistHeadCard

/-- THE TIED CARD OF 'laws.FnExactTouches'. -/
def fnExactTouchesCard : Claim7 := { stood := { row := fnExactTouchesRow, standIns := [], harness := (true, "448d84383100c39116fc6880f603007bd9e31648ac4ca991ea175e8aa57eb1ae"), looks := true }, kinds := [], alts := [], laidByText := true, laidKinds := [.data, .data, .data, .sentinel, .sentinel], laidTests := true, laidLooks := .later }
def FnExactTouchesCardSaid : Prop := Claim7.holds Tryz.pinned (.plain (OpenSpec.ofChange fnExactTouchesSpec)) fnExactTouchesCard

/-- THE SECOND FORM's CARD OF 'laws.FnExactStateOk'. -/
def fnExactStateOkUptoCard : Claim7 := { stood := { row := fnExactStateOkUptoRow, standIns := [], harness := (true, "448d84383100c39116fc6880f603007bd9e31648ac4ca991ea175e8aa57eb1ae"), looks := true }, kinds := [], alts := [], laidByText := true, laidKinds := [.data, .data, .data, .sentinel, .sentinel], laidTests := true, laidLooks := .later }
def FnExactStateOkUptoCardSaid : Prop := Claim7.holds Tryz.pinned (.plain (OpenSpec.upto fnExactStateOkSpec)) fnExactStateOkUptoCard

/-- THE SECOND FORM's CARD OF 'laws.FnExactTainted'. -/
def fnExactTaintedUptoCard : Claim7 := { stood := { row := fnExactTaintedUptoRow, standIns := [], harness := (true, "448d84383100c39116fc6880f603007bd9e31648ac4ca991ea175e8aa57eb1ae"), looks := true }, kinds := [], alts := [], laidByText := true, laidKinds := [.data, .data, .data, .sentinel, .sentinel], laidTests := true, laidLooks := .later }
def FnExactTaintedUptoCardSaid : Prop := Claim7.holds Tryz.pinned (.plain (OpenSpec.upto fnExactTaintedSpec)) fnExactTaintedUptoCard

/-- THE SECOND FORM's CARD OF 'laws.FnExactNeeds'. -/
def fnExactNeedsUptoCard : Claim7 := { stood := { row := fnExactNeedsUptoRow, standIns := [], harness := (true, "448d84383100c39116fc6880f603007bd9e31648ac4ca991ea175e8aa57eb1ae"), looks := true }, kinds := [], alts := [], laidByText := true, laidKinds := [.data, .data, .data, .sentinel, .sentinel], laidTests := true, laidLooks := .later }
def FnExactNeedsUptoCardSaid : Prop := Claim7.holds Tryz.pinned (.plain (OpenSpec.upto fnExactNeedsSpec)) fnExactNeedsUptoCard

/-- THE SECOND FORM's CARD OF 'laws.FnExactEntryOf'. -/
def fnExactEntryOfUptoCard : Claim7 := { stood := { row := fnExactEntryOfUptoRow, standIns := [], harness := (true, "448d84383100c39116fc6880f603007bd9e31648ac4ca991ea175e8aa57eb1ae"), looks := true }, kinds := [], alts := [], laidByText := true, laidKinds := [.data, .data, .data, .sentinel, .sentinel], laidTests := true, laidLooks := .later }
def FnExactEntryOfUptoCardSaid : Prop := Claim7.holds Tryz.pinned (.plain (OpenSpec.upto fnExactEntryOfSpec)) fnExactEntryOfUptoCard

/-- THE SECOND FORM's CARD OF 'laws.FnExactEventBytes'. -/
def fnExactEventBytesUptoCard : Claim7 := { stood := { row := fnExactEventBytesUptoRow, standIns := [], harness := (true, "448d84383100c39116fc6880f603007bd9e31648ac4ca991ea175e8aa57eb1ae"), looks := true }, kinds := [], alts := [], laidByText := true, laidKinds := [.data, .data, .data, .sentinel, .sentinel], laidTests := true, laidLooks := .later }
def FnExactEventBytesUptoCardSaid : Prop := Claim7.holds Tryz.pinned (.plain (OpenSpec.upto fnExactEventBytesSpec)) fnExactEventBytesUptoCard

/-- THE SECOND FORM's CARD OF 'laws.FnExactDo'. -/
def fnExactDoUptoCard : Claim7 := { stood := { row := fnExactDoUptoRow, standIns := [], harness := (true, "448d84383100c39116fc6880f603007bd9e31648ac4ca991ea175e8aa57eb1ae"), looks := true }, kinds := [], alts := [], laidByText := true, laidKinds := [.data, .data, .data, .sentinel, .sentinel], laidTests := true, laidLooks := .later }
def FnExactDoUptoCardSaid : Prop := Claim7.holds Tryz.pinned (.plain (OpenSpec.upto fnExactDoSpec)) fnExactDoUptoCard

/-- THE SECOND FORM's CARD OF 'laws.FnExactDiffer'. -/
def fnExactDifferUptoCard : Claim7 := { stood := { row := fnExactDifferUptoRow, standIns := [], harness := (true, "448d84383100c39116fc6880f603007bd9e31648ac4ca991ea175e8aa57eb1ae"), looks := true }, kinds := [], alts := [], laidByText := true, laidKinds := [.data, .data, .data, .sentinel, .sentinel], laidTests := true, laidLooks := .later }
def FnExactDifferUptoCardSaid : Prop := Claim7.holds Tryz.pinned (.plain (OpenSpec.upto fnExactDifferSpec)) fnExactDifferUptoCard

/-- THE SECOND FORM's CARD OF 'laws.FnExactHistOk'. -/
def fnExactHistOkUptoCard : Claim7 := { stood := { row := fnExactHistOkUptoRow, standIns := [], harness := (true, "448d84383100c39116fc6880f603007bd9e31648ac4ca991ea175e8aa57eb1ae"), looks := true }, kinds := [], alts := [], laidByText := true, laidKinds := [.data, .data, .data, .sentinel, .sentinel], laidTests := true, laidLooks := .later }
def FnExactHistOkUptoCardSaid : Prop := Claim7.holds Tryz.pinned (.plain (OpenSpec.upto fnExactHistOkSpec)) fnExactHistOkUptoCard

/-- THE SECOND FORM's CARD OF 'laws.FnExactHistHead'. -/
def fnExactHistHeadUptoCard : Claim7 := { stood := { row := fnExactHistHeadUptoRow, standIns := [], harness := (true, "448d84383100c39116fc6880f603007bd9e31648ac4ca991ea175e8aa57eb1ae"), looks := true }, kinds := [], alts := [], laidByText := true, laidKinds := [.data, .data, .data, .sentinel, .sentinel], laidTests := true, laidLooks := .later }
def FnExactHistHeadUptoCardSaid : Prop := Claim7.holds Tryz.pinned (.plain (OpenSpec.upto fnExactHistHeadSpec)) fnExactHistHeadUptoCard

/-- THE SECOND FORM's CARD OF 'laws.FnExactTouches'. -/
def fnExactTouchesUptoCard : Claim7 := { stood := { row := fnExactTouchesUptoRow, standIns := [], harness := (true, "448d84383100c39116fc6880f603007bd9e31648ac4ca991ea175e8aa57eb1ae"), looks := true }, kinds := [], alts := [], laidByText := true, laidKinds := [.data, .data, .data, .sentinel, .sentinel], laidTests := true, laidLooks := .later }
def FnExactTouchesUptoCardSaid : Prop := Claim7.holds Tryz.pinned (.plain (OpenSpec.upto fnExactTouchesSpec)) fnExactTouchesUptoCard
end Rows
end Go.Proofs.YtabecknjhcjpfaaGreatDoor
