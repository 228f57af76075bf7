/-
  DERIVED. GIVEN WITH THE SEED: THE CARDS: each row of YtjmhaigcaidloaaGreatDoorRows.lean that lists a variable, with what it lists TIED to the program's text (the seventh form; the later family's looks); each row that meets fmt, with fmt's text TOLD by the authors' own Lean function (tested against real Go, not proved from fmt's source: count such statements apart). THE CARD IS WHAT COUNTS. Prove the row's statement (the work); the ties are given (YtjmhaigcaidloaaGreatDoorTie.lean); close each card by the builder's one call (the guide's Derived/Test/ToyasCard.lean, 'card_holds'). Laid BY PROGRAM, IN A SANDBOX (cutbox-door.mjs). By AI agents, Wed Nov 11 2026. No macro, syntax, notation, axiom, sorry.
-/
import Derived.Test.YtjmhaigcaidloaaGreatDoorRows
import GoSem.ClaimSeven
namespace Go.Proofs.YtjmhaigcaidloaaGreatDoor
namespace Rows

/-- THE TIED CARD OF 'laws.FnExactDo'. -/
def fnExactDoCard : Claim7 := { stood := { row := fnExactDoRow, standIns := [], harness := (true, "447d6182077c23025bf52d4e99543534574c224998baf4950d2025154d37c512"), looks := true }, kinds := [], alts := [], laidByText := true, laidKinds := [.data, .data, .data, .sentinel, .sentinel], laidTests := true, laidLooks := .later }
def FnExactDoCardSaid : Prop := Claim7.holds Tryz.pinned (.plain (OpenSpec.ofChange fnExactDoSpec)) fnExactDoCard

/-- THE TIED CARD OF 'laws.FnExactHistOk'. -/
def fnExactHistOkCard : Claim7 := { stood := { row := fnExactHistOkRow, standIns := [], harness := (true, "447d6182077c23025bf52d4e99543534574c224998baf4950d2025154d37c512"), looks := true }, kinds := [], alts := [], laidByText := true, laidKinds := [.data, .data, .data, .sentinel, .sentinel], laidTests := true, laidLooks := .later }
def FnExactHistOkCardSaid : Prop := Claim7.holds Tryz.pinned (.plain (OpenSpec.ofChange fnExactHistOkSpec)) fnExactHistOkCard

/-- THE TIED CARD OF 'laws.FnExactHistHead'. -/
def fnExactHistHeadCard : Claim7 := { stood := { row := fnExactHistHeadRow, standIns := [], harness := (true, "447d6182077c23025bf52d4e99543534574c224998baf4950d2025154d37c512"), looks := true }, kinds := [], alts := [], laidByText := true, laidKinds := [.data, .data, .data, .sentinel, .sentinel], laidTests := true, laidLooks := .later }
def FnExactHistHeadCardSaid : Prop := Claim7.holds Tryz.pinned (.plain (OpenSpec.ofChange fnExactHistHeadSpec)) fnExactHistHeadCard

/-- THE TIED CARD OF 'laws.FnExactHistAt'. -/
def fnExactHistAtCard : Claim7 := { stood := { row := fnExactHistAtRow, standIns := [], harness := (true, "447d6182077c23025bf52d4e99543534574c224998baf4950d2025154d37c512"), looks := true }, kinds := [], alts := [], laidByText := true, laidKinds := [.data, .data, .data, .sentinel, .sentinel], laidTests := true, laidLooks := .later }
def FnExactHistAtCardSaid : Prop := Claim7.holds Tryz.pinned (.plain (OpenSpec.ofChange fnExactHistAtSpec)) fnExactHistAtCard

/-- THE TIED CARD OF 'laws.FnExactHistBytes'. -/
def fnExactHistBytesCard : Claim7 := { stood := { row := fnExactHistBytesRow, standIns := [], harness := (true, "447d6182077c23025bf52d4e99543534574c224998baf4950d2025154d37c512"), looks := true }, kinds := [], alts := [], laidByText := true, laidKinds := [.data, .data, .data, .sentinel, .sentinel], laidTests := true, laidLooks := .later }
def FnExactHistBytesCardSaid : Prop := Claim7.holds Tryz.pinned (.plain (OpenSpec.ofChange fnExactHistBytesSpec)) fnExactHistBytesCard

/-- THE TIED CARD OF 'laws.FnExactHistSync'. -/
def fnExactHistSyncCard : Claim7 := { stood := { row := fnExactHistSyncRow, standIns := [], harness := (true, "447d6182077c23025bf52d4e99543534574c224998baf4950d2025154d37c512"), looks := true }, kinds := [], alts := [], laidByText := true, laidKinds := [.data, .data, .data, .sentinel, .sentinel], laidTests := true, laidLooks := .later }
def FnExactHistSyncCardSaid : Prop := Claim7.holds Tryz.pinned (.plain (OpenSpec.ofChange fnExactHistSyncSpec)) fnExactHistSyncCard

/-- THE TIED CARD OF 'laws.FnExactHistCompact'. -/
def fnExactHistCompactCard : Claim7 := { stood := { row := fnExactHistCompactRow, standIns := [], harness := (true, "447d6182077c23025bf52d4e99543534574c224998baf4950d2025154d37c512"), looks := true }, kinds := [], alts := [], laidByText := true, laidKinds := [.data, .data, .data, .sentinel, .sentinel], laidTests := true, laidLooks := .later }
def FnExactHistCompactCardSaid : Prop := Claim7.holds Tryz.pinned (.plain (OpenSpec.ofChange fnExactHistCompactSpec)) fnExactHistCompactCard

/-- THE TIED CARD OF 'laws.FnExactHistCrash'. -/
def fnExactHistCrashCard : Claim7 := { stood := { row := fnExactHistCrashRow, standIns := [], harness := (true, "447d6182077c23025bf52d4e99543534574c224998baf4950d2025154d37c512"), looks := true }, kinds := [], alts := [], laidByText := true, laidKinds := [.data, .data, .data, .sentinel, .sentinel], laidTests := true, laidLooks := .later }
def FnExactHistCrashCardSaid : Prop := Claim7.holds Tryz.pinned (.plain (OpenSpec.ofChange fnExactHistCrashSpec)) fnExactHistCrashCard

/-- THE TIED CARD OF 'laws.FnExactHistAdd'. -/
def fnExactHistAddCard : Claim7 := { stood := { row := fnExactHistAddRow, standIns := [], harness := (true, "447d6182077c23025bf52d4e99543534574c224998baf4950d2025154d37c512"), looks := true }, kinds := [], alts := [], laidByText := true, laidKinds := [.data, .data, .data, .sentinel, .sentinel], laidTests := true, laidLooks := .later }
def FnExactHistAddCardSaid : Prop := Claim7.holds Tryz.pinned (.plain (OpenSpec.ofChange fnExactHistAddSpec)) fnExactHistAddCard

/-- THE TIED CARD OF 'laws.FnExactTouches'. -/
def fnExactTouchesCard : Claim7 := { stood := { row := fnExactTouchesRow, standIns := [], harness := (true, "447d6182077c23025bf52d4e99543534574c224998baf4950d2025154d37c512"), looks := true }, kinds := [], alts := [], laidByText := true, laidKinds := [.data, .data, .data, .sentinel, .sentinel], laidTests := true, laidLooks := .later }
def FnExactTouchesCardSaid : Prop := Claim7.holds Tryz.pinned (.plain (OpenSpec.ofChange fnExactTouchesSpec)) fnExactTouchesCard

/-- THE TIED CARD OF 'laws.FnExactBlame'. -/
def fnExactBlameCard : Claim7 := { stood := { row := fnExactBlameRow, standIns := [], harness := (true, "447d6182077c23025bf52d4e99543534574c224998baf4950d2025154d37c512"), looks := true }, kinds := [], alts := [], laidByText := true, laidKinds := [.data, .data, .data, .sentinel, .sentinel], laidTests := true, laidLooks := .later }
def FnExactBlameCardSaid : Prop := Claim7.holds Tryz.pinned (.plain (OpenSpec.ofChange fnExactBlameSpec)) fnExactBlameCard

/-- THE TIED CARD OF 'laws.FnExactDiffer'. -/
def fnExactDifferCard : Claim7 := { stood := { row := fnExactDifferRow, standIns := [], harness := (true, "447d6182077c23025bf52d4e99543534574c224998baf4950d2025154d37c512"), looks := true }, kinds := [], alts := [], laidByText := true, laidKinds := [.data, .data, .data, .sentinel, .sentinel], laidTests := true, laidLooks := .later }
def FnExactDifferCardSaid : Prop := Claim7.holds Tryz.pinned (.plain (OpenSpec.ofChange fnExactDifferSpec)) fnExactDifferCard

/-- THE SECOND FORM's CARD OF 'laws.FnExactDo'. -/
def fnExactDoUptoCard : Claim7 := { stood := { row := fnExactDoUptoRow, standIns := [], harness := (true, "447d6182077c23025bf52d4e99543534574c224998baf4950d2025154d37c512"), looks := true }, kinds := [], alts := [], laidByText := true, laidKinds := [.data, .data, .data, .sentinel, .sentinel], laidTests := true, laidLooks := .later }
def FnExactDoUptoCardSaid : Prop := Claim7.holds Tryz.pinned (.plain (OpenSpec.upto fnExactDoSpec)) fnExactDoUptoCard

/-- THE SECOND FORM's CARD OF 'laws.FnExactHistOk'. -/
def fnExactHistOkUptoCard : Claim7 := { stood := { row := fnExactHistOkUptoRow, standIns := [], harness := (true, "447d6182077c23025bf52d4e99543534574c224998baf4950d2025154d37c512"), looks := true }, kinds := [], alts := [], laidByText := true, laidKinds := [.data, .data, .data, .sentinel, .sentinel], laidTests := true, laidLooks := .later }
def FnExactHistOkUptoCardSaid : Prop := Claim7.holds Tryz.pinned (.plain (OpenSpec.upto fnExactHistOkSpec)) fnExactHistOkUptoCard

/-- THE SECOND FORM's CARD OF 'laws.FnExactHistHead'. -/
def fnExactHistHeadUptoCard : Claim7 := { stood := { row := fnExactHistHeadUptoRow, standIns := [], harness := (true, "447d6182077c23025bf52d4e99543534574c224998baf4950d2025154d37c512"), looks := true }, kinds := [], alts := [], laidByText := true, laidKinds := [.data, .data, .data, .sentinel, .sentinel], laidTests := true, laidLooks := .later }
def FnExactHistHeadUptoCardSaid : Prop := Claim7.holds Tryz.pinned (.plain (OpenSpec.upto fnExactHistHeadSpec)) fnExactHistHeadUptoCard

/-- THE SECOND FORM's CARD OF 'laws.FnExactHistAt'. -/
def fnExactHistAtUptoCard : Claim7 := { stood := { row := fnExactHistAtUptoRow, standIns := [], harness := (true, "447d6182077c23025bf52d4e99543534574c224998baf4950d2025154d37c512"), looks := true }, kinds := [], alts := [], laidByText := true, laidKinds := [.data, .data, .data, .sentinel, .sentinel], laidTests := true, laidLooks := .later }
def FnExactHistAtUptoCardSaid : Prop := Claim7.holds Tryz.pinned (.plain (OpenSpec.upto fnExactHistAtSpec)) fnExactHistAtUptoCard

/-- THE SECOND FORM's CARD OF 'laws.FnExactHistBytes'. -/
def fnExactHistBytesUptoCard : Claim7 := { stood := { row := fnExactHistBytesUptoRow, standIns := [], harness := (true, "447d6182077c23025bf52d4e99543534574c224998baf4950d2025154d37c512"), looks := true }, kinds := [], alts := [], laidByText := true, laidKinds := [.data, .data, .data, .sentinel, .sentinel], laidTests := true, laidLooks := .later }
def FnExactHistBytesUptoCardSaid : Prop := Claim7.holds Tryz.pinned (.plain (OpenSpec.upto fnExactHistBytesSpec)) fnExactHistBytesUptoCard

/-- THE SECOND FORM's CARD OF 'laws.FnExactHistSync'. -/
def fnExactHistSyncUptoCard : Claim7 := { stood := { row := fnExactHistSyncUptoRow, standIns := [], harness := (true, "447d6182077c23025bf52d4e99543534574c224998baf4950d2025154d37c512"), looks := true }, kinds := [], alts := [], laidByText := true, laidKinds := [.data, .data, .data, .sentinel, .sentinel], laidTests := true, laidLooks := .later }
def FnExactHistSyncUptoCardSaid : Prop := Claim7.holds Tryz.pinned (.plain (OpenSpec.upto fnExactHistSyncSpec)) fnExactHistSyncUptoCard

/-- THE SECOND FORM's CARD OF 'laws.FnExactHistCompact'. -/
def fnExactHistCompactUptoCard : Claim7 := { stood := { row := fnExactHistCompactUptoRow, standIns := [], harness := (true, "447d6182077c23025bf52d4e99543534574c224998baf4950d2025154d37c512"), looks := true }, kinds := [], alts := [], laidByText := true, laidKinds := [.data, .data, .data, .sentinel, .sentinel], laidTests := true, laidLooks := .later }
def FnExactHistCompactUptoCardSaid : Prop := Claim7.holds Tryz.pinned (.plain (OpenSpec.upto fnExactHistCompactSpec)) fnExactHistCompactUptoCard

/-- THE SECOND FORM's CARD OF 'laws.FnExactHistCrash'. -/
def fnExactHistCrashUptoCard : Claim7 := { stood := { row := fnExactHistCrashUptoRow, standIns := [], harness := (true, "447d6182077c23025bf52d4e99543534574c224998baf4950d2025154d37c512"), looks := true }, kinds := [], alts := [], laidByText := true, laidKinds := [.data, .data, .data, .sentinel, .sentinel], laidTests := true, laidLooks := .later }
def FnExactHistCrashUptoCardSaid : Prop := Claim7.holds Tryz.pinned (.plain (OpenSpec.upto fnExactHistCrashSpec)) fnExactHistCrashUptoCard

/-- THE SECOND FORM's CARD OF 'laws.FnExactHistAdd'. -/
def fnExactHistAddUptoCard : Claim7 := { stood := { row := fnExactHistAddUptoRow, standIns := [], harness := (true, "447d6182077c23025bf52d4e99543534574c224998baf4950d2025154d37c512"), looks := true }, kinds := [], alts := [], laidByText := true, laidKinds := [.data, .data, .data, .sentinel, .sentinel], laidTests := true, laidLooks := .later }
def FnExactHistAddUptoCardSaid : Prop := Claim7.holds Tryz.pinned (.plain (OpenSpec.upto fnExactHistAddSpec)) fnExactHistAddUptoCard

/-- THE SECOND FORM's CARD OF 'laws.FnExactTouches'. -/
def fnExactTouchesUptoCard : Claim7 := { stood := { row := fnExactTouchesUptoRow, standIns := [], harness := (true, "447d6182077c23025bf52d4e99543534574c224998baf4950d2025154d37c512"), looks := true }, kinds := [], alts := [], laidByText := true, laidKinds := [.data, .data, .data, .sentinel, .sentinel], laidTests := true, laidLooks := .later }
def FnExactTouchesUptoCardSaid : Prop := Claim7.holds Tryz.pinned (.plain (OpenSpec.upto fnExactTouchesSpec)) fnExactTouchesUptoCard

/-- THE SECOND FORM's CARD OF 'laws.FnExactBlame'. -/
def fnExactBlameUptoCard : Claim7 := { stood := { row := fnExactBlameUptoRow, standIns := [], harness := (true, "447d6182077c23025bf52d4e99543534574c224998baf4950d2025154d37c512"), looks := true }, kinds := [], alts := [], laidByText := true, laidKinds := [.data, .data, .data, .sentinel, .sentinel], laidTests := true, laidLooks := .later }
def FnExactBlameUptoCardSaid : Prop := Claim7.holds Tryz.pinned (.plain (OpenSpec.upto fnExactBlameSpec)) fnExactBlameUptoCard

/-- THE SECOND FORM's CARD OF 'laws.FnExactDiffer'. -/
def fnExactDifferUptoCard : Claim7 := { stood := { row := fnExactDifferUptoRow, standIns := [], harness := (true, "447d6182077c23025bf52d4e99543534574c224998baf4950d2025154d37c512"), looks := true }, kinds := [], alts := [], laidByText := true, laidKinds := [.data, .data, .data, .sentinel, .sentinel], laidTests := true, laidLooks := .later }
def FnExactDifferUptoCardSaid : Prop := Claim7.holds Tryz.pinned (.plain (OpenSpec.upto fnExactDifferSpec)) fnExactDifferUptoCard
end Rows
end Go.Proofs.YtjmhaigcaidloaaGreatDoor
