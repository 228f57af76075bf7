/-
  DERIVED. GIVEN WITH THE SEED: THE CARDS: each row of YtklelfbkffbceaaGreatDoorRows.lean that lists a variable, with what it lists TIED to the program's text (the seventh form; the later family's looks); each row that meets fmt, with fmt's text TOLD by the authors' own Lean function (tested against real Go, not proved from fmt's source: count such statements apart). THE CARD IS WHAT COUNTS. Prove the row's statement (the work); the ties are given (YtklelfbkffbceaaGreatDoorTie.lean); close each card by the builder's one call (the guide's Derived/Test/ToyasCard.lean, 'card_holds'). Laid BY PROGRAM, IN A SANDBOX (cutbox-door.mjs). By AI agents, Wed Nov 11 2026. No macro, syntax, notation, axiom, sorry.
-/
import Derived.Test.YtklelfbkffbceaaGreatDoorRows
import GoSem.ClaimSeven
namespace Go.Proofs.YtklelfbkffbceaaGreatDoor
namespace Rows

/-- THE TIED CARD OF 'laws.FnExactBetween'. -/
def fnExactBetweenCard : Claim7 := { stood := { row := fnExactBetweenRow, standIns := [], harness := (true, "4c467443650c536fe1ac3b2ee6bc63daa34e3aed6f593dd04ae6bb502aa548c3"), looks := true }, kinds := [], alts := [], laidByText := true, laidKinds := [.data, .data, .data, .sentinel, .sentinel], laidTests := true, laidLooks := .later }
def FnExactBetweenCardSaid : Prop := Claim7.holds Tryz.pinned (.plain (OpenSpec.ofChange fnExactBetweenSpec)) fnExactBetweenCard

/-- THE TIED CARD OF 'laws.FnExactInstNeeds'. -/
def fnExactInstNeedsCard : Claim7 := { stood := { row := fnExactInstNeedsRow, standIns := [], harness := (true, "4c467443650c536fe1ac3b2ee6bc63daa34e3aed6f593dd04ae6bb502aa548c3"), looks := true }, kinds := [], alts := [], laidByText := true, laidKinds := [.data, .data, .data], laidTests := true, laidLooks := .later }
def FnExactInstNeedsCardSaid : Prop := Claim7.holds Tryz.pinned (.plain (OpenSpec.ofChange fnExactInstNeedsSpec)) fnExactInstNeedsCard

/-- THE TIED CARD OF 'laws.FnExactInstsOf'. -/
def fnExactInstsOfCard : Claim7 := { stood := { row := fnExactInstsOfRow, standIns := [], harness := (true, "4c467443650c536fe1ac3b2ee6bc63daa34e3aed6f593dd04ae6bb502aa548c3"), looks := true }, kinds := [], alts := [], laidByText := true, laidKinds := [.data, .data, .data], laidTests := true, laidLooks := .later }
def FnExactInstsOfCardSaid : Prop := Claim7.holds Tryz.pinned (.plain (OpenSpec.ofChange fnExactInstsOfSpec)) fnExactInstsOfCard

/-- THE SECOND FORM's CARD OF 'laws.FnExactBetween'. -/
def fnExactBetweenUptoCard : Claim7 := { stood := { row := fnExactBetweenUptoRow, standIns := [], harness := (true, "4c467443650c536fe1ac3b2ee6bc63daa34e3aed6f593dd04ae6bb502aa548c3"), looks := true }, kinds := [], alts := [], laidByText := true, laidKinds := [.data, .data, .data, .sentinel, .sentinel], laidTests := true, laidLooks := .later }
def FnExactBetweenUptoCardSaid : Prop := Claim7.holds Tryz.pinned (.plain (OpenSpec.upto fnExactBetweenSpec)) fnExactBetweenUptoCard

/-- THE SECOND FORM's CARD OF 'laws.FnExactInstNeeds'. -/
def fnExactInstNeedsUptoCard : Claim7 := { stood := { row := fnExactInstNeedsUptoRow, standIns := [], harness := (true, "4c467443650c536fe1ac3b2ee6bc63daa34e3aed6f593dd04ae6bb502aa548c3"), looks := true }, kinds := [], alts := [], laidByText := true, laidKinds := [.data, .data, .data], laidTests := true, laidLooks := .later }
def FnExactInstNeedsUptoCardSaid : Prop := Claim7.holds Tryz.pinned (.plain (OpenSpec.upto fnExactInstNeedsSpec)) fnExactInstNeedsUptoCard

/-- THE SECOND FORM's CARD OF 'laws.FnExactInstsOf'. -/
def fnExactInstsOfUptoCard : Claim7 := { stood := { row := fnExactInstsOfUptoRow, standIns := [], harness := (true, "4c467443650c536fe1ac3b2ee6bc63daa34e3aed6f593dd04ae6bb502aa548c3"), looks := true }, kinds := [], alts := [], laidByText := true, laidKinds := [.data, .data, .data], laidTests := true, laidLooks := .later }
def FnExactInstsOfUptoCardSaid : Prop := Claim7.holds Tryz.pinned (.plain (OpenSpec.upto fnExactInstsOfSpec)) fnExactInstsOfUptoCard
end Rows
end Go.Proofs.YtklelfbkffbceaaGreatDoor
