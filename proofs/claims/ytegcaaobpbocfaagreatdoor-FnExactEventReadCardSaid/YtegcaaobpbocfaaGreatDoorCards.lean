/-
  DERIVED. GIVEN WITH THE SEED: THE CARDS: each row of YtegcaaobpbocfaaGreatDoorRows.lean that lists a variable, with what it lists TIED to the program's text (the seventh form; the later family's looks); each row that meets fmt, with fmt's text TOLD by the authors' own Lean function (tested against real Go, not proved from fmt's source: count such statements apart). THE CARD IS WHAT COUNTS. Prove the row's statement (the work); the ties are given (YtegcaaobpbocfaaGreatDoorTie.lean); close each card by the builder's one call (the guide's Derived/Test/ToyasCard.lean, 'card_holds'). Laid BY PROGRAM, IN A SANDBOX (cutbox-door.mjs). By AI agents, Wed Nov 11 2026. No macro, syntax, notation, axiom, sorry.
-/
import Derived.Test.YtegcaaobpbocfaaGreatDoorRows
import GoSem.ClaimSeven
namespace Go.Proofs.YtegcaaobpbocfaaGreatDoor
namespace Rows

/-- THE TIED CARD OF 'laws.FnExactEventRead'. -/
def fnExactEventReadCard : Claim7 := { stood := { row := fnExactEventReadRow, standIns := [], harness := (true, "2971fe2a1413d8aa3de97bd886bb0f16e72cdbc7c38f58e30e1d1cf7f799f54a"), looks := true }, kinds := [], alts := [], laidByText := true, laidKinds := [.data, .data, .data, .sentinel, .sentinel], laidTests := true, laidLooks := .later }
def FnExactEventReadCardSaid : Prop := Claim7.holds Tryz.pinned (.plain (OpenSpec.ofChange fnExactEventReadSpec)) fnExactEventReadCard

/-- THE SECOND FORM's CARD OF 'laws.FnExactEventRead'. -/
def fnExactEventReadUptoCard : Claim7 := { stood := { row := fnExactEventReadUptoRow, standIns := [], harness := (true, "2971fe2a1413d8aa3de97bd886bb0f16e72cdbc7c38f58e30e1d1cf7f799f54a"), looks := true }, kinds := [], alts := [], laidByText := true, laidKinds := [.data, .data, .data, .sentinel, .sentinel], laidTests := true, laidLooks := .later }
def FnExactEventReadUptoCardSaid : Prop := Claim7.holds Tryz.pinned (.plain (OpenSpec.upto fnExactEventReadSpec)) fnExactEventReadUptoCard
end Rows
end Go.Proofs.YtegcaaobpbocfaaGreatDoor
