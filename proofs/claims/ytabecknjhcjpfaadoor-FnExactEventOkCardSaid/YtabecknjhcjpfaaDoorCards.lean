/-
  DERIVED. GIVEN WITH THE SEED: THE CARDS: each row of YtabecknjhcjpfaaDoorRows.lean that lists a variable, with what it lists TIED to the program's text (the seventh form; the later family's looks); each row that meets fmt, with fmt's text TOLD by the authors' own Lean function (tested against real Go, not proved from fmt's source: count such statements apart). THE CARD IS WHAT COUNTS. Prove the row's statement (the work); the ties are given (YtabecknjhcjpfaaDoorTie.lean); close each card by the builder's one call (the guide's Derived/Test/ToyasCard.lean, 'card_holds'). Laid BY PROGRAM, IN A SANDBOX (cutbox-door.mjs). By AI agents, Wed Nov 11 2026. No macro, syntax, notation, axiom, sorry.
-/
import Derived.Test.YtabecknjhcjpfaaDoorRows
import GoSem.ClaimSeven
namespace Go.Proofs.YtabecknjhcjpfaaDoor
namespace Rows

/-- THE TIED CARD OF 'laws.FnExactEventOk'. -/
def fnExactEventOkCard : Claim7 := { stood := { row := fnExactEventOkRow, standIns := [], harness := (true, "a7425abdd0c08b1892aead78d14b18d02a986f4a24ab0d281629ed1e47f744c1"), looks := true }, kinds := [], alts := [], laidByText := true, laidKinds := [.data, .data, .data, .sentinel, .sentinel], laidTests := true, laidLooks := .later }
def FnExactEventOkCardSaid : Prop := Claim7.holds Tryd.pinned (.plain (OpenSpec.ofChange fnExactEventOkSpec)) fnExactEventOkCard

/-- THE SECOND FORM's CARD OF 'laws.FnExactEventOk'. -/
def fnExactEventOkUptoCard : Claim7 := { stood := { row := fnExactEventOkUptoRow, standIns := [], harness := (true, "a7425abdd0c08b1892aead78d14b18d02a986f4a24ab0d281629ed1e47f744c1"), looks := true }, kinds := [], alts := [], laidByText := true, laidKinds := [.data, .data, .data, .sentinel, .sentinel], laidTests := true, laidLooks := .later }
def FnExactEventOkUptoCardSaid : Prop := Claim7.holds Tryd.pinned (.plain (OpenSpec.upto fnExactEventOkSpec)) fnExactEventOkUptoCard
end Rows
end Go.Proofs.YtabecknjhcjpfaaDoor
