/-
  DERIVED. GIVEN WITH THE SEED: THE CARDS: each row of YteldjmljidmffaaGreatDoorRows.lean that lists a variable, with what it lists TIED to the program's text (the seventh form; the later family's looks); each row that meets fmt, with fmt's text TOLD by the authors' own Lean function (tested against real Go, not proved from fmt's source: count such statements apart). THE CARD IS WHAT COUNTS. Prove the row's statement (the work); the ties are given (YteldjmljidmffaaGreatDoorTie.lean); close each card by the builder's one call (the guide's Derived/Test/ToyasCard.lean, 'card_holds'). Laid BY PROGRAM, IN A SANDBOX (cutbox-door.mjs). By AI agents, Wed Nov 11 2026. No macro, syntax, notation, axiom, sorry.
-/
import Derived.Test.YteldjmljidmffaaGreatDoorRows
import GoSem.ClaimSeven
namespace Go.Proofs.YteldjmljidmffaaGreatDoor
namespace Rows

/-- THE TIED CARD OF 'laws.FnPeopleMeet'. -/
def fnPeopleMeetCard : Claim7 := { stood := { row := fnPeopleMeetRow, standIns := [], harness := (true, "ba63e1bafd14b942ac63c68cbf9b864eaf0e865680bdf1246c736a50683e2532"), looks := true }, kinds := [], alts := [], laidByText := true, laidKinds := [.data, .data, .data, .data, .sentinel, .sentinel, .pinned], laidTests := true, laidLooks := .later }
def FnPeopleMeetCardSaid : Prop := Claim7.holds Tryz.pinned (.plain (OpenSpec.ofChange fnPeopleMeetSpec)) fnPeopleMeetCard

/-- THE SECOND FORM's CARD OF 'laws.FnPeopleMeet'. -/
def fnPeopleMeetUptoCard : Claim7 := { stood := { row := fnPeopleMeetUptoRow, standIns := [], harness := (true, "ba63e1bafd14b942ac63c68cbf9b864eaf0e865680bdf1246c736a50683e2532"), looks := true }, kinds := [], alts := [], laidByText := true, laidKinds := [.data, .data, .data, .data, .sentinel, .sentinel, .pinned], laidTests := true, laidLooks := .later }
def FnPeopleMeetUptoCardSaid : Prop := Claim7.holds Tryz.pinned (.plain (OpenSpec.upto fnPeopleMeetSpec)) fnPeopleMeetUptoCard
end Rows
end Go.Proofs.YteldjmljidmffaaGreatDoor
