/-
  DERIVED. GIVEN WITH THE SEED: THE CARDS: each row of YtgpnnepagfnfgaaDoorRows.lean that lists a variable, with what it lists TIED to the program's text (the seventh form; the later family's looks); each row that meets fmt, with fmt's text TOLD by the authors' own Lean function (tested against real Go, not proved from fmt's source: count such statements apart). THE CARD IS WHAT COUNTS. Prove the row's statement (the work); the ties are given (YtgpnnepagfnfgaaDoorTie.lean); close each card by the builder's one call (the guide's Derived/Test/ToyasCard.lean, 'card_holds'). Laid BY PROGRAM, IN A SANDBOX (cutbox-door.mjs). By AI agents, Wed Nov 11 2026. No macro, syntax, notation, axiom, sorry.
-/
import Derived.Test.YtgpnnepagfnfgaaDoorRows
import GoSem.ClaimSeven
namespace Go.Proofs.YtgpnnepagfnfgaaDoor
namespace Rows

/-- THE TIED CARD OF 'laws.FnExactParsePeople'. -/
def fnExactParsePeopleCard : Claim7 := { stood := { row := fnExactParsePeopleRow, standIns := [], harness := (true, "506a5f714bd6cb2d65b4b6c05a00dc12274a57a5ad167ec68bd2bfee4744d6c9"), looks := true }, kinds := [], alts := [], laidByText := true, laidKinds := [.data, .data, .data, .data, .sentinel, .sentinel, .pinned], laidTests := true, laidLooks := .later }
def FnExactParsePeopleCardSaid : Prop := Claim7.holds Tryd.pinned (.plain (OpenSpec.ofChange fnExactParsePeopleSpec)) fnExactParsePeopleCard

/-- THE TIED CARD OF 'laws.FnExactPeopleText'. -/
def fnExactPeopleTextCard : Claim7 := { stood := { row := fnExactPeopleTextRow, standIns := [], harness := (true, "506a5f714bd6cb2d65b4b6c05a00dc12274a57a5ad167ec68bd2bfee4744d6c9"), looks := true }, kinds := [], alts := [], laidByText := true, laidKinds := [.data, .data, .data], laidTests := true, laidLooks := .later }
def FnExactPeopleTextCardSaid : Prop := Claim7.holds Tryd.pinned (.plain (OpenSpec.ofChange fnExactPeopleTextSpec)) fnExactPeopleTextCard

/-- THE SECOND FORM's CARD OF 'laws.FnExactParsePeople'. -/
def fnExactParsePeopleUptoCard : Claim7 := { stood := { row := fnExactParsePeopleUptoRow, standIns := [], harness := (true, "506a5f714bd6cb2d65b4b6c05a00dc12274a57a5ad167ec68bd2bfee4744d6c9"), looks := true }, kinds := [], alts := [], laidByText := true, laidKinds := [.data, .data, .data, .data, .sentinel, .sentinel, .pinned], laidTests := true, laidLooks := .later }
def FnExactParsePeopleUptoCardSaid : Prop := Claim7.holds Tryd.pinned (.plain (OpenSpec.upto fnExactParsePeopleSpec)) fnExactParsePeopleUptoCard

/-- THE SECOND FORM's CARD OF 'laws.FnExactPeopleText'. -/
def fnExactPeopleTextUptoCard : Claim7 := { stood := { row := fnExactPeopleTextUptoRow, standIns := [], harness := (true, "506a5f714bd6cb2d65b4b6c05a00dc12274a57a5ad167ec68bd2bfee4744d6c9"), looks := true }, kinds := [], alts := [], laidByText := true, laidKinds := [.data, .data, .data], laidTests := true, laidLooks := .later }
def FnExactPeopleTextUptoCardSaid : Prop := Claim7.holds Tryd.pinned (.plain (OpenSpec.upto fnExactPeopleTextSpec)) fnExactPeopleTextUptoCard
end Rows
end Go.Proofs.YtgpnnepagfnfgaaDoor
