/-
  DERIVED. GIVEN WITH THE SEED: THE CARDS: each row of YthffdckehlgmgaaGreatDoorRows.lean that lists a variable, with what it lists TIED to the program's text (the seventh form; the later family's looks); each row that meets fmt, with fmt's text TOLD by the authors' own Lean function (tested against real Go, not proved from fmt's source: count such statements apart). THE CARD IS WHAT COUNTS. Prove the row's statement (the work); the ties are given (YthffdckehlgmgaaGreatDoorTie.lean); close each card by the builder's one call (the guide's Derived/Test/ToyasCard.lean, 'card_holds'). Laid BY PROGRAM, IN A SANDBOX (cutbox-door.mjs). By AI agents, Wed Nov 11 2026. No macro, syntax, notation, axiom, sorry.
-/
import Derived.Test.YthffdckehlgmgaaGreatDoorRows
import GoSem.ClaimSeven
namespace Go.Proofs.YthffdckehlgmgaaGreatDoor
namespace Rows

/-- THE TIED CARD OF 'wardmotelaw28.PartyMeasures'. -/
def partyMeasuresCard : Claim7 := { stood := { row := partyMeasuresRow, standIns := [], harness := (true, "6a3641ba2c095d3b40f72d648588eb67b78ea98fd60e28ae5fca4d61cd310a9f"), looks := true }, kinds := [], alts := [], laidByText := true, laidKinds := [.data, .pinned], laidTests := true, laidLooks := .later }
def PartyMeasuresCardSaid : Prop := Claim7.holds Tryz.pinned (.plain (OpenSpec.ofChange partyMeasuresSpec)) partyMeasuresCard

/-- THE SECOND FORM's CARD OF 'wardmotelaw28.PartyMeasures'. -/
def partyMeasuresUptoCard : Claim7 := { stood := { row := partyMeasuresUptoRow, standIns := [], harness := (true, "6a3641ba2c095d3b40f72d648588eb67b78ea98fd60e28ae5fca4d61cd310a9f"), looks := true }, kinds := [], alts := [], laidByText := true, laidKinds := [.data, .pinned], laidTests := true, laidLooks := .later }
def PartyMeasuresUptoCardSaid : Prop := Claim7.holds Tryz.pinned (.plain (OpenSpec.upto partyMeasuresSpec)) partyMeasuresUptoCard
end Rows
end Go.Proofs.YthffdckehlgmgaaGreatDoor
