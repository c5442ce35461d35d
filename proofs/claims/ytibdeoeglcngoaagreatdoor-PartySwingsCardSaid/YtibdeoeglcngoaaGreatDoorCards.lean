/-
  DERIVED. GIVEN WITH THE SEED: THE CARDS: each row of YtibdeoeglcngoaaGreatDoorRows.lean that lists a variable, with what it lists TIED to the program's text (the seventh form; the later family's looks); each row that meets fmt, with fmt's text TOLD by the authors' own Lean function (tested against real Go, not proved from fmt's source: count such statements apart). THE CARD IS WHAT COUNTS. Prove the row's statement (the work); the ties are given (YtibdeoeglcngoaaGreatDoorTie.lean); close each card by the builder's one call (the guide's Derived/Test/ToyasCard.lean, 'card_holds'). Laid BY PROGRAM, IN A SANDBOX (cutbox-door.mjs). By AI agents, Wed Nov 11 2026. No macro, syntax, notation, axiom, sorry.
-/
import Derived.Test.YtibdeoeglcngoaaGreatDoorRows
import GoSem.ClaimSeven
namespace Go.Proofs.YtibdeoeglcngoaaGreatDoor
namespace Rows

/-- THE TIED CARD OF 'wardmotelaw28.PartyMeasures'. -/
def partyMeasuresCard : Claim7 := { stood := { row := partyMeasuresRow, standIns := [], harness := (true, "b4b079ea1d7ad664609ca8aa8981360cd289f02e64897b6ae170a9844f36a96f"), looks := true }, kinds := [], alts := [], laidByText := true, laidKinds := [.data, .pinned], laidTests := true, laidLooks := .later }
def PartyMeasuresCardSaid : Prop := Claim7.holds Tryz.pinned (.plain (OpenSpec.ofChange partyMeasuresSpec)) partyMeasuresCard

/-- THE TIED CARD OF 'wardmotelaw28.PartyGaps'. -/
def partyGapsCard : Claim7 := { stood := { row := partyGapsRow, standIns := [], harness := (true, "b4b079ea1d7ad664609ca8aa8981360cd289f02e64897b6ae170a9844f36a96f"), looks := true }, kinds := [], alts := [], laidByText := true, laidKinds := [.data, .pinned], laidTests := true, laidLooks := .later }
def PartyGapsCardSaid : Prop := Claim7.holds Tryz.pinned (.plain (OpenSpec.ofChange partyGapsSpec)) partyGapsCard

/-- THE TIED CARD OF 'wardmotelaw28.PartyWins'. -/
def partyWinsCard : Claim7 := { stood := { row := partyWinsRow, standIns := [], harness := (true, "b4b079ea1d7ad664609ca8aa8981360cd289f02e64897b6ae170a9844f36a96f"), looks := true }, kinds := [], alts := [], laidByText := true, laidKinds := [.data, .pinned], laidTests := true, laidLooks := .later }
def PartyWinsCardSaid : Prop := Claim7.holds Tryz.pinned (.plain (OpenSpec.ofChange partyWinsSpec)) partyWinsCard

/-- THE TIED CARD OF 'wardmotelaw28.PartyKnown'. -/
def partyKnownCard : Claim7 := { stood := { row := partyKnownRow, standIns := [], harness := (true, "b4b079ea1d7ad664609ca8aa8981360cd289f02e64897b6ae170a9844f36a96f"), looks := true }, kinds := [], alts := [], laidByText := true, laidKinds := [.data, .pinned], laidTests := true, laidLooks := .later }
def PartyKnownCardSaid : Prop := Claim7.holds Tryz.pinned (.plain (OpenSpec.ofChange partyKnownSpec)) partyKnownCard

/-- THE TIED CARD OF 'wardmotelaw28.PartySwings'. -/
def partySwingsCard : Claim7 := { stood := { row := partySwingsRow, standIns := [], harness := (true, "b4b079ea1d7ad664609ca8aa8981360cd289f02e64897b6ae170a9844f36a96f"), looks := true }, kinds := [], alts := [], laidByText := true, laidKinds := [.data, .pinned], laidTests := true, laidLooks := .later }
def PartySwingsCardSaid : Prop := Claim7.holds Tryz.pinned (.plain (OpenSpec.ofChange partySwingsSpec)) partySwingsCard

/-- THE TIED CARD OF 'wardmotelaw28.PartyTurns'. -/
def partyTurnsCard : Claim7 := { stood := { row := partyTurnsRow, standIns := [], harness := (true, "b4b079ea1d7ad664609ca8aa8981360cd289f02e64897b6ae170a9844f36a96f"), looks := true }, kinds := [], alts := [], laidByText := true, laidKinds := [.data, .pinned], laidTests := true, laidLooks := .later }
def PartyTurnsCardSaid : Prop := Claim7.holds Tryz.pinned (.plain (OpenSpec.ofChange partyTurnsSpec)) partyTurnsCard

/-- THE TIED CARD OF 'wardmotelaw28.PartySeats'. -/
def partySeatsCard : Claim7 := { stood := { row := partySeatsRow, standIns := [], harness := (true, "b4b079ea1d7ad664609ca8aa8981360cd289f02e64897b6ae170a9844f36a96f"), looks := true }, kinds := [], alts := [], laidByText := true, laidKinds := [.data, .pinned], laidTests := true, laidLooks := .later }
def PartySeatsCardSaid : Prop := Claim7.holds Tryz.pinned (.plain (OpenSpec.ofChange partySeatsSpec)) partySeatsCard

/-- THE SECOND FORM's CARD OF 'wardmotelaw28.PartyMeasures'. -/
def partyMeasuresUptoCard : Claim7 := { stood := { row := partyMeasuresUptoRow, standIns := [], harness := (true, "b4b079ea1d7ad664609ca8aa8981360cd289f02e64897b6ae170a9844f36a96f"), looks := true }, kinds := [], alts := [], laidByText := true, laidKinds := [.data, .pinned], laidTests := true, laidLooks := .later }
def PartyMeasuresUptoCardSaid : Prop := Claim7.holds Tryz.pinned (.plain (OpenSpec.upto partyMeasuresSpec)) partyMeasuresUptoCard

/-- THE SECOND FORM's CARD OF 'wardmotelaw28.PartyGaps'. -/
def partyGapsUptoCard : Claim7 := { stood := { row := partyGapsUptoRow, standIns := [], harness := (true, "b4b079ea1d7ad664609ca8aa8981360cd289f02e64897b6ae170a9844f36a96f"), looks := true }, kinds := [], alts := [], laidByText := true, laidKinds := [.data, .pinned], laidTests := true, laidLooks := .later }
def PartyGapsUptoCardSaid : Prop := Claim7.holds Tryz.pinned (.plain (OpenSpec.upto partyGapsSpec)) partyGapsUptoCard

/-- THE SECOND FORM's CARD OF 'wardmotelaw28.PartyWins'. -/
def partyWinsUptoCard : Claim7 := { stood := { row := partyWinsUptoRow, standIns := [], harness := (true, "b4b079ea1d7ad664609ca8aa8981360cd289f02e64897b6ae170a9844f36a96f"), looks := true }, kinds := [], alts := [], laidByText := true, laidKinds := [.data, .pinned], laidTests := true, laidLooks := .later }
def PartyWinsUptoCardSaid : Prop := Claim7.holds Tryz.pinned (.plain (OpenSpec.upto partyWinsSpec)) partyWinsUptoCard

/-- THE SECOND FORM's CARD OF 'wardmotelaw28.PartyKnown'. -/
def partyKnownUptoCard : Claim7 := { stood := { row := partyKnownUptoRow, standIns := [], harness := (true, "b4b079ea1d7ad664609ca8aa8981360cd289f02e64897b6ae170a9844f36a96f"), looks := true }, kinds := [], alts := [], laidByText := true, laidKinds := [.data, .pinned], laidTests := true, laidLooks := .later }
def PartyKnownUptoCardSaid : Prop := Claim7.holds Tryz.pinned (.plain (OpenSpec.upto partyKnownSpec)) partyKnownUptoCard

/-- THE SECOND FORM's CARD OF 'wardmotelaw28.PartySwings'. -/
def partySwingsUptoCard : Claim7 := { stood := { row := partySwingsUptoRow, standIns := [], harness := (true, "b4b079ea1d7ad664609ca8aa8981360cd289f02e64897b6ae170a9844f36a96f"), looks := true }, kinds := [], alts := [], laidByText := true, laidKinds := [.data, .pinned], laidTests := true, laidLooks := .later }
def PartySwingsUptoCardSaid : Prop := Claim7.holds Tryz.pinned (.plain (OpenSpec.upto partySwingsSpec)) partySwingsUptoCard

/-- THE SECOND FORM's CARD OF 'wardmotelaw28.PartyTurns'. -/
def partyTurnsUptoCard : Claim7 := { stood := { row := partyTurnsUptoRow, standIns := [], harness := (true, "b4b079ea1d7ad664609ca8aa8981360cd289f02e64897b6ae170a9844f36a96f"), looks := true }, kinds := [], alts := [], laidByText := true, laidKinds := [.data, .pinned], laidTests := true, laidLooks := .later }
def PartyTurnsUptoCardSaid : Prop := Claim7.holds Tryz.pinned (.plain (OpenSpec.upto partyTurnsSpec)) partyTurnsUptoCard

/-- THE SECOND FORM's CARD OF 'wardmotelaw28.PartySeats'. -/
def partySeatsUptoCard : Claim7 := { stood := { row := partySeatsUptoRow, standIns := [], harness := (true, "b4b079ea1d7ad664609ca8aa8981360cd289f02e64897b6ae170a9844f36a96f"), looks := true }, kinds := [], alts := [], laidByText := true, laidKinds := [.data, .pinned], laidTests := true, laidLooks := .later }
def PartySeatsUptoCardSaid : Prop := Claim7.holds Tryz.pinned (.plain (OpenSpec.upto partySeatsSpec)) partySeatsUptoCard
end Rows
end Go.Proofs.YtibdeoeglcngoaaGreatDoor
