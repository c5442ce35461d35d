/-
  DERIVED. GIVEN WITH THE SEED: THE CARDS: each row of YtfccehcnajelgaaGreatDoorRows.lean that lists a variable, with what it lists TIED to the program's text (the seventh form; the later family's looks); each row that meets fmt, with fmt's text TOLD by the authors' own Lean function (tested against real Go, not proved from fmt's source: count such statements apart). THE CARD IS WHAT COUNTS. Prove the row's statement (the work); the ties are given (YtfccehcnajelgaaGreatDoorTie.lean); close each card by the builder's one call (the guide's Derived/Test/ToyasCard.lean, 'card_holds'). Laid BY PROGRAM, IN A SANDBOX (cutbox-door.mjs). By AI agents, Wed Nov 11 2026. No macro, syntax, notation, axiom, sorry.
-/
import Derived.Test.YtfccehcnajelgaaGreatDoorRows
import GoSem.ClaimSeven
namespace Go.Proofs.YtfccehcnajelgaaGreatDoor
namespace Rows

/-- THE TIED CARD OF 'wardmotelaw27.InterestChecks'. -/
def interestChecksCard : Claim7 := { stood := { row := interestChecksRow, standIns := [], harness := (true, "8aa273999492bdafe04c8768203a6101a57a34fb69893d28e29f7be87f06680c"), looks := true }, kinds := [], alts := [], laidByText := true, laidKinds := [.data, .data, .pinned], laidTests := true, laidLooks := .later }
def InterestChecksCardSaid : Prop := Claim7.holds Tryz.pinned (.plain (OpenSpec.ofChange interestChecksSpec)) interestChecksCard

/-- THE TIED CARD OF 'wardmotelaw27.InterestScores'. -/
def interestScoresCard : Claim7 := { stood := { row := interestScoresRow, standIns := [], harness := (true, "8aa273999492bdafe04c8768203a6101a57a34fb69893d28e29f7be87f06680c"), looks := true }, kinds := [], alts := [], laidByText := true, laidKinds := [.data, .data, .pinned], laidTests := true, laidLooks := .later }
def InterestScoresCardSaid : Prop := Claim7.holds Tryz.pinned (.plain (OpenSpec.ofChange interestScoresSpec)) interestScoresCard

/-- THE TIED CARD OF 'wardmotelaw27.InterestParts'. -/
def interestPartsCard : Claim7 := { stood := { row := interestPartsRow, standIns := [], harness := (true, "8aa273999492bdafe04c8768203a6101a57a34fb69893d28e29f7be87f06680c"), looks := true }, kinds := [], alts := [], laidByText := true, laidKinds := [.data, .data, .pinned], laidTests := true, laidLooks := .later }
def InterestPartsCardSaid : Prop := Claim7.holds Tryz.pinned (.plain (OpenSpec.ofChange interestPartsSpec)) interestPartsCard

/-- THE TIED CARD OF 'wardmotelaw27.InterestOverlaps'. -/
def interestOverlapsCard : Claim7 := { stood := { row := interestOverlapsRow, standIns := [], harness := (true, "8aa273999492bdafe04c8768203a6101a57a34fb69893d28e29f7be87f06680c"), looks := true }, kinds := [], alts := [], laidByText := true, laidKinds := [.data, .data, .pinned], laidTests := true, laidLooks := .later }
def InterestOverlapsCardSaid : Prop := Claim7.holds Tryz.pinned (.plain (OpenSpec.ofChange interestOverlapsSpec)) interestOverlapsCard

/-- THE TIED CARD OF 'wardmotelaw27.InterestMerges'. -/
def interestMergesCard : Claim7 := { stood := { row := interestMergesRow, standIns := [], harness := (true, "8aa273999492bdafe04c8768203a6101a57a34fb69893d28e29f7be87f06680c"), looks := true }, kinds := [], alts := [], laidByText := true, laidKinds := [.data, .data, .pinned], laidTests := true, laidLooks := .later }
def InterestMergesCardSaid : Prop := Claim7.holds Tryz.pinned (.plain (OpenSpec.ofChange interestMergesSpec)) interestMergesCard

/-- THE TIED CARD OF 'wardmotelaw27.InterestShares'. -/
def interestSharesCard : Claim7 := { stood := { row := interestSharesRow, standIns := [], harness := (true, "8aa273999492bdafe04c8768203a6101a57a34fb69893d28e29f7be87f06680c"), looks := true }, kinds := [], alts := [], laidByText := true, laidKinds := [.data, .data, .pinned], laidTests := true, laidLooks := .later }
def InterestSharesCardSaid : Prop := Claim7.holds Tryz.pinned (.plain (OpenSpec.ofChange interestSharesSpec)) interestSharesCard

/-- THE TIED CARD OF 'wardmotelaw27.InterestKnown'. -/
def interestKnownCard : Claim7 := { stood := { row := interestKnownRow, standIns := [], harness := (true, "8aa273999492bdafe04c8768203a6101a57a34fb69893d28e29f7be87f06680c"), looks := true }, kinds := [], alts := [], laidByText := true, laidKinds := [.data, .data, .pinned], laidTests := true, laidLooks := .later }
def InterestKnownCardSaid : Prop := Claim7.holds Tryz.pinned (.plain (OpenSpec.ofChange interestKnownSpec)) interestKnownCard

/-- THE SECOND FORM's CARD OF 'wardmotelaw27.InterestChecks'. -/
def interestChecksUptoCard : Claim7 := { stood := { row := interestChecksUptoRow, standIns := [], harness := (true, "8aa273999492bdafe04c8768203a6101a57a34fb69893d28e29f7be87f06680c"), looks := true }, kinds := [], alts := [], laidByText := true, laidKinds := [.data, .data, .pinned], laidTests := true, laidLooks := .later }
def InterestChecksUptoCardSaid : Prop := Claim7.holds Tryz.pinned (.plain (OpenSpec.upto interestChecksSpec)) interestChecksUptoCard

/-- THE SECOND FORM's CARD OF 'wardmotelaw27.InterestScores'. -/
def interestScoresUptoCard : Claim7 := { stood := { row := interestScoresUptoRow, standIns := [], harness := (true, "8aa273999492bdafe04c8768203a6101a57a34fb69893d28e29f7be87f06680c"), looks := true }, kinds := [], alts := [], laidByText := true, laidKinds := [.data, .data, .pinned], laidTests := true, laidLooks := .later }
def InterestScoresUptoCardSaid : Prop := Claim7.holds Tryz.pinned (.plain (OpenSpec.upto interestScoresSpec)) interestScoresUptoCard

/-- THE SECOND FORM's CARD OF 'wardmotelaw27.InterestParts'. -/
def interestPartsUptoCard : Claim7 := { stood := { row := interestPartsUptoRow, standIns := [], harness := (true, "8aa273999492bdafe04c8768203a6101a57a34fb69893d28e29f7be87f06680c"), looks := true }, kinds := [], alts := [], laidByText := true, laidKinds := [.data, .data, .pinned], laidTests := true, laidLooks := .later }
def InterestPartsUptoCardSaid : Prop := Claim7.holds Tryz.pinned (.plain (OpenSpec.upto interestPartsSpec)) interestPartsUptoCard

/-- THE SECOND FORM's CARD OF 'wardmotelaw27.InterestOverlaps'. -/
def interestOverlapsUptoCard : Claim7 := { stood := { row := interestOverlapsUptoRow, standIns := [], harness := (true, "8aa273999492bdafe04c8768203a6101a57a34fb69893d28e29f7be87f06680c"), looks := true }, kinds := [], alts := [], laidByText := true, laidKinds := [.data, .data, .pinned], laidTests := true, laidLooks := .later }
def InterestOverlapsUptoCardSaid : Prop := Claim7.holds Tryz.pinned (.plain (OpenSpec.upto interestOverlapsSpec)) interestOverlapsUptoCard

/-- THE SECOND FORM's CARD OF 'wardmotelaw27.InterestMerges'. -/
def interestMergesUptoCard : Claim7 := { stood := { row := interestMergesUptoRow, standIns := [], harness := (true, "8aa273999492bdafe04c8768203a6101a57a34fb69893d28e29f7be87f06680c"), looks := true }, kinds := [], alts := [], laidByText := true, laidKinds := [.data, .data, .pinned], laidTests := true, laidLooks := .later }
def InterestMergesUptoCardSaid : Prop := Claim7.holds Tryz.pinned (.plain (OpenSpec.upto interestMergesSpec)) interestMergesUptoCard

/-- THE SECOND FORM's CARD OF 'wardmotelaw27.InterestShares'. -/
def interestSharesUptoCard : Claim7 := { stood := { row := interestSharesUptoRow, standIns := [], harness := (true, "8aa273999492bdafe04c8768203a6101a57a34fb69893d28e29f7be87f06680c"), looks := true }, kinds := [], alts := [], laidByText := true, laidKinds := [.data, .data, .pinned], laidTests := true, laidLooks := .later }
def InterestSharesUptoCardSaid : Prop := Claim7.holds Tryz.pinned (.plain (OpenSpec.upto interestSharesSpec)) interestSharesUptoCard

/-- THE SECOND FORM's CARD OF 'wardmotelaw27.InterestKnown'. -/
def interestKnownUptoCard : Claim7 := { stood := { row := interestKnownUptoRow, standIns := [], harness := (true, "8aa273999492bdafe04c8768203a6101a57a34fb69893d28e29f7be87f06680c"), looks := true }, kinds := [], alts := [], laidByText := true, laidKinds := [.data, .data, .pinned], laidTests := true, laidLooks := .later }
def InterestKnownUptoCardSaid : Prop := Claim7.holds Tryz.pinned (.plain (OpenSpec.upto interestKnownSpec)) interestKnownUptoCard
end Rows
end Go.Proofs.YtfccehcnajelgaaGreatDoor
