/-
  DERIVED. GIVEN WITH THE SEED: THE CARDS: each row of YtcijnmkodpfpgaaGreatDoorRows.lean that lists a variable, with what it lists TIED to the program's text (the seventh form; the later family's looks); each row that meets fmt, with fmt's text TOLD by the authors' own Lean function (tested against real Go, not proved from fmt's source: count such statements apart). THE CARD IS WHAT COUNTS. Prove the row's statement (the work); the ties are given (YtcijnmkodpfpgaaGreatDoorTie.lean); close each card by the builder's one call (the guide's Derived/Test/ToyasCard.lean, 'card_holds'). Laid BY PROGRAM, IN A SANDBOX (cutbox-door.mjs). By AI agents, Wed Nov 11 2026. No macro, syntax, notation, axiom, sorry.
-/
import Derived.Test.YtcijnmkodpfpgaaGreatDoorRows
import GoSem.ClaimSeven
namespace Go.Proofs.YtcijnmkodpfpgaaGreatDoor
namespace Rows

/-- THE TIED CARD OF 'wardmotelaw26.EditMakes'. -/
def editMakesCard : Claim7 := { stood := { row := editMakesRow, standIns := [], harness := (true, "e7d9395bab7b2f7bfe627412fe2cc369169b158d37908e8647b10ee6b6181870"), looks := true }, kinds := [], alts := [], laidByText := true, laidKinds := [.data, .pinned], laidTests := true, laidLooks := .later }
def EditMakesCardSaid : Prop := Claim7.holds Tryz.pinned (.plain (OpenSpec.ofChange editMakesSpec)) editMakesCard

/-- THE TIED CARD OF 'wardmotelaw26.EditBack'. -/
def editBackCard : Claim7 := { stood := { row := editBackRow, standIns := [], harness := (true, "e7d9395bab7b2f7bfe627412fe2cc369169b158d37908e8647b10ee6b6181870"), looks := true }, kinds := [], alts := [], laidByText := true, laidKinds := [.data, .pinned], laidTests := true, laidLooks := .later }
def EditBackCardSaid : Prop := Claim7.holds Tryz.pinned (.plain (OpenSpec.ofChange editBackSpec)) editBackCard

/-- THE TIED CARD OF 'wardmotelaw26.EditStays'. -/
def editStaysCard : Claim7 := { stood := { row := editStaysRow, standIns := [], harness := (true, "e7d9395bab7b2f7bfe627412fe2cc369169b158d37908e8647b10ee6b6181870"), looks := true }, kinds := [], alts := [], laidByText := true, laidKinds := [.data, .pinned], laidTests := true, laidLooks := .later }
def EditStaysCardSaid : Prop := Claim7.holds Tryz.pinned (.plain (OpenSpec.ofChange editStaysSpec)) editStaysCard

/-- THE TIED CARD OF 'wardmotelaw26.EditTotals'. -/
def editTotalsCard : Claim7 := { stood := { row := editTotalsRow, standIns := [], harness := (true, "e7d9395bab7b2f7bfe627412fe2cc369169b158d37908e8647b10ee6b6181870"), looks := true }, kinds := [], alts := [], laidByText := true, laidKinds := [.data, .pinned], laidTests := true, laidLooks := .later }
def EditTotalsCardSaid : Prop := Claim7.holds Tryz.pinned (.plain (OpenSpec.ofChange editTotalsSpec)) editTotalsCard

/-- THE TIED CARD OF 'wardmotelaw26.EditKnown'. -/
def editKnownCard : Claim7 := { stood := { row := editKnownRow, standIns := [], harness := (true, "e7d9395bab7b2f7bfe627412fe2cc369169b158d37908e8647b10ee6b6181870"), looks := true }, kinds := [], alts := [], laidByText := true, laidKinds := [.data, .pinned], laidTests := true, laidLooks := .later }
def EditKnownCardSaid : Prop := Claim7.holds Tryz.pinned (.plain (OpenSpec.ofChange editKnownSpec)) editKnownCard

/-- THE TIED CARD OF 'wardmotelaw26.EditSteps'. -/
def editStepsCard : Claim7 := { stood := { row := editStepsRow, standIns := [], harness := (true, "e7d9395bab7b2f7bfe627412fe2cc369169b158d37908e8647b10ee6b6181870"), looks := true }, kinds := [], alts := [], laidByText := true, laidKinds := [.data, .pinned], laidTests := true, laidLooks := .later }
def EditStepsCardSaid : Prop := Claim7.holds Tryz.pinned (.plain (OpenSpec.ofChange editStepsSpec)) editStepsCard

/-- THE SECOND FORM's CARD OF 'wardmotelaw26.EditMakes'. -/
def editMakesUptoCard : Claim7 := { stood := { row := editMakesUptoRow, standIns := [], harness := (true, "e7d9395bab7b2f7bfe627412fe2cc369169b158d37908e8647b10ee6b6181870"), looks := true }, kinds := [], alts := [], laidByText := true, laidKinds := [.data, .pinned], laidTests := true, laidLooks := .later }
def EditMakesUptoCardSaid : Prop := Claim7.holds Tryz.pinned (.plain (OpenSpec.upto editMakesSpec)) editMakesUptoCard

/-- THE SECOND FORM's CARD OF 'wardmotelaw26.EditBack'. -/
def editBackUptoCard : Claim7 := { stood := { row := editBackUptoRow, standIns := [], harness := (true, "e7d9395bab7b2f7bfe627412fe2cc369169b158d37908e8647b10ee6b6181870"), looks := true }, kinds := [], alts := [], laidByText := true, laidKinds := [.data, .pinned], laidTests := true, laidLooks := .later }
def EditBackUptoCardSaid : Prop := Claim7.holds Tryz.pinned (.plain (OpenSpec.upto editBackSpec)) editBackUptoCard

/-- THE SECOND FORM's CARD OF 'wardmotelaw26.EditStays'. -/
def editStaysUptoCard : Claim7 := { stood := { row := editStaysUptoRow, standIns := [], harness := (true, "e7d9395bab7b2f7bfe627412fe2cc369169b158d37908e8647b10ee6b6181870"), looks := true }, kinds := [], alts := [], laidByText := true, laidKinds := [.data, .pinned], laidTests := true, laidLooks := .later }
def EditStaysUptoCardSaid : Prop := Claim7.holds Tryz.pinned (.plain (OpenSpec.upto editStaysSpec)) editStaysUptoCard

/-- THE SECOND FORM's CARD OF 'wardmotelaw26.EditTotals'. -/
def editTotalsUptoCard : Claim7 := { stood := { row := editTotalsUptoRow, standIns := [], harness := (true, "e7d9395bab7b2f7bfe627412fe2cc369169b158d37908e8647b10ee6b6181870"), looks := true }, kinds := [], alts := [], laidByText := true, laidKinds := [.data, .pinned], laidTests := true, laidLooks := .later }
def EditTotalsUptoCardSaid : Prop := Claim7.holds Tryz.pinned (.plain (OpenSpec.upto editTotalsSpec)) editTotalsUptoCard

/-- THE SECOND FORM's CARD OF 'wardmotelaw26.EditKnown'. -/
def editKnownUptoCard : Claim7 := { stood := { row := editKnownUptoRow, standIns := [], harness := (true, "e7d9395bab7b2f7bfe627412fe2cc369169b158d37908e8647b10ee6b6181870"), looks := true }, kinds := [], alts := [], laidByText := true, laidKinds := [.data, .pinned], laidTests := true, laidLooks := .later }
def EditKnownUptoCardSaid : Prop := Claim7.holds Tryz.pinned (.plain (OpenSpec.upto editKnownSpec)) editKnownUptoCard

/-- THE SECOND FORM's CARD OF 'wardmotelaw26.EditSteps'. -/
def editStepsUptoCard : Claim7 := { stood := { row := editStepsUptoRow, standIns := [], harness := (true, "e7d9395bab7b2f7bfe627412fe2cc369169b158d37908e8647b10ee6b6181870"), looks := true }, kinds := [], alts := [], laidByText := true, laidKinds := [.data, .pinned], laidTests := true, laidLooks := .later }
def EditStepsUptoCardSaid : Prop := Claim7.holds Tryz.pinned (.plain (OpenSpec.upto editStepsSpec)) editStepsUptoCard
end Rows
end Go.Proofs.YtcijnmkodpfpgaaGreatDoor
