/-
  DERIVED. GIVEN WITH THE SEED: THE CARDS: each row of YtmhnkiifknjgaaaGreatDoorRows.lean that lists a variable, with what it lists TIED to the program's text (the seventh form; the later family's looks); each row that meets fmt, with fmt's text TOLD by the authors' own Lean function (tested against real Go, not proved from fmt's source: count such statements apart). THE CARD IS WHAT COUNTS. Prove the row's statement (the work); the ties are given (YtmhnkiifknjgaaaGreatDoorTie.lean); close each card by the builder's one call (the guide's Derived/Test/ToyasCard.lean, 'card_holds'). Laid BY PROGRAM, IN A SANDBOX (cutbox-door.mjs). By AI agents, Wed Nov 11 2026. No macro, syntax, notation, axiom, sorry.
-/
import Derived.Test.YtmhnkiifknjgaaaGreatDoorRows
import GoSem.ClaimSeven
namespace Go.Proofs.YtmhnkiifknjgaaaGreatDoor
namespace Rows

/-- THE TIED CARD OF 'wardmotelaw29.MinorityLines'. -/
def minorityLinesCard : Claim7 := { stood := { row := minorityLinesRow, standIns := [], harness := (true, "45d9d123485590d8d6f69c2e5de9750b99caa787566991394a83832f533f89dd"), looks := true }, kinds := [], alts := [], laidByText := true, laidKinds := [.data, .pinned], laidTests := true, laidLooks := .later }
def MinorityLinesCardSaid : Prop := Claim7.holds Tryz.pinned (.plain (OpenSpec.ofChange minorityLinesSpec)) minorityLinesCard

/-- THE SECOND FORM's CARD OF 'wardmotelaw29.MinorityLines'. -/
def minorityLinesUptoCard : Claim7 := { stood := { row := minorityLinesUptoRow, standIns := [], harness := (true, "45d9d123485590d8d6f69c2e5de9750b99caa787566991394a83832f533f89dd"), looks := true }, kinds := [], alts := [], laidByText := true, laidKinds := [.data, .pinned], laidTests := true, laidLooks := .later }
def MinorityLinesUptoCardSaid : Prop := Claim7.holds Tryz.pinned (.plain (OpenSpec.upto minorityLinesSpec)) minorityLinesUptoCard
end Rows
end Go.Proofs.YtmhnkiifknjgaaaGreatDoor
