/-
  DERIVED. GIVEN WITH THE SEED: THE CARDS: each row of YtichhhehkcfoaaaGreatDoorRows.lean that lists a variable, with what it lists TIED to the program's text (the seventh form; the later family's looks); each row that meets fmt, with fmt's text TOLD by the authors' own Lean function (tested against real Go, not proved from fmt's source: count such statements apart). THE CARD IS WHAT COUNTS. Prove the row's statement (the work); the ties are given (YtichhhehkcfoaaaGreatDoorTie.lean); close each card by the builder's one call (the guide's Derived/Test/ToyasCard.lean, 'card_holds'). Laid BY PROGRAM, IN A SANDBOX (cutbox-door.mjs). By AI agents, Wed Nov 11 2026. No macro, syntax, notation, axiom, sorry.
-/
import Derived.Test.YtichhhehkcfoaaaGreatDoorRows
import GoSem.ClaimSeven
namespace Go.Proofs.YtichhhehkcfoaaaGreatDoor
namespace Rows

/-- THE TIED CARD OF 'wardmotelaw29.MinorityCounts'. -/
def minorityCountsCard : Claim7 := { stood := { row := minorityCountsRow, standIns := [], harness := (true, "40887ea317386a7384828e899e8185d8c6a1917a5d68537c01a74ff2a389e6b9"), looks := true }, kinds := [], alts := [], laidByText := true, laidKinds := [.data, .pinned], laidTests := true, laidLooks := .later }
def MinorityCountsCardSaid : Prop := Claim7.holds Tryz.pinned (.plain (OpenSpec.ofChange minorityCountsSpec)) minorityCountsCard

/-- THE TIED CARD OF 'wardmotelaw29.MinorityIndexes'. -/
def minorityIndexesCard : Claim7 := { stood := { row := minorityIndexesRow, standIns := [], harness := (true, "40887ea317386a7384828e899e8185d8c6a1917a5d68537c01a74ff2a389e6b9"), looks := true }, kinds := [], alts := [], laidByText := true, laidKinds := [.data, .pinned], laidTests := true, laidLooks := .later }
def MinorityIndexesCardSaid : Prop := Claim7.holds Tryz.pinned (.plain (OpenSpec.ofChange minorityIndexesSpec)) minorityIndexesCard

/-- THE SECOND FORM's CARD OF 'wardmotelaw29.MinorityCounts'. -/
def minorityCountsUptoCard : Claim7 := { stood := { row := minorityCountsUptoRow, standIns := [], harness := (true, "40887ea317386a7384828e899e8185d8c6a1917a5d68537c01a74ff2a389e6b9"), looks := true }, kinds := [], alts := [], laidByText := true, laidKinds := [.data, .pinned], laidTests := true, laidLooks := .later }
def MinorityCountsUptoCardSaid : Prop := Claim7.holds Tryz.pinned (.plain (OpenSpec.upto minorityCountsSpec)) minorityCountsUptoCard

/-- THE SECOND FORM's CARD OF 'wardmotelaw29.MinorityIndexes'. -/
def minorityIndexesUptoCard : Claim7 := { stood := { row := minorityIndexesUptoRow, standIns := [], harness := (true, "40887ea317386a7384828e899e8185d8c6a1917a5d68537c01a74ff2a389e6b9"), looks := true }, kinds := [], alts := [], laidByText := true, laidKinds := [.data, .pinned], laidTests := true, laidLooks := .later }
def MinorityIndexesUptoCardSaid : Prop := Claim7.holds Tryz.pinned (.plain (OpenSpec.upto minorityIndexesSpec)) minorityIndexesUptoCard
end Rows
end Go.Proofs.YtichhhehkcfoaaaGreatDoor
