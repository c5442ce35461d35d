/-
  DERIVED. GIVEN WITH THE SEED: THE CARDS: each row of YtdolpanbfpjnmaaGreatDoorRows.lean that lists a variable, with what it lists TIED to the program's text (the seventh form; the later family's looks); each row that meets fmt, with fmt's text TOLD by the authors' own Lean function (tested against real Go, not proved from fmt's source: count such statements apart). THE CARD IS WHAT COUNTS. Prove the row's statement (the work); the ties are given (YtdolpanbfpjnmaaGreatDoorTie.lean); close each card by the builder's one call (the guide's Derived/Test/ToyasCard.lean, 'card_holds'). Laid BY PROGRAM, IN A SANDBOX (cutbox-door.mjs). By AI agents, Wed Nov 11 2026. No macro, syntax, notation, axiom, sorry.
-/
import Derived.Test.YtdolpanbfpjnmaaGreatDoorRows
import GoSem.ClaimSeven
namespace Go.Proofs.YtdolpanbfpjnmaaGreatDoor
namespace Rows

/-- THE TIED CARD OF 'wardmotelaw29.MinorityShares'. -/
def minoritySharesCard : Claim7 := { stood := { row := minoritySharesRow, standIns := [], harness := (true, "67f63bedd3181e8a8878ac88ef1ab2189b2c04f2785d5ae8ba55a2b65db18c75"), looks := true }, kinds := [], alts := [], laidByText := true, laidKinds := [.data, .pinned], laidTests := true, laidLooks := .later }
def MinoritySharesCardSaid : Prop := Claim7.holds Tryz.pinned (.plain (OpenSpec.ofChange minoritySharesSpec)) minoritySharesCard

/-- THE TIED CARD OF 'wardmotelaw29.MinorityLines'. -/
def minorityLinesCard : Claim7 := { stood := { row := minorityLinesRow, standIns := [], harness := (true, "67f63bedd3181e8a8878ac88ef1ab2189b2c04f2785d5ae8ba55a2b65db18c75"), looks := true }, kinds := [], alts := [], laidByText := true, laidKinds := [.data, .pinned], laidTests := true, laidLooks := .later }
def MinorityLinesCardSaid : Prop := Claim7.holds Tryz.pinned (.plain (OpenSpec.ofChange minorityLinesSpec)) minorityLinesCard

/-- THE TIED CARD OF 'wardmotelaw29.MinorityIndexes'. -/
def minorityIndexesCard : Claim7 := { stood := { row := minorityIndexesRow, standIns := [], harness := (true, "67f63bedd3181e8a8878ac88ef1ab2189b2c04f2785d5ae8ba55a2b65db18c75"), looks := true }, kinds := [], alts := [], laidByText := true, laidKinds := [.data, .pinned], laidTests := true, laidLooks := .later }
def MinorityIndexesCardSaid : Prop := Claim7.holds Tryz.pinned (.plain (OpenSpec.ofChange minorityIndexesSpec)) minorityIndexesCard

/-- THE SECOND FORM's CARD OF 'wardmotelaw29.MinorityShares'. -/
def minoritySharesUptoCard : Claim7 := { stood := { row := minoritySharesUptoRow, standIns := [], harness := (true, "67f63bedd3181e8a8878ac88ef1ab2189b2c04f2785d5ae8ba55a2b65db18c75"), looks := true }, kinds := [], alts := [], laidByText := true, laidKinds := [.data, .pinned], laidTests := true, laidLooks := .later }
def MinoritySharesUptoCardSaid : Prop := Claim7.holds Tryz.pinned (.plain (OpenSpec.upto minoritySharesSpec)) minoritySharesUptoCard

/-- THE SECOND FORM's CARD OF 'wardmotelaw29.MinorityLines'. -/
def minorityLinesUptoCard : Claim7 := { stood := { row := minorityLinesUptoRow, standIns := [], harness := (true, "67f63bedd3181e8a8878ac88ef1ab2189b2c04f2785d5ae8ba55a2b65db18c75"), looks := true }, kinds := [], alts := [], laidByText := true, laidKinds := [.data, .pinned], laidTests := true, laidLooks := .later }
def MinorityLinesUptoCardSaid : Prop := Claim7.holds Tryz.pinned (.plain (OpenSpec.upto minorityLinesSpec)) minorityLinesUptoCard

/-- THE SECOND FORM's CARD OF 'wardmotelaw29.MinorityIndexes'. -/
def minorityIndexesUptoCard : Claim7 := { stood := { row := minorityIndexesUptoRow, standIns := [], harness := (true, "67f63bedd3181e8a8878ac88ef1ab2189b2c04f2785d5ae8ba55a2b65db18c75"), looks := true }, kinds := [], alts := [], laidByText := true, laidKinds := [.data, .pinned], laidTests := true, laidLooks := .later }
def MinorityIndexesUptoCardSaid : Prop := Claim7.holds Tryz.pinned (.plain (OpenSpec.upto minorityIndexesSpec)) minorityIndexesUptoCard
end Rows
end Go.Proofs.YtdolpanbfpjnmaaGreatDoor
