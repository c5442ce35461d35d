/-
  DERIVED. GIVEN WITH THE SEED: THE CARDS: each row of YtfncplndfpgngaaGreatDoorRows.lean that lists a variable, with what it lists TIED to the program's text (the seventh form; the later family's looks); each row that meets fmt, with fmt's text TOLD by the authors' own Lean function (tested against real Go, not proved from fmt's source: count such statements apart). THE CARD IS WHAT COUNTS. Prove the row's statement (the work); the ties are given (YtfncplndfpgngaaGreatDoorTie.lean); close each card by the builder's one call (the guide's Derived/Test/ToyasCard.lean, 'card_holds'). Laid BY PROGRAM, IN A SANDBOX (cutbox-door.mjs). By AI agents, Wed Nov 11 2026. No macro, syntax, notation, axiom, sorry.
-/
import Derived.Test.YtfncplndfpgngaaGreatDoorRows
import GoSem.ClaimSeven
namespace Go.Proofs.YtfncplndfpgngaaGreatDoor
namespace Rows

/-- THE TIED CARD OF 'wardmotelaw23.SplitPieces'. -/
def splitPiecesCard : Claim7 := { stood := { row := splitPiecesRow, standIns := [], harness := (true, "1694a410f8c93ed012e9ae2534f49a1e6fe171e7ba414fd4ab93c931bdd3eb50"), looks := true }, kinds := [], alts := [], laidByText := true, laidKinds := [.data, .pinned], laidTests := true, laidLooks := .later }
def SplitPiecesCardSaid : Prop := Claim7.holds Tryz.pinned (.plain (OpenSpec.ofChange splitPiecesSpec)) splitPiecesCard

/-- THE TIED CARD OF 'wardmotelaw23.SplitCounts'. -/
def splitCountsCard : Claim7 := { stood := { row := splitCountsRow, standIns := [], harness := (true, "1694a410f8c93ed012e9ae2534f49a1e6fe171e7ba414fd4ab93c931bdd3eb50"), looks := true }, kinds := [], alts := [], laidByText := true, laidKinds := [.data, .pinned], laidTests := true, laidLooks := .later }
def SplitCountsCardSaid : Prop := Claim7.holds Tryz.pinned (.plain (OpenSpec.ofChange splitCountsSpec)) splitCountsCard

/-- THE TIED CARD OF 'wardmotelaw23.SplitMerges'. -/
def splitMergesCard : Claim7 := { stood := { row := splitMergesRow, standIns := [], harness := (true, "1694a410f8c93ed012e9ae2534f49a1e6fe171e7ba414fd4ab93c931bdd3eb50"), looks := true }, kinds := [], alts := [], laidByText := true, laidKinds := [.data, .pinned], laidTests := true, laidLooks := .later }
def SplitMergesCardSaid : Prop := Claim7.holds Tryz.pinned (.plain (OpenSpec.ofChange splitMergesSpec)) splitMergesCard

/-- THE TIED CARD OF 'wardmotelaw23.SplitLevels'. -/
def splitLevelsCard : Claim7 := { stood := { row := splitLevelsRow, standIns := [], harness := (true, "1694a410f8c93ed012e9ae2534f49a1e6fe171e7ba414fd4ab93c931bdd3eb50"), looks := true }, kinds := [], alts := [], laidByText := true, laidKinds := [.data, .pinned], laidTests := true, laidLooks := .later }
def SplitLevelsCardSaid : Prop := Claim7.holds Tryz.pinned (.plain (OpenSpec.ofChange splitLevelsSpec)) splitLevelsCard

/-- THE TIED CARD OF 'wardmotelaw23.SplitNests'. -/
def splitNestsCard : Claim7 := { stood := { row := splitNestsRow, standIns := [], harness := (true, "1694a410f8c93ed012e9ae2534f49a1e6fe171e7ba414fd4ab93c931bdd3eb50"), looks := true }, kinds := [], alts := [], laidByText := true, laidKinds := [.data, .pinned], laidTests := true, laidLooks := .later }
def SplitNestsCardSaid : Prop := Claim7.holds Tryz.pinned (.plain (OpenSpec.ofChange splitNestsSpec)) splitNestsCard

/-- THE TIED CARD OF 'wardmotelaw23.SplitForces'. -/
def splitForcesCard : Claim7 := { stood := { row := splitForcesRow, standIns := [], harness := (true, "1694a410f8c93ed012e9ae2534f49a1e6fe171e7ba414fd4ab93c931bdd3eb50"), looks := true }, kinds := [], alts := [], laidByText := true, laidKinds := [.data, .pinned], laidTests := true, laidLooks := .later }
def SplitForcesCardSaid : Prop := Claim7.holds Tryz.pinned (.plain (OpenSpec.ofChange splitForcesSpec)) splitForcesCard

/-- THE SECOND FORM's CARD OF 'wardmotelaw23.SplitPieces'. -/
def splitPiecesUptoCard : Claim7 := { stood := { row := splitPiecesUptoRow, standIns := [], harness := (true, "1694a410f8c93ed012e9ae2534f49a1e6fe171e7ba414fd4ab93c931bdd3eb50"), looks := true }, kinds := [], alts := [], laidByText := true, laidKinds := [.data, .pinned], laidTests := true, laidLooks := .later }
def SplitPiecesUptoCardSaid : Prop := Claim7.holds Tryz.pinned (.plain (OpenSpec.upto splitPiecesSpec)) splitPiecesUptoCard

/-- THE SECOND FORM's CARD OF 'wardmotelaw23.SplitCounts'. -/
def splitCountsUptoCard : Claim7 := { stood := { row := splitCountsUptoRow, standIns := [], harness := (true, "1694a410f8c93ed012e9ae2534f49a1e6fe171e7ba414fd4ab93c931bdd3eb50"), looks := true }, kinds := [], alts := [], laidByText := true, laidKinds := [.data, .pinned], laidTests := true, laidLooks := .later }
def SplitCountsUptoCardSaid : Prop := Claim7.holds Tryz.pinned (.plain (OpenSpec.upto splitCountsSpec)) splitCountsUptoCard

/-- THE SECOND FORM's CARD OF 'wardmotelaw23.SplitMerges'. -/
def splitMergesUptoCard : Claim7 := { stood := { row := splitMergesUptoRow, standIns := [], harness := (true, "1694a410f8c93ed012e9ae2534f49a1e6fe171e7ba414fd4ab93c931bdd3eb50"), looks := true }, kinds := [], alts := [], laidByText := true, laidKinds := [.data, .pinned], laidTests := true, laidLooks := .later }
def SplitMergesUptoCardSaid : Prop := Claim7.holds Tryz.pinned (.plain (OpenSpec.upto splitMergesSpec)) splitMergesUptoCard

/-- THE SECOND FORM's CARD OF 'wardmotelaw23.SplitLevels'. -/
def splitLevelsUptoCard : Claim7 := { stood := { row := splitLevelsUptoRow, standIns := [], harness := (true, "1694a410f8c93ed012e9ae2534f49a1e6fe171e7ba414fd4ab93c931bdd3eb50"), looks := true }, kinds := [], alts := [], laidByText := true, laidKinds := [.data, .pinned], laidTests := true, laidLooks := .later }
def SplitLevelsUptoCardSaid : Prop := Claim7.holds Tryz.pinned (.plain (OpenSpec.upto splitLevelsSpec)) splitLevelsUptoCard

/-- THE SECOND FORM's CARD OF 'wardmotelaw23.SplitNests'. -/
def splitNestsUptoCard : Claim7 := { stood := { row := splitNestsUptoRow, standIns := [], harness := (true, "1694a410f8c93ed012e9ae2534f49a1e6fe171e7ba414fd4ab93c931bdd3eb50"), looks := true }, kinds := [], alts := [], laidByText := true, laidKinds := [.data, .pinned], laidTests := true, laidLooks := .later }
def SplitNestsUptoCardSaid : Prop := Claim7.holds Tryz.pinned (.plain (OpenSpec.upto splitNestsSpec)) splitNestsUptoCard

/-- THE SECOND FORM's CARD OF 'wardmotelaw23.SplitForces'. -/
def splitForcesUptoCard : Claim7 := { stood := { row := splitForcesUptoRow, standIns := [], harness := (true, "1694a410f8c93ed012e9ae2534f49a1e6fe171e7ba414fd4ab93c931bdd3eb50"), looks := true }, kinds := [], alts := [], laidByText := true, laidKinds := [.data, .pinned], laidTests := true, laidLooks := .later }
def SplitForcesUptoCardSaid : Prop := Claim7.holds Tryz.pinned (.plain (OpenSpec.upto splitForcesSpec)) splitForcesUptoCard
end Rows
end Go.Proofs.YtfncplndfpgngaaGreatDoor
