/-
  DERIVED. GIVEN WITH THE SEED: THE CARDS: each row of YtmhgoecnjleagaaGreatDoorRows.lean that lists a variable, with what it lists TIED to the program's text (the seventh form; the later family's looks); each row that meets fmt, with fmt's text TOLD by the authors' own Lean function (tested against real Go, not proved from fmt's source: count such statements apart). THE CARD IS WHAT COUNTS. Prove the row's statement (the work); the ties are given (YtmhgoecnjleagaaGreatDoorTie.lean); close each card by the builder's one call (the guide's Derived/Test/ToyasCard.lean, 'card_holds'). Laid BY PROGRAM, IN A SANDBOX (cutbox-door.mjs). By AI agents, Wed Nov 11 2026. No macro, syntax, notation, axiom, sorry.
-/
import Derived.Test.YtmhgoecnjleagaaGreatDoorRows
import GoSem.ClaimSeven
namespace Go.Proofs.YtmhgoecnjleagaaGreatDoor
namespace Rows

/-- THE TIED CARD OF 'wardmotelaw22.BalanceBounds'. -/
def balanceBoundsCard : Claim7 := { stood := { row := balanceBoundsRow, standIns := [], harness := (true, "cf6d97f4a27c52079ea44076db1f371465394dd3a24548772acd25e43562ba08"), looks := true }, kinds := [], alts := [], laidByText := true, laidKinds := [.data, .pinned], laidTests := true, laidLooks := .later }
def BalanceBoundsCardSaid : Prop := Claim7.holds Tryz.pinned (.plain (OpenSpec.ofChange balanceBoundsSpec)) balanceBoundsCard

/-- THE TIED CARD OF 'wardmotelaw22.BalanceSums'. -/
def balanceSumsCard : Claim7 := { stood := { row := balanceSumsRow, standIns := [], harness := (true, "cf6d97f4a27c52079ea44076db1f371465394dd3a24548772acd25e43562ba08"), looks := true }, kinds := [], alts := [], laidByText := true, laidKinds := [.data, .pinned], laidTests := true, laidLooks := .later }
def BalanceSumsCardSaid : Prop := Claim7.holds Tryz.pinned (.plain (OpenSpec.ofChange balanceSumsSpec)) balanceSumsCard

/-- THE TIED CARD OF 'wardmotelaw22.BalanceCounts'. -/
def balanceCountsCard : Claim7 := { stood := { row := balanceCountsRow, standIns := [], harness := (true, "cf6d97f4a27c52079ea44076db1f371465394dd3a24548772acd25e43562ba08"), looks := true }, kinds := [], alts := [], laidByText := true, laidKinds := [.data, .pinned], laidTests := true, laidLooks := .later }
def BalanceCountsCardSaid : Prop := Claim7.holds Tryz.pinned (.plain (OpenSpec.ofChange balanceCountsSpec)) balanceCountsCard

/-- THE TIED CARD OF 'wardmotelaw22.BalanceKnown'. -/
def balanceKnownCard : Claim7 := { stood := { row := balanceKnownRow, standIns := [], harness := (true, "cf6d97f4a27c52079ea44076db1f371465394dd3a24548772acd25e43562ba08"), looks := true }, kinds := [], alts := [], laidByText := true, laidKinds := [.data, .pinned], laidTests := true, laidLooks := .later }
def BalanceKnownCardSaid : Prop := Claim7.holds Tryz.pinned (.plain (OpenSpec.ofChange balanceKnownSpec)) balanceKnownCard

/-- THE TIED CARD OF 'wardmotelaw22.BalanceNames'. -/
def balanceNamesCard : Claim7 := { stood := { row := balanceNamesRow, standIns := [], harness := (true, "cf6d97f4a27c52079ea44076db1f371465394dd3a24548772acd25e43562ba08"), looks := true }, kinds := [], alts := [], laidByText := true, laidKinds := [.data, .pinned], laidTests := true, laidLooks := .later }
def BalanceNamesCardSaid : Prop := Claim7.holds Tryz.pinned (.plain (OpenSpec.ofChange balanceNamesSpec)) balanceNamesCard

/-- THE TIED CARD OF 'wardmotelaw22.BalanceWithin'. -/
def balanceWithinCard : Claim7 := { stood := { row := balanceWithinRow, standIns := [], harness := (true, "cf6d97f4a27c52079ea44076db1f371465394dd3a24548772acd25e43562ba08"), looks := true }, kinds := [], alts := [], laidByText := true, laidKinds := [.data, .pinned], laidTests := true, laidLooks := .later }
def BalanceWithinCardSaid : Prop := Claim7.holds Tryz.pinned (.plain (OpenSpec.ofChange balanceWithinSpec)) balanceWithinCard

/-- THE SECOND FORM's CARD OF 'wardmotelaw22.BalanceBounds'. -/
def balanceBoundsUptoCard : Claim7 := { stood := { row := balanceBoundsUptoRow, standIns := [], harness := (true, "cf6d97f4a27c52079ea44076db1f371465394dd3a24548772acd25e43562ba08"), looks := true }, kinds := [], alts := [], laidByText := true, laidKinds := [.data, .pinned], laidTests := true, laidLooks := .later }
def BalanceBoundsUptoCardSaid : Prop := Claim7.holds Tryz.pinned (.plain (OpenSpec.upto balanceBoundsSpec)) balanceBoundsUptoCard

/-- THE SECOND FORM's CARD OF 'wardmotelaw22.BalanceSums'. -/
def balanceSumsUptoCard : Claim7 := { stood := { row := balanceSumsUptoRow, standIns := [], harness := (true, "cf6d97f4a27c52079ea44076db1f371465394dd3a24548772acd25e43562ba08"), looks := true }, kinds := [], alts := [], laidByText := true, laidKinds := [.data, .pinned], laidTests := true, laidLooks := .later }
def BalanceSumsUptoCardSaid : Prop := Claim7.holds Tryz.pinned (.plain (OpenSpec.upto balanceSumsSpec)) balanceSumsUptoCard

/-- THE SECOND FORM's CARD OF 'wardmotelaw22.BalanceCounts'. -/
def balanceCountsUptoCard : Claim7 := { stood := { row := balanceCountsUptoRow, standIns := [], harness := (true, "cf6d97f4a27c52079ea44076db1f371465394dd3a24548772acd25e43562ba08"), looks := true }, kinds := [], alts := [], laidByText := true, laidKinds := [.data, .pinned], laidTests := true, laidLooks := .later }
def BalanceCountsUptoCardSaid : Prop := Claim7.holds Tryz.pinned (.plain (OpenSpec.upto balanceCountsSpec)) balanceCountsUptoCard

/-- THE SECOND FORM's CARD OF 'wardmotelaw22.BalanceKnown'. -/
def balanceKnownUptoCard : Claim7 := { stood := { row := balanceKnownUptoRow, standIns := [], harness := (true, "cf6d97f4a27c52079ea44076db1f371465394dd3a24548772acd25e43562ba08"), looks := true }, kinds := [], alts := [], laidByText := true, laidKinds := [.data, .pinned], laidTests := true, laidLooks := .later }
def BalanceKnownUptoCardSaid : Prop := Claim7.holds Tryz.pinned (.plain (OpenSpec.upto balanceKnownSpec)) balanceKnownUptoCard

/-- THE SECOND FORM's CARD OF 'wardmotelaw22.BalanceNames'. -/
def balanceNamesUptoCard : Claim7 := { stood := { row := balanceNamesUptoRow, standIns := [], harness := (true, "cf6d97f4a27c52079ea44076db1f371465394dd3a24548772acd25e43562ba08"), looks := true }, kinds := [], alts := [], laidByText := true, laidKinds := [.data, .pinned], laidTests := true, laidLooks := .later }
def BalanceNamesUptoCardSaid : Prop := Claim7.holds Tryz.pinned (.plain (OpenSpec.upto balanceNamesSpec)) balanceNamesUptoCard

/-- THE SECOND FORM's CARD OF 'wardmotelaw22.BalanceWithin'. -/
def balanceWithinUptoCard : Claim7 := { stood := { row := balanceWithinUptoRow, standIns := [], harness := (true, "cf6d97f4a27c52079ea44076db1f371465394dd3a24548772acd25e43562ba08"), looks := true }, kinds := [], alts := [], laidByText := true, laidKinds := [.data, .pinned], laidTests := true, laidLooks := .later }
def BalanceWithinUptoCardSaid : Prop := Claim7.holds Tryz.pinned (.plain (OpenSpec.upto balanceWithinSpec)) balanceWithinUptoCard
end Rows
end Go.Proofs.YtmhgoecnjleagaaGreatDoor
