/-
  DERIVED. GIVEN WITH THE SEED: THE CARDS: each row of YtplkfbljncfdnaaDoorRows.lean that lists a variable, with what it lists TIED to the program's text (the seventh form; the later family's looks); each row that meets fmt, with fmt's text TOLD by the authors' own Lean function (tested against real Go, not proved from fmt's source: count such statements apart). THE CARD IS WHAT COUNTS. Prove the row's statement (the work); the ties are given (YtplkfbljncfdnaaDoorTie.lean); close each card by the builder's one call (the guide's Derived/Test/ToyasCard.lean, 'card_holds'). Laid BY PROGRAM, IN A SANDBOX (cutbox-door.mjs). By AI agents, Wed Nov 11 2026. No macro, syntax, notation, axiom, sorry.
-/
import Derived.Test.YtplkfbljncfdnaaDoorRows
import GoSem.ClaimSeven
namespace Go.Proofs.YtplkfbljncfdnaaDoor
namespace Rows

/-- THE TIED CARD OF 'wardmotelaw31.WilsonErases'. -/
def wilsonErasesCard : Claim7 := { stood := { row := wilsonErasesRow, standIns := [], harness := (true, "8f11f4a5dd3e3b4a7f0f6967db6d6c1e2749a650fae17b4258101ffc19047da2"), looks := false }, kinds := [], alts := [], laidByText := true, laidKinds := [.data], laidTests := true, laidLooks := .later }
def WilsonErasesCardSaid : Prop := Claim7.holds Tryd.pinned (.plain (OpenSpec.ofChange wilsonErasesSpec)) wilsonErasesCard

/-- THE TIED CARD OF 'wardmotelaw31.WilsonHands'. -/
def wilsonHandsCard : Claim7 := { stood := { row := wilsonHandsRow, standIns := [], harness := (true, "8f11f4a5dd3e3b4a7f0f6967db6d6c1e2749a650fae17b4258101ffc19047da2"), looks := false }, kinds := [], alts := [], laidByText := true, laidKinds := [.data], laidTests := true, laidLooks := .later }
def WilsonHandsCardSaid : Prop := Claim7.holds Tryd.pinned (.plain (OpenSpec.ofChange wilsonHandsSpec)) wilsonHandsCard

/-- THE TIED CARD OF 'wardmotelaw31.WilsonKnown'. -/
def wilsonKnownCard : Claim7 := { stood := { row := wilsonKnownRow, standIns := [], harness := (true, "8f11f4a5dd3e3b4a7f0f6967db6d6c1e2749a650fae17b4258101ffc19047da2"), looks := false }, kinds := [], alts := [], laidByText := true, laidKinds := [.data], laidTests := true, laidLooks := .later }
def WilsonKnownCardSaid : Prop := Claim7.holds Tryd.pinned (.plain (OpenSpec.ofChange wilsonKnownSpec)) wilsonKnownCard

/-- THE TIED CARD OF 'wardmotelaw31.WilsonLoops'. -/
def wilsonLoopsCard : Claim7 := { stood := { row := wilsonLoopsRow, standIns := [], harness := (true, "8f11f4a5dd3e3b4a7f0f6967db6d6c1e2749a650fae17b4258101ffc19047da2"), looks := false }, kinds := [], alts := [], laidByText := true, laidKinds := [.data], laidTests := true, laidLooks := .later }
def WilsonLoopsCardSaid : Prop := Claim7.holds Tryd.pinned (.plain (OpenSpec.ofChange wilsonLoopsSpec)) wilsonLoopsCard

/-- THE TIED CARD OF 'wardmotelaw31.WilsonSteps'. -/
def wilsonStepsCard : Claim7 := { stood := { row := wilsonStepsRow, standIns := [], harness := (true, "8f11f4a5dd3e3b4a7f0f6967db6d6c1e2749a650fae17b4258101ffc19047da2"), looks := false }, kinds := [], alts := [], laidByText := true, laidKinds := [.data], laidTests := true, laidLooks := .later }
def WilsonStepsCardSaid : Prop := Claim7.holds Tryd.pinned (.plain (OpenSpec.ofChange wilsonStepsSpec)) wilsonStepsCard

/-- THE TIED CARD OF 'wardmotelaw31.WilsonTrees'. -/
def wilsonTreesCard : Claim7 := { stood := { row := wilsonTreesRow, standIns := [], harness := (true, "8f11f4a5dd3e3b4a7f0f6967db6d6c1e2749a650fae17b4258101ffc19047da2"), looks := false }, kinds := [], alts := [], laidByText := true, laidKinds := [.data], laidTests := true, laidLooks := .later }
def WilsonTreesCardSaid : Prop := Claim7.holds Tryd.pinned (.plain (OpenSpec.ofChange wilsonTreesSpec)) wilsonTreesCard

/-- THE SECOND FORM's CARD OF 'wardmotelaw31.WilsonErases'. -/
def wilsonErasesUptoCard : Claim7 := { stood := { row := wilsonErasesUptoRow, standIns := [], harness := (true, "8f11f4a5dd3e3b4a7f0f6967db6d6c1e2749a650fae17b4258101ffc19047da2"), looks := false }, kinds := [], alts := [], laidByText := true, laidKinds := [.data], laidTests := true, laidLooks := .later }
def WilsonErasesUptoCardSaid : Prop := Claim7.holds Tryd.pinned (.plain (OpenSpec.upto wilsonErasesSpec)) wilsonErasesUptoCard

/-- THE SECOND FORM's CARD OF 'wardmotelaw31.WilsonHands'. -/
def wilsonHandsUptoCard : Claim7 := { stood := { row := wilsonHandsUptoRow, standIns := [], harness := (true, "8f11f4a5dd3e3b4a7f0f6967db6d6c1e2749a650fae17b4258101ffc19047da2"), looks := false }, kinds := [], alts := [], laidByText := true, laidKinds := [.data], laidTests := true, laidLooks := .later }
def WilsonHandsUptoCardSaid : Prop := Claim7.holds Tryd.pinned (.plain (OpenSpec.upto wilsonHandsSpec)) wilsonHandsUptoCard

/-- THE SECOND FORM's CARD OF 'wardmotelaw31.WilsonKnown'. -/
def wilsonKnownUptoCard : Claim7 := { stood := { row := wilsonKnownUptoRow, standIns := [], harness := (true, "8f11f4a5dd3e3b4a7f0f6967db6d6c1e2749a650fae17b4258101ffc19047da2"), looks := false }, kinds := [], alts := [], laidByText := true, laidKinds := [.data], laidTests := true, laidLooks := .later }
def WilsonKnownUptoCardSaid : Prop := Claim7.holds Tryd.pinned (.plain (OpenSpec.upto wilsonKnownSpec)) wilsonKnownUptoCard

/-- THE SECOND FORM's CARD OF 'wardmotelaw31.WilsonLoops'. -/
def wilsonLoopsUptoCard : Claim7 := { stood := { row := wilsonLoopsUptoRow, standIns := [], harness := (true, "8f11f4a5dd3e3b4a7f0f6967db6d6c1e2749a650fae17b4258101ffc19047da2"), looks := false }, kinds := [], alts := [], laidByText := true, laidKinds := [.data], laidTests := true, laidLooks := .later }
def WilsonLoopsUptoCardSaid : Prop := Claim7.holds Tryd.pinned (.plain (OpenSpec.upto wilsonLoopsSpec)) wilsonLoopsUptoCard

/-- THE SECOND FORM's CARD OF 'wardmotelaw31.WilsonSteps'. -/
def wilsonStepsUptoCard : Claim7 := { stood := { row := wilsonStepsUptoRow, standIns := [], harness := (true, "8f11f4a5dd3e3b4a7f0f6967db6d6c1e2749a650fae17b4258101ffc19047da2"), looks := false }, kinds := [], alts := [], laidByText := true, laidKinds := [.data], laidTests := true, laidLooks := .later }
def WilsonStepsUptoCardSaid : Prop := Claim7.holds Tryd.pinned (.plain (OpenSpec.upto wilsonStepsSpec)) wilsonStepsUptoCard

/-- THE SECOND FORM's CARD OF 'wardmotelaw31.WilsonTrees'. -/
def wilsonTreesUptoCard : Claim7 := { stood := { row := wilsonTreesUptoRow, standIns := [], harness := (true, "8f11f4a5dd3e3b4a7f0f6967db6d6c1e2749a650fae17b4258101ffc19047da2"), looks := false }, kinds := [], alts := [], laidByText := true, laidKinds := [.data], laidTests := true, laidLooks := .later }
def WilsonTreesUptoCardSaid : Prop := Claim7.holds Tryd.pinned (.plain (OpenSpec.upto wilsonTreesSpec)) wilsonTreesUptoCard
end Rows
end Go.Proofs.YtplkfbljncfdnaaDoor
