/-
  NARROWER THAN 'FOR EVERY INPUT', by the rows' own cells (each row's printed sentence says how): WilsonErases: laid · WilsonHands: laid · WilsonKnown: laid · WilsonLoops: laid · WilsonSteps: laid · WilsonTrees: laid.
  DERIVED. THE GIVEN ROWS OF THIS SEAT. 6 by the template 'for every input the law returns true; each argument reads behind the call as it read before'; 0 by the template 'total and deterministic' (their statements: YtplkfbljncfdnaaDoorTotals.lean).
  GIVEN WITH THE SEED: the statements are not yours to turn. If you find one false, say at which input.
  Laid BY PROGRAM, IN A SANDBOX (cutbox-rows.mjs): the forced cells as the released guide's own fill.sh prints them over the translation ccacc65322b14b09… (all of the seat's roots in one cut). By AI agents, Wed Nov 11 2026. No macro, syntax, notation, axiom, sorry.
-/
import Derived.Test.YtplkfbljncfdnaaDoorChecked
import GoSem.Claim
import GoSem.ClaimJoined
import GoSem.ClaimMapViews
import Derived.JoinedTies
import Derived.KernelRfl
namespace Go.Proofs.YtplkfbljncfdnaaDoor
/- THE CELL 'sum', in the pinned program and in every row, IS THE sha256 OF THE DUMP (.gsa) THAT YtplkfbljncfdnaaDoorProg.lean LOADS. Nothing in Lean hashes anything: it is a label: what it is worth is what the hold of that sum in a sandbox is worth. -/
noncomputable def Tryd.pinned : Pinned := { name := "ytplkfbljncfdnaadoor", sum := "ccacc65322b14b09cf61623fd13b1ebbb9fc796127581b452192238d873bdc6d", checked := Tryd.checked }
namespace Rows
def none {H : Type} : Left H := { results := [], args := [] }

/- WHAT THE LISTED PACKAGE-LEVEL VARIABLES READ AS WHEN THE CALL BEGINS. Each datum BY PROGRAM (the guide's laid-datum.mjs) off the statement by which the dump's own 'gosem.cut.vars' lays the variable. In a bare row this is a premise. The card (YtplkfbljncfdnaaDoorCards.lean) ties it to the program's text. -/
def laid_math_bits_deBruijn64tab {H : Type} : DataW H := .agg [.lit (.int .u8 0), .lit (.int .u8 1), .lit (.int .u8 56), .lit (.int .u8 2), .lit (.int .u8 57), .lit (.int .u8 49), .lit (.int .u8 28), .lit (.int .u8 3), .lit (.int .u8 61), .lit (.int .u8 58), .lit (.int .u8 42), .lit (.int .u8 50), .lit (.int .u8 38), .lit (.int .u8 29), .lit (.int .u8 17), .lit (.int .u8 4), .lit (.int .u8 62), .lit (.int .u8 47), .lit (.int .u8 59), .lit (.int .u8 36), .lit (.int .u8 45), .lit (.int .u8 43), .lit (.int .u8 51), .lit (.int .u8 22), .lit (.int .u8 53), .lit (.int .u8 39), .lit (.int .u8 33), .lit (.int .u8 30), .lit (.int .u8 24), .lit (.int .u8 18), .lit (.int .u8 12), .lit (.int .u8 5), .lit (.int .u8 63), .lit (.int .u8 55), .lit (.int .u8 48), .lit (.int .u8 27), .lit (.int .u8 60), .lit (.int .u8 41), .lit (.int .u8 37), .lit (.int .u8 16), .lit (.int .u8 46), .lit (.int .u8 35), .lit (.int .u8 44), .lit (.int .u8 21), .lit (.int .u8 52), .lit (.int .u8 32), .lit (.int .u8 23), .lit (.int .u8 11), .lit (.int .u8 54), .lit (.int .u8 26), .lit (.int .u8 40), .lit (.int .u8 15), .lit (.int .u8 34), .lit (.int .u8 20), .lit (.int .u8 31), .lit (.int .u8 10), .lit (.int .u8 25), .lit (.int .u8 14), .lit (.int .u8 19), .lit (.int .u8 9), .lit (.int .u8 13), .lit (.int .u8 8), .lit (.int .u8 7), .lit (.int .u8 6)]

/-- 'wardmotelaw31.WilsonErases': WHATEVER THE INPUT: true; the input reads as it did. -/
def wilsonErasesSpec : ChangeSpec := { name := "wilsonErases", fn := fun _ => fun
  | [d1, d2, d3] => { results := [.lit (.bool true)], args := [d1, d2, d3] }
  | _ => none }
def wilsonErasesRow : OpenClaim := { program := "ytplkfbljncfdnaadoor", sum := "ccacc65322b14b09cf61623fd13b1ebbb9fc796127581b452192238d873bdc6d", func := "wardmote/wardmotelaw31.WilsonErases", spec := "wilsonErases", unfollowed := true, recurses := true, named := ["math/bits.deBruijn64tab"], apart := false, laid := [("math/bits.deBruijn64tab", laid_math_bits_deBruijn64tab)] }
def WilsonErasesSaid : Prop := wilsonErasesRow.holds Tryd.pinned (OpenSpec.ofChange wilsonErasesSpec)

/-- ITS FALSE NEIGHBOUR: 'it returns false'. Refute it at one input. -/
def wilsonErasesWrong : ChangeSpec := { name := "wilsonErases", fn := fun _ => fun
  | [d1, d2, d3] => { results := [.lit (.bool false)], args := [d1, d2, d3] }
  | _ => none }
def WilsonErasesWrongFalsely : Prop := wilsonErasesRow.holds Tryd.pinned (OpenSpec.ofChange wilsonErasesWrong)

/-- 'wardmotelaw31.WilsonHands': WHATEVER THE INPUT: true; the input reads as it did. -/
def wilsonHandsSpec : ChangeSpec := { name := "wilsonHands", fn := fun _ => fun
  | [d1, d2] => { results := [.lit (.bool true)], args := [d1, d2] }
  | _ => none }
def wilsonHandsRow : OpenClaim := { program := "ytplkfbljncfdnaadoor", sum := "ccacc65322b14b09cf61623fd13b1ebbb9fc796127581b452192238d873bdc6d", func := "wardmote/wardmotelaw31.WilsonHands", spec := "wilsonHands", unfollowed := true, recurses := true, named := ["math/bits.deBruijn64tab"], apart := false, laid := [("math/bits.deBruijn64tab", laid_math_bits_deBruijn64tab)] }
def WilsonHandsSaid : Prop := wilsonHandsRow.holds Tryd.pinned (OpenSpec.ofChange wilsonHandsSpec)

/-- ITS FALSE NEIGHBOUR: 'it returns false'. Refute it at one input. -/
def wilsonHandsWrong : ChangeSpec := { name := "wilsonHands", fn := fun _ => fun
  | [d1, d2] => { results := [.lit (.bool false)], args := [d1, d2] }
  | _ => none }
def WilsonHandsWrongFalsely : Prop := wilsonHandsRow.holds Tryd.pinned (OpenSpec.ofChange wilsonHandsWrong)

/-- 'wardmotelaw31.WilsonKnown': WHATEVER THE INPUT: true; the input reads as it did. -/
def wilsonKnownSpec : ChangeSpec := { name := "wilsonKnown", fn := fun _ => fun
  | [] => { results := [.lit (.bool true)], args := [] }
  | _ => none }
def wilsonKnownRow : OpenClaim := { program := "ytplkfbljncfdnaadoor", sum := "ccacc65322b14b09cf61623fd13b1ebbb9fc796127581b452192238d873bdc6d", func := "wardmote/wardmotelaw31.WilsonKnown", spec := "wilsonKnown", unfollowed := true, recurses := true, named := ["math/bits.deBruijn64tab"], apart := false, laid := [("math/bits.deBruijn64tab", laid_math_bits_deBruijn64tab)] }
def WilsonKnownSaid : Prop := wilsonKnownRow.holds Tryd.pinned (OpenSpec.ofChange wilsonKnownSpec)

/-- ITS FALSE NEIGHBOUR: 'it returns false'. Refute it at one input. -/
def wilsonKnownWrong : ChangeSpec := { name := "wilsonKnown", fn := fun _ => fun
  | [] => { results := [.lit (.bool false)], args := [] }
  | _ => none }
def WilsonKnownWrongFalsely : Prop := wilsonKnownRow.holds Tryd.pinned (OpenSpec.ofChange wilsonKnownWrong)

/-- 'wardmotelaw31.WilsonLoops': WHATEVER THE INPUT: true; the input reads as it did. -/
def wilsonLoopsSpec : ChangeSpec := { name := "wilsonLoops", fn := fun _ => fun
  | [d] => { results := [.lit (.bool true)], args := [d] }
  | _ => none }
def wilsonLoopsRow : OpenClaim := { program := "ytplkfbljncfdnaadoor", sum := "ccacc65322b14b09cf61623fd13b1ebbb9fc796127581b452192238d873bdc6d", func := "wardmote/wardmotelaw31.WilsonLoops", spec := "wilsonLoops", unfollowed := true, recurses := true, named := ["math/bits.deBruijn64tab"], apart := false, laid := [("math/bits.deBruijn64tab", laid_math_bits_deBruijn64tab)] }
def WilsonLoopsSaid : Prop := wilsonLoopsRow.holds Tryd.pinned (OpenSpec.ofChange wilsonLoopsSpec)

/-- ITS FALSE NEIGHBOUR: 'it returns false'. Refute it at one input. -/
def wilsonLoopsWrong : ChangeSpec := { name := "wilsonLoops", fn := fun _ => fun
  | [d] => { results := [.lit (.bool false)], args := [d] }
  | _ => none }
def WilsonLoopsWrongFalsely : Prop := wilsonLoopsRow.holds Tryd.pinned (OpenSpec.ofChange wilsonLoopsWrong)

/-- 'wardmotelaw31.WilsonSteps': WHATEVER THE INPUT: true; the input reads as it did. -/
def wilsonStepsSpec : ChangeSpec := { name := "wilsonSteps", fn := fun _ => fun
  | [d1, d2, d3, d4, d5] => { results := [.lit (.bool true)], args := [d1, d2, d3, d4, d5] }
  | _ => none }
def wilsonStepsRow : OpenClaim := { program := "ytplkfbljncfdnaadoor", sum := "ccacc65322b14b09cf61623fd13b1ebbb9fc796127581b452192238d873bdc6d", func := "wardmote/wardmotelaw31.WilsonSteps", spec := "wilsonSteps", unfollowed := true, recurses := true, named := ["math/bits.deBruijn64tab"], apart := false, laid := [("math/bits.deBruijn64tab", laid_math_bits_deBruijn64tab)] }
def WilsonStepsSaid : Prop := wilsonStepsRow.holds Tryd.pinned (OpenSpec.ofChange wilsonStepsSpec)

/-- ITS FALSE NEIGHBOUR: 'it returns false'. Refute it at one input. -/
def wilsonStepsWrong : ChangeSpec := { name := "wilsonSteps", fn := fun _ => fun
  | [d1, d2, d3, d4, d5] => { results := [.lit (.bool false)], args := [d1, d2, d3, d4, d5] }
  | _ => none }
def WilsonStepsWrongFalsely : Prop := wilsonStepsRow.holds Tryd.pinned (OpenSpec.ofChange wilsonStepsWrong)

/-- 'wardmotelaw31.WilsonTrees': WHATEVER THE INPUT: true; the input reads as it did. -/
def wilsonTreesSpec : ChangeSpec := { name := "wilsonTrees", fn := fun _ => fun
  | [d1, d2, d3] => { results := [.lit (.bool true)], args := [d1, d2, d3] }
  | _ => none }
def wilsonTreesRow : OpenClaim := { program := "ytplkfbljncfdnaadoor", sum := "ccacc65322b14b09cf61623fd13b1ebbb9fc796127581b452192238d873bdc6d", func := "wardmote/wardmotelaw31.WilsonTrees", spec := "wilsonTrees", unfollowed := true, recurses := true, named := ["math/bits.deBruijn64tab"], apart := false, laid := [("math/bits.deBruijn64tab", laid_math_bits_deBruijn64tab)] }
def WilsonTreesSaid : Prop := wilsonTreesRow.holds Tryd.pinned (OpenSpec.ofChange wilsonTreesSpec)

/-- ITS FALSE NEIGHBOUR: 'it returns false'. Refute it at one input. -/
def wilsonTreesWrong : ChangeSpec := { name := "wilsonTrees", fn := fun _ => fun
  | [d1, d2, d3] => { results := [.lit (.bool false)], args := [d1, d2, d3] }
  | _ => none }
def WilsonTreesWrongFalsely : Prop := wilsonTreesRow.holds Tryd.pinned (OpenSpec.ofChange wilsonTreesWrong)

/- THE SECOND FORM. 'bulk': how many values and letters a reading holds, each counted each time it is reached (what is shared counts as often as it is met; a slice's spare places count too). A statement '..UptoSaid' is the law's where the arguments, and the package variables that the reading takes, are together of bulk at most 1048576: NARROWER than '..Said'. Prove '..Said' where nothing that the law and all that it calls make is longer than what came in: it says more and counts as full. Else prove '..UptoSaid'. A law counts once. -/
mutual
def uptoBulk {H : Type} : DataW H → Nat
  | .lit (.string bytes) => bytes.length + 1
  | .lit _ => 1
  | .nil => 1
  | .ptr d => uptoBulk d + 1
  | .slice elems spare => uptoBulkAll elems + uptoBulkAll spare + 1
  | .agg parts => uptoBulkAll parts + 1
  | .iface _ d => uptoBulk d + 1
  | .map entries => uptoBulkEntries entries + 1
  | .held _ => 1
def uptoBulkAll {H : Type} : List (DataW H) → Nat
  | [] => 0
  | d :: r => uptoBulk d + uptoBulkAll r
def uptoBulkEntries {H : Type} : List (Lit × DataW H) → Nat
  | [] => 0
  | x :: r => uptoBulkEntry x + uptoBulkEntries r
def uptoBulkEntry {H : Type} : Lit × DataW H → Nat
  | (.string bytes, d) => bytes.length + uptoBulk d + 1
  | (_, d) => uptoBulk d + 1
 end
def uptoSmall : (H : Type) → List (DataW H) → Bool := fun _ ds => decide (uptoBulkAll ds ≤ 1048576)
def OpenSpec.upto (s : _root_.Go.ChangeSpec) : _root_.Go.OpenSpec := { _root_.Go.OpenSpec.ofChange s with cond := some uptoSmall }

/-- 'wardmotelaw31.WilsonErases', WHERE WHAT IT READS IS OF BULK AT MOST 1048576: true; the input reads as it did. -/
def wilsonErasesUptoRow : OpenClaim := { program := "ytplkfbljncfdnaadoor", sum := "ccacc65322b14b09cf61623fd13b1ebbb9fc796127581b452192238d873bdc6d", func := "wardmote/wardmotelaw31.WilsonErases", spec := "wilsonErases", unfollowed := true, recurses := true, named := ["math/bits.deBruijn64tab"], apart := false, laid := [("math/bits.deBruijn64tab", laid_math_bits_deBruijn64tab)], narrowed := true }
def WilsonErasesUptoSaid : Prop := wilsonErasesUptoRow.holds Tryd.pinned (OpenSpec.upto wilsonErasesSpec)

/-- 'wardmotelaw31.WilsonHands', WHERE WHAT IT READS IS OF BULK AT MOST 1048576: true; the input reads as it did. -/
def wilsonHandsUptoRow : OpenClaim := { program := "ytplkfbljncfdnaadoor", sum := "ccacc65322b14b09cf61623fd13b1ebbb9fc796127581b452192238d873bdc6d", func := "wardmote/wardmotelaw31.WilsonHands", spec := "wilsonHands", unfollowed := true, recurses := true, named := ["math/bits.deBruijn64tab"], apart := false, laid := [("math/bits.deBruijn64tab", laid_math_bits_deBruijn64tab)], narrowed := true }
def WilsonHandsUptoSaid : Prop := wilsonHandsUptoRow.holds Tryd.pinned (OpenSpec.upto wilsonHandsSpec)

/-- 'wardmotelaw31.WilsonKnown', WHERE WHAT IT READS IS OF BULK AT MOST 1048576: true; the input reads as it did. -/
def wilsonKnownUptoRow : OpenClaim := { program := "ytplkfbljncfdnaadoor", sum := "ccacc65322b14b09cf61623fd13b1ebbb9fc796127581b452192238d873bdc6d", func := "wardmote/wardmotelaw31.WilsonKnown", spec := "wilsonKnown", unfollowed := true, recurses := true, named := ["math/bits.deBruijn64tab"], apart := false, laid := [("math/bits.deBruijn64tab", laid_math_bits_deBruijn64tab)], narrowed := true }
def WilsonKnownUptoSaid : Prop := wilsonKnownUptoRow.holds Tryd.pinned (OpenSpec.upto wilsonKnownSpec)

/-- 'wardmotelaw31.WilsonLoops', WHERE WHAT IT READS IS OF BULK AT MOST 1048576: true; the input reads as it did. -/
def wilsonLoopsUptoRow : OpenClaim := { program := "ytplkfbljncfdnaadoor", sum := "ccacc65322b14b09cf61623fd13b1ebbb9fc796127581b452192238d873bdc6d", func := "wardmote/wardmotelaw31.WilsonLoops", spec := "wilsonLoops", unfollowed := true, recurses := true, named := ["math/bits.deBruijn64tab"], apart := false, laid := [("math/bits.deBruijn64tab", laid_math_bits_deBruijn64tab)], narrowed := true }
def WilsonLoopsUptoSaid : Prop := wilsonLoopsUptoRow.holds Tryd.pinned (OpenSpec.upto wilsonLoopsSpec)

/-- 'wardmotelaw31.WilsonSteps', WHERE WHAT IT READS IS OF BULK AT MOST 1048576: true; the input reads as it did. -/
def wilsonStepsUptoRow : OpenClaim := { program := "ytplkfbljncfdnaadoor", sum := "ccacc65322b14b09cf61623fd13b1ebbb9fc796127581b452192238d873bdc6d", func := "wardmote/wardmotelaw31.WilsonSteps", spec := "wilsonSteps", unfollowed := true, recurses := true, named := ["math/bits.deBruijn64tab"], apart := false, laid := [("math/bits.deBruijn64tab", laid_math_bits_deBruijn64tab)], narrowed := true }
def WilsonStepsUptoSaid : Prop := wilsonStepsUptoRow.holds Tryd.pinned (OpenSpec.upto wilsonStepsSpec)

/-- 'wardmotelaw31.WilsonTrees', WHERE WHAT IT READS IS OF BULK AT MOST 1048576: true; the input reads as it did. -/
def wilsonTreesUptoRow : OpenClaim := { program := "ytplkfbljncfdnaadoor", sum := "ccacc65322b14b09cf61623fd13b1ebbb9fc796127581b452192238d873bdc6d", func := "wardmote/wardmotelaw31.WilsonTrees", spec := "wilsonTrees", unfollowed := true, recurses := true, named := ["math/bits.deBruijn64tab"], apart := false, laid := [("math/bits.deBruijn64tab", laid_math_bits_deBruijn64tab)], narrowed := true }
def WilsonTreesUptoSaid : Prop := wilsonTreesUptoRow.holds Tryd.pinned (OpenSpec.upto wilsonTreesSpec)

end Rows
end Go.Proofs.YtplkfbljncfdnaaDoor
