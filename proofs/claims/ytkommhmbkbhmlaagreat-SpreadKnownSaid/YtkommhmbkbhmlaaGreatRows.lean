/-
  No cell of these rows narrows 'for every input' (looked for: loops, veiled, ifaces, maps, wideKeys, modest, calm, conditions, laid).
  DERIVED. THE GIVEN ROWS OF THIS SEAT. 9 by the template 'for every input the law returns true; each argument reads behind the call as it read before'; 0 by the template 'total and deterministic' (their statements: YtkommhmbkbhmlaaGreatTotals.lean).
  GIVEN WITH THE SEED: the statements are not yours to turn. If you find one false, say at which input.
  Laid BY PROGRAM, IN A SANDBOX (cutbox-rows.mjs): the forced cells as the released guide's own fill.sh prints them over the translation f1a9720c2275328b… (all of the seat's roots in one cut). By AI agents, Wed Nov 11 2026. No macro, syntax, notation, axiom, sorry.
-/
import Derived.Test.YtkommhmbkbhmlaaGreatChecked
import GoSem.Claim
import GoSem.ClaimJoined
import GoSem.ClaimMapViews
import Derived.JoinedTies
import Derived.KernelRfl
namespace Go.Proofs.YtkommhmbkbhmlaaGreat
/- THE CELL 'sum', in the pinned program and in every row, IS THE sha256 OF THE DUMP (.gsa) THAT YtkommhmbkbhmlaaGreatProg.lean LOADS. Nothing in Lean hashes anything: it is a label: what it is worth is what the hold of that sum in a sandbox is worth. -/
noncomputable def Tryz.pinned : Pinned := { name := "ytkommhmbkbhmlaagreat", sum := "f1a9720c2275328b20a5c47f39d9076a251b1bb041f62ad5e946d176edc035ea", checked := Tryz.checked }
namespace Rows
def none {H : Type} : Left H := { results := [], args := [] }

/-- 'wardmotelaw05.SpreadKnown': WHATEVER THE INPUT: true; the input reads as it did. -/
def spreadKnownSpec : ChangeSpec := { name := "spreadKnown", fn := fun _ => fun
  | [] => { results := [.lit (.bool true)], args := [] }
  | _ => none }
def spreadKnownRow : OpenClaim := { program := "ytkommhmbkbhmlaagreat", sum := "f1a9720c2275328b20a5c47f39d9076a251b1bb041f62ad5e946d176edc035ea", func := "wardmote/wardmotelaw05.SpreadKnown", spec := "spreadKnown", inPlace := ["math/bits.Sub64", "math/bits.Add64"], unfollowed := true, recurses := true, named := ["math/bits.divideError", "math/bits.overflowError"], plainKeys := false, apart := false }
def SpreadKnownSaid : Prop := spreadKnownRow.holds Tryz.pinned (OpenSpec.ofChange spreadKnownSpec)

/-- ITS FALSE NEIGHBOUR: 'it returns false'. Refute it at one input. -/
def spreadKnownWrong : ChangeSpec := { name := "spreadKnown", fn := fun _ => fun
  | [] => { results := [.lit (.bool false)], args := [] }
  | _ => none }
def SpreadKnownWrongFalsely : Prop := spreadKnownRow.holds Tryz.pinned (OpenSpec.ofChange spreadKnownWrong)

/-- 'wardmotelaw05.SpreadMixes': WHATEVER THE INPUT: true; the input reads as it did. -/
def spreadMixesSpec : ChangeSpec := { name := "spreadMixes", fn := fun _ => fun
  | [d1, d2, d3, d4, d5] => { results := [.lit (.bool true)], args := [d1, d2, d3, d4, d5] }
  | _ => none }
def spreadMixesRow : OpenClaim := { program := "ytkommhmbkbhmlaagreat", sum := "f1a9720c2275328b20a5c47f39d9076a251b1bb041f62ad5e946d176edc035ea", func := "wardmote/wardmotelaw05.SpreadMixes", spec := "spreadMixes", inPlace := ["math/bits.Sub64", "math/bits.Add64"], unfollowed := true, recurses := true, named := ["math/bits.divideError", "math/bits.overflowError"], plainKeys := false, apart := false }
def SpreadMixesSaid : Prop := spreadMixesRow.holds Tryz.pinned (OpenSpec.ofChange spreadMixesSpec)

/-- ITS FALSE NEIGHBOUR: 'it returns false'. Refute it at one input. -/
def spreadMixesWrong : ChangeSpec := { name := "spreadMixes", fn := fun _ => fun
  | [d1, d2, d3, d4, d5] => { results := [.lit (.bool false)], args := [d1, d2, d3, d4, d5] }
  | _ => none }
def SpreadMixesWrongFalsely : Prop := spreadMixesRow.holds Tryz.pinned (OpenSpec.ofChange spreadMixesWrong)

/-- 'wardmotelaw05.SpreadSums': WHATEVER THE INPUT: true; the input reads as it did. -/
def spreadSumsSpec : ChangeSpec := { name := "spreadSums", fn := fun _ => fun
  | [d1, d2, d3, d4, d5] => { results := [.lit (.bool true)], args := [d1, d2, d3, d4, d5] }
  | _ => none }
def spreadSumsRow : OpenClaim := { program := "ytkommhmbkbhmlaagreat", sum := "f1a9720c2275328b20a5c47f39d9076a251b1bb041f62ad5e946d176edc035ea", func := "wardmote/wardmotelaw05.SpreadSums", spec := "spreadSums", inPlace := ["math/bits.Sub64", "math/bits.Add64"], unfollowed := true, recurses := true, named := ["math/bits.divideError", "math/bits.overflowError"], plainKeys := false, apart := false }
def SpreadSumsSaid : Prop := spreadSumsRow.holds Tryz.pinned (OpenSpec.ofChange spreadSumsSpec)

/-- ITS FALSE NEIGHBOUR: 'it returns false'. Refute it at one input. -/
def spreadSumsWrong : ChangeSpec := { name := "spreadSums", fn := fun _ => fun
  | [d1, d2, d3, d4, d5] => { results := [.lit (.bool false)], args := [d1, d2, d3, d4, d5] }
  | _ => none }
def SpreadSumsWrongFalsely : Prop := spreadSumsRow.holds Tryz.pinned (OpenSpec.ofChange spreadSumsWrong)

/-- 'wardmotelaw05.SpreadMoments': WHATEVER THE INPUT: true; the input reads as it did. -/
def spreadMomentsSpec : ChangeSpec := { name := "spreadMoments", fn := fun _ => fun
  | [d1, d2, d3, d4, d5] => { results := [.lit (.bool true)], args := [d1, d2, d3, d4, d5] }
  | _ => none }
def spreadMomentsRow : OpenClaim := { program := "ytkommhmbkbhmlaagreat", sum := "f1a9720c2275328b20a5c47f39d9076a251b1bb041f62ad5e946d176edc035ea", func := "wardmote/wardmotelaw05.SpreadMoments", spec := "spreadMoments", inPlace := ["math/bits.Sub64", "math/bits.Add64"], unfollowed := true, recurses := true, named := ["math/bits.divideError", "math/bits.overflowError"], plainKeys := false, apart := false }
def SpreadMomentsSaid : Prop := spreadMomentsRow.holds Tryz.pinned (OpenSpec.ofChange spreadMomentsSpec)

/-- ITS FALSE NEIGHBOUR: 'it returns false'. Refute it at one input. -/
def spreadMomentsWrong : ChangeSpec := { name := "spreadMoments", fn := fun _ => fun
  | [d1, d2, d3, d4, d5] => { results := [.lit (.bool false)], args := [d1, d2, d3, d4, d5] }
  | _ => none }
def SpreadMomentsWrongFalsely : Prop := spreadMomentsRow.holds Tryz.pinned (OpenSpec.ofChange spreadMomentsWrong)

/-- 'wardmotelaw05.SpreadAdds': WHATEVER THE INPUT: true; the input reads as it did. -/
def spreadAddsSpec : ChangeSpec := { name := "spreadAdds", fn := fun _ => fun
  | [d1, d2, d3] => { results := [.lit (.bool true)], args := [d1, d2, d3] }
  | _ => none }
def spreadAddsRow : OpenClaim := { program := "ytkommhmbkbhmlaagreat", sum := "f1a9720c2275328b20a5c47f39d9076a251b1bb041f62ad5e946d176edc035ea", func := "wardmote/wardmotelaw05.SpreadAdds", spec := "spreadAdds", inPlace := ["math/bits.Sub64", "math/bits.Add64"], unfollowed := true, recurses := true, named := ["math/bits.divideError", "math/bits.overflowError"], plainKeys := false, apart := false }
def SpreadAddsSaid : Prop := spreadAddsRow.holds Tryz.pinned (OpenSpec.ofChange spreadAddsSpec)

/-- ITS FALSE NEIGHBOUR: 'it returns false'. Refute it at one input. -/
def spreadAddsWrong : ChangeSpec := { name := "spreadAdds", fn := fun _ => fun
  | [d1, d2, d3] => { results := [.lit (.bool false)], args := [d1, d2, d3] }
  | _ => none }
def SpreadAddsWrongFalsely : Prop := spreadAddsRow.holds Tryz.pinned (OpenSpec.ofChange spreadAddsWrong)

/-- 'wardmotelaw05.SpreadMetric': WHATEVER THE INPUT: true; the input reads as it did. -/
def spreadMetricSpec : ChangeSpec := { name := "spreadMetric", fn := fun _ => fun
  | [d1, d2, d3, d4] => { results := [.lit (.bool true)], args := [d1, d2, d3, d4] }
  | _ => none }
def spreadMetricRow : OpenClaim := { program := "ytkommhmbkbhmlaagreat", sum := "f1a9720c2275328b20a5c47f39d9076a251b1bb041f62ad5e946d176edc035ea", func := "wardmote/wardmotelaw05.SpreadMetric", spec := "spreadMetric", inPlace := ["math/bits.Sub64", "math/bits.Add64"], unfollowed := true, recurses := true, named := ["math/bits.divideError", "math/bits.overflowError"], plainKeys := false, apart := false }
def SpreadMetricSaid : Prop := spreadMetricRow.holds Tryz.pinned (OpenSpec.ofChange spreadMetricSpec)

/-- ITS FALSE NEIGHBOUR: 'it returns false'. Refute it at one input. -/
def spreadMetricWrong : ChangeSpec := { name := "spreadMetric", fn := fun _ => fun
  | [d1, d2, d3, d4] => { results := [.lit (.bool false)], args := [d1, d2, d3, d4] }
  | _ => none }
def SpreadMetricWrongFalsely : Prop := spreadMetricRow.holds Tryz.pinned (OpenSpec.ofChange spreadMetricWrong)

/-- 'wardmotelaw05.SpreadOrders': WHATEVER THE INPUT: true; the input reads as it did. -/
def spreadOrdersSpec : ChangeSpec := { name := "spreadOrders", fn := fun _ => fun
  | [d1, d2, d3] => { results := [.lit (.bool true)], args := [d1, d2, d3] }
  | _ => none }
def spreadOrdersRow : OpenClaim := { program := "ytkommhmbkbhmlaagreat", sum := "f1a9720c2275328b20a5c47f39d9076a251b1bb041f62ad5e946d176edc035ea", func := "wardmote/wardmotelaw05.SpreadOrders", spec := "spreadOrders", inPlace := ["math/bits.Sub64", "math/bits.Add64"], unfollowed := true, recurses := true, named := ["math/bits.divideError", "math/bits.overflowError"], plainKeys := false, apart := false }
def SpreadOrdersSaid : Prop := spreadOrdersRow.holds Tryz.pinned (OpenSpec.ofChange spreadOrdersSpec)

/-- ITS FALSE NEIGHBOUR: 'it returns false'. Refute it at one input. -/
def spreadOrdersWrong : ChangeSpec := { name := "spreadOrders", fn := fun _ => fun
  | [d1, d2, d3] => { results := [.lit (.bool false)], args := [d1, d2, d3] }
  | _ => none }
def SpreadOrdersWrongFalsely : Prop := spreadOrdersRow.holds Tryz.pinned (OpenSpec.ofChange spreadOrdersWrong)

/-- 'wardmotelaw05.SpreadTallies': WHATEVER THE INPUT: true; the input reads as it did. -/
def spreadTalliesSpec : ChangeSpec := { name := "spreadTallies", fn := fun _ => fun
  | [d] => { results := [.lit (.bool true)], args := [d] }
  | _ => none }
def spreadTalliesRow : OpenClaim := { program := "ytkommhmbkbhmlaagreat", sum := "f1a9720c2275328b20a5c47f39d9076a251b1bb041f62ad5e946d176edc035ea", func := "wardmote/wardmotelaw05.SpreadTallies", spec := "spreadTallies", inPlace := ["math/bits.Sub64", "math/bits.Add64"], unfollowed := true, recurses := true, named := ["math/bits.divideError", "math/bits.overflowError"], plainKeys := false, apart := false }
def SpreadTalliesSaid : Prop := spreadTalliesRow.holds Tryz.pinned (OpenSpec.ofChange spreadTalliesSpec)

/-- ITS FALSE NEIGHBOUR: 'it returns false'. Refute it at one input. -/
def spreadTalliesWrong : ChangeSpec := { name := "spreadTallies", fn := fun _ => fun
  | [d] => { results := [.lit (.bool false)], args := [d] }
  | _ => none }
def SpreadTalliesWrongFalsely : Prop := spreadTalliesRow.holds Tryz.pinned (OpenSpec.ofChange spreadTalliesWrong)

/-- 'wardmotelaw05.SpreadMakes': WHATEVER THE INPUT: true; the input reads as it did. -/
def spreadMakesSpec : ChangeSpec := { name := "spreadMakes", fn := fun _ => fun
  | [d1, d2, d3, d4, d5] => { results := [.lit (.bool true)], args := [d1, d2, d3, d4, d5] }
  | _ => none }
def spreadMakesRow : OpenClaim := { program := "ytkommhmbkbhmlaagreat", sum := "f1a9720c2275328b20a5c47f39d9076a251b1bb041f62ad5e946d176edc035ea", func := "wardmote/wardmotelaw05.SpreadMakes", spec := "spreadMakes", inPlace := ["math/bits.Sub64", "math/bits.Add64"], unfollowed := true, recurses := true, named := ["math/bits.divideError", "math/bits.overflowError"], plainKeys := false, apart := false }
def SpreadMakesSaid : Prop := spreadMakesRow.holds Tryz.pinned (OpenSpec.ofChange spreadMakesSpec)

/-- ITS FALSE NEIGHBOUR: 'it returns false'. Refute it at one input. -/
def spreadMakesWrong : ChangeSpec := { name := "spreadMakes", fn := fun _ => fun
  | [d1, d2, d3, d4, d5] => { results := [.lit (.bool false)], args := [d1, d2, d3, d4, d5] }
  | _ => none }
def SpreadMakesWrongFalsely : Prop := spreadMakesRow.holds Tryz.pinned (OpenSpec.ofChange spreadMakesWrong)

/- THE SECOND FORM. 'bulk': how many values and letters a reading holds, each counted each time it is reached (what is shared counts as often as it is met; a slice's spare places count too). A statement '..UptoSaid' is the law's where the arguments, and the package variables that the reading takes, are together of bulk at most 1048576: NARROWER than '..Said'. Prove '..Said' where nothing that the law and all that it calls make is longer than what came in: it says more and counts as full. Else prove '..UptoSaid'. A law counts once. -/
mutual
def uptoBulk {H : Type} : DataW H → Nat
  | .lit (.string bytes) => bytes.length + 1
  | .lit _ => 1
  | .nil => 1
  | .ptr d => uptoBulk d + 1
  | .slice elems spare => uptoBulkAll elems + uptoBulkAll spare + 1
  | .agg parts => uptoBulkAll parts + 1
  | .iface _ d => uptoBulk d + 1
  | .map entries => uptoBulkEntries entries + 1
  | .held _ => 1
def uptoBulkAll {H : Type} : List (DataW H) → Nat
  | [] => 0
  | d :: r => uptoBulk d + uptoBulkAll r
def uptoBulkEntries {H : Type} : List (Lit × DataW H) → Nat
  | [] => 0
  | x :: r => uptoBulkEntry x + uptoBulkEntries r
def uptoBulkEntry {H : Type} : Lit × DataW H → Nat
  | (.string bytes, d) => bytes.length + uptoBulk d + 1
  | (_, d) => uptoBulk d + 1
 end
def uptoSmall : (H : Type) → List (DataW H) → Bool := fun _ ds => decide (uptoBulkAll ds ≤ 1048576)
def OpenSpec.upto (s : _root_.Go.ChangeSpec) : _root_.Go.OpenSpec := { _root_.Go.OpenSpec.ofChange s with cond := some uptoSmall }

/-- 'wardmotelaw05.SpreadKnown', WHERE WHAT IT READS IS OF BULK AT MOST 1048576: true; the input reads as it did. -/
def spreadKnownUptoRow : OpenClaim := { program := "ytkommhmbkbhmlaagreat", sum := "f1a9720c2275328b20a5c47f39d9076a251b1bb041f62ad5e946d176edc035ea", func := "wardmote/wardmotelaw05.SpreadKnown", spec := "spreadKnown", inPlace := ["math/bits.Sub64", "math/bits.Add64"], unfollowed := true, recurses := true, named := ["math/bits.divideError", "math/bits.overflowError"], plainKeys := false, apart := false, narrowed := true }
def SpreadKnownUptoSaid : Prop := spreadKnownUptoRow.holds Tryz.pinned (OpenSpec.upto spreadKnownSpec)

/-- 'wardmotelaw05.SpreadMixes', WHERE WHAT IT READS IS OF BULK AT MOST 1048576: true; the input reads as it did. -/
def spreadMixesUptoRow : OpenClaim := { program := "ytkommhmbkbhmlaagreat", sum := "f1a9720c2275328b20a5c47f39d9076a251b1bb041f62ad5e946d176edc035ea", func := "wardmote/wardmotelaw05.SpreadMixes", spec := "spreadMixes", inPlace := ["math/bits.Sub64", "math/bits.Add64"], unfollowed := true, recurses := true, named := ["math/bits.divideError", "math/bits.overflowError"], plainKeys := false, apart := false, narrowed := true }
def SpreadMixesUptoSaid : Prop := spreadMixesUptoRow.holds Tryz.pinned (OpenSpec.upto spreadMixesSpec)

/-- 'wardmotelaw05.SpreadSums', WHERE WHAT IT READS IS OF BULK AT MOST 1048576: true; the input reads as it did. -/
def spreadSumsUptoRow : OpenClaim := { program := "ytkommhmbkbhmlaagreat", sum := "f1a9720c2275328b20a5c47f39d9076a251b1bb041f62ad5e946d176edc035ea", func := "wardmote/wardmotelaw05.SpreadSums", spec := "spreadSums", inPlace := ["math/bits.Sub64", "math/bits.Add64"], unfollowed := true, recurses := true, named := ["math/bits.divideError", "math/bits.overflowError"], plainKeys := false, apart := false, narrowed := true }
def SpreadSumsUptoSaid : Prop := spreadSumsUptoRow.holds Tryz.pinned (OpenSpec.upto spreadSumsSpec)

/-- 'wardmotelaw05.SpreadMoments', WHERE WHAT IT READS IS OF BULK AT MOST 1048576: true; the input reads as it did. -/
def spreadMomentsUptoRow : OpenClaim := { program := "ytkommhmbkbhmlaagreat", sum := "f1a9720c2275328b20a5c47f39d9076a251b1bb041f62ad5e946d176edc035ea", func := "wardmote/wardmotelaw05.SpreadMoments", spec := "spreadMoments", inPlace := ["math/bits.Sub64", "math/bits.Add64"], unfollowed := true, recurses := true, named := ["math/bits.divideError", "math/bits.overflowError"], plainKeys := false, apart := false, narrowed := true }
def SpreadMomentsUptoSaid : Prop := spreadMomentsUptoRow.holds Tryz.pinned (OpenSpec.upto spreadMomentsSpec)

/-- 'wardmotelaw05.SpreadAdds', WHERE WHAT IT READS IS OF BULK AT MOST 1048576: true; the input reads as it did. -/
def spreadAddsUptoRow : OpenClaim := { program := "ytkommhmbkbhmlaagreat", sum := "f1a9720c2275328b20a5c47f39d9076a251b1bb041f62ad5e946d176edc035ea", func := "wardmote/wardmotelaw05.SpreadAdds", spec := "spreadAdds", inPlace := ["math/bits.Sub64", "math/bits.Add64"], unfollowed := true, recurses := true, named := ["math/bits.divideError", "math/bits.overflowError"], plainKeys := false, apart := false, narrowed := true }
def SpreadAddsUptoSaid : Prop := spreadAddsUptoRow.holds Tryz.pinned (OpenSpec.upto spreadAddsSpec)

/-- 'wardmotelaw05.SpreadMetric', WHERE WHAT IT READS IS OF BULK AT MOST 1048576: true; the input reads as it did. -/
def spreadMetricUptoRow : OpenClaim := { program := "ytkommhmbkbhmlaagreat", sum := "f1a9720c2275328b20a5c47f39d9076a251b1bb041f62ad5e946d176edc035ea", func := "wardmote/wardmotelaw05.SpreadMetric", spec := "spreadMetric", inPlace := ["math/bits.Sub64", "math/bits.Add64"], unfollowed := true, recurses := true, named := ["math/bits.divideError", "math/bits.overflowError"], plainKeys := false, apart := false, narrowed := true }
def SpreadMetricUptoSaid : Prop := spreadMetricUptoRow.holds Tryz.pinned (OpenSpec.upto spreadMetricSpec)

/-- 'wardmotelaw05.SpreadOrders', WHERE WHAT IT READS IS OF BULK AT MOST 1048576: true; the input reads as it did. -/
def spreadOrdersUptoRow : OpenClaim := { program := "ytkommhmbkbhmlaagreat", sum := "f1a9720c2275328b20a5c47f39d9076a251b1bb041f62ad5e946d176edc035ea", func := "wardmote/wardmotelaw05.SpreadOrders", spec := "spreadOrders", inPlace := ["math/bits.Sub64", "math/bits.Add64"], unfollowed := true, recurses := true, named := ["math/bits.divideError", "math/bits.overflowError"], plainKeys := false, apart := false, narrowed := true }
def SpreadOrdersUptoSaid : Prop := spreadOrdersUptoRow.holds Tryz.pinned (OpenSpec.upto spreadOrdersSpec)

/-- 'wardmotelaw05.SpreadTallies', WHERE WHAT IT READS IS OF BULK AT MOST 1048576: true; the input reads as it did. -/
def spreadTalliesUptoRow : OpenClaim := { program := "ytkommhmbkbhmlaagreat", sum := "f1a9720c2275328b20a5c47f39d9076a251b1bb041f62ad5e946d176edc035ea", func := "wardmote/wardmotelaw05.SpreadTallies", spec := "spreadTallies", inPlace := ["math/bits.Sub64", "math/bits.Add64"], unfollowed := true, recurses := true, named := ["math/bits.divideError", "math/bits.overflowError"], plainKeys := false, apart := false, narrowed := true }
def SpreadTalliesUptoSaid : Prop := spreadTalliesUptoRow.holds Tryz.pinned (OpenSpec.upto spreadTalliesSpec)

/-- 'wardmotelaw05.SpreadMakes', WHERE WHAT IT READS IS OF BULK AT MOST 1048576: true; the input reads as it did. -/
def spreadMakesUptoRow : OpenClaim := { program := "ytkommhmbkbhmlaagreat", sum := "f1a9720c2275328b20a5c47f39d9076a251b1bb041f62ad5e946d176edc035ea", func := "wardmote/wardmotelaw05.SpreadMakes", spec := "spreadMakes", inPlace := ["math/bits.Sub64", "math/bits.Add64"], unfollowed := true, recurses := true, named := ["math/bits.divideError", "math/bits.overflowError"], plainKeys := false, apart := false, narrowed := true }
def SpreadMakesUptoSaid : Prop := spreadMakesUptoRow.holds Tryz.pinned (OpenSpec.upto spreadMakesSpec)

end Rows
end Go.Proofs.YtkommhmbkbhmlaaGreat
