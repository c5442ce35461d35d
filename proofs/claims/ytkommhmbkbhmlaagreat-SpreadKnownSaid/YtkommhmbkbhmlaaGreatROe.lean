/- Laws of the walk: arrays of slices, at a variable. No program in sight. -/
import Derived.Test.YtkommhmbkbhmlaaGreatRRs
namespace Go.Proofs.YtkommhmbkbhmlaaGreat
open Go Go.RowKit
section
variable {P:Program} {σ:List (Nat × Vc)} {w:World} {x y:Operand} {d:Oa Tmp} {t ty:TypeId} {ps:String} {af:Array Edge} {g:Oa (Nat × Bool)} {β:Type} [Rep β] {L:List Nat}
end
open Go Go.RowKit
def cdS:Nat -> Code -> Oa Code
 | 0,c=>some c
 | k + 1,.seq _ b=>cdS k b
 | _ + 1,_=>none
def cdT (P:Program) (f k:Nat):Oa Code:=(P.funcs[f]?).bind fun fn=>fn.body.bind fun c=>cdS k c
theorem eD {P:Program} {f k:Nat} {fn:Func} {c d:Code} (hf:P.funcs[f]? = some fn) (hb:fn.body = some c) (h:cdS k c = some d):cdT P f k = some d:=by
 unfold cdT
 rw [hf,Option.bind_some,hb,Option.bind_some,h]
end Go.Proofs.YtkommhmbkbhmlaaGreat
