/- Laws of the walk: ranges over maps, whatever the order. No program in sight. -/
import Derived.Test.YtgejkdheojkfiaaGreatDoorPMk
import Derived.Maps.RangeRun
namespace Go.Proofs.YtgejkdheojkfiaaGreatDoor
open Go Go.RowKit
def left {ε:Type} (D:List ε) (sn:Array Nat):List ε:=(D.zipIdx.filter fun e=>!sn.contains e.2).map (·.1)
section
variable {P:Program} {Z:Machine -> Prop} {b:Frame} {n:Nat} {ds:List Deferred} {cs:List Frame} {k:List Item} {σ τ:List (Nat × Value)} {w w0:World} {ops:Array Oper} {l:List Oper} {d:Nat} {ty:TypeId} {ps:String} {af:Array Edge} {x:Operand} {t:TypeId} {O O' : List Ob} {dd:Option Tmp} {g:Option (Nat × Bool)}
variable {κ ν:Type} [Enc κ] [Enc ν]
end
end Go.Proofs.YtgejkdheojkfiaaGreatDoor
