/- Laws of the walk: maps whose values point to blocks of the call's own. No program in sight. -/
import Derived.Test.YtgejkdheojkfiaaGreatDoorPMn
namespace Go.Proofs.YtgejkdheojkfiaaGreatDoor
open Go Go.RowKit
instance:Enc (Option Nat):=⟨fun a=>.pointer (a.map fun b=>⟨b,0,none⟩)⟩
section
variable {κ β:Type}
variable {w w0:World} {T pre:List Ob} {t:TypeId} {f:β -> List Value} {Z Z1 Z2:List ((κ × β) × Nat)} {k:κ} {y y' : β} {b:Nat}
end
section
variable {P:Program} {Z:Machine -> Prop} {b:Frame} {n:Nat} {ds:List Deferred} {cs:List Frame} {k:List Item} {σ τ:List (Nat × Value)} {w w0:World} {ops:Array Oper} {l:List Oper} {d:Nat} {ty:TypeId} {ps:String} {af:Array Edge} {x y:Operand} {t t' e:TypeId} {O O' : List Ob} {dd:Option Tmp} {g:Option (Nat × Bool)}
end
end Go.Proofs.YtgejkdheojkfiaaGreatDoor
