/- Laws of the walk: maps whose values point to blocks of the call's own. No program in sight. -/
import Derived.Test.YtfccehcnajelgaaGreatDoorTMn
namespace Go.Proofs.YtfccehcnajelgaaGreatDoor
open Go Go.RowKit
instance:Enc (Option Nat):=⟨fun a=>.pointer (a.map fun b=>⟨b,0,none⟩)⟩
section
variable {κ β:Type}
def boxes (t:TypeId) (f:β → List Value) (Z:List ((κ × β) × Nat)):List Ob:=Z.map fun z=>.cells z.2 (f z.1.2) t
variable {w w0:World} {T pre:List Ob} {t:TypeId} {f:β → List Value} {Z Z1 Z2:List ((κ × β) × Nat)} {k:κ} {y y' : β} {b:Nat}
theorem At.app {pre O:List Ob} {o:Ob} (h:At O o):At (pre ++ O) o:=by
  induction pre with
  | nil=>exact h
  | cons x pre ih=>exact .tl ih
theorem At.box {i:Nat} {z:(κ × β) × Nat} (h:Z[i]? = some z):At (pre ++ (boxes t f Z ++ T)) (.cells z.2 (f z.1.2) t):=by
  refine At.app ?_
  unfold boxes
  induction Z generalizing i with
  | nil=>simp at h
  | cons x Z ih=>
    cases i with
    | zero=>simp at h; subst h; exact .hd
    | succ i=>exact .tl (ih (by simpa using h))
end
section
variable {P:Program} {Z:Machine → Prop} {b:Frame} {n:Nat} {ds:List Deferred} {cs:List Frame} {k:List Item} {σ τ:List (Nat × Value)} {w w0:World} {ops:Array Oper} {l:List Oper} {d:Nat} {ty:TypeId} {ps:String} {af:Array Edge} {x y:Operand} {t t' e:TypeId} {O O' : List Ob} {dd:Option Tmp} {g:Option (Nat × Bool)}
end
end Go.Proofs.YtfccehcnajelgaaGreatDoor
