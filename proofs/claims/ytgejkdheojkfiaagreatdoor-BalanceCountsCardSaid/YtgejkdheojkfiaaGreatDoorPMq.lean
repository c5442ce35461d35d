/- Laws of the walk: slices of slices that the call made. No program in sight. -/
import Derived.Test.YtgejkdheojkfiaaGreatDoorPMo
namespace Go.Proofs.YtgejkdheojkfiaaGreatDoor
open Go Go.RowKit
section
variable {w w0:World} {O O' T pre pre' : List Ob} {L:List Nat} {base e e2:Nat} {v0 v y:Value} {Z Z1 Z2:List (Value × List Int)} {xs xs' : List Int} {cs cs' : List Value}
end
end Go.Proofs.YtgejkdheojkfiaaGreatDoor
