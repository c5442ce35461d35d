/- Plain laws: the drafted plan. No program in sight but the printed functions. -/
import Derived.Test.YtfccehcnajelgaaGreatDoorQAWe
namespace Go.Proofs.YtfccehcnajelgaaGreatDoor
open Go
theorem remI_ok {x y:Int} (h:y ≠ 0):remI x y = some (x.tmod y):=if_neg h
theorem appS {α:Type} (xs ys:List α) (h:xs.length + ys.length ≤ 1000000):app xs ys = some (xs ++ ys):=if_pos (Nat.le_trans h (by decide))
end Go.Proofs.YtfccehcnajelgaaGreatDoor
