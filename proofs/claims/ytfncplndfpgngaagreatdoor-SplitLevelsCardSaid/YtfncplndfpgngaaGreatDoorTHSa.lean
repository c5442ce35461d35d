/- Plain laws: the drafted plan. No program in sight but the printed functions. -/
import Derived.Test.YtfncplndfpgngaaGreatDoorTHEp
namespace Go.Proofs.YtfncplndfpgngaaGreatDoor
open Go
theorem remI_ok {x y:Int} (h:y ≠ 0):remI x y = some (x.tmod y):=if_neg h
theorem appS {α:Type} (xs ys:List α) (h:xs.length + ys.length ≤ 1000000):app xs ys = some (xs ++ ys):=if_pos (Nat.le_trans h (by decide))
def PlanOk (p:List Int) (k:Int):Prop:=(∀ x ∈ p,0 ≤ x∧x < k)∧∀ d,0 ≤ d → d < k → d ∈ p
end Go.Proofs.YtfncplndfpgngaaGreatDoor
