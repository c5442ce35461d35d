/- Plain laws: a drafted roll is valid; its people. No program in sight but the printed functions. -/
import Derived.Test.YtbgcdbblaadokaaGreatDoorRVSb
namespace Go.Proofs.YtbgcdbblaadokaaGreatDoor
open Go
theorem FU_lt:(1000000:Nat) < FU:=by decide
theorem RollOk.size {r:TRoll} {us:List TUnit} (h:RollOk r us):us.length ≤ r.fE.length∧r.fE.length ≤ us.length + 1:=by
  rcases h.all with e | e <;> rw [e] <;> simp
def tot (us:List TUnit):Int:=(us.map (·.fG)).sum
end Go.Proofs.YtbgcdbblaadokaaGreatDoor
