/- Plain laws: a drafted roll is valid; its people. No program in sight but the printed functions. -/
import Derived.Test.YtfncplndfpgngaaGreatDoorTHSb
namespace Go.Proofs.YtfncplndfpgngaaGreatDoor
open Go
theorem FU_lt:(1000000:Nat) < FU:=by decide
theorem RollOk.size {r:TRoll} {us:List TUnit} (h:RollOk r us):us.length ≤ r.fm.length∧r.fm.length ≤ us.length + 1:=by
  rcases h.all with e | e <;> rw [e] <;> simp
def tot (us:List TUnit):Int:=(us.map (·.fp)).sum
end Go.Proofs.YtfncplndfpgngaaGreatDoor
