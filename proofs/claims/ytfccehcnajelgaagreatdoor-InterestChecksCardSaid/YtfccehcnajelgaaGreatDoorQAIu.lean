/- Plain laws: shares of small numbers; how they compare. No program in sight but the printed functions. -/
import Derived.Test.YtfccehcnajelgaaGreatDoorQAVg
namespace Go.Proofs.YtfccehcnajelgaaGreatDoor
open Go
set_option maxRecDepth 8000
def FU:Nat:=18446744073709552000
theorem FU_lt:(1000000:Nat) < FU:=by decide
theorem FU_big:(18446744073709551616:Nat) < FU:=by decide
theorem sof {a b:Int} (h0:b ≠ 0) (ha:Sm a) (hb:Sm b):share_Of_p FU a b = some (Sg (Rat.divInt a b),0):=by
  obtain ⟨d1,d2⟩:=div_le (a:=a) h0
  rw [share_of_ok FU a b ha hb h0 FU_big,Sh_Sg (by unfold Sm at *; omega) (by unfold Sm at *; omega)]
theorem Sm_of {z:Int} (h:z.natAbs < 1000000):Sm z:=by unfold Sm; omega
end Go.Proofs.YtfccehcnajelgaaGreatDoor
