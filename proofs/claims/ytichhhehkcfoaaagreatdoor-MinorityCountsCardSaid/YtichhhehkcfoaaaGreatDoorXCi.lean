/- Opening an argument of 16 bits with a sign. No program in sight. -/
import Derived.Test.YtichhhehkcfoaaaGreatDoorXCd
import Derived.Test.YtichhhehkcfoaaaGreatDoorXMj
namespace Go.Proofs.YtichhhehkcfoaaaGreatDoor
open Go Go.RowKit Go.WideElems Go.ChangeShapes Go.WideShapes
theorem Opens.i16 {P:Program} {t:TypeId} (ht:P.underlying t = some (.int .i16)):Opens P t Int16:=fun h _=>by
  obtain ⟨n,rfl,_,hw⟩:=DataW.trod_int ht h
  have h2:-32768 ≤ n∧n ≤ 32767:=wf_le hw
  refine ⟨Int16.ofInt n,?_⟩
  show _ = [Value.int .i16 (Int16.ofInt n).toInt]
  rw [Int16.toInt_ofInt_of_le (by omega) (by omega)]
end Go.Proofs.YtichhhehkcfoaaaGreatDoor
