/- Plain laws: shares of small numbers. No program in sight but the printed functions. -/
import Derived.Test.YtfccehcnajelgaaGreatDoorRDWd
namespace Go.Proofs.YtfccehcnajelgaaGreatDoor
open Go
def SmQ (q:Rat):Prop:=q.num.natAbs < 2147483648∧q.den < 2147483648
theorem SmQ.n {q:Rat} (h:SmQ q):Sm q.num:=by have:=h.1; unfold Sm; omega
theorem SmQ.d {q:Rat} (h:SmQ q):Sm (q.den:Int):=by have:=h.2; unfold Sm; omega
theorem W8_ne {z:Int} (h:Sm z) (h0:z ≠ 0):W8 z ≠ (0,0,0,0,0,0,0,0):=fun e=>by
  have e1:u64of z = 0:=by
    have:=congrArg Prod.fst e
    unfold W8 at this
    split at this <;> exact this
  by_cases hz:z < 0
  · have:=u64_neg h hz
    rw [e1] at this; unfold Sm at h; simp at this; omega
  · rw [u64_pos h hz] at e1
    exact ofNat_ne (by omega) h.w e1
theorem rtold_ok (n:Nat) (q:Rat) (h1:Sm q.num) (h2:Sm (q.den:Int)) (hn:10 < n):share_Ratio_Told_p n (Rt q) = some (Sh q,0):=by
  unfold share_Ratio_Told_p
  rw [show (Rt q).fx = L q.num from rfl,show (Rt q).ft = L q.den from rfl,told_ok n _ h1 hn,obind,told_ok n _ h2 hn,obind]
  rfl
theorem share_of_ok (n:Nat) (a b:Int) (ha:Sm a) (hb:Sm b) (h0:b ≠ 0) (hn:18446744073709551616 < n):share_Of_p n a b = some (Sh (Rat.divInt a b),0):=by
  obtain ⟨e1,e2,e3⟩:=lowest_ok n a b ha.w hb.w h0 hn
  unfold share_Of_p
  rw [of_ok n a (by omega),obind,of_ok n b (by omega),obind]
  unfold share_Make_p
  rw [if_neg (W8_ne hb h0),longer_ok n a ha (by omega),obind,longer_ok n b hb (by omega),obind,e1,obind,rtold_ok n _ (by unfold Sm at *; omega) (by unfold Sm at *; omega) (by omega)]
  rfl
theorem SmQ.neg {q:Rat} (h:SmQ q):SmQ (-q):=by unfold SmQ at *; rw [Rat.neg_num,Rat.neg_den,Int.natAbs_neg]; exact h
end Go.Proofs.YtfccehcnajelgaaGreatDoor
