/- Plain laws: overlaps of masks; InterestOverlaps. No program in sight but the printed functions. -/
import Derived.Test.YtfccehcnajelgaaGreatDoorRDIu
import Derived.Test.YtfccehcnajelgaaGreatDoorRDIa
namespace Go.Proofs.YtfccehcnajelgaaGreatDoor
open Go
set_option maxRecDepth 8000
theorem shrU_toNat (u:UInt64) {k:Nat} (h:k < 64):(shrU u k).toNat = u.toNat / 2 ^ k:=by
  unfold shrU
  rw [if_pos h]
  exact UInt64.toNat_ofNat_of_lt' (Nat.lt_of_le_of_lt (Nat.div_le_self _ _) u.toNat_lt)
theorem andI127 (w:Nat) (h:w < 9223372036854775808):andI (w:Int) 127 = ((w % 128:Nat):Int):=by
  unfold andI
  have e:(BitVec.ofInt 64 (w:Int) &&& BitVec.ofInt 64 127).toNat = w % 128:=by
    rw [BitVec.toNat_and]
    have h1:(BitVec.ofInt 64 (w:Int)).toNat = w:=by
      rw [BitVec.toNat_ofInt]; omega
    rw [h1,show (BitVec.ofInt 64 127).toNat = 2 ^ 7 - 1 from rfl,Nat.and_two_pow_sub_one_eq_mod]
  rw [e]
  exact IntWalk.i64_in _ (by omega)
theorem ones_ok (n:Nat) (u:UInt64):math_bits_OnesCount64_p n u = some ((pc 64 u.toNat:Nat):Int):=by
  unfold math_bits_OnesCount64_p
  have hu:=u.toNat_lt
  have e1:(((shrU u 1) &&& (6148914691236517205:UInt64)) + (u &&& (6148914691236517205:UInt64))).toNat = by8 fA 8 u.toNat:=by
    rw [UInt64.toNat_add,UInt64.toNat_and,UInt64.toNat_and,shrU_toNat u (by decide),show (6148914691236517205:UInt64).toNat = mk8 85 8 from rfl,Nat.pow_one,swA]
    have:=by8_le (fun b hb=>(fAB_le b hb).1) 8 u.toNat
    exact Nat.mod_eq_of_lt (Nat.lt_of_le_of_lt this (by decide))
  generalize ((shrU u 1) &&& (6148914691236517205:UInt64)) + (u &&& (6148914691236517205:UInt64)) = u1 at *
  rw [obind]
  have e2:(((shrU u1 2) &&& (3689348814741910323:UInt64)) + (u1 &&& (3689348814741910323:UInt64))).toNat = by8 fB 8 (by8 fA 8 u.toNat):=by
    rw [UInt64.toNat_add,UInt64.toNat_and,UInt64.toNat_and,shrU_toNat u1 (by decide),show (3689348814741910323:UInt64).toNat = mk8 51 8 from rfl,e1,show (2:Nat) ^ 2 = 4 from rfl,swB]
    have:=by8_le (fun b hb=>(fAB_le b hb).2) 8 (by8 fA 8 u.toNat)
    exact Nat.mod_eq_of_lt (Nat.lt_of_le_of_lt this (by decide))
  generalize ((shrU u1 2) &&& (3689348814741910323:UInt64)) + (u1 &&& (3689348814741910323:UInt64)) = u2 at *
  rw [obind]
  have hb2:u2.toNat ≤ 68 * 72340172838076673:=by
    rw [e2,by8_comp (fun b hb=>(tab1 b hb).1)]
    exact by8_le (fun b hb=>by have:=(tab1 b hb).2.1; omega) 8 u.toNat
  have e3:(((shrU u2 4) + u2) &&& (1085102592571150095:UInt64)).toNat = by8 (pc 8) 8 u.toNat:=by
    rw [UInt64.toNat_and,UInt64.toNat_add,shrU_toNat u2 (by decide),show (1085102592571150095:UInt64).toNat = mk8 15 8 from rfl,show (2:Nat) ^ 4 = 16 from rfl,Nat.mod_eq_of_lt (by omega),e2,swar]
  generalize ((shrU u2 4) + u2) &&& (1085102592571150095:UInt64) = u3 at *
  obtain ⟨y,hy,b1,b2,b3,b4,b5⟩:=fold64 u.toNat
  rw [← e3] at hy
  have e4:(u3 + shrU u3 8).toNat = y + y / 256:=by
    rw [UInt64.toNat_add,shrU_toNat u3 (by decide),← hy,show (2:Nat) ^ 8 = 256 from rfl]
    exact Nat.mod_eq_of_lt b2
  generalize hu4:u3 + shrU u3 8 = u4 at *
  have e5:(u4 + shrU u4 16).toNat = (y + y / 256) + (y + y / 256) / 65536:=by
    rw [UInt64.toNat_add,shrU_toNat u4 (by decide),e4,show (2:Nat) ^ 16 = 65536 from rfl]
    exact Nat.mod_eq_of_lt b3
  have e6:((u4 + shrU u4 16) + shrU (u4 + shrU u4 16) 32).toNat = ((y + y / 256) + (y + y / 256) / 65536) + ((y + y / 256) + (y + y / 256) / 65536) / 4294967296:=by
    rw [UInt64.toNat_add,shrU_toNat _ (by decide),e5,show (2:Nat) ^ 32 = 4294967296 from rfl]
    exact Nat.mod_eq_of_lt (by omega)
  rw [obind]
  generalize (u4 + shrU u4 16) + shrU (u4 + shrU u4 16) 32 = u6 at *
  unfold i64of
  rw [if_pos (by omega),andI127 _ (by omega),e6,b5]
theorem works27:wardmotelaw27_works_p FU = some true:=by kernel_rfl
end Go.Proofs.YtfccehcnajelgaaGreatDoor
