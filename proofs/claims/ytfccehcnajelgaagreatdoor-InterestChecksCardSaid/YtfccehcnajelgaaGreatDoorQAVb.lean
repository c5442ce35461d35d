/- Plain laws: bits counted, words shifted. No program in sight but the printed functions. -/
import Derived.Test.YtfccehcnajelgaaGreatDoorQAVa
import Derived.Test.YtfccehcnajelgaaGreatDoorQASa
namespace Go.Proofs.YtfccehcnajelgaaGreatDoor
open Go
def bln (m:Nat):Nat:=if m = 0 then 0 else Nat.log2 m + 1
theorem bln_lt (m:Nat):m < 2 ^ bln m:=by
  unfold bln
  split
  · rename_i h; rw [h]; decide
  · rename_i h; exact Nat.lt_log2_self
theorem bln_ge {m:Nat} (h:m ≠ 0):2 ^ (bln m - 1) ≤ m:=by
  unfold bln
  rw [if_neg h]
  exact Nat.log2_self_le h
theorem bln_pos {m:Nat} (h:m ≠ 0):1 ≤ bln m:=by unfold bln; rw [if_neg h]; omega
theorem bln_uniq {m l:Nat} (h1:2 ^ l ≤ m) (h2:m < 2 ^ (l + 1)):bln m = l + 1:=by
  have h0:m ≠ 0:=fun e=>by have:=Nat.two_pow_pos l; omega
  have h3:=bln_lt m
  have h4:=bln_ge h0
  have h5:=bln_pos h0
  have h6:=(Nat.pow_lt_pow_iff_right (by decide:1 < 2)).1 (Nat.lt_of_le_of_lt h1 h3)
  have h7:=(Nat.pow_lt_pow_iff_right (by decide:1 < 2)).1 (Nat.lt_of_le_of_lt h4 h2)
  omega
theorem bln_shift {m s:Nat} (h:2 ^ s ≤ m):bln m = s + bln (m / 2 ^ s):=by
  have hp:=Nat.two_pow_pos s
  have h0:m / 2 ^ s ≠ 0:=fun e=>by have:=Nat.div_pos h hp; omega
  have h1:=bln_lt (m / 2 ^ s)
  have h2:=bln_ge h0
  have h3:=bln_pos h0
  have e1:2 ^ (s + (bln (m / 2 ^ s) - 1)) ≤ m:=by
    rw [Nat.pow_add,Nat.mul_comm]
    exact (Nat.le_div_iff_mul_le hp).1 h2
  have e2:m < 2 ^ (s + bln (m / 2 ^ s)):=by
    rw [Nat.pow_add,Nat.mul_comm]
    exact (Nat.div_lt_iff_lt_mul hp).1 h1
  have:=bln_uniq (l:=s + (bln (m / 2 ^ s) - 1)) e1 (by rw [show s + (bln (m / 2 ^ s) - 1) + 1 = s + bln (m / 2 ^ s) by omega]; exact e2)
  omega
theorem bln_small {m l:Nat} (h:m < 2 ^ l):bln m ≤ l:=by
  by_cases h0:m = 0
  · subst h0; simp [bln]
  · have h4:=bln_ge h0
    have h7:=(Nat.pow_lt_pow_iff_right (by decide:1 < 2)).1 (Nat.lt_of_le_of_lt h4 h)
    have:=bln_pos h0
    omega
theorem tab_all:(List.range 256).all (fun v=>decide (stab0[v]? = some (UInt8.ofNat (bln v)))) = true:=by kernel_rfl
theorem tab_ok {v:Nat} (h:v < 256):stab0[v]? = some (UInt8.ofNat (bln v)):=of_decide_eq_true (List.all_eq_true.1 tab_all v (List.mem_range.2 h))
theorem len8_ok (u:UInt64) (z:Int) (h:u.toNat < 256) (hz:0 ≤ z∧z ≤ 64):((stab0[(u8of u).toNat]?).bind fun z27=>(chk (z + ((z27.toNat:Nat):Int))).bind fun s29=>some s29) = some (z + bln u.toNat):=by
  have hb:=bln_small (l:=8) (m:=u.toNat) (by omega)
  have e:(u8of u).toNat = u.toNat:=by unfold u8of; rw [UInt8.toNat_ofNat']; omega
  have e2:(UInt8.ofNat (bln u.toNat)).toNat = bln u.toNat:=by rw [UInt8.toNat_ofNat']; omega
  rw [e,tab_ok h,obind,e2,chkI (by omega) (by omega),obind]
theorem len64_ok (n:Nat) (x:UInt64):math_bits_Len64_p n x = some (bln x.toNat:Int):=by
  have hx:=x.toNat_lt
  have k16:∀ (u:UInt64) (z:Int),u.toNat < 65536 → (0 ≤ z∧z ≤ 48) → ((if (256:UInt64) ≤ u then (chk (z + 8)).bind fun s31=>((stab0[(u8of (shrU u 8)).toNat]?).bind fun z27=>(chk (s31 + ((z27.toNat:Nat):Int))).bind fun s29=>some s29) else ((stab0[(u8of u).toNat]?).bind fun z27=>(chk (z + ((z27.toNat:Nat):Int))).bind fun s29=>some s29))) = some (z + bln u.toNat):=fun u z hu hz=>by
    by_cases c:(256:UInt64) ≤ u
    · have c2:256 ≤ u.toNat:=by rw [UInt64.le_iff_toNat_le] at c; simpa using c
      rw [if_pos c,chkI (by omega) (by omega),obind,len8_ok _ _ (by rw [shr_nat _ (by decide)]; omega) (by omega),shr_nat _ (by decide),bln_shift (m:=u.toNat) (s:=8) (by omega)]
      congr 1; omega
    · have c2:u.toNat < 256:=by rw [UInt64.le_iff_toNat_le] at c; simpa using c
      rw [if_neg c,len8_ok _ _ c2 (by omega)]
  have k32:∀ (u:UInt64) (z:Nat),u.toNat < 4294967296 → z ≤ 32 → ((if (65536:UInt64) ≤ u then (chk ((z:Int) + 16)).bind fun s33=>(if (256:UInt64) ≤ shrU u 16 then (chk (s33 + 8)).bind fun s31=>((stab0[(u8of (shrU (shrU u 16) 8)).toNat]?).bind fun z27=>(chk (s31 + ((z27.toNat:Nat):Int))).bind fun s29=>some s29) else ((stab0[(u8of (shrU u 16)).toNat]?).bind fun z27=>(chk (s33 + ((z27.toNat:Nat):Int))).bind fun s29=>some s29)) else (if (256:UInt64) ≤ u then (chk ((z:Int) + 8)).bind fun s31=>((stab0[(u8of (shrU u 8)).toNat]?).bind fun z27=>(chk (s31 + ((z27.toNat:Nat):Int))).bind fun s29=>some s29) else ((stab0[(u8of u).toNat]?).bind fun z27=>(chk ((z:Int) + ((z27.toNat:Nat):Int))).bind fun s29=>some s29)))) = some ((z:Int) + bln u.toNat):=fun u z hu hz=>by
    by_cases c:(65536:UInt64) ≤ u
    · have c2:65536 ≤ u.toNat:=by rw [UInt64.le_iff_toNat_le] at c; simpa using c
      rw [if_pos c,chkI (by omega) (by omega),obind,k16 _ _ (by rw [shr_nat _ (by decide)]; omega) (by omega),shr_nat _ (by decide),bln_shift (m:=u.toNat) (s:=16) (by omega)]
      congr 1; omega
    · have c2:u.toNat < 65536:=by rw [UInt64.le_iff_toNat_le] at c; simpa using c
      rw [if_neg c,k16 _ _ c2 (by omega)]
  unfold math_bits_Len64_p jn
  simp only
  by_cases c:(4294967296:UInt64) ≤ x
  · have c2:4294967296 ≤ x.toNat:=by rw [UInt64.le_iff_toNat_le] at c; simpa using c
    rw [if_pos c]
    refine (k32 (shrU x 32) 32 (by rw [shr_nat _ (by decide)]; omega) (by omega)).trans ?_
    rw [shr_nat _ (by decide),bln_shift (m:=x.toNat) (s:=32) (by omega)]
    congr 1
  · have c2:x.toNat < 4294967296:=by rw [UInt64.le_iff_toNat_le] at c; simpa using c
    rw [if_neg c]
    refine (k32 x 0 c2 (by omega)).trans ?_
    congr 1; omega
theorem idxN {α:Type} {xs:List α} {i:Nat} (h:i < xs.length):idx xs (i:Int) = some xs[i]:=by
  rw [idx_ok (by omega) (by rw [Int.toNat_natCast]; exact h)]
  simp only [Int.toNat_natCast]
end Go.Proofs.YtfccehcnajelgaaGreatDoor
