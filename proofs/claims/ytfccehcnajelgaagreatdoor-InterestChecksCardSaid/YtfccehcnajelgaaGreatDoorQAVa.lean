/- Plain laws: words shifted and divided: numbers alone. No program in sight. -/
import Derived.Test.YtfccehcnajelgaaGreatDoorQAWb
namespace Go.Proofs.YtfccehcnajelgaaGreatDoor
open Go
theorem shl_nat (x:UInt64) {s:Nat} (hs:s < 64):(shlU x s).toNat = x.toNat * 2 ^ s % 18446744073709551616:=by
  unfold shlU; rw [if_pos hs,UInt64.toNat_ofNat']
theorem shr_nat (x:UInt64) {s:Nat} (hs:s < 64):(shrU x s).toNat = x.toNat / 2 ^ s:=by
  unfold shrU; rw [if_pos hs,UInt64.toNat_ofNat']
  exact Nat.mod_eq_of_lt (Nat.lt_of_le_of_lt (Nat.div_le_self _ _) x.toNat_lt)
theorem shl_zero (x:UInt64):shlU x 0 = x:=by
  refine UInt64.toNat_inj.1 ?_
  rw [shl_nat x (by decide),Nat.pow_zero,Nat.mul_one]
  exact Nat.mod_eq_of_lt x.toNat_lt
def eu (x y:Nat):Nat:=if y = 0 then 0 else (if x < y then 1 else 0) + Nat.log2 (x * y) + 1
theorem eu_step {x y:Nat} (h:y ≠ 0):eu y (x % y) < eu x y:=by
  have hm:x % y < y:=Nat.mod_lt _ (by omega)
  unfold eu
  rw [if_neg h]
  by_cases h0:x % y = 0
  · rw [if_pos h0]; omega
  · rw [if_neg h0,if_neg (show ¬ y < x % y by omega)]
    by_cases h1:x < y
    · rw [if_pos h1,Nat.mod_eq_of_lt h1,Nat.mul_comm y x]; omega
    · rw [if_neg h1]
      have h2:2 * (x % y) < x ∨ 2 * (x % y) = x:=by
        have h3:=Nat.div_add_mod x y
        have h4:1 ≤ x / y:=Nat.div_pos (by omega) (by omega)
        have h5:y * 1 ≤ y * (x / y):=Nat.mul_le_mul_left _ h4
        omega
      have h6:2 * (y * (x % y)) ≤ x * y:=by
        rw [Nat.mul_comm x y,Nat.mul_left_comm]
        exact Nat.mul_le_mul_left _ (by omega)
      have h7:y * (x % y) ≠ 0:=Nat.mul_ne_zero h h0
      have h8:Nat.log2 (y * (x % y)) + 1 ≤ Nat.log2 (x * y):=by
        rw [Nat.le_log2 (by omega),Nat.pow_succ]
        have:=Nat.log2_self_le h7
        omega
      omega
theorem eu_le {x y l:Nat} (hx:x < 2 ^ l) (hy:y < 2 ^ l):eu x y ≤ 2 * l + 2:=by
  unfold eu
  split
  · omega
  · rename_i h
    have h1:Nat.log2 (x * y) ≤ 2 * l:=by
      by_cases h0:x * y = 0
      · rw [h0]; simp
      · have:Nat.log2 (x * y) < 2 * l:=by
          rw [Nat.log2_lt h0,Nat.two_mul,Nat.pow_add]
          exact Nat.mul_lt_mul'' hx hy
        omega
    split <;> omega
end Go.Proofs.YtfccehcnajelgaaGreatDoor
