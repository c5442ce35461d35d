/- Plain laws: how long the parts of fractions are, in bits. No program in sight. -/
import Derived.Test.YtfccehcnajelgaaGreatDoorRDVf
namespace Go.Proofs.YtfccehcnajelgaaGreatDoor
open Go
set_option maxRecDepth 8000
theorem div_num {a b:Int} (hb:b ≠ 0):(Rat.divInt a b).num * b = a * (Rat.divInt a b).den:=by
  have h:=Rat.num_divInt_den (Rat.divInt a b)
  exact (Rat.divInt_eq_divInt_iff FQ.ndnz hb).1 h
theorem div_le {a b:Int} (hb:b ≠ 0):(Rat.divInt a b).num.natAbs ≤ a.natAbs∧(Rat.divInt a b).den ≤ b.natAbs:=by
  have h:=congrArg Int.natAbs (div_num (a:=a) hb)
  rw [Int.natAbs_mul,Int.natAbs_mul,Int.natAbs_natCast] at h
  have hc:=(Rat.divInt a b).reduced
  have hd:=(Rat.divInt a b).den_pos
  generalize (Rat.divInt a b).num.natAbs = x at *
  generalize (Rat.divInt a b).den = y at *
  have hbp:0 < b.natAbs:=by omega
  constructor
  · by_cases h0:a.natAbs = 0
    · rw [h0,Nat.zero_mul] at h
      rcases Nat.mul_eq_zero.1 h with h1 | h1
      · omega
      · omega
    · exact Nat.le_of_dvd (by omega) (hc.dvd_of_dvd_mul_right (by rw [← h]; exact Nat.dvd_mul_right ..))
  · exact Nat.le_of_dvd hbp (hc.symm.dvd_of_dvd_mul_left (by rw [h]; exact Nat.dvd_mul_left ..))
def Bt (i j:Nat) (q:Rat):Prop:=q.num.natAbs < 2 ^ i∧q.den < 2 ^ j
theorem Bt.mono {i j i' j' : Nat} {q:Rat} (h:Bt i j q) (hi:i ≤ i') (hj:j ≤ j'):Bt i' j' q:=⟨Nat.lt_of_lt_of_le h.1 (Nat.pow_le_pow_right (by decide) hi),Nat.lt_of_lt_of_le h.2 (Nat.pow_le_pow_right (by decide) hj)⟩
theorem hb_pow (w:Nat):9223372036854775808 * 18446744073709551616 ^ w = 2 ^ (63 + 64 * w):=by
  rw [Nat.pow_add,← pow64]
def hbl:Nat:=511
theorem hb_pow' {w l:Nat} (h:l = 63 + 64 * w):9223372036854775808 * 18446744073709551616 ^ w = 2 ^ l:=by subst h; exact hb_pow w
theorem HB_pow:HB = 2 ^ hbl:=hb_pow' (w:=7) (l:=hbl) rfl
theorem Bt.fq {i j:Nat} {q:Rat} (h:Bt i j q) (hi:i ≤ 500) (hj:j ≤ 500):FQ q:=by
  have e:hbl = 511:=rfl
  have h1:2 ^ i ≤ HB:=by rw [HB_pow]; exact Nat.pow_le_pow_right (by decide) (by omega)
  have h2:2 ^ j ≤ HB:=by rw [HB_pow]; exact Nat.pow_le_pow_right (by decide) (by omega)
  have h3:=h.1
  have h4:=h.2
  exact ⟨⟨by omega,by omega⟩,⟨by omega,by omega⟩⟩
theorem Bt.of {i j:Nat} {a b:Int} (hb:b ≠ 0) (h1:a.natAbs < 2 ^ i) (h2:b.natAbs < 2 ^ j):Bt i j (Rat.divInt a b):=by
  obtain ⟨d1,d2⟩:=div_le (a:=a) hb
  exact ⟨by omega,by omega⟩
theorem mul_pow {a b i j:Nat} (ha:a < 2 ^ i) (hb:b < 2 ^ j):a * b < 2 ^ (i + j):=by
  rw [Nat.pow_add]; exact Nat.mul_lt_mul'' ha hb
theorem Bt.mul {i1 j1 i2 j2:Nat} {a b:Rat} (ha:Bt i1 j1 a) (hb:Bt i2 j2 b):Bt (i1 + i2) (j1 + j2) (a * b):=by
  have d0:(a.den:Int) * b.den ≠ 0:=Int.mul_ne_zero FQ.ndnz FQ.ndnz
  have e:a * b = Rat.divInt (a.num * b.num) (a.den * b.den):=by
    conv=>lhs; rw [← Rat.num_divInt_den a,← Rat.num_divInt_den b]
    exact Rat.divInt_mul_divInt _ _
  rw [e]
  exact Bt.of d0 (by rw [Int.natAbs_mul]; exact mul_pow ha.1 hb.1) (by rw [Int.natAbs_mul,Int.natAbs_natCast,Int.natAbs_natCast]; exact mul_pow ha.2 hb.2)
theorem Bt.add {i1 j1 i2 j2 i:Nat} {a b:Rat} (ha:Bt i1 j1 a) (hb:Bt i2 j2 b) (h1:i1 + j2 + 1 ≤ i) (h2:i2 + j1 + 1 ≤ i):Bt i (j1 + j2) (a + b):=by
  have d0:(a.den:Int) * b.den ≠ 0:=Int.mul_ne_zero FQ.ndnz FQ.ndnz
  have e:a + b = Rat.divInt (a.num * b.den + b.num * a.den) (a.den * b.den):=by
    conv=>lhs; rw [← Rat.num_divInt_den a,← Rat.num_divInt_den b]
    exact Rat.divInt_add_divInt _ _ FQ.ndnz FQ.ndnz
  have m1:(a.num * b.den).natAbs < 2 ^ (i1 + j2):=by rw [Int.natAbs_mul,Int.natAbs_natCast]; exact mul_pow ha.1 hb.2
  have m2:(b.num * a.den).natAbs < 2 ^ (i2 + j1):=by rw [Int.natAbs_mul,Int.natAbs_natCast]; exact mul_pow hb.1 ha.2
  have p1:2 ^ (i1 + j2) ≤ 2 ^ (i - 1):=Nat.pow_le_pow_right (by decide) (by omega)
  have p2:2 ^ (i2 + j1) ≤ 2 ^ (i - 1):=Nat.pow_le_pow_right (by decide) (by omega)
  have p3:2 ^ i = 2 * 2 ^ (i - 1):=by rw [← Nat.pow_succ']; congr 1; omega
  rw [e]
  exact Bt.of d0 (by omega) (by rw [Int.natAbs_mul,Int.natAbs_natCast,Int.natAbs_natCast]; exact mul_pow ha.2 hb.2)
theorem Bt.neg {i j:Nat} {q:Rat} (h:Bt i j q):Bt i j (-q):=⟨by rw [Rat.neg_num,Int.natAbs_neg]; exact h.1,by rw [Rat.neg_den]; exact h.2⟩
theorem Bt.sub {i1 j1 i2 j2 i:Nat} {a b:Rat} (ha:Bt i1 j1 a) (hb:Bt i2 j2 b) (h1:i1 + j2 + 1 ≤ i) (h2:i2 + j1 + 1 ≤ i):Bt i (j1 + j2) (a - b):=by
  rw [Rat.sub_eq_add_neg]; exact Bt.add ha hb.neg h1 h2
section
variable {n:Nat} {a b:Rat}
end
end Go.Proofs.YtfccehcnajelgaaGreatDoor
