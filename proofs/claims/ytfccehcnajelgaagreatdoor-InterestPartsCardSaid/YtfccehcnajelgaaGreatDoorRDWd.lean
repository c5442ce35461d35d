/- Plain laws: wide integers and fractions of small numbers: made, read, told, added, taken, multiplied, divided. No program in sight but the printed functions. -/
import Derived.Test.YtfccehcnajelgaaGreatDoorRDWc
namespace Go.Proofs.YtfccehcnajelgaaGreatDoor
open Go
def W8 (z:Int):UInt64 × UInt64 × UInt64 × UInt64 × UInt64 × UInt64 × UInt64 × UInt64:=
  if z < 0 then (u64of z,18446744073709551615,18446744073709551615,18446744073709551615,18446744073709551615,18446744073709551615,18446744073709551615,18446744073709551615) else (u64of z,0,0,0,0,0,0,0)
def Sm (z:Int):Prop:=z.natAbs < 9223372036854775808
theorem Sm.w {z:Int} (h:Sm z):W1 z:=by unfold Sm W1 at *; omega
theorem u64_neg {z:Int} (h:Sm z) (h0:z < 0):(u64of z).toNat = 18446744073709551616 - z.natAbs:=by
  unfold u64of Sm at *; rw [UInt64.toNat_ofNat']; omega
theorem u64_pos {z:Int} (h:Sm z) (h0:¬ z < 0):u64of z = UInt64.ofNat z.natAbs:=by
  unfold u64of Sm at *; congr 1; omega
theorem of_ok (n:Nat) (z:Int) (hn:10 < n):wide_Of_p n z = some (W8 z):=by
  obtain ⟨k,rfl⟩:∃ k,n = k + 9:=⟨n - 9,by omega⟩
  unfold wide_Of_p W8
  by_cases h:z < 0
  · rw [if_pos h,if_pos h]
    simp [loopF_succ,wide_Of_l1,setA]
  · rw [if_neg h,if_neg h]
theorem sub_m1:sub64 0 18446744073709551615 1 = some (0,1):=rfl
theorem sub_01:sub64 0 0 1 = some (18446744073709551615,1):=rfl
theorem read_ok (n:Nat) (z:Int) (h:Sm z):wide_Read_p n (W8 z) = some ⟨decide (z < 0),(UInt64.ofNat z.natAbs,0,0,0,0,0,0,0)⟩:=by
  unfold wide_Read_p W8
  by_cases h0:z < 0
  · rw [if_pos h0]
    have e:sub64 0 (u64of z) 0 = some (UInt64.ofNat z.natAbs,1):=by
      unfold sub64
      rw [if_pos (by decide),u64_neg h h0]
      unfold Sm at h
      rw [if_pos (by simp; omega)]
      congr 2
      simp; congr 1; omega
    rw [if_pos (show shrU 18446744073709551615 63 = 1 from rfl)]
    unfold wide_Size_minus_p
    simp only [e,obind,sub_m1]
    simp [h0]; rfl
  · rw [if_neg h0]
    rw [if_neg (show ¬ shrU 0 63 = 1 from by decide),u64_pos h h0]
    simp [h0]; decide
theorem longer_ok (n:Nat) (z:Int) (h:Sm z) (hn:10 < n):wide_Longer_p n (W8 z) = some (L z):=by
  unfold wide_Longer_p
  rw [read_ok n z h,obind]
  simp only
  rw [show app ([]:List UInt64) [UInt64.ofNat z.natAbs,0,0,0,0,0,0,0] = some [UInt64.ofNat z.natAbs,0,0,0,0,0,0,0] from rfl,obind,trimmed_ok n _ _ (by simpa using by omega) (by simp),obind]
  have e:val [UInt64.ofNat z.natAbs,0,0,0,0,0,0,0] = z.natAbs:=by
    have:=h.w; unfold W1 at this
    simp only [val,toNat_of this]; simp
  rw [e]
  unfold L
  by_cases h0:z < 0
  · simp [h0]; omega
  · simp [h0]
theorem from_ok (n:Nat) (z:Int) (h:Sm z) (hn:10 < n):wide_From_p n z = some (L z):=by
  unfold wide_From_p; rw [of_ok n z hn,obind,longer_ok n z h hn,obind]
theorem getA_dg0 {m:Nat} (h:m < 18446744073709551616):getA (dg m) 0 0 = UInt64.ofNat m:=by
  by_cases h0:m = 0
  · subst h0; rw [dg0]; rfl
  · rw [dg1 h0 h]; rfl
theorem getA_dg1 {m:Nat} (j:Nat) (h:m < 18446744073709551616):getA (dg m) (j + 1) 0 = 0:=by
  by_cases h0:m = 0
  · subst h0; rw [dg0]; rfl
  · rw [dg1 h0 h]; rfl
theorem told_ok (n:Nat) (z:Int) (h:Sm z) (hn:10 < n):wide_Long_Told_p n (L z) = some (W8 z,0):=by
  have hw:=h.w
  unfold W1 at hw
  have hl:¬ 8 < (L z).fm.length:=by
    have:(dg z.natAbs).length ≤ 1:=dg_len (by rw [Nat.pow_one]; exact hw)
    show ¬ 8 < (dg z.natAbs).length
    omega
  unfold wide_Long_Told_p
  rw [if_neg hl,show (L z).fm = dg z.natAbs from rfl,getA_dg0 hw,getA_dg1 0 hw,getA_dg1 1 hw,getA_dg1 2 hw,getA_dg1 3 hw,getA_dg1 4 hw,getA_dg1 5 hw,getA_dg1 6 hw]
  unfold wide_Number_Told_p
  have ho:∀ x:UInt64,wide_Size_order_p n (x,0,0,0,0,0,0,0) (0,0,0,0,0,0,0,9223372036854775808) = some (-1):=fun x=>by
    obtain ⟨k,rfl⟩:∃ k,n = k + 1:=⟨n - 1,by omega⟩
    unfold wide_Size_order_p
    rw [loopF_succ]
    rfl
  rw [ho,obind,if_neg (by decide),if_neg (by decide)]
  unfold W8
  by_cases h0:z < 0
  · have e:sub64 0 (UInt64.ofNat z.natAbs) 0 = some (u64of z,1):=by
      unfold sub64
      rw [if_pos (by decide),toNat_of hw]
      rw [if_pos (by simp; omega)]
      congr 2
      refine UInt64.toNat_inj.1 ?_
      rw [u64_neg h h0,UInt64.toNat_ofNat']
      unfold Sm at h
      simp; omega
    rw [if_pos h0,if_pos (by simpa [L] using h0)]
    unfold wide_Size_minus_p
    simp only [e,obind,sub_01]
  · rw [if_neg h0,if_neg (by simpa [L] using h0),obind,u64_pos h h0]
def Rt (q:Rat):TRatio:=⟨L q.num,L q.den⟩
def Sh (q:Rat):TShare:=⟨W8 q.num,W8 q.den⟩
theorem rat_is {x y:Int} (hy:0 < y) (hc:x.natAbs.Coprime y.natAbs):(Rat.divInt x y).num = x∧((Rat.divInt x y).den:Int) = y:=by
  have e:Rat.divInt x y = { num:=x,den:=y.natAbs,den_nz:=by omega,reduced:=hc }:=by
    rw [Rat.mk_eq_divInt]; congr 1; omega
  rw [e]; exact ⟨rfl,by simp only; omega⟩
theorem lowest_ok (n:Nat) (a b:Int) (ha:W1 a) (hb:W1 b) (h0:b ≠ 0) (hn:18446744073709551616 < n) :
    share_Lowest_p n (L a) (L b) = some (Rt (Rat.divInt a b))∧(Rat.divInt a b).num.natAbs ≤ a.natAbs∧(Rat.divInt a b).den ≤ b.natAbs:=by
  have hg:0 < Nat.gcd a.natAbs b.natAbs:=Nat.gcd_pos_of_pos_right _ (by omega)
  have hgb:Nat.gcd a.natAbs b.natAbs ≤ b.natAbs:=Nat.gcd_le_right _ (by omega)
  have hgw:W1 ((Nat.gcd a.natAbs b.natAbs:Nat):Int):=by unfold W1 at *; omega
  obtain ⟨x,hx⟩:((Nat.gcd a.natAbs b.natAbs:Nat):Int) ∣ a:=Int.ofNat_dvd_left.2 (Nat.gcd_dvd_left _ _)
  obtain ⟨y,hy⟩:((Nat.gcd a.natAbs b.natAbs:Nat):Int) ∣ b:=Int.ofNat_dvd_left.2 (Nat.gcd_dvd_right _ _)
  have hco:=Nat.coprime_div_gcd_div_gcd hg
  generalize Nat.gcd a.natAbs b.natAbs = g at *
  have hg0:(g:Int) ≠ 0:=by omega
  have e1:a / (g:Int) = x:=by rw [hx]; exact Int.mul_ediv_cancel_left _ hg0
  have e2:b / (g:Int) = y:=by rw [hy]; exact Int.mul_ediv_cancel_left _ hg0
  have e3:a.natAbs = g * x.natAbs:=by rw [hx,Int.natAbs_mul]; rfl
  have e4:b.natAbs = g * y.natAbs:=by rw [hy,Int.natAbs_mul]; rfl
  have hc:x.natAbs.Coprime y.natAbs:=by
    rw [e3,e4,Nat.mul_div_cancel_left _ hg,Nat.mul_div_cancel_left _ hg] at hco; exact hco
  have hxl:x.natAbs ≤ a.natAbs:=by rw [e3]; exact Nat.le_mul_of_pos_left _ hg
  have hyl:y.natAbs ≤ b.natAbs:=by rw [e4]; exact Nat.le_mul_of_pos_left _ hg
  have hy0:y ≠ 0:=fun e=>h0 (by rw [hy,e,Int.mul_zero])
  have eq:Rat.divInt a b = Rat.divInt x y:=by
    conv=>lhs; rw [hx,hy]
    exact Rat.divInt_mul_left hg0
  have xw:Fit 1 x:=by unfold Fit; unfold W1 at ha; rw [Nat.pow_one]; omega
  have yw:Fit 1 y:=by unfold Fit; unfold W1 at hb; rw [Nat.pow_one]; omega
  have gc:wide_Long_Common_p n (L a) (L b) = some (L g):=by
    have:=common_ok n a b ha hb hn
    rw [this]
    have h5:Nat.gcd a.natAbs b.natAbs = g:=by
      rw [e3,e4,Nat.gcd_mul_left,show Nat.gcd x.natAbs y.natAbs = 1 from hc,Nat.mul_one]
    rw [h5]
  unfold share_Lowest_p
  rw [gc,obind,parts_ok n a g ha hgw hg0 (by omega),obind,parts_ok n b g hb hgw hg0 (by omega),obind,e1,e2]
  simp only
  rw [eq]
  by_cases hs:y < 0
  · rw [if_pos (by simpa [L] using hs),turned_ok n 1 x xw (by omega) (by omega),obind,turned_ok n 1 y yw (by omega) (by omega),obind]
    have h5:=rat_is (x:=-x) (y:=-y) (by omega) (by rwa [Int.natAbs_neg,Int.natAbs_neg])
    rw [Rat.neg_divInt_neg] at h5
    unfold Rt
    rw [h5.1,h5.2]
    exact ⟨rfl,by rw [Int.natAbs_neg]; exact hxl,by have:=h5.2; omega⟩
  · rw [if_neg (by simpa [L] using hs)]
    have h5:=rat_is (x:=x) (y:=y) (by omega) hc
    unfold Rt
    rw [h5.1,h5.2]
    exact ⟨rfl,hxl,by have:=h5.2; omega⟩
end Go.Proofs.YtfccehcnajelgaaGreatDoor
