/- Plain laws: shares of small numbers; how they compare. No program in sight but the printed functions. -/
import Derived.Test.YtfccehcnajelgaaGreatDoorPOVg
namespace Go.Proofs.YtfccehcnajelgaaGreatDoor
open Go
set_option maxRecDepth 8000
def FU:Nat:=18446744073709552000
theorem FU_big:(18446744073709551616:Nat) < FU:=by decide
theorem sof {a b:Int} (h0:b ≠ 0) (ha:Sm a) (hb:Sm b):share_Of_p FU a b = some (Sg (Rat.divInt a b),0):=by
  obtain ⟨d1,d2⟩:=div_le (a:=a) h0
  rw [share_of_ok FU a b ha hb h0 FU_big,Sh_Sg (by unfold Sm at *; omega) (by unfold Sm at *; omega)]
theorem Sm_of {z:Int} (h:z.natAbs < 1000000):Sm z:=by unfold Sm; omega
theorem cmpG {a b:Rat} (ha:FQ a) (hb:FQ b):share_Cmp_p FU (Sg a) (Sg b) = some ((a.num * b.den - b.num * a.den).sign,0):=by
  have hF:=FU_big
  unfold share_Cmp_p
  rw [valid2G FU a b ha hb FU_big,obind,if_pos rfl,sreadG FU a ha (by omega),obind,sreadG FU b hb (by omega),obind]
  unfold share_Ratio_Cmp_p Rt
  rw [times_ok FU 8 8 _ _ ha.n hb.d (by omega) (by omega),obind,times_ok FU 8 8 _ _ hb.n ha.d (by omega) (by omega),obind]
  unfold wide_Long_Cmp_p
  rw [minus_ok FU 16 _ _ (ha.n.mul hb.d) (hb.n.mul ha.d) (by omega) (by omega),obind,side_ok]
  rfl
theorem atMostG {a b:Rat} (ha:FQ a) (hb:FQ b):wardmotelaw27_atMost_p FU (Sg a) (Sg b) = some (decide (a ≤ b)):=by
  unfold wardmotelaw27_atMost_p
  rw [cmpG ha hb,obind]
  simp only [if_true]
  refine congrArg some (decide_eq_decide.2 ?_)
  rw [Rat.le_iff,Int.sign_nonpos_iff]
  omega
theorem lof {a b:Int} (h0:b ≠ 0) (ha:Sm a) (hb:Sm b):wardmotelaw27_of_p FU a b = some (Sg (Rat.divInt a b)):=by
  unfold wardmotelaw27_of_p
  rw [sof h0 ha hb,obind]
theorem part_le {n d:Int} (h0:0 ≤ n) (h1:n ≤ d) (hd:0 < d):0 ≤ Rat.divInt n d∧Rat.divInt n d ≤ Rat.divInt 1 1:=by
  have h:=div_num (a:=n) (b:=d) (by omega)
  have hp:0 < ((Rat.divInt n d).den:Int):=by have:=(Rat.divInt n d).den_pos; omega
  refine ⟨?_,?_⟩
  · refine Rat.num_nonneg.1 ?_
    refine Classical.byContradiction fun hc=>?_
    have h2:(Rat.divInt n d).num * d < 0:=Int.mul_neg_of_neg_of_pos (by omega) hd
    have h3:0 ≤ n * (Rat.divInt n d).den:=Int.mul_nonneg h0 (by omega)
    omega
  · rw [Rat.le_iff]
    show (Rat.divInt n d).num * 1 ≤ 1 * ((Rat.divInt n d).den:Int)
    generalize (Rat.divInt n d).num = x at *
    generalize ((Rat.divInt n d).den:Int) = y at *
    refine Classical.byContradiction fun hc=>?_
    have h2:(y + 1) * d ≤ x * d:=Int.mul_le_mul_of_nonneg_right (by omega) (by omega)
    have h3:n * y ≤ d * y:=Int.mul_le_mul_of_nonneg_right h1 (by omega)
    rw [Int.add_mul,Int.one_mul,Int.mul_comm y d] at h2
    omega
theorem part_fq {n d:Int} (h0:n.natAbs < 1000000) (hd:d ≠ 0) (h1:d.natAbs < 1000000):FQ (Rat.divInt n d):=(Bt.of (i:=20) (j:=20) hd (by omega) (by omega)).fq (by decide) (by decide)
end Go.Proofs.YtfccehcnajelgaaGreatDoor
