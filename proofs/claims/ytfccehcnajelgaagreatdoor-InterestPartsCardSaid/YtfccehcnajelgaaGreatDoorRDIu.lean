/- Plain laws: shares of small numbers; how they compare. No program in sight but the printed functions. -/
import Derived.Test.YtfccehcnajelgaaGreatDoorRDVg
namespace Go.Proofs.YtfccehcnajelgaaGreatDoor
open Go
set_option maxRecDepth 8000
def FU:Nat:=18446744073709552000
theorem FU_lt:(1000000:Nat) < FU:=by decide
theorem FU_big:(18446744073709551616:Nat) < FU:=by decide
theorem mget_mset {κ ν:Type} [DecidableEq κ]:∀ (D:List (κ × ν)) (k x:κ) (v:ν),mget (mset D k v) x = if x = k then some v else mget D x
  | [],k,x,v=>by simp [mset,mget]
  | e :: D,k,x,v=>by
    unfold mset
    split
    · rename_i h; subst h; simp only [mget]; split <;> rfl
    · rename_i h
      simp only [mget]
      rw [mget_mset D k x v]
      by_cases h1:x = k
      · subst h1; simp [h]
      · simp [h1]
theorem sof {a b:Int} (h0:b ≠ 0) (ha:Sm a) (hb:Sm b):share_Of_p FU a b = some (Sg (Rat.divInt a b),0):=by
  obtain ⟨d1,d2⟩:=div_le (a:=a) h0
  rw [share_of_ok FU a b ha hb h0 FU_big,Sh_Sg (by unfold Sm at *; omega) (by unfold Sm at *; omega)]
theorem Sm_of {z:Int} (h:z.natAbs < 1000000):Sm z:=by unfold Sm; omega
theorem cmpG {a b:Rat} (ha:FQ a) (hb:FQ b):share_Cmp_p FU (Sg a) (Sg b) = some ((a.num * b.den - b.num * a.den).sign,0):=by
  have hF:=FU_big
  unfold share_Cmp_p
  rw [valid2G FU a b ha hb FU_big,obind,if_pos rfl,sreadG FU a ha (by omega),obind,sreadG FU b hb (by omega),obind]
  unfold share_Ratio_Cmp_p Rt
  rw [times_ok FU 8 8 _ _ ha.n hb.d (by omega) (by omega),obind,times_ok FU 8 8 _ _ hb.n ha.d (by omega) (by omega),obind]
  unfold wide_Long_Cmp_p
  rw [minus_ok FU 16 _ _ (ha.n.mul hb.d) (hb.n.mul ha.d) (by omega) (by omega),obind,side_ok]
  rfl
theorem atMostG {a b:Rat} (ha:FQ a) (hb:FQ b):wardmotelaw27_atMost_p FU (Sg a) (Sg b) = some (decide (a ≤ b)):=by
  unfold wardmotelaw27_atMost_p
  rw [cmpG ha hb,obind]
  simp only [if_true]
  refine congrArg some (decide_eq_decide.2 ?_)
  rw [Rat.le_iff,Int.sign_nonpos_iff]
  omega
theorem lof {a b:Int} (h0:b ≠ 0) (ha:Sm a) (hb:Sm b):wardmotelaw27_of_p FU a b = some (Sg (Rat.divInt a b)):=by
  unfold wardmotelaw27_of_p
  rw [sof h0 ha hb,obind]
theorem part_fq {n d:Int} (h0:n.natAbs < 1000000) (hd:d ≠ 0) (h1:d.natAbs < 1000000):FQ (Rat.divInt n d):=(Bt.of (i:=20) (j:=20) hd (by omega) (by omega)).fq (by decide) (by decide)
end Go.Proofs.YtfccehcnajelgaaGreatDoor
