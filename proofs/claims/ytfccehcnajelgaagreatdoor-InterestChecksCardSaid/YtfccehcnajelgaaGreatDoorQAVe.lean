/- Plain laws: integers of 512 bits read and told. No program in sight but the printed functions. -/
import Derived.Test.YtfccehcnajelgaaGreatDoorQAVd
namespace Go.Proofs.YtfccehcnajelgaaGreatDoor
open Go
set_option maxRecDepth 8000
abbrev T8:=UInt64 × UInt64 × UInt64 × UInt64 × UInt64 × UInt64 × UInt64 × UInt64
def wv (t:T8):List UInt64:=[t.1,t.2.1,t.2.2.1,t.2.2.2.1,t.2.2.2.2.1,t.2.2.2.2.2.1,t.2.2.2.2.2.2.1,t.2.2.2.2.2.2.2]
theorem val_inj:∀ {xs ys:List UInt64},xs.length = ys.length → val xs = val ys → xs = ys
  | [],[],_,_=>rfl
  | x :: xs,[],h,_=>by simp at h
  | [],y :: ys,h,_=>by simp at h
  | x :: xs,y :: ys,h,e=>by
    simp only [val] at e
    have hx:=x.toNat_lt
    have hy:=y.toNat_lt
    have e1:x = y:=UInt64.toNat_inj.1 (by omega)
    have e2:val xs = val ys:=by omega
    rw [e1,val_inj (by simpa using h) e2]
theorem wv_inj {s t:T8} (h:val (wv s) = val (wv t)):s = t:=by
  have:=val_inj (by rfl) h
  unfold wv at this
  obtain ⟨s1,s2,s3,s4,s5,s6,s7,s8⟩:=s
  obtain ⟨t1,t2,t3,t4,t5,t6,t7,t8⟩:=t
  simp only [List.cons.injEq,and_true] at this
  simp only [Prod.mk.injEq]
  exact this
def HB:Nat:=9223372036854775808 * 18446744073709551616 ^ 7
def FB:Nat:=18446744073709551616 ^ 8
theorem FB_HB:FB = 2 * HB:=by unfold FB HB; rfl
theorem HB_pos:0 < HB:=by unfold HB; decide
def Wn (m:Nat):T8:=(UInt64.ofNat m,UInt64.ofNat (m / 18446744073709551616),UInt64.ofNat (m / 18446744073709551616 / 18446744073709551616),UInt64.ofNat (m / 18446744073709551616 / 18446744073709551616 / 18446744073709551616),UInt64.ofNat (m / 18446744073709551616 / 18446744073709551616 / 18446744073709551616 / 18446744073709551616),UInt64.ofNat (m / 18446744073709551616 / 18446744073709551616 / 18446744073709551616 / 18446744073709551616 / 18446744073709551616),UInt64.ofNat (m / 18446744073709551616 / 18446744073709551616 / 18446744073709551616 / 18446744073709551616 / 18446744073709551616 / 18446744073709551616),UInt64.ofNat (m / 18446744073709551616 / 18446744073709551616 / 18446744073709551616 / 18446744073709551616 / 18446744073709551616 / 18446744073709551616 / 18446744073709551616))
theorem val_step (m:Nat) (xs:List UInt64) (h:val xs = m / 18446744073709551616):val (UInt64.ofNat m :: xs) = m:=by
  simp only [val]
  rw [UInt64.toNat_ofNat', h]
  exact Nat.mod_add_div m 18446744073709551616
theorem Wn_val {m:Nat} (h:m < FB):val (wv (Wn m)) = m:=by
  unfold wv Wn
  refine val_step _ _ (val_step _ _ (val_step _ _ (val_step _ _ (val_step _ _ (val_step _ _ (val_step _ _ ?_))))))
  simp only [val]
  rw [UInt64.toNat_ofNat', Nat.mul_zero,Nat.add_zero]
  refine Nat.mod_eq_of_lt ?_
  simp only [Nat.div_div_eq_div_mul]
  refine Nat.div_lt_of_lt_mul ?_
  exact h
def Fw (z:Int):Prop:=-(HB:Int) ≤ z∧z < HB
def Wg (z:Int):T8:=Wn (z % (FB:Int)).toNat
theorem Wg_val (z:Int):(val (wv (Wg z)):Int) = z % (FB:Int):=by
  have hp:=HB_pos
  have hf:=FB_HB
  have h0:=Int.emod_nonneg z (b:=(FB:Int)) (by omega)
  have h1:=Int.emod_lt_of_pos z (b:=(FB:Int)) (by omega)
  unfold Wg
  rw [Wn_val (by omega)]
  omega
theorem Wg_of {z:Int} {t:T8} (h:(val (wv t):Int) = z % (FB:Int)):t = Wg z:=wv_inj (by have:=Wg_val z; omega)
end Go.Proofs.YtfccehcnajelgaaGreatDoor
