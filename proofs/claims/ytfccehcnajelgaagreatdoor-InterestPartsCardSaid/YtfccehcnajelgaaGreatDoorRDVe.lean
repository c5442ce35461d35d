/- Plain laws: integers of 512 bits read and told. No program in sight but the printed functions. -/
import Derived.Test.YtfccehcnajelgaaGreatDoorRDVd
namespace Go.Proofs.YtfccehcnajelgaaGreatDoor
open Go
set_option maxRecDepth 8000
abbrev T8:=UInt64 × UInt64 × UInt64 × UInt64 × UInt64 × UInt64 × UInt64 × UInt64
def wv (t:T8):List UInt64:=[t.1,t.2.1,t.2.2.1,t.2.2.2.1,t.2.2.2.2.1,t.2.2.2.2.2.1,t.2.2.2.2.2.2.1,t.2.2.2.2.2.2.2]
theorem val_inj:∀ {xs ys:List UInt64},xs.length = ys.length → val xs = val ys → xs = ys
  | [],[],_,_=>rfl
  | x :: xs,[],h,_=>by simp at h
  | [],y :: ys,h,_=>by simp at h
  | x :: xs,y :: ys,h,e=>by
    simp only [val] at e
    have hx:=x.toNat_lt
    have hy:=y.toNat_lt
    have e1:x = y:=UInt64.toNat_inj.1 (by omega)
    have e2:val xs = val ys:=by omega
    rw [e1,val_inj (by simpa using h) e2]
theorem wv_inj {s t:T8} (h:val (wv s) = val (wv t)):s = t:=by
  have:=val_inj (by rfl) h
  unfold wv at this
  obtain ⟨s1,s2,s3,s4,s5,s6,s7,s8⟩:=s
  obtain ⟨t1,t2,t3,t4,t5,t6,t7,t8⟩:=t
  simp only [List.cons.injEq,and_true] at this
  simp only [Prod.mk.injEq]
  exact this
def HB:Nat:=9223372036854775808 * 18446744073709551616 ^ 7
def FB:Nat:=18446744073709551616 ^ 8
theorem FB_HB:FB = 2 * HB:=by unfold FB HB; rfl
theorem HB_pos:0 < HB:=by unfold HB; decide
theorem wv_lt (t:T8):val (wv t) < FB:=val_lt (wv t)
def Wn (m:Nat):T8:=(UInt64.ofNat m,UInt64.ofNat (m / 18446744073709551616),UInt64.ofNat (m / 18446744073709551616 / 18446744073709551616),UInt64.ofNat (m / 18446744073709551616 / 18446744073709551616 / 18446744073709551616),UInt64.ofNat (m / 18446744073709551616 / 18446744073709551616 / 18446744073709551616 / 18446744073709551616),UInt64.ofNat (m / 18446744073709551616 / 18446744073709551616 / 18446744073709551616 / 18446744073709551616 / 18446744073709551616),UInt64.ofNat (m / 18446744073709551616 / 18446744073709551616 / 18446744073709551616 / 18446744073709551616 / 18446744073709551616 / 18446744073709551616),UInt64.ofNat (m / 18446744073709551616 / 18446744073709551616 / 18446744073709551616 / 18446744073709551616 / 18446744073709551616 / 18446744073709551616 / 18446744073709551616))
theorem val_step (m:Nat) (xs:List UInt64) (h:val xs = m / 18446744073709551616):val (UInt64.ofNat m :: xs) = m:=by
  simp only [val]
  rw [UInt64.toNat_ofNat', h]
  exact Nat.mod_add_div m 18446744073709551616
theorem Wn_val {m:Nat} (h:m < FB):val (wv (Wn m)) = m:=by
  unfold wv Wn
  refine val_step _ _ (val_step _ _ (val_step _ _ (val_step _ _ (val_step _ _ (val_step _ _ (val_step _ _ ?_))))))
  simp only [val]
  rw [UInt64.toNat_ofNat', Nat.mul_zero,Nat.add_zero]
  refine Nat.mod_eq_of_lt ?_
  simp only [Nat.div_div_eq_div_mul]
  refine Nat.div_lt_of_lt_mul ?_
  exact h
def Fw (z:Int):Prop:=-(HB:Int) ≤ z∧z < HB
def Wg (z:Int):T8:=Wn (z % (FB:Int)).toNat
theorem Wg_val (z:Int):(val (wv (Wg z)):Int) = z % (FB:Int):=by
  have hp:=HB_pos
  have hf:=FB_HB
  have h0:=Int.emod_nonneg z (b:=(FB:Int)) (by omega)
  have h1:=Int.emod_lt_of_pos z (b:=(FB:Int)) (by omega)
  unfold Wg
  rw [Wn_val (by omega)]
  omega
theorem Wg_pos {z:Int} (h:Fw z) (h0:0 ≤ z):val (wv (Wg z)) = z.natAbs:=by
  have hp:=HB_pos
  have hf:=FB_HB
  have:=Wg_val z
  rw [Int.emod_eq_of_lt h0 (by have:=h.2; omega)] at this
  omega
theorem Wg_neg {z:Int} (h:Fw z) (h0:z < 0):val (wv (Wg z)) + z.natAbs = FB:=by
  have hp:=HB_pos
  have hf:=FB_HB
  have:=Wg_val z
  have e:z % (FB:Int) = z + FB:=by
    rw [← Int.add_emod_right]
    exact Int.emod_eq_of_lt (by have:=h.1; omega) (by omega)
  rw [e] at this
  have:=h.1
  omega
theorem sub_step {s b c a c1 c2 Vs Vb Va K:Nat} (h1:s + b + c = a + 18446744073709551616 * c1) (h2:Vs + Vb + c1 = Va + K * c2):(s + 18446744073709551616 * Vs) + (b + 18446744073709551616 * Vb) + c = (a + 18446744073709551616 * Va) + 18446744073709551616 * K * c2:=by
  rw [Nat.mul_assoc]
  have:=congrArg (18446744073709551616 * ·) h2
  simp only [Nat.mul_add] at this
  omega
theorem minus_val (n:Nat) (a b:T8):∃ s c,wide_Size_minus_p n a b = some (s,c)∧val (wv s) + val (wv b) = val (wv a) + FB * c.toNat∧c.toNat ≤ 1:=by
  obtain ⟨a1,a2,a3,a4,a5,a6,a7,a8⟩:=a
  obtain ⟨b1,b2,b3,b4,b5,b6,b7,b8⟩:=b
  obtain ⟨s1,c1,e1,f1,g1⟩:=sub64_ok a1 b1 0 (by decide)
  obtain ⟨s2,c2,e2,f2,g2⟩:=sub64_ok a2 b2 c1 g1
  obtain ⟨s3,c3,e3,f3,g3⟩:=sub64_ok a3 b3 c2 g2
  obtain ⟨s4,c4,e4,f4,g4⟩:=sub64_ok a4 b4 c3 g3
  obtain ⟨s5,c5,e5,f5,g5⟩:=sub64_ok a5 b5 c4 g4
  obtain ⟨s6,c6,e6,f6,g6⟩:=sub64_ok a6 b6 c5 g5
  obtain ⟨s7,c7,e7,f7,g7⟩:=sub64_ok a7 b7 c6 g6
  obtain ⟨s8,c8,e8,f8,g8⟩:=sub64_ok a8 b8 c7 g7
  refine ⟨(s1,s2,s3,s4,s5,s6,s7,s8),c8,?_,?_,g8⟩
  · unfold wide_Size_minus_p
    simp only [e1,e2,e3,e4,e5,e6,e7,e8,obind]
  · have hFB:FB = 18446744073709551616 * (18446744073709551616 * (18446744073709551616 * (18446744073709551616 * (18446744073709551616 * (18446744073709551616 * (18446744073709551616 * (18446744073709551616 * 1))))))):=rfl
    have:=sub_step f1 (sub_step f2 (sub_step f3 (sub_step f4 (sub_step f5 (sub_step f6 (sub_step f7 (sub_step f8 (show 0 + 0 + c8.toNat = 0 + 1 * c8.toNat by omega))))))))
    rw [← hFB,show (0:UInt64).toNat = 0 from rfl,Nat.add_zero] at this
    simp only [wv,val]
    exact this
theorem top_bit (t:T8):shrU t.2.2.2.2.2.2.2 63 = 1 ↔ HB ≤ val (wv t):=by
  obtain ⟨t1,t2,t3,t4,t5,t6,t7,t8⟩:=t
  have h1:=val_lt [t1,t2,t3,t4,t5,t6,t7]
  have e:val (wv (t1,t2,t3,t4,t5,t6,t7,t8)) = val [t1,t2,t3,t4,t5,t6,t7] + 18446744073709551616 ^ 7 * t8.toNat:=by
    have:=val_app [t1,t2,t3,t4,t5,t6,t7] [t8]
    simp only [List.length_cons,List.length_nil] at this
    show val ([t1,t2,t3,t4,t5,t6,t7] ++ [t8]) = _
    rw [this]
    simp [val]
  rw [e]
  simp only [List.length_cons,List.length_nil] at h1
  have h8:=t8.toNat_lt
  have hs:(shrU t8 63).toNat = t8.toNat / 9223372036854775808:=shr_nat t8 (by decide)
  have hsw:shrU t8 63 = 1 ↔ 9223372036854775808 ≤ t8.toNat:=by
    constructor
    · intro h
      have:=congrArg UInt64.toNat h
      rw [hs] at this
      simp only [UInt64.toNat_one] at this
      omega
    · intro h
      refine UInt64.toNat_inj.1 ?_
      rw [hs]
      simp only [UInt64.toNat_one]
      omega
  show shrU t8 63 = 1 ↔ _
  rw [hsw]
  unfold HB
  generalize val [t1,t2,t3,t4,t5,t6,t7] = lo at *
  generalize hP:(18446744073709551616:Nat) ^ 7 = P at *
  constructor
  · intro h
    have:=Nat.mul_le_mul_left P h
    rw [Nat.mul_comm] at this
    omega
  · intro h
    by_cases c:9223372036854775808 ≤ t8.toNat
    · exact c
    · exfalso
      have:=Nat.mul_le_mul_left P (show t8.toNat + 1 ≤ 9223372036854775808 by omega)
      rw [Nat.mul_add,Nat.mul_comm P 9223372036854775808] at this
      omega
theorem longerG (n:Nat) (z:Int) (h:Fw z) (hn:10 < n):wide_Longer_p n (Wg z) = some (L z):=by
  have hp:=HB_pos
  have hf:=FB_HB
  have fin:∀ (b:Bool) (t:T8),val (wv t) = z.natAbs → (b && decide (0 < z.natAbs)) = decide (z < 0) → ((app ([]:List UInt64) ([t.1,t.2.1,t.2.2.1,t.2.2.2.1,t.2.2.2.2.1,t.2.2.2.2.2.1,t.2.2.2.2.2.2.1,t.2.2.2.2.2.2.2]:List UInt64)).bind fun xs=>(wide_trimmed_p n b xs).bind fun y=>some y) = some (L z):=fun b t hv hb=>by
    show ((app ([]:List UInt64) (wv t)).bind fun xs=>(wide_trimmed_p n b xs).bind fun y=>some y) = some (L z)
    rw [appS [] (wv t) (by show 0 + 8 ≤ 1000000; decide),obind,List.nil_append,trimmed_ok n b (wv t) (by show 8 < n; omega) (by show 8 ≤ 4294967296; decide),obind,hv,hb]
    rfl
  unfold wide_Longer_p wide_Read_p
  by_cases h0:z < 0
  · have hv:=Wg_neg h h0
    have hge:HB ≤ val (wv (Wg z)):=by have:=h.1; omega
    obtain ⟨s,c,e,e2,e3⟩:=minus_val n (0,0,0,0,0,0,0,0) (Wg z)
    have hz:val (wv ((0,0,0,0,0,0,0,0):T8)) = 0:=rfl
    rw [hz] at e2
    have hs:=wv_lt s
    have hc:c.toNat = 1:=by
      by_cases hc0:c.toNat = 0
      · rw [hc0] at e2; omega
      · omega
    rw [hc] at e2
    rw [if_pos ((top_bit _).2 hge),e,obind,obind]
    exact fin _ s (by omega) (by rw [decide_eq_true ((top_bit _).2 hge),decide_eq_true (by omega:0 < z.natAbs),decide_eq_true h0]; rfl)
  · have hv:=Wg_pos h (by omega)
    have hlt:¬ shrU (Wg z).2.2.2.2.2.2.2 63 = 1:=fun e=>by have:=(top_bit _).1 e; have:=h.2; omega
    rw [if_neg hlt,obind]
    exact fin _ (Wg z) hv (by rw [decide_eq_false hlt,decide_eq_false h0]; rfl)
theorem Wg_of {z:Int} {t:T8} (h:(val (wv t):Int) = z % (FB:Int)):t = Wg z:=wv_inj (by have:=Wg_val z; omega)
end Go.Proofs.YtfccehcnajelgaaGreatDoor
