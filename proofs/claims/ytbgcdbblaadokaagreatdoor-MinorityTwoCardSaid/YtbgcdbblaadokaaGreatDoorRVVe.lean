/- Plain laws: integers of 512 bits read and told. No program in sight but the printed functions. -/
import Derived.Test.YtbgcdbblaadokaaGreatDoorRVVd
namespace Go.Proofs.YtbgcdbblaadokaaGreatDoor
open Go
set_option maxRecDepth 8000
abbrev T8:=UInt64 × UInt64 × UInt64 × UInt64 × UInt64 × UInt64 × UInt64 × UInt64
def wv (t:T8):List UInt64:=[t.1,t.2.1,t.2.2.1,t.2.2.2.1,t.2.2.2.2.1,t.2.2.2.2.2.1,t.2.2.2.2.2.2.1,t.2.2.2.2.2.2.2]
theorem val_inj:∀ {xs ys:List UInt64},xs.length = ys.length → val xs = val ys → xs = ys
  | [],[],_,_=>rfl
  | x :: xs,[],h,_=>by simp at h
  | [],y :: ys,h,_=>by simp at h
  | x :: xs,y :: ys,h,e=>by
    simp only [val] at e
    have hx:=x.toNat_lt
    have hy:=y.toNat_lt
    have e1:x = y:=UInt64.toNat_inj.1 (by omega)
    have e2:val xs = val ys:=by omega
    rw [e1,val_inj (by simpa using h) e2]
theorem wv_inj {s t:T8} (h:val (wv s) = val (wv t)):s = t:=by
  have:=val_inj (by rfl) h
  unfold wv at this
  obtain ⟨s1,s2,s3,s4,s5,s6,s7,s8⟩:=s
  obtain ⟨t1,t2,t3,t4,t5,t6,t7,t8⟩:=t
  simp only [List.cons.injEq,and_true] at this
  simp only [Prod.mk.injEq]
  exact this
def HB:Nat:=9223372036854775808 * 18446744073709551616 ^ 7
def FB:Nat:=18446744073709551616 ^ 8
theorem FB_HB:FB = 2 * HB:=by unfold FB HB; rfl
theorem HB_pos:0 < HB:=by unfold HB; decide
theorem wv_lt (t:T8):val (wv t) < FB:=val_lt (wv t)
def Wn (m:Nat):T8:=(UInt64.ofNat m,UInt64.ofNat (m / 18446744073709551616),UInt64.ofNat (m / 18446744073709551616 / 18446744073709551616),UInt64.ofNat (m / 18446744073709551616 / 18446744073709551616 / 18446744073709551616),UInt64.ofNat (m / 18446744073709551616 / 18446744073709551616 / 18446744073709551616 / 18446744073709551616),UInt64.ofNat (m / 18446744073709551616 / 18446744073709551616 / 18446744073709551616 / 18446744073709551616 / 18446744073709551616),UInt64.ofNat (m / 18446744073709551616 / 18446744073709551616 / 18446744073709551616 / 18446744073709551616 / 18446744073709551616 / 18446744073709551616),UInt64.ofNat (m / 18446744073709551616 / 18446744073709551616 / 18446744073709551616 / 18446744073709551616 / 18446744073709551616 / 18446744073709551616 / 18446744073709551616))
theorem val_step (m:Nat) (xs:List UInt64) (h:val xs = m / 18446744073709551616):val (UInt64.ofNat m :: xs) = m:=by
  simp only [val]
  rw [UInt64.toNat_ofNat', h]
  exact Nat.mod_add_div m 18446744073709551616
theorem Wn_val {m:Nat} (h:m < FB):val (wv (Wn m)) = m:=by
  unfold wv Wn
  refine val_step _ _ (val_step _ _ (val_step _ _ (val_step _ _ (val_step _ _ (val_step _ _ (val_step _ _ ?_))))))
  simp only [val]
  rw [UInt64.toNat_ofNat', Nat.mul_zero,Nat.add_zero]
  refine Nat.mod_eq_of_lt ?_
  simp only [Nat.div_div_eq_div_mul]
  refine Nat.div_lt_of_lt_mul ?_
  exact h
def Fw (z:Int):Prop:=-(HB:Int) ≤ z∧z < HB
def Wg (z:Int):T8:=Wn (z % (FB:Int)).toNat
theorem Wg_val (z:Int):(val (wv (Wg z)):Int) = z % (FB:Int):=by
  have hp:=HB_pos
  have hf:=FB_HB
  have h0:=Int.emod_nonneg z (b:=(FB:Int)) (by omega)
  have h1:=Int.emod_lt_of_pos z (b:=(FB:Int)) (by omega)
  unfold Wg
  rw [Wn_val (by omega)]
  omega
theorem Wg_pos {z:Int} (h:Fw z) (h0:0 ≤ z):val (wv (Wg z)) = z.natAbs:=by
  have hp:=HB_pos
  have hf:=FB_HB
  have:=Wg_val z
  rw [Int.emod_eq_of_lt h0 (by have:=h.2; omega)] at this
  omega
theorem Wg_neg {z:Int} (h:Fw z) (h0:z < 0):val (wv (Wg z)) + z.natAbs = FB:=by
  have hp:=HB_pos
  have hf:=FB_HB
  have:=Wg_val z
  have e:z % (FB:Int) = z + FB:=by
    rw [← Int.add_emod_right]
    exact Int.emod_eq_of_lt (by have:=h.1; omega) (by omega)
  rw [e] at this
  have:=h.1
  omega
theorem sub_step {s b c a c1 c2 Vs Vb Va K:Nat} (h1:s + b + c = a + 18446744073709551616 * c1) (h2:Vs + Vb + c1 = Va + K * c2):(s + 18446744073709551616 * Vs) + (b + 18446744073709551616 * Vb) + c = (a + 18446744073709551616 * Va) + 18446744073709551616 * K * c2:=by
  rw [Nat.mul_assoc]
  have:=congrArg (18446744073709551616 * ·) h2
  simp only [Nat.mul_add] at this
  omega
theorem minus_val (n:Nat) (a b:T8):∃ s c,wide_Size_minus_p n a b = some (s,c)∧val (wv s) + val (wv b) = val (wv a) + FB * c.toNat∧c.toNat ≤ 1:=by
  obtain ⟨a1,a2,a3,a4,a5,a6,a7,a8⟩:=a
  obtain ⟨b1,b2,b3,b4,b5,b6,b7,b8⟩:=b
  obtain ⟨s1,c1,e1,f1,g1⟩:=sub64_ok a1 b1 0 (by decide)
  obtain ⟨s2,c2,e2,f2,g2⟩:=sub64_ok a2 b2 c1 g1
  obtain ⟨s3,c3,e3,f3,g3⟩:=sub64_ok a3 b3 c2 g2
  obtain ⟨s4,c4,e4,f4,g4⟩:=sub64_ok a4 b4 c3 g3
  obtain ⟨s5,c5,e5,f5,g5⟩:=sub64_ok a5 b5 c4 g4
  obtain ⟨s6,c6,e6,f6,g6⟩:=sub64_ok a6 b6 c5 g5
  obtain ⟨s7,c7,e7,f7,g7⟩:=sub64_ok a7 b7 c6 g6
  obtain ⟨s8,c8,e8,f8,g8⟩:=sub64_ok a8 b8 c7 g7
  refine ⟨(s1,s2,s3,s4,s5,s6,s7,s8),c8,?_,?_,g8⟩
  · unfold wide_Size_minus_p
    simp only [e1,e2,e3,e4,e5,e6,e7,e8,obind]
  · have hFB:FB = 18446744073709551616 * (18446744073709551616 * (18446744073709551616 * (18446744073709551616 * (18446744073709551616 * (18446744073709551616 * (18446744073709551616 * (18446744073709551616 * 1))))))):=rfl
    have:=sub_step f1 (sub_step f2 (sub_step f3 (sub_step f4 (sub_step f5 (sub_step f6 (sub_step f7 (sub_step f8 (show 0 + 0 + c8.toNat = 0 + 1 * c8.toNat by omega))))))))
    rw [← hFB,show (0:UInt64).toNat = 0 from rfl,Nat.add_zero] at this
    simp only [wv,val]
    exact this
theorem order_val (n:Nat) (a b:T8) (hn:10 < n):∃ c,wide_Size_order_p n a b = some c∧(c < 0 ↔ val (wv a) < val (wv b))∧(c = 0 ↔ val (wv a) = val (wv b)):=by
  have hh:=loop_ok (B:=wide_Size_order_l1 n a b) (fun z:Int=>(z + 1).toNat) (fun z=>-1 ≤ z∧z < 8∧(wv a).drop (z + 1).toNat = (wv b).drop (z + 1).toNat)
    (fun r=>(r = .inl (-1)∧val (wv a) < val (wv b)) ∨ (r = .inl 1∧val (wv b) < val (wv a)) ∨ (r = .inr ()∧wv a = wv b)) ?_ n 7 ⟨by omega,by omega,rfl⟩ (by omega)
  · obtain ⟨r,hr,h1 | h1 | h1⟩:=hh
    · unfold wide_Size_order_p
      rw [hr,h1.1]; exact ⟨_,rfl,by have:=h1.2; omega,by have:=h1.2; omega⟩
    · unfold wide_Size_order_p
      rw [hr,h1.1]; exact ⟨_,rfl,by have:=h1.2; omega,by have:=h1.2; omega⟩
    · unfold wide_Size_order_p
      rw [hr,h1.1,h1.2]; exact ⟨_,rfl,by omega,by omega⟩
  · intro z J ⟨h1,h2,h3⟩ hJ
    unfold wide_Size_order_l1
    simp only
    have la:(wv a).length = 8:=rfl
    have lb:(wv b).length = 8:=rfl
    by_cases h0:0 ≤ z
    · have e1:(z + 1).toNat = z.toNat + 1:=by omega
      rw [e1] at h3
      rw [if_pos h0]
      show ∃ r,((idx (wv a) z).bind fun z64=>(idx (wv b) z).bind fun z68=>if z64 = z68 then (chk (z - 1)).bind fun s73=>J s73 else if z64 < z68 then some (Sum.inl (-1:Int)) else some (Sum.inl (1:Int))) = some r∧_
      rw [idx_ok h0 (by omega),obind,idx_ok h0 (by omega),obind]
      split
      · rename_i he
        rw [chkI (by omega) (by omega),obind]
        refine hJ (z - 1) ⟨by omega,by omega,?_⟩ (by omega)
        rw [show (z - 1 + 1).toNat = z.toNat by omega,List.drop_eq_getElem_cons (by omega),List.drop_eq_getElem_cons (l:=wv b) (by omega),h3,he]
      · rename_i hne
        split
        · rename_i hlt; exact ⟨_,rfl,.inl ⟨rfl,word_lt (by omega) (by omega) h3 hlt⟩⟩
        · rename_i h5
          refine ⟨_,rfl,.inr (.inl ⟨rfl,word_lt (by omega) (by omega) h3.symm ?_⟩)⟩
          rw [UInt64.lt_iff_toNat_lt] at h5 ⊢
          have:((wv a)[z.toNat]'(by omega)).toNat ≠ ((wv b)[z.toNat]'(by omega)).toNat:=fun e=>hne (UInt64.toNat_inj.1 e)
          omega
    · rw [if_neg h0]
      have e1:(z + 1).toNat = 0:=by omega
      rw [e1] at h3
      exact ⟨_,rfl,.inr (.inr ⟨rfl,by simpa using h3⟩)⟩
theorem top_bit (t:T8):shrU t.2.2.2.2.2.2.2 63 = 1 ↔ HB ≤ val (wv t):=by
  obtain ⟨t1,t2,t3,t4,t5,t6,t7,t8⟩:=t
  have h1:=val_lt [t1,t2,t3,t4,t5,t6,t7]
  have e:val (wv (t1,t2,t3,t4,t5,t6,t7,t8)) = val [t1,t2,t3,t4,t5,t6,t7] + 18446744073709551616 ^ 7 * t8.toNat:=by
    have:=val_app [t1,t2,t3,t4,t5,t6,t7] [t8]
    simp only [List.length_cons,List.length_nil] at this
    show val ([t1,t2,t3,t4,t5,t6,t7] ++ [t8]) = _
    rw [this]
    simp [val]
  rw [e]
  simp only [List.length_cons,List.length_nil] at h1
  have h8:=t8.toNat_lt
  have hs:(shrU t8 63).toNat = t8.toNat / 9223372036854775808:=shr_nat t8 (by decide)
  have hsw:shrU t8 63 = 1 ↔ 9223372036854775808 ≤ t8.toNat:=by
    constructor
    · intro h
      have:=congrArg UInt64.toNat h
      rw [hs] at this
      simp only [UInt64.toNat_one] at this
      omega
    · intro h
      refine UInt64.toNat_inj.1 ?_
      rw [hs]
      simp only [UInt64.toNat_one]
      omega
  show shrU t8 63 = 1 ↔ _
  rw [hsw]
  unfold HB
  generalize val [t1,t2,t3,t4,t5,t6,t7] = lo at *
  generalize hP:(18446744073709551616:Nat) ^ 7 = P at *
  constructor
  · intro h
    have:=Nat.mul_le_mul_left P h
    rw [Nat.mul_comm] at this
    omega
  · intro h
    by_cases c:9223372036854775808 ≤ t8.toNat
    · exact c
    · exfalso
      have:=Nat.mul_le_mul_left P (show t8.toNat + 1 ≤ 9223372036854775808 by omega)
      rw [Nat.mul_add,Nat.mul_comm P 9223372036854775808] at this
      omega
theorem longerG (n:Nat) (z:Int) (h:Fw z) (hn:10 < n):wide_Longer_p n (Wg z) = some (L z):=by
  have hp:=HB_pos
  have hf:=FB_HB
  have fin:∀ (b:Bool) (t:T8),val (wv t) = z.natAbs → (b && decide (0 < z.natAbs)) = decide (z < 0) → ((app ([]:List UInt64) ([t.1,t.2.1,t.2.2.1,t.2.2.2.1,t.2.2.2.2.1,t.2.2.2.2.2.1,t.2.2.2.2.2.2.1,t.2.2.2.2.2.2.2]:List UInt64)).bind fun xs=>(wide_trimmed_p n b xs).bind fun y=>some y) = some (L z):=fun b t hv hb=>by
    show ((app ([]:List UInt64) (wv t)).bind fun xs=>(wide_trimmed_p n b xs).bind fun y=>some y) = some (L z)
    rw [appS [] (wv t) (by show 0 + 8 ≤ 1000000; decide),obind,List.nil_append,trimmed_ok n b (wv t) (by show 8 < n; omega) (by show 8 ≤ 4294967296; decide),obind,hv,hb]
    rfl
  unfold wide_Longer_p wide_Read_p
  by_cases h0:z < 0
  · have hv:=Wg_neg h h0
    have hge:HB ≤ val (wv (Wg z)):=by have:=h.1; omega
    obtain ⟨s,c,e,e2,e3⟩:=minus_val n (0,0,0,0,0,0,0,0) (Wg z)
    have hz:val (wv ((0,0,0,0,0,0,0,0):T8)) = 0:=rfl
    rw [hz] at e2
    have hs:=wv_lt s
    have hc:c.toNat = 1:=by
      by_cases hc0:c.toNat = 0
      · rw [hc0] at e2; omega
      · omega
    rw [hc] at e2
    rw [if_pos ((top_bit _).2 hge),e,obind,obind]
    exact fin _ s (by omega) (by rw [decide_eq_true ((top_bit _).2 hge),decide_eq_true (by omega:0 < z.natAbs),decide_eq_true h0]; rfl)
  · have hv:=Wg_pos h (by omega)
    have hlt:¬ shrU (Wg z).2.2.2.2.2.2.2 63 = 1:=fun e=>by have:=(top_bit _).1 e; have:=h.2; omega
    rw [if_neg hlt,obind]
    exact fin _ (Wg z) hv (by rw [decide_eq_false hlt,decide_eq_false h0]; rfl)
theorem Wg_of {z:Int} {t:T8} (h:(val (wv t):Int) = z % (FB:Int)):t = Wg z:=wv_inj (by have:=Wg_val z; omega)
theorem getA_val {ws:List UInt64} (h:ws.length ≤ 8):val (wv (getA ws 0 0,getA ws 1 0,getA ws 2 0,getA ws 3 0,getA ws 4 0,getA ws 5 0,getA ws 6 0,getA ws 7 0)) = val ws:=by
  unfold wv getA
  rcases ws with _ | ⟨a,_ | ⟨b,_ | ⟨c,_ | ⟨d,_ | ⟨e,_ | ⟨f,_ | ⟨g,_ | ⟨i,_ | ⟨j,xs⟩⟩⟩⟩⟩⟩⟩⟩⟩
  any_goals simp [val]
  simp only [List.length_cons] at h
  omega
open Classical in
theorem toldG (n:Nat) (z:Int) (hn:10 < n):wide_Long_Told_p n (L z) = some (if Fw z then (Wg z,0) else ((0,0,0,0,0,0,0,0),6)):=by
  have hp:=HB_pos
  have hf:=FB_HB
  have hdg:=val_dg z.natAbs
  unfold wide_Long_Told_p
  by_cases hl:8 < (dg z.natAbs).length
  · have h1:=val_ge (dg_nm z.natAbs) (by intro e; rw [e] at hl; simp at hl)
    have h2:18446744073709551616 ^ 8 ≤ 18446744073709551616 ^ ((dg z.natAbs).length - 1):=Nat.pow_le_pow_right (by decide) (by omega)
    have hbig:FB ≤ z.natAbs:=by unfold FB; omega
    rw [if_pos (show 8 < (L z).fo.length from hl),if_neg fun h:Fw z=>by have:=h.1; have:=h.2; omega]
  · have hv:=getA_val (ws:=dg z.natAbs) (by omega)
    rw [if_neg (show ¬ 8 < (L z).fo.length from hl)]
    show ((wide_Number_Told_p n ⟨decide (z < 0),(getA (dg z.natAbs) 0 0,getA (dg z.natAbs) 1 0,getA (dg z.natAbs) 2 0,getA (dg z.natAbs) 3 0,getA (dg z.natAbs) 4 0,getA (dg z.natAbs) 5 0,getA (dg z.natAbs) 6 0,getA (dg z.natAbs) 7 0)⟩).bind _) = _
    generalize hT:((getA (dg z.natAbs) 0 0,getA (dg z.natAbs) 1 0,getA (dg z.natAbs) 2 0,getA (dg z.natAbs) 3 0,getA (dg z.natAbs) 4 0,getA (dg z.natAbs) 5 0,getA (dg z.natAbs) 6 0,getA (dg z.natAbs) 7 0):T8) = t at *
    rw [hdg] at hv
    unfold wide_Number_Told_p
    obtain ⟨c,ec,c1,c2⟩:=order_val n t (0,0,0,0,0,0,0,9223372036854775808) hn
    have hlim:val (wv ((0,0,0,0,0,0,0,9223372036854775808):T8)) = HB:=by decide
    rw [hlim,hv] at c1 c2
    simp only
    rw [ec,obind]
    obtain ⟨s,cc,e,e2,e3⟩:=minus_val n (0,0,0,0,0,0,0,0) t
    have hz:val (wv ((0,0,0,0,0,0,0,0):T8)) = 0:=rfl
    rw [hz,hv] at e2
    have hs:=wv_lt s
    have neg:z < 0 → Fw z → s = Wg z:=fun h0 hw=>by
      refine Wg_of ?_
      have hc:cc.toNat = 1:=by
        by_cases hc0:cc.toNat = 0
        · rw [hc0] at e2; omega
        · omega
      rw [hc] at e2
      have e5:z % (FB:Int) = z + FB:=by
        rw [← Int.add_emod_right]
        exact Int.emod_eq_of_lt (by have:=hw.1; omega) (by omega)
      rw [e5]; omega
    by_cases g1:0 < c
    · rw [if_pos g1,obind,if_neg fun h:Fw z=>by have:=h.1; have:=h.2; omega]
    · rw [if_neg g1]
      by_cases g2:c = 0
      · rw [if_pos g2]
        by_cases h0:z < 0
        · have hw:Fw z:=⟨by omega,by omega⟩
          rw [if_pos (decide_eq_true h0),e,obind,obind,if_pos hw,neg h0 hw]
        · rw [if_neg (by simpa using h0),obind,if_neg fun h:Fw z=>by have:=h.2; omega]
      · rw [if_neg g2]
        by_cases h0:z < 0
        · have hw:Fw z:=⟨by omega,by omega⟩
          rw [if_pos (decide_eq_true h0),e,obind,obind,if_pos hw,neg h0 hw]
        · have hw:Fw z:=⟨by omega,by omega⟩
          rw [if_neg (by simpa using h0),obind,if_pos hw]
          rw [show t = Wg z from Wg_of (by rw [Int.emod_eq_of_lt (by omega) (by have:=hw.2; omega)]; omega)]
end Go.Proofs.YtbgcdbblaadokaaGreatDoor
