/- Plain laws: words compared and multiplied; sum, difference and product of integers of any length. No program in sight but the printed functions. -/
import Derived.Test.YtfccehcnajelgaaGreatDoorQAWa
namespace Go.Proofs.YtfccehcnajelgaaGreatDoor
open Go
theorem val_split (a:List UInt64) {i:Nat} (h:i < a.length):val a = val (a.take i) + 18446744073709551616 ^ i * a[i].toNat + 18446744073709551616 ^ (i + 1) * val (a.drop (i + 1)):=by
  conv=>lhs; rw [← List.take_append_drop (i + 1) a,val_app]
  rw [val_take a h,List.length_take,Nat.min_eq_left (by omega)]
theorem len_lt {a b:List UInt64} (hb:Nm b) (h:a.length < b.length):val a < val b:=by
  have h1:=val_lt a
  have h2:=val_ge hb (by intro e; rw [e] at h; simp at h)
  have h3:18446744073709551616 ^ a.length ≤ 18446744073709551616 ^ (b.length - 1):=Nat.pow_le_pow_right (by omega) (by omega)
  omega
theorem word_lt {a b:List UInt64} {i:Nat} (ha:i < a.length) (hb:i < b.length) (hd:a.drop (i + 1) = b.drop (i + 1)) (h:a[i] < b[i]):val a < val b:=by
  rw [val_split a ha,val_split b hb,hd]
  have h1:=val_lt (a.take i)
  rw [List.length_take,Nat.min_eq_left (by omega)] at h1
  have h2:18446744073709551616 ^ i * (a[i].toNat + 1) ≤ 18446744073709551616 ^ i * b[i].toNat:=Nat.mul_le_mul_left _ (UInt64.lt_iff_toNat_lt.1 h)
  rw [Nat.mul_add] at h2
  omega
theorem compared_ok (n:Nat) (a b:List UInt64) (ha:Nm a) (hb:Nm b) (hn:a.length < n) (hl:a.length < 4294967296):∃ c,wide_compared_p n a b = some c∧(c < 0 ↔ val a < val b)∧(c = 0 ↔ val a = val b):=by
  unfold wide_compared_p
  by_cases h:a.length = b.length
  · rw [if_pos h]
    have hh:=loop_ok (B:=wide_compared_l1 n a b) (fun z:Int=>(z + 1).toNat) (fun z=>-1 ≤ z∧z < a.length∧a.drop (z + 1).toNat = b.drop (z + 1).toNat)
      (fun r=>(r = .inl (-1)∧val a < val b) ∨ (r = .inl 1∧val b < val a) ∨ (r = .inr ()∧a = b)) ?_ n ((a.length:Int) - 1) ⟨by omega,by omega,?_⟩ (by omega)
    · obtain ⟨r,hr,h1 | h1 | h1⟩:=hh
      · rw [hr,h1.1]; exact ⟨_,rfl,by have:=h1.2; omega,by have:=h1.2; omega⟩
      · rw [hr,h1.1]; exact ⟨_,rfl,by have:=h1.2; omega,by have:=h1.2; omega⟩
      · rw [hr,h1.1,h1.2]; exact ⟨_,rfl,by omega,by omega⟩
    · intro z J ⟨h1,h2,h3⟩ hJ
      unfold wide_compared_l1
      simp only
      by_cases h0:0 ≤ z
      · have e1:(z + 1).toNat = z.toNat + 1:=by omega
        rw [e1] at h3
        rw [if_pos h0,idx_ok h0 (by omega),obind,idx_ok h0 (by omega),obind]
        split
        · rename_i hlt; exact ⟨_,rfl,.inl ⟨rfl,word_lt (by omega) (by omega) h3 hlt⟩⟩
        · rename_i h4
          split
          · rename_i hlt; exact ⟨_,rfl,.inr (.inl ⟨rfl,word_lt (by omega) (by omega) h3.symm hlt⟩)⟩
          · rename_i h5
            have he:a[z.toNat]'(by omega) = b[z.toNat]'(by omega):=UInt64.toNat_inj.1 (by rw [UInt64.lt_iff_toNat_lt] at h4 h5; omega)
            rw [chkI (by omega) (by omega),obind]
            refine hJ (z - 1) ⟨by omega,by omega,?_⟩ (by omega)
            rw [show (z - 1 + 1).toNat = z.toNat by omega,List.drop_eq_getElem_cons (by omega),List.drop_eq_getElem_cons (l:=b) (by omega),h3,he]
      · rw [if_neg h0]
        have e1:(z + 1).toNat = 0:=by omega
        rw [e1] at h3
        exact ⟨_,rfl,.inr (.inr ⟨rfl,by simpa using h3⟩)⟩
    · rw [show ((a.length:Int) - 1 + 1).toNat = a.length by omega,List.drop_length,h,List.drop_length]
  · rw [if_neg h]
    refine ⟨_,rfl,?_⟩
    by_cases h1:a.length < b.length
    · have:=len_lt hb h1; omega
    · have:=len_lt (a:=b) ha (by omega); omega
def L (z:Int):TLong:=⟨decide (z < 0),dg z.natAbs⟩
def Fit (l:Nat) (z:Int):Prop:=z.natAbs < 18446744073709551616 ^ l
theorem Fit.len {l:Nat} {z:Int} (h:Fit l z):(dg z.natAbs).length ≤ l:=dg_len h
def sg (s:Bool) (m:Nat):Int:=if s = true then -(m:Int) else m
theorem L_sg (s:Bool) (m:Nat):(⟨s && decide (0 < m),dg m⟩:TLong) = L (sg s m):=by
  unfold L sg
  cases s
  · simp
  · simp
theorem sg_abs (s:Bool) (m:Nat):(sg s m).natAbs = m:=by unfold sg; split <;> omega
theorem turned_ok (n l:Nat) (z:Int) (h:Fit l z) (hn:l < n) (hl:l < 1000000):wide_Long_Turned_p n (L z) = some (L (-z)):=by
  unfold wide_Long_Turned_p
  have h1:=h.len
  rw [trimmed_ok n _ _ (by show (dg z.natAbs).length < n; omega) (by show (dg z.natAbs).length ≤ _; omega),obind]
  show some (⟨!decide (z < 0) && decide (0 < val (dg z.natAbs)),dg (val (dg z.natAbs))⟩:TLong) = _
  rw [val_dg,L_sg]
  refine congrArg (fun x=>some (L x)) ?_
  unfold sg
  by_cases hz:z < 0 <;> simp [hz] <;> omega
theorem dg_mono {a b:Nat} (h:a ≤ b):(dg a).length ≤ (dg b).length:=dg_len (Nat.lt_of_le_of_lt h (by have:=val_lt (dg b); rwa [val_dg] at this))
theorem diff_ok (n l a b:Nat) (s:Bool) (h:a ≤ b) (hl:(dg b).length ≤ l) (hn:l < n) (hl2:l < 1000000):((wide_taken_p n (dg b) (dg a)).bind fun y67=>(wide_trimmed_p n s y67).bind fun y75=>some y75) = some (L (sg s (b - a))):=by
  obtain ⟨xs,e1,e2,e3⟩:=taken_ok n (dg b) (dg a) (dg_mono h) (by rw [val_dg,val_dg]; exact h) (by omega) (by omega)
  rw [e1,obind,trimmed_ok n _ _ (by omega) (by omega),obind,e3,val_dg,val_dg,L_sg]
theorem plus_ok (n l:Nat) (a b:Int) (ha:Fit l a) (hb:Fit l b) (hn:l + 1 < n) (hl:l < 1000000):wide_Long_Plus_p n (L a) (L b) = some (L (a + b)):=by
  unfold wide_Long_Plus_p
  have h1:=ha.len
  have h2:=hb.len
  by_cases h:((L a).fc == (L b).fc) = true
  · rw [if_pos h]
    obtain ⟨xs,e1,e2,e3⟩:=added_ok n (L a).fo (L b).fo ⟨by show (dg a.natAbs).length < n; omega,by show (dg b.natAbs).length < n; omega⟩ ⟨by show (dg a.natAbs).length < _; omega,by show (dg b.natAbs).length < _; omega⟩
    have e4:xs.length ≤ max (dg a.natAbs).length (dg b.natAbs).length + 1:=e2
    rw [e1,obind,trimmed_ok n _ _ (by omega) (by omega),obind,e3]
    show some (⟨decide (a < 0) && decide (0 < val (dg a.natAbs) + val (dg b.natAbs)),dg (val (dg a.natAbs) + val (dg b.natAbs))⟩:TLong) = _
    rw [val_dg,val_dg,L_sg]
    refine congrArg (fun x=>some (L x)) ?_
    have h3:decide (a < 0) = decide (b < 0):=eq_of_beq h
    unfold sg
    by_cases h4:a < 0 <;> by_cases h5:b < 0 <;> simp [h4,h5] at h3 ⊢ <;> omega
  · rw [if_neg h]
    obtain ⟨c,e1,e2,e3⟩:=compared_ok n (L a).fo (L b).fo (dg_nm _) (dg_nm _) (by show (dg a.natAbs).length < n; omega) (by show (dg a.natAbs).length < _; omega)
    have h3:decide (a < 0) ≠ decide (b < 0):=fun e=>h (by rw [beq_iff_eq]; exact e)
    rw [e1,obind]
    unfold jn
    simp only
    have e4:c < 0 ↔ a.natAbs < b.natAbs:=by rw [e2]; show val (dg a.natAbs) < val (dg b.natAbs) ↔ _; rw [val_dg,val_dg]
    by_cases hc:c < 0
    · rw [if_pos hc]
      show ((wide_taken_p n (dg b.natAbs) (dg a.natAbs)).bind fun y67=>(wide_trimmed_p n (decide (b < 0)) y67).bind fun y75=>some y75) = _
      rw [diff_ok n l _ _ _ (by omega) h2 (by omega) hl]
      refine congrArg (fun x=>some (L x)) ?_
      unfold sg
      by_cases h4:a < 0 <;> by_cases h5:b < 0 <;> simp [h4,h5] at h3 ⊢ <;> omega
    · rw [if_neg hc]
      show ((wide_taken_p n (dg a.natAbs) (dg b.natAbs)).bind fun y67=>(wide_trimmed_p n (decide (a < 0)) y67).bind fun y75=>some y75) = _
      rw [diff_ok n l _ _ _ (by omega) h1 (by omega) hl]
      refine congrArg (fun x=>some (L x)) ?_
      unfold sg
      by_cases h4:a < 0 <;> by_cases h5:b < 0 <;> simp [h4,h5] at h3 ⊢ <;> omega
theorem Fit.neg {l:Nat} {z:Int} (h:Fit l z):Fit l (-z):=by unfold Fit at *; rwa [Int.natAbs_neg]
end Go.Proofs.YtfccehcnajelgaaGreatDoor
