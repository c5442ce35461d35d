/- Plain laws: words compared and multiplied; sum, difference and product of integers of any length. No program in sight but the printed functions. -/
import Derived.Test.YtfccehcnajelgaaGreatDoorRDWa
namespace Go.Proofs.YtfccehcnajelgaaGreatDoor
open Go
theorem val_split (a:List UInt64) {i:Nat} (h:i < a.length):val a = val (a.take i) + 18446744073709551616 ^ i * a[i].toNat + 18446744073709551616 ^ (i + 1) * val (a.drop (i + 1)):=by
  conv=>lhs; rw [← List.take_append_drop (i + 1) a,val_app]
  rw [val_take a h,List.length_take,Nat.min_eq_left (by omega)]
theorem len_lt {a b:List UInt64} (hb:Nm b) (h:a.length < b.length):val a < val b:=by
  have h1:=val_lt a
  have h2:=val_ge hb (by intro e; rw [e] at h; simp at h)
  have h3:18446744073709551616 ^ a.length ≤ 18446744073709551616 ^ (b.length - 1):=Nat.pow_le_pow_right (by omega) (by omega)
  omega
theorem word_lt {a b:List UInt64} {i:Nat} (ha:i < a.length) (hb:i < b.length) (hd:a.drop (i + 1) = b.drop (i + 1)) (h:a[i] < b[i]):val a < val b:=by
  rw [val_split a ha,val_split b hb,hd]
  have h1:=val_lt (a.take i)
  rw [List.length_take,Nat.min_eq_left (by omega)] at h1
  have h2:18446744073709551616 ^ i * (a[i].toNat + 1) ≤ 18446744073709551616 ^ i * b[i].toNat:=Nat.mul_le_mul_left _ (UInt64.lt_iff_toNat_lt.1 h)
  rw [Nat.mul_add] at h2
  omega
theorem compared_ok (n:Nat) (a b:List UInt64) (ha:Nm a) (hb:Nm b) (hn:a.length < n) (hl:a.length < 4294967296):∃ c,wide_compared_p n a b = some c∧(c < 0 ↔ val a < val b)∧(c = 0 ↔ val a = val b):=by
  unfold wide_compared_p
  by_cases h:a.length = b.length
  · rw [if_pos h]
    have hh:=loop_ok (B:=wide_compared_l1 n a b) (fun z:Int=>(z + 1).toNat) (fun z=>-1 ≤ z∧z < a.length∧a.drop (z + 1).toNat = b.drop (z + 1).toNat)
      (fun r=>(r = .inl (-1)∧val a < val b) ∨ (r = .inl 1∧val b < val a) ∨ (r = .inr ()∧a = b)) ?_ n ((a.length:Int) - 1) ⟨by omega,by omega,?_⟩ (by omega)
    · obtain ⟨r,hr,h1 | h1 | h1⟩:=hh
      · rw [hr,h1.1]; exact ⟨_,rfl,by have:=h1.2; omega,by have:=h1.2; omega⟩
      · rw [hr,h1.1]; exact ⟨_,rfl,by have:=h1.2; omega,by have:=h1.2; omega⟩
      · rw [hr,h1.1,h1.2]; exact ⟨_,rfl,by omega,by omega⟩
    · intro z J ⟨h1,h2,h3⟩ hJ
      unfold wide_compared_l1
      simp only
      by_cases h0:0 ≤ z
      · have e1:(z + 1).toNat = z.toNat + 1:=by omega
        rw [e1] at h3
        rw [if_pos h0,idx_ok h0 (by omega),obind,idx_ok h0 (by omega),obind]
        split
        · rename_i hlt; exact ⟨_,rfl,.inl ⟨rfl,word_lt (by omega) (by omega) h3 hlt⟩⟩
        · rename_i h4
          split
          · rename_i hlt; exact ⟨_,rfl,.inr (.inl ⟨rfl,word_lt (by omega) (by omega) h3.symm hlt⟩)⟩
          · rename_i h5
            have he:a[z.toNat]'(by omega) = b[z.toNat]'(by omega):=UInt64.toNat_inj.1 (by rw [UInt64.lt_iff_toNat_lt] at h4 h5; omega)
            rw [chkI (by omega) (by omega),obind]
            refine hJ (z - 1) ⟨by omega,by omega,?_⟩ (by omega)
            rw [show (z - 1 + 1).toNat = z.toNat by omega,List.drop_eq_getElem_cons (by omega),List.drop_eq_getElem_cons (l:=b) (by omega),h3,he]
      · rw [if_neg h0]
        have e1:(z + 1).toNat = 0:=by omega
        rw [e1] at h3
        exact ⟨_,rfl,.inr (.inr ⟨rfl,by simpa using h3⟩)⟩
    · rw [show ((a.length:Int) - 1 + 1).toNat = a.length by omega,List.drop_length,h,List.drop_length]
  · rw [if_neg h]
    refine ⟨_,rfl,?_⟩
    by_cases h1:a.length < b.length
    · have:=len_lt hb h1; omega
    · have:=len_lt (a:=b) ha (by omega); omega
theorem shr32n (a:UInt64):(shrU a 32).toNat = a.toNat / 4294967296:=by
  unfold shrU; rw [if_pos (by decide),UInt64.toNat_ofNat']
  have:=a.toNat_lt
  omega
theorem and32 (a:UInt64):(a &&& (4294967295:UInt64)).toNat = a.toNat % 4294967296:=by
  rw [UInt64.toNat_and]; exact Nat.and_two_pow_sub_one_eq_mod a.toNat 32
theorem mul64_nat (x1 x0 y1 y0:Nat) (h1:x1 < 4294967296) (h2:x0 < 4294967296) (h3:y1 < 4294967296) (h4:y0 < 4294967296) :
    ((x1 * y0 + x0 * y0 / 4294967296) < 18446744073709551616)∧((x1 * y0 + x0 * y0 / 4294967296) % 4294967296 + x0 * y1 < 18446744073709551616)∧
    x1 * y1 + (x1 * y0 + x0 * y0 / 4294967296) / 4294967296 + ((x1 * y0 + x0 * y0 / 4294967296) % 4294967296 + x0 * y1) / 4294967296 < 18446744073709551616∧
    (((x1 * 4294967296 + x0) * (y1 * 4294967296 + y0)) % 18446744073709551616) + 18446744073709551616 * (x1 * y1 + (x1 * y0 + x0 * y0 / 4294967296) / 4294967296 + ((x1 * y0 + x0 * y0 / 4294967296) % 4294967296 + x0 * y1) / 4294967296) = (x1 * 4294967296 + x0) * (y1 * 4294967296 + y0):=by
  have e:(x1 * 4294967296 + x0) * (y1 * 4294967296 + y0) = 18446744073709551616 * (x1 * y1) + 4294967296 * (x1 * y0 + x0 * y1) + x0 * y0:=by grind
  have b1:x1 * y1 ≤ 4294967295 * 4294967295:=Nat.mul_le_mul (by omega) (by omega)
  have b2:x1 * y0 ≤ 4294967295 * 4294967295:=Nat.mul_le_mul (by omega) (by omega)
  have b3:x0 * y1 ≤ 4294967295 * 4294967295:=Nat.mul_le_mul (by omega) (by omega)
  have b4:x0 * y0 ≤ 4294967295 * 4294967295:=Nat.mul_le_mul (by omega) (by omega)
  rw [e]
  generalize x1 * y1 = s at *
  generalize x1 * y0 = q at *
  generalize x0 * y1 = r at *
  generalize x0 * y0 = p at *
  clear e h1 h2 h3 h4
  refine ⟨by omega,by omega,by omega,by omega⟩
theorem mul64_ok (n:Nat) (x y:UInt64):∃ hi lo,math_bits_Mul64_p n x y = some (hi,lo)∧lo.toNat + 18446744073709551616 * hi.toNat = x.toNat * y.toNat:=by
  refine ⟨_,_,rfl,?_⟩
  have hx:=x.toNat_lt
  have hy:=y.toNat_lt
  have ex:x.toNat = x.toNat / 4294967296 * 4294967296 + x.toNat % 4294967296:=by omega
  have ey:y.toNat = y.toNat / 4294967296 * 4294967296 + y.toNat % 4294967296:=by omega
  obtain ⟨h1,h2,h3,h4⟩:=mul64_nat (x.toNat / 4294967296) (x.toNat % 4294967296) (y.toNat / 4294967296) (y.toNat % 4294967296) (by omega) (by omega) (by omega) (by omega)
  rw [← ex,← ey] at h4
  have b1:x.toNat / 4294967296 * (y.toNat / 4294967296) < 18446744073709551616:=by omega
  have b2:x.toNat / 4294967296 * (y.toNat % 4294967296) < 18446744073709551616:=by omega
  have b3:x.toNat % 4294967296 * (y.toNat / 4294967296) < 18446744073709551616:=by omega
  have b4:x.toNat % 4294967296 * (y.toNat % 4294967296) < 18446744073709551616:=by
    have:x.toNat % 4294967296 * (y.toNat % 4294967296) ≤ 4294967295 * 4294967295:=Nat.mul_le_mul (by omega) (by omega)
    omega
  simp only [UInt64.toNat_add,UInt64.toNat_mul,shr32n,and32,show (2:Nat) ^ 64 = 18446744073709551616 from rfl]
  rw [Nat.mod_eq_of_lt b1,Nat.mod_eq_of_lt b2,Nat.mod_eq_of_lt b3,Nat.mod_eq_of_lt b4,Nat.mod_eq_of_lt h1,Nat.mod_eq_of_lt h2]
  rw [Nat.mod_eq_of_lt (a:=x.toNat / 4294967296 * (y.toNat / 4294967296) + _) (by omega),Nat.mod_eq_of_lt h3]
  exact h4
theorem mult_in (n:Nat) (b:List UInt64) (x:UInt64) (i:Nat) (xs0:List UInt64) (hi:i + b.length < xs0.length) (hn:b.length < n) :
    ∃ xs u,loopF (wide_multiplied_l1 n b x i) n (0,0,xs0) = some (xs,u)∧xs.length = xs0.length∧val (xs.take (i + b.length)) + 18446744073709551616 ^ (i + b.length) * u.toNat = val (xs0.take (i + b.length)) + x.toNat * val b * 18446744073709551616 ^ i:=by
  have h:=loop_ok (B:=wide_multiplied_l1 n b x i) (fun s:UInt64 × Nat × List UInt64=>b.length - s.2.1) (fun s=>s.2.1 ≤ b.length∧s.2.2.length = xs0.length∧(∀ k,i + s.2.1 ≤ k → s.2.2[k]? = xs0[k]?)∧val (s.2.2.take (i + s.2.1)) + 18446744073709551616 ^ (i + s.2.1) * s.1.toNat = val (xs0.take (i + s.2.1)) + x.toNat * val (b.take s.2.1) * 18446744073709551616 ^ i)
    (fun r:List UInt64 × UInt64=>r.1.length = xs0.length∧val (r.1.take (i + b.length)) + 18446744073709551616 ^ (i + b.length) * r.2.toNat = val (xs0.take (i + b.length)) + x.toNat * val b * 18446744073709551616 ^ i) ?_ n (0,0,xs0) ⟨by simp,rfl,fun _ _=>rfl,by simp [val]⟩ (by simpa using hn)
  · obtain ⟨⟨xs,u⟩,h1,h2,h3⟩:=h; exact ⟨xs,u,h1,h2,h3⟩
  · rintro ⟨u,j,xs⟩ J ⟨h1,h2,h3,h4⟩ hJ
    simp only at h1 h2 h3 h4 hJ
    unfold wide_multiplied_l1
    simp only
    by_cases hj:j < b.length
    · obtain ⟨hi', lo,e1,e2⟩:=mul64_ok n x b[j]
      have hx0:xs[i + j]'(by omega) = xs0[i + j]'(by omega):=by
        have:=h3 (i + j) (by omega)
        rw [List.getElem?_eq_getElem (by omega),List.getElem?_eq_getElem (by omega)] at this
        exact Option.some.inj this
      rw [if_pos hj,List.getElem?_eq_getElem hj,obind,e1,obind,List.getElem?_eq_getElem (by omega),obind]
      obtain ⟨s,c,f1,f2,f3⟩:=add64_ok (xs[i + j]'(by omega)) lo 0 (by simp)
      obtain ⟨s', c', g1,g2,g3⟩:=add64_ok s u 0 (by simp)
      simp only [f1,obind,g1]
      rw [put_ok _ (by omega),obind]
      simp only [UInt64.toNat_zero,Nat.add_zero] at f2 g2
      have bx:x.toNat * b[j].toNat ≤ 18446744073709551615 * 18446744073709551615:=Nat.mul_le_mul (by have:=x.toNat_lt; omega) (by have:=b[j].toNat_lt; omega)
      have bo:=(xs[i + j]'(by omega)).toNat_lt
      have bu:=u.toNat_lt
      have e3:(hi' + c + c').toNat = hi'.toNat + c.toNat + c'.toNat:=by
        rw [UInt64.toNat_add,UInt64.toNat_add]; omega
      have e4:s'.toNat + 18446744073709551616 * (hi' + c + c').toNat = (xs[i + j]'(by omega)).toNat + x.toNat * b[j].toNat + u.toNat:=by rw [e3]; omega
      refine hJ (hi' + c + c', j + 1,xs.set (i + j) s') ⟨hj,by simpa using h2,fun k hk=>?_,?_⟩ (by simp only; omega)
      · simp only at hk ⊢
        rw [List.getElem?_set_ne (by omega)]; exact h3 k (by omega)
      · simp only
        rw [← Nat.add_assoc,val_set s' (by omega),val_take xs0 (by omega),val_take b hj,← hx0,Nat.pow_succ]
        rw [Nat.pow_add] at h4 ⊢
        grind
    · rw [if_neg hj]
      have:j = b.length:=by omega
      subst this
      refine ⟨_,rfl,h2,?_⟩
      simp only
      rw [h4,List.take_length]
theorem multiplied_ok (n:Nat) (a b:List UInt64) (hn:a.length < n∧b.length < n) (hl:a.length + b.length ≤ 4294967296):∃ xs,wide_multiplied_p n a b = some xs∧xs.length = a.length + b.length∧val xs = val a * val b:=by
  have h:=loop_ok (B:=wide_multiplied_l2 n a b) (fun s:Nat × List UInt64=>a.length - s.1) (fun s=>s.1 ≤ a.length∧s.2.length = a.length + b.length∧val (s.2.take (s.1 + b.length)) = val (a.take s.1) * val b)
    (fun r:List UInt64=>r.length = a.length + b.length∧val r = val a * val b) ?_ n (0,List.replicate (a.length + b.length) 0) ⟨by simp,by simp,?_⟩ (by simpa using hn.1)
  · obtain ⟨xs,h1,h2,h3⟩:=h
    refine ⟨xs,?_,h2,h3⟩
    unfold wide_multiplied_p
    rw [mk_ok _ _ hl,obind,h1,obind]
  · rintro ⟨i,xs⟩ J ⟨h1,h2,h3⟩ hJ
    simp only at h1 h2 h3 hJ
    unfold wide_multiplied_l2
    simp only
    by_cases hi:i < a.length
    · obtain ⟨ys,u,e1,e2,e3⟩:=mult_in n b a[i] i xs (by omega) hn.2
      rw [if_pos hi,List.getElem?_eq_getElem hi,obind,e1,obind]
      simp only
      rw [List.getElem?_eq_getElem (by omega),obind,put_ok _ (by omega),obind]
      refine hJ (i + 1,ys.set (i + b.length) u) ⟨hi,by simp; omega,?_⟩ (by simp only; omega)
      simp only
      rw [show i + 1 + b.length = i + b.length + 1 by omega,val_set u (by omega),val_take a hi,e3,h3]
      grind
    · rw [if_neg hi]
      have:i = a.length:=by omega
      subst this
      rw [List.take_length,take_all (by omega)] at h3
      exact ⟨xs,rfl,h2,h3⟩
  · simp only [List.take_zero,val,Nat.zero_mul]
    exact val_zero _ fun x hx=>(List.mem_replicate.1 (List.mem_of_mem_take hx)).2
def L (z:Int):TLong:=⟨decide (z < 0),dg z.natAbs⟩
def Fit (l:Nat) (z:Int):Prop:=z.natAbs < 18446744073709551616 ^ l
theorem Fit.len {l:Nat} {z:Int} (h:Fit l z):(dg z.natAbs).length ≤ l:=dg_len h
def sg (s:Bool) (m:Nat):Int:=if s = true then -(m:Int) else m
theorem L_sg (s:Bool) (m:Nat):(⟨s && decide (0 < m),dg m⟩:TLong) = L (sg s m):=by
  unfold L sg
  cases s
  · simp
  · simp
theorem sg_of (z:Int):z = sg (decide (z < 0)) z.natAbs:=by
  unfold sg; split <;> rename_i h <;> simp at h <;> omega
theorem sg_abs (s:Bool) (m:Nat):(sg s m).natAbs = m:=by unfold sg; split <;> omega
theorem turned_ok (n l:Nat) (z:Int) (h:Fit l z) (hn:l < n) (hl:l < 1000000):wide_Long_Turned_p n (L z) = some (L (-z)):=by
  unfold wide_Long_Turned_p
  have h1:=h.len
  rw [trimmed_ok n _ _ (by show (dg z.natAbs).length < n; omega) (by show (dg z.natAbs).length ≤ _; omega),obind]
  show some (⟨!decide (z < 0) && decide (0 < val (dg z.natAbs)),dg (val (dg z.natAbs))⟩:TLong) = _
  rw [val_dg,L_sg]
  refine congrArg (fun x=>some (L x)) ?_
  unfold sg
  by_cases hz:z < 0 <;> simp [hz] <;> omega
theorem times_ok (n l m:Nat) (a b:Int) (ha:Fit l a) (hb:Fit m b) (hn:l + m < n) (hl:l + m < 1000000):wide_Long_Times_p n (L a) (L b) = some (L (a * b)):=by
  unfold wide_Long_Times_p
  have h1:=ha.len
  have h2:=hb.len
  obtain ⟨xs,e1,e2,e3⟩:=multiplied_ok n (L a).fm (L b).fm ⟨by show (dg a.natAbs).length < n; omega,by show (dg b.natAbs).length < n; omega⟩ (by show (dg a.natAbs).length + (dg b.natAbs).length ≤ _; omega)
  have e4:xs.length = (dg a.natAbs).length + (dg b.natAbs).length:=e2
  rw [e1,obind,trimmed_ok n _ _ (by omega) (by omega),obind,e3]
  show some (⟨!(decide (a < 0) == decide (b < 0)) && decide (0 < val (dg a.natAbs) * val (dg b.natAbs)),dg (val (dg a.natAbs) * val (dg b.natAbs))⟩:TLong) = _
  rw [val_dg,val_dg,L_sg]
  refine congrArg (fun x=>some (L x)) ?_
  conv=>rhs; rw [sg_of a,sg_of b]
  unfold sg
  by_cases h3:a < 0 <;> by_cases h4:b < 0 <;> simp [h3,h4,Int.neg_mul,Int.mul_neg,Int.neg_mul_neg]
theorem dg_mono {a b:Nat} (h:a ≤ b):(dg a).length ≤ (dg b).length:=dg_len (Nat.lt_of_le_of_lt h (by have:=val_lt (dg b); rwa [val_dg] at this))
theorem diff_ok (n l a b:Nat) (s:Bool) (h:a ≤ b) (hl:(dg b).length ≤ l) (hn:l < n) (hl2:l < 1000000):((wide_taken_p n (dg b) (dg a)).bind fun y67=>(wide_trimmed_p n s y67).bind fun y75=>some y75) = some (L (sg s (b - a))):=by
  obtain ⟨xs,e1,e2,e3⟩:=taken_ok n (dg b) (dg a) (dg_mono h) (by rw [val_dg,val_dg]; exact h) (by omega) (by omega)
  rw [e1,obind,trimmed_ok n _ _ (by omega) (by omega),obind,e3,val_dg,val_dg,L_sg]
theorem plus_ok (n l:Nat) (a b:Int) (ha:Fit l a) (hb:Fit l b) (hn:l + 1 < n) (hl:l < 1000000):wide_Long_Plus_p n (L a) (L b) = some (L (a + b)):=by
  unfold wide_Long_Plus_p
  have h1:=ha.len
  have h2:=hb.len
  by_cases h:((L a).fj == (L b).fj) = true
  · rw [if_pos h]
    obtain ⟨xs,e1,e2,e3⟩:=added_ok n (L a).fm (L b).fm ⟨by show (dg a.natAbs).length < n; omega,by show (dg b.natAbs).length < n; omega⟩ ⟨by show (dg a.natAbs).length < _; omega,by show (dg b.natAbs).length < _; omega⟩
    have e4:xs.length ≤ max (dg a.natAbs).length (dg b.natAbs).length + 1:=e2
    rw [e1,obind,trimmed_ok n _ _ (by omega) (by omega),obind,e3]
    show some (⟨decide (a < 0) && decide (0 < val (dg a.natAbs) + val (dg b.natAbs)),dg (val (dg a.natAbs) + val (dg b.natAbs))⟩:TLong) = _
    rw [val_dg,val_dg,L_sg]
    refine congrArg (fun x=>some (L x)) ?_
    have h3:decide (a < 0) = decide (b < 0):=eq_of_beq h
    unfold sg
    by_cases h4:a < 0 <;> by_cases h5:b < 0 <;> simp [h4,h5] at h3 ⊢ <;> omega
  · rw [if_neg h]
    obtain ⟨c,e1,e2,e3⟩:=compared_ok n (L a).fm (L b).fm (dg_nm _) (dg_nm _) (by show (dg a.natAbs).length < n; omega) (by show (dg a.natAbs).length < _; omega)
    have h3:decide (a < 0) ≠ decide (b < 0):=fun e=>h (by rw [beq_iff_eq]; exact e)
    rw [e1,obind]
    unfold jn
    simp only
    have e4:c < 0 ↔ a.natAbs < b.natAbs:=by rw [e2]; show val (dg a.natAbs) < val (dg b.natAbs) ↔ _; rw [val_dg,val_dg]
    by_cases hc:c < 0
    · rw [if_pos hc]
      show ((wide_taken_p n (dg b.natAbs) (dg a.natAbs)).bind fun y67=>(wide_trimmed_p n (decide (b < 0)) y67).bind fun y75=>some y75) = _
      rw [diff_ok n l _ _ _ (by omega) h2 (by omega) hl]
      refine congrArg (fun x=>some (L x)) ?_
      unfold sg
      by_cases h4:a < 0 <;> by_cases h5:b < 0 <;> simp [h4,h5] at h3 ⊢ <;> omega
    · rw [if_neg hc]
      show ((wide_taken_p n (dg a.natAbs) (dg b.natAbs)).bind fun y67=>(wide_trimmed_p n (decide (a < 0)) y67).bind fun y75=>some y75) = _
      rw [diff_ok n l _ _ _ (by omega) h1 (by omega) hl]
      refine congrArg (fun x=>some (L x)) ?_
      unfold sg
      by_cases h4:a < 0 <;> by_cases h5:b < 0 <;> simp [h4,h5] at h3 ⊢ <;> omega
theorem Fit.neg {l:Nat} {z:Int} (h:Fit l z):Fit l (-z):=by unfold Fit at *; rwa [Int.natAbs_neg]
theorem minus_ok (n l:Nat) (a b:Int) (ha:Fit l a) (hb:Fit l b) (hn:l + 1 < n) (hl:l < 1000000):wide_Long_Minus_p n (L a) (L b) = some (L (a - b)):=by
  unfold wide_Long_Minus_p
  rw [turned_ok n l b hb (by omega) hl,obind,plus_ok n l a (-b) ha hb.neg hn hl,obind,Int.sub_eq_add_neg]
theorem side_ok (n:Nat) (a:Int):wide_Long_Side_p n (L a) = some a.sign:=by
  unfold wide_Long_Side_p
  by_cases h:a < 0
  · rw [if_pos (by simpa [L] using h),Int.sign_eq_neg_one_of_neg h]
  · rw [if_neg (by simpa [L] using h)]
    by_cases h0:a = 0
    · subst h0; rw [if_pos (by simp [L,dg0])]; rfl
    · rw [if_neg,Int.sign_eq_one_of_pos (by omega)]
      show ¬ (dg a.natAbs).length = 0
      rw [dg_ne (by omega)]; simp
end Go.Proofs.YtfccehcnajelgaaGreatDoor
