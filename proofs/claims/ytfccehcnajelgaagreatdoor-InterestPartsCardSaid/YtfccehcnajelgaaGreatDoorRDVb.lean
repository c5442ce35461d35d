/- Plain laws: bits counted, words shifted. No program in sight but the printed functions. -/
import Derived.Test.YtfccehcnajelgaaGreatDoorRDVa
import Derived.Test.YtfccehcnajelgaaGreatDoorRDSa
namespace Go.Proofs.YtfccehcnajelgaaGreatDoor
open Go
def bln (m:Nat):Nat:=if m = 0 then 0 else Nat.log2 m + 1
theorem bln_lt (m:Nat):m < 2 ^ bln m:=by
  unfold bln
  split
  · rename_i h; rw [h]; decide
  · rename_i h; exact Nat.lt_log2_self
theorem bln_ge {m:Nat} (h:m ≠ 0):2 ^ (bln m - 1) ≤ m:=by
  unfold bln
  rw [if_neg h]
  exact Nat.log2_self_le h
theorem bln_pos {m:Nat} (h:m ≠ 0):1 ≤ bln m:=by unfold bln; rw [if_neg h]; omega
theorem bln_uniq {m l:Nat} (h1:2 ^ l ≤ m) (h2:m < 2 ^ (l + 1)):bln m = l + 1:=by
  have h0:m ≠ 0:=fun e=>by have:=Nat.two_pow_pos l; omega
  have h3:=bln_lt m
  have h4:=bln_ge h0
  have h5:=bln_pos h0
  have h6:=(Nat.pow_lt_pow_iff_right (by decide:1 < 2)).1 (Nat.lt_of_le_of_lt h1 h3)
  have h7:=(Nat.pow_lt_pow_iff_right (by decide:1 < 2)).1 (Nat.lt_of_le_of_lt h4 h2)
  omega
theorem bln_shift {m s:Nat} (h:2 ^ s ≤ m):bln m = s + bln (m / 2 ^ s):=by
  have hp:=Nat.two_pow_pos s
  have h0:m / 2 ^ s ≠ 0:=fun e=>by have:=Nat.div_pos h hp; omega
  have h1:=bln_lt (m / 2 ^ s)
  have h2:=bln_ge h0
  have h3:=bln_pos h0
  have e1:2 ^ (s + (bln (m / 2 ^ s) - 1)) ≤ m:=by
    rw [Nat.pow_add,Nat.mul_comm]
    exact (Nat.le_div_iff_mul_le hp).1 h2
  have e2:m < 2 ^ (s + bln (m / 2 ^ s)):=by
    rw [Nat.pow_add,Nat.mul_comm]
    exact (Nat.div_lt_iff_lt_mul hp).1 h1
  have:=bln_uniq (l:=s + (bln (m / 2 ^ s) - 1)) e1 (by rw [show s + (bln (m / 2 ^ s) - 1) + 1 = s + bln (m / 2 ^ s) by omega]; exact e2)
  omega
theorem bln_small {m l:Nat} (h:m < 2 ^ l):bln m ≤ l:=by
  by_cases h0:m = 0
  · subst h0; simp [bln]
  · have h4:=bln_ge h0
    have h7:=(Nat.pow_lt_pow_iff_right (by decide:1 < 2)).1 (Nat.lt_of_le_of_lt h4 h)
    have:=bln_pos h0
    omega
theorem tab_all:(List.range 256).all (fun v=>decide (stab0[v]? = some (UInt8.ofNat (bln v)))) = true:=by kernel_rfl
theorem tab_ok {v:Nat} (h:v < 256):stab0[v]? = some (UInt8.ofNat (bln v)):=of_decide_eq_true (List.all_eq_true.1 tab_all v (List.mem_range.2 h))
theorem len8_ok (u:UInt64) (z:Int) (h:u.toNat < 256) (hz:0 ≤ z∧z ≤ 64):((stab0[(u8of u).toNat]?).bind fun z27=>(chk (z + ((z27.toNat:Nat):Int))).bind fun s29=>some s29) = some (z + bln u.toNat):=by
  have hb:=bln_small (l:=8) (m:=u.toNat) (by omega)
  have e:(u8of u).toNat = u.toNat:=by unfold u8of; rw [UInt8.toNat_ofNat']; omega
  have e2:(UInt8.ofNat (bln u.toNat)).toNat = bln u.toNat:=by rw [UInt8.toNat_ofNat']; omega
  rw [e,tab_ok h,obind,e2,chkI (by omega) (by omega),obind]
theorem len64_ok (n:Nat) (x:UInt64):math_bits_Len64_p n x = some (bln x.toNat:Int):=by
  have hx:=x.toNat_lt
  have k16:∀ (u:UInt64) (z:Int),u.toNat < 65536 → (0 ≤ z∧z ≤ 48) → ((if (256:UInt64) ≤ u then (chk (z + 8)).bind fun s31=>((stab0[(u8of (shrU u 8)).toNat]?).bind fun z27=>(chk (s31 + ((z27.toNat:Nat):Int))).bind fun s29=>some s29) else ((stab0[(u8of u).toNat]?).bind fun z27=>(chk (z + ((z27.toNat:Nat):Int))).bind fun s29=>some s29))) = some (z + bln u.toNat):=fun u z hu hz=>by
    by_cases c:(256:UInt64) ≤ u
    · have c2:256 ≤ u.toNat:=by rw [UInt64.le_iff_toNat_le] at c; simpa using c
      rw [if_pos c,chkI (by omega) (by omega),obind,len8_ok _ _ (by rw [shr_nat _ (by decide)]; omega) (by omega),shr_nat _ (by decide),bln_shift (m:=u.toNat) (s:=8) (by omega)]
      congr 1; omega
    · have c2:u.toNat < 256:=by rw [UInt64.le_iff_toNat_le] at c; simpa using c
      rw [if_neg c,len8_ok _ _ c2 (by omega)]
  have k32:∀ (u:UInt64) (z:Nat),u.toNat < 4294967296 → z ≤ 32 → ((if (65536:UInt64) ≤ u then (chk ((z:Int) + 16)).bind fun s33=>(if (256:UInt64) ≤ shrU u 16 then (chk (s33 + 8)).bind fun s31=>((stab0[(u8of (shrU (shrU u 16) 8)).toNat]?).bind fun z27=>(chk (s31 + ((z27.toNat:Nat):Int))).bind fun s29=>some s29) else ((stab0[(u8of (shrU u 16)).toNat]?).bind fun z27=>(chk (s33 + ((z27.toNat:Nat):Int))).bind fun s29=>some s29)) else (if (256:UInt64) ≤ u then (chk ((z:Int) + 8)).bind fun s31=>((stab0[(u8of (shrU u 8)).toNat]?).bind fun z27=>(chk (s31 + ((z27.toNat:Nat):Int))).bind fun s29=>some s29) else ((stab0[(u8of u).toNat]?).bind fun z27=>(chk ((z:Int) + ((z27.toNat:Nat):Int))).bind fun s29=>some s29)))) = some ((z:Int) + bln u.toNat):=fun u z hu hz=>by
    by_cases c:(65536:UInt64) ≤ u
    · have c2:65536 ≤ u.toNat:=by rw [UInt64.le_iff_toNat_le] at c; simpa using c
      rw [if_pos c,chkI (by omega) (by omega),obind,k16 _ _ (by rw [shr_nat _ (by decide)]; omega) (by omega),shr_nat _ (by decide),bln_shift (m:=u.toNat) (s:=16) (by omega)]
      congr 1; omega
    · have c2:u.toNat < 65536:=by rw [UInt64.le_iff_toNat_le] at c; simpa using c
      rw [if_neg c,k16 _ _ c2 (by omega)]
  unfold math_bits_Len64_p jn
  simp only
  by_cases c:(4294967296:UInt64) ≤ x
  · have c2:4294967296 ≤ x.toNat:=by rw [UInt64.le_iff_toNat_le] at c; simpa using c
    rw [if_pos c]
    refine (k32 (shrU x 32) 32 (by rw [shr_nat _ (by decide)]; omega) (by omega)).trans ?_
    rw [shr_nat _ (by decide),bln_shift (m:=x.toNat) (s:=32) (by omega)]
    congr 1
  · have c2:x.toNat < 4294967296:=by rw [UInt64.le_iff_toNat_le] at c; simpa using c
    rw [if_neg c]
    refine (k32 x 0 c2 (by omega)).trans ?_
    congr 1; omega
theorem lz_ok (n:Nat) (x:UInt64):math_bits_LeadingZeros64_p n x = some (64 - bln x.toNat:Int):=by
  have:=bln_small (l:=64) (m:=x.toNat) (by have:=x.toNat_lt; omega)
  unfold math_bits_LeadingZeros64_p
  rw [len64_ok,obind,chkI (by omega) (by omega),obind]
theorem div_top {m lo t l:Nat} (hv:m = lo + 18446744073709551616 ^ l * t) (hlow:lo < 18446744073709551616 ^ l):m / 2 ^ (64 * l) = t:=by
  rw [← pow64,hv,Nat.add_mul_div_left _ _ (Nat.lt_of_le_of_lt (Nat.zero_le _) hlow),Nat.div_eq_of_lt hlow,Nat.zero_add]
theorem length_ok (n:Nat) (m:Nat) (hl:(dg m).length ≤ 1000000):wide_length_p n (dg m) = some (bln m:Int):=by
  unfold wide_length_p
  by_cases h0:m = 0
  · subst h0
    rw [dg0,if_pos (show ([]:List UInt64).length = 0 from rfl)]
    unfold bln
    rw [if_pos rfl]; rfl
  · have hne:dg m ≠ []:=fun e=>h0 (by have:=val_dg m; rw [e] at this; exact this.symm)
    obtain ⟨l,hl1⟩:∃ l,(dg m).length = l + 1:=⟨(dg m).length - 1,by cases h:dg m with | nil=>exact absurd h hne | cons x xs=>simp⟩
    have hlast:l < (dg m).length:=by omega
    have hv:=val_split (dg m) hlast
    rw [List.drop_eq_nil_of_le (by omega),val_dg,show val ([]:List UInt64) = 0 from rfl,Nat.mul_zero,Nat.add_zero] at hv
    have hlow:=val_lt ((dg m).take l)
    rw [List.length_take,Nat.min_eq_left (by omega)] at hlow
    have htop:(dg m)[l] ≠ 0:=dg_nm m _ (by rw [List.getLast?_eq_getElem?,hl1]; exact List.getElem?_eq_getElem hlast)
    have ht0:((dg m)[l]).toNat ≠ 0:=fun e=>htop (UInt64.toNat_inj.1 (by simpa using e))
    have hb:bln m = 64 * l + bln ((dg m)[l]).toNat:=by
      have e:m / 2 ^ (64 * l) = ((dg m)[l]).toNat:=div_top hv hlow
      have:=bln_shift (m:=m) (s:=64 * l) (by
        have h1:2 ^ (64 * l) * 1 ≤ 2 ^ (64 * l) * ((dg m)[l]).toNat:=Nat.mul_le_mul_left _ (by omega)
        rw [pow64] at hv
        omega)
      rw [e] at this
      exact this
    have hbt:=bln_small (l:=64) (m:=((dg m)[l]).toNat) (by have:=((dg m)[l]).toNat_lt; omega)
    have hi:((((dg m).length:Nat):Int) - 1).toNat = l:=by omega
    rw [if_neg (by omega),chkI (by omega) (by omega),obind,idx_ok (by omega) (by omega),obind]
    simp only [hi]
    rw [lz_ok,obind,chkI (by omega) (by omega),obind,hb]
    congr 1; omega
theorem quo64 (k:Nat) (h:k < 1000000000):quoI (k:Int) 64 = some ((k / 64:Nat):Int):=by
  unfold quoI
  rw [if_neg (by decide),Int.tdiv_eq_ediv_of_nonneg (by omega),chkI (by omega) (by omega)]
  congr 1
theorem rem64 (k:Nat):remI (k:Int) 64 = some ((k % 64:Nat):Int):=by
  rw [remI_ok (by decide),Int.tmod_eq_emod_of_nonneg (by omega)]
  congr 1
theorem natOf_nat (k:Nat):natOf (k:Int) = some k:=by unfold natOf; rw [if_pos (Int.natCast_nonneg _),Int.toNat_natCast]
theorem idxN {α:Type} {xs:List α} {i:Nat} (h:i < xs.length):idx xs (i:Int) = some xs[i]:=by
  rw [idx_ok (by omega) (by rw [Int.toNat_natCast]; exact h)]
  simp only [Int.toNat_natCast]
theorem putN {α:Type} {xs:List α} {i:Nat} (x:α) (h:i < xs.length):put xs ((((i:Nat):Int).toNat:Nat):Int) x = some (xs.set i x):=by rw [Int.toNat_natCast]; exact put_ok x h
theorem moved_ok (n:Nat) (a:List UInt64) (k:Nat) (hk:k < 1000000) (hl:a.length < 100000) (hn:200000 < n):wide_moved_p n a (k:Int) = some (dg (val a * 2 ^ k)):=by
  have hkw:2 ^ k = 18446744073709551616 ^ (k / 64) * 2 ^ (k % 64):=by rw [pow64,← Nat.pow_add]; congr 1; omega
  have hs:k % 64 < 64:=Nat.mod_lt _ (by decide)
  have hh:=loop_ok (B:=wide_moved_l1 n a (k:Int)) (fun s:Nat × List UInt64=>a.length - s.1) (fun s=>s.1 ≤ a.length∧∃ hx:s.2.length = a.length + k / 64 + 1,val s.2 = val (a.take s.1) * 2 ^ k∧(∀ j (h:j < s.2.length),s.1 + k / 64 < j → s.2[j] = 0)∧(s.2[s.1 + k / 64]?.getD 0).toNat < 2 ^ (k % 64))
    (fun xs=>xs.length = a.length + k / 64 + 1∧val xs = val a * 2 ^ k) ?_ n (0,List.replicate (a.length + k / 64 + 1) 0) ⟨Nat.zero_le _,by simp,?_,fun j h _=>by simp,?_⟩ (by simp only; omega)
  · obtain ⟨xs,e,h1,h2⟩:=hh
    unfold wide_moved_p
    rw [quo64 k (by omega),obind,chkI (by omega) (by omega),obind,chkI (by omega) (by omega),obind,show ((a.length:Nat):Int) + ((k / 64:Nat):Int) + 1 = ((a.length + k / 64 + 1:Nat):Int) by omega,mk_ok _ _ (by omega),obind,e,obind,trimmed_ok n false xs (by omega) (by omega),obind,h2]
  · rintro ⟨i,xs⟩ J ⟨a1,a2,a3,a4,a5⟩ hJ
    simp only at a1 a2 a3 a4 a5 hJ
    unfold wide_moved_l1
    simp only
    by_cases hi:i < a.length
    · have hw:i + k / 64 < xs.length:=by omega
      have hw1:i + k / 64 + 1 < xs.length:=by omega
      rw [List.getElem?_eq_getElem hw] at a5
      have a5' : (xs[i + k / 64]).toNat < 2 ^ (k % 64):=a5
      rw [if_pos hi,List.getElem?_eq_getElem hi,obind,quo64 k (by omega),obind,chkI (by omega) (by omega),obind,show ((i:Nat):Int) + ((k / 64:Nat):Int) = ((i + k / 64:Nat):Int) by omega,idxN hw,obind,rem64,obind,natOf_nat,obind,putN _ hw,obind,obind]
      have e0:val (a.take (i + 1)) * 2 ^ k = val (a.take i) * 2 ^ k + 18446744073709551616 ^ (i + k / 64) * (a[i].toNat * 2 ^ (k % 64)):=by
        rw [val_take a hi,Nat.add_mul,hkw,Nat.pow_add]
        congr 1
        grind
      by_cases c:0 < k % 64
      · obtain ⟨s1,s2,s3⟩:=shift_two a[i] c hs
        have hor:=or_low (a:=xs[i + k / 64]) (b:=shlU a[i] (k % 64)) a5' s2
        have v1:=val_put (xs[i + k / 64] ||| shlU a[i] (k % 64)) hw
        rw [hor,Nat.mul_add] at v1
        generalize hys:xs.set (i + k / 64) (xs[i + k / 64] ||| shlU a[i] (k % 64)) = ys at *
        have hyl:ys.length = xs.length:=by rw [← hys,List.length_set]
        have hy1:i + k / 64 + 1 < ys.length:=by omega
        have hy0:ys[i + k / 64 + 1] = 0:=by
          have:=a4 (i + k / 64 + 1) hw1 (by omega)
          simp only [← hys]
          rw [List.getElem_set_ne (by omega)]; exact this
        have v2:=val_put (shrU a[i] (64 - k % 64)) hy1
        rw [hy0] at v2
        rw [if_pos (by omega),obind,chkI (by omega) (by omega),obind,chkI (by omega) (by omega),obind,obind,chkI (by omega) (by omega),obind,show (64:Int) - ((k % 64:Nat):Int) = ((64 - k % 64:Nat):Int) by omega,natOf_nat,obind,show ((i:Nat):Int) + ((k / 64:Nat):Int) + 1 = ((i + k / 64 + 1:Nat):Int) by omega,idxN hy1,obind,putN _ hy1,obind]
        refine hJ _ ⟨hi,by simp only [List.length_set]; omega,?_,fun j hj hlt=>?_,?_⟩ (by simp only; omega)
        · simp only
          rw [e0,← s1,Nat.mul_add,← Nat.mul_assoc,← Nat.pow_succ]
          simp only [UInt64.toNat_zero,Nat.mul_zero,Nat.add_zero] at v2
          rw [v2,← a3]
          show val ys + 18446744073709551616 ^ (i + k / 64 + 1) * _ = val xs + (_ + 18446744073709551616 ^ (i + k / 64 + 1) * _)
          omega
        · simp only at hj hlt ⊢
          rw [List.getElem_set_ne (by omega)]
          simp only [← hys]
          rw [List.getElem_set_ne (by omega)]
          exact a4 j (by simpa [← hys] using hj) (by omega)
        · simp only
          rw [show i + 1 + k / 64 = i + k / 64 + 1 by omega,List.getElem?_set_self hy1]
          exact s3
      · have c0:k % 64 = 0:=by omega
        rw [c0,Nat.pow_zero] at a5'
        have hz:xs[i + k / 64] = 0:=UInt64.toNat_inj.1 (by simp; omega)
        have v1:=val_put (xs[i + k / 64] ||| shlU a[i] (k % 64)) hw
        rw [hz,or_zero_left,c0,shl_zero] at v1
        rw [if_neg (by omega),hz,or_zero_left,c0,shl_zero]
        refine hJ _ ⟨hi,by simp only [List.length_set]; omega,?_,fun j hj hlt=>?_,?_⟩ (by simp only; omega)
        · simp only
          rw [e0,c0,Nat.pow_zero,Nat.mul_one,← a3]
          simp only [UInt64.toNat_zero,Nat.mul_zero,Nat.add_zero] at v1
          exact v1
        · simp only at hj hlt ⊢
          rw [List.getElem_set_ne (by omega)]
          exact a4 j (by simpa using hj) (by omega)
        · simp only
          rw [show i + 1 + k / 64 = i + k / 64 + 1 by omega,List.getElem?_set_ne (by omega),List.getElem?_eq_getElem hw1,a4 _ hw1 (by omega),c0]
          decide
    · rw [if_neg hi]
      rw [List.take_of_length_le (by omega)] at a3
      exact ⟨_,rfl,a2,a3⟩
  · simp only [List.take_zero,val,Nat.zero_mul]
    exact val_zero _ fun x hx=>(List.mem_replicate.1 hx).2
  · simp only
    rw [List.getElem?_replicate]
    split <;> simp <;> exact Nat.two_pow_pos _
end Go.Proofs.YtfccehcnajelgaaGreatDoor
