/- Plain laws: bits counted, words shifted. No program in sight but the printed functions. -/
import Derived.Test.YtgejkdheojkfiaaGreatDoorPARc
import Derived.Test.YtgejkdheojkfiaaGreatDoorPASc
namespace Go.Proofs.YtgejkdheojkfiaaGreatDoor
open Go
def bln (m:Nat):Nat:=if m = 0 then 0 else Nat.log2 m + 1
theorem bln_lt (m:Nat):m < 2 ^ bln m:=by
  unfold bln
  split
  · rename_i h; rw [h]; decide
  · rename_i h; exact Nat.lt_log2_self
theorem bln_ge {m:Nat} (h:m ≠ 0):2 ^ (bln m - 1) <= m:=by
  unfold bln
  rw [if_neg h]
  exact Nat.log2_self_le h
theorem bln_pos {m:Nat} (h:m ≠ 0):1 <= bln m:=by unfold bln; rw [if_neg h]; omega
theorem bln_uniq {m l:Nat} (h1:2 ^ l <= m) (h2:m < 2 ^ (l + 1)):bln m = l + 1:=by
  have h0:m ≠ 0:=fun e=>by have:=Nat.two_pow_pos l; omega
  have h3:=bln_lt m
  have h4:=bln_ge h0
  have h5:=bln_pos h0
  have h6:=(Nat.pow_lt_pow_iff_right (by decide:1 < 2)).1 (Nat.lt_of_le_of_lt h1 h3)
  have h7:=(Nat.pow_lt_pow_iff_right (by decide:1 < 2)).1 (Nat.lt_of_le_of_lt h4 h2)
  omega
theorem bln_shift {m s:Nat} (h:2 ^ s <= m):bln m = s + bln (m / 2 ^ s):=by
  have hp:=Nat.two_pow_pos s
  have h0:m / 2 ^ s ≠ 0:=fun e=>by have:=Nat.div_pos h hp; omega
  have h1:=bln_lt (m / 2 ^ s)
  have h2:=bln_ge h0
  have h3:=bln_pos h0
  have e1:2 ^ (s + (bln (m / 2 ^ s) - 1)) <= m:=by
    rw [Nat.pow_add,Nat.mul_comm]
    exact (Nat.le_div_iff_mul_le hp).1 h2
  have e2:m < 2 ^ (s + bln (m / 2 ^ s)):=by
    rw [Nat.pow_add,Nat.mul_comm]
    exact (Nat.div_lt_iff_lt_mul hp).1 h1
  have:=bln_uniq (l:=s + (bln (m / 2 ^ s) - 1)) e1 (by rw [show s + (bln (m / 2 ^ s) - 1) + 1 = s + bln (m / 2 ^ s) by omega]; exact e2)
  omega
theorem bln_small {m l:Nat} (h:m < 2 ^ l):bln m <= l:=by
  by_cases h0:m = 0
  · subst h0; simp [bln]
  · have h4:=bln_ge h0
    have h7:=(Nat.pow_lt_pow_iff_right (by decide:1 < 2)).1 (Nat.lt_of_le_of_lt h4 h)
    have:=bln_pos h0
    omega
theorem tab_all:(List.range 256).all (fun v=>decide (stab0[v]? = some (UInt8.ofNat (bln v)))) = true:=by kernel_rfl
theorem tab_ok {v:Nat} (h:v < 256):stab0[v]? = some (UInt8.ofNat (bln v)):=of_decide_eq_true (List.all_eq_true.1 tab_all v (List.mem_range.2 h))
theorem len8_ok (u:UInt64) (z:Int) (h:u.toNat < 256) (hz:0 <= z/\z <= 64):((stab0[(u8of u).toNat]?).bind fun z27=>(chk (z + ((z27.toNat:Nat):Int))).bind fun s29=>some s29) = some (z + bln u.toNat):=by
  have hb:=bln_small (l:=8) (m:=u.toNat) (by omega)
  have e:(u8of u).toNat = u.toNat:=by unfold u8of; rw [UInt8.toNat_ofNat']; omega
  have e2:(UInt8.ofNat (bln u.toNat)).toNat = bln u.toNat:=by rw [UInt8.toNat_ofNat']; omega
  rw [e,tab_ok h,obind,e2,chkI (by omega) (by omega),obind]
theorem len64_ok (n:Nat) (x:UInt64):cA_p n x = some (bln x.toNat:Int):=by
  have hx:=x.toNat_lt
  have k16:∀ (u:UInt64) (z:Int),u.toNat < 65536 -> (0 <= z/\z <= 48) -> ((if (256:UInt64) <= u then (chk (z + 8)).bind fun s31=>((stab0[(u8of (shrU u 8)).toNat]?).bind fun z27=>(chk (s31 + ((z27.toNat:Nat):Int))).bind fun s29=>some s29) else ((stab0[(u8of u).toNat]?).bind fun z27=>(chk (z + ((z27.toNat:Nat):Int))).bind fun s29=>some s29))) = some (z + bln u.toNat):=fun u z hu hz=>by
    by_cases c:(256:UInt64) <= u
    · have c2:256 <= u.toNat:=by rw [UInt64.le_iff_toNat_le] at c; simpa using c
      rw [if_pos c,chkI (by omega) (by omega),obind,len8_ok _ _ (by rw [shr_nat _ (by decide)]; omega) (by omega),shr_nat _ (by decide),bln_shift (m:=u.toNat) (s:=8) (by omega)]
      congr 1; omega
    · have c2:u.toNat < 256:=by rw [UInt64.le_iff_toNat_le] at c; simpa using c
      rw [if_neg c,len8_ok _ _ c2 (by omega)]
  have k32:∀ (u:UInt64) (z:Nat),u.toNat < 4294967296 -> z <= 32 -> ((if (65536:UInt64) <= u then (chk ((z:Int) + 16)).bind fun s33=>(if (256:UInt64) <= shrU u 16 then (chk (s33 + 8)).bind fun s31=>((stab0[(u8of (shrU (shrU u 16) 8)).toNat]?).bind fun z27=>(chk (s31 + ((z27.toNat:Nat):Int))).bind fun s29=>some s29) else ((stab0[(u8of (shrU u 16)).toNat]?).bind fun z27=>(chk (s33 + ((z27.toNat:Nat):Int))).bind fun s29=>some s29)) else (if (256:UInt64) <= u then (chk ((z:Int) + 8)).bind fun s31=>((stab0[(u8of (shrU u 8)).toNat]?).bind fun z27=>(chk (s31 + ((z27.toNat:Nat):Int))).bind fun s29=>some s29) else ((stab0[(u8of u).toNat]?).bind fun z27=>(chk ((z:Int) + ((z27.toNat:Nat):Int))).bind fun s29=>some s29)))) = some ((z:Int) + bln u.toNat):=fun u z hu hz=>by
    by_cases c:(65536:UInt64) <= u
    · have c2:65536 <= u.toNat:=by rw [UInt64.le_iff_toNat_le] at c; simpa using c
      rw [if_pos c,chkI (by omega) (by omega),obind,k16 _ _ (by rw [shr_nat _ (by decide)]; omega) (by omega),shr_nat _ (by decide),bln_shift (m:=u.toNat) (s:=16) (by omega)]
      congr 1; omega
    · have c2:u.toNat < 65536:=by rw [UInt64.le_iff_toNat_le] at c; simpa using c
      rw [if_neg c,k16 _ _ c2 (by omega)]
  unfold cA_p jn
  simp only
  by_cases c:(4294967296:UInt64) <= x
  · have c2:4294967296 <= x.toNat:=by rw [UInt64.le_iff_toNat_le] at c; simpa using c
    rw [if_pos c]
    refine (k32 (shrU x 32) 32 (by rw [shr_nat _ (by decide)]; omega) (by omega)).trans ?_
    rw [shr_nat _ (by decide),bln_shift (m:=x.toNat) (s:=32) (by omega)]
    congr 1
  · have c2:x.toNat < 4294967296:=by rw [UInt64.le_iff_toNat_le] at c; simpa using c
    rw [if_neg c]
    refine (k32 x 0 c2 (by omega)).trans ?_
    congr 1; omega
theorem lz_ok (n:Nat) (x:UInt64):bc_p n x = some (64 - bln x.toNat:Int):=by
  have:=bln_small (l:=64) (m:=x.toNat) (by have:=x.toNat_lt; omega)
  unfold bc_p
  rw [len64_ok,obind,chkI (by omega) (by omega),obind]
theorem div_top {m lo t l:Nat} (hv:m = lo + 18446744073709551616 ^ l * t) (hlow:lo < 18446744073709551616 ^ l):m / 2 ^ (64 * l) = t:=by
  rw [<- pow64,hv,Nat.add_mul_div_left _ _ (Nat.lt_of_le_of_lt (Nat.zero_le _) hlow),Nat.div_eq_of_lt hlow,Nat.zero_add]
theorem length_ok (n:Nat) (m:Nat) (hl:(dg m).length <= 1000000):cL_p n (dg m) = some (bln m:Int):=by
  unfold cL_p
  by_cases h0:m = 0
  · subst h0
    rw [dg0,if_pos (show ([]:List UInt64).length = 0 from rfl)]
    unfold bln
    rw [if_pos rfl]; rfl
  · have hne:dg m ≠ []:=fun e=>h0 (by have:=val_dg m; rw [e] at this; exact this.symm)
    obtain ⟨l,hl1⟩:∃ l,(dg m).length = l + 1:=⟨(dg m).length - 1,by cases h:dg m with | nil=>exact absurd h hne | cons x xs=>simp⟩
    have hlast:l < (dg m).length:=by omega
    have hv:=val_split (dg m) hlast
    rw [List.drop_eq_nil_of_le (by omega),val_dg,show val ([]:List UInt64) = 0 from rfl,Nat.mul_zero,Nat.add_zero] at hv
    have hlow:=val_lt ((dg m).take l)
    rw [List.length_take,Nat.min_eq_left (by omega)] at hlow
    have htop:(dg m)[l] ≠ 0:=dg_nm m _ (by rw [List.getLast?_eq_getElem?,hl1]; exact List.getElem?_eq_getElem hlast)
    have ht0:((dg m)[l]).toNat ≠ 0:=fun e=>htop (UInt64.toNat_inj.1 (by simpa using e))
    have hb:bln m = 64 * l + bln ((dg m)[l]).toNat:=by
      have e:m / 2 ^ (64 * l) = ((dg m)[l]).toNat:=div_top hv hlow
      have:=bln_shift (m:=m) (s:=64 * l) (by
        have h1:2 ^ (64 * l) * 1 <= 2 ^ (64 * l) * ((dg m)[l]).toNat:=Nat.mul_le_mul_left _ (by omega)
        rw [pow64] at hv
        omega)
      rw [e] at this
      exact this
    have hbt:=bln_small (l:=64) (m:=((dg m)[l]).toNat) (by have:=((dg m)[l]).toNat_lt; omega)
    have hi:((((dg m).length:Nat):Int) - 1).toNat = l:=by omega
    rw [if_neg (by omega),chkI (by omega) (by omega),obind,idx_ok (by omega) (by omega),obind]
    simp only [hi]
    rw [lz_ok,obind,chkI (by omega) (by omega),obind,hb]
    congr 1; omega
theorem quo64 (k:Nat) (h:k < 1000000000):quoI (k:Int) 64 = some ((k / 64:Nat):Int):=by
  unfold quoI
  rw [if_neg (by decide),Int.tdiv_eq_ediv_of_nonneg (by omega),chkI (by omega) (by omega)]
  congr 1
theorem rem64 (k:Nat):remI (k:Int) 64 = some ((k % 64:Nat):Int):=by
  rw [remI_ok (by decide),Int.tmod_eq_emod_of_nonneg (by omega)]
  congr 1
theorem natOf_nat (k:Nat):natOf (k:Int) = some k:=by unfold natOf; rw [if_pos (Int.natCast_nonneg _),Int.toNat_natCast]
theorem idxN {α:Type} {xs:List α} {i:Nat} (h:i < xs.length):idx xs (i:Int) = some xs[i]:=by
  rw [idx_ok (by omega) (by rw [Int.toNat_natCast]; exact h)]
  simp only [Int.toNat_natCast]
theorem putN {α:Type} {xs:List α} {i:Nat} (x:α) (h:i < xs.length):put xs ((((i:Nat):Int).toNat:Nat):Int) x = some (xs.set i x):=by rw [Int.toNat_natCast]; exact put_ok x h
theorem moved_ok (n:Nat) (a:List UInt64) (k:Nat) (hk:k < 1000000) (hl:a.length < 100000) (hn:200000 < n):cB_p n a (k:Int) = some (dg (val a * 2 ^ k)):=by
  have hkw:2 ^ k = 18446744073709551616 ^ (k / 64) * 2 ^ (k % 64):=by rw [pow64,<- Nat.pow_add]; congr 1; omega
  have hs:k % 64 < 64:=Nat.mod_lt _ (by decide)
  have hh:=loop_ok (B:=cB_l1 n a (k:Int)) (fun s:Nat × List UInt64=>a.length - s.1) (fun s=>s.1 <= a.length/\∃ hx:s.2.length = a.length + k / 64 + 1,val s.2 = val (a.take s.1) * 2 ^ k/\(∀ j (h:j < s.2.length),s.1 + k / 64 < j -> s.2[j] = 0)/\(s.2[s.1 + k / 64]?.getD 0).toNat < 2 ^ (k % 64))
    (fun xs=>xs.length = a.length + k / 64 + 1/\val xs = val a * 2 ^ k) ?_ n (0,List.replicate (a.length + k / 64 + 1) 0) ⟨Nat.zero_le _,by simp,?_,fun j h _=>by simp,?_⟩ (by simp only; omega)
  · obtain ⟨xs,e,h1,h2⟩:=hh
    unfold cB_p
    rw [quo64 k (by omega),obind,chkI (by omega) (by omega),obind,chkI (by omega) (by omega),obind,show ((a.length:Nat):Int) + ((k / 64:Nat):Int) + 1 = ((a.length + k / 64 + 1:Nat):Int) by omega,mk_ok _ _ (by omega),obind,e,obind,trimmed_ok n false xs (by omega) (by omega),obind,h2]
  · rintro ⟨i,xs⟩ J ⟨a1,a2,a3,a4,a5⟩ hJ
    simp only at a1 a2 a3 a4 a5 hJ
    unfold cB_l1
    simp only
    by_cases hi:i < a.length
    · have hw:i + k / 64 < xs.length:=by omega
      have hw1:i + k / 64 + 1 < xs.length:=by omega
      rw [List.getElem?_eq_getElem hw] at a5
      have a5' : (xs[i + k / 64]).toNat < 2 ^ (k % 64):=a5
      rw [if_pos hi,List.getElem?_eq_getElem hi,obind,quo64 k (by omega),obind,chkI (by omega) (by omega),obind,show ((i:Nat):Int) + ((k / 64:Nat):Int) = ((i + k / 64:Nat):Int) by omega,idxN hw,obind,rem64,obind,natOf_nat,obind,putN _ hw,obind,obind]
      have e0:val (a.take (i + 1)) * 2 ^ k = val (a.take i) * 2 ^ k + 18446744073709551616 ^ (i + k / 64) * (a[i].toNat * 2 ^ (k % 64)):=by
        rw [val_take a hi,Nat.add_mul,hkw,Nat.pow_add]
        congr 1
        grind
      by_cases c:0 < k % 64
      · obtain ⟨s1,s2,s3⟩:=shift_two a[i] c hs
        have hor:=or_low (a:=xs[i + k / 64]) (b:=shlU a[i] (k % 64)) a5' s2
        have v1:=val_put (xs[i + k / 64] ||| shlU a[i] (k % 64)) hw
        rw [hor,Nat.mul_add] at v1
        generalize hys:xs.set (i + k / 64) (xs[i + k / 64] ||| shlU a[i] (k % 64)) = ys at *
        have hyl:ys.length = xs.length:=by rw [<- hys,List.length_set]
        have hy1:i + k / 64 + 1 < ys.length:=by omega
        have hy0:ys[i + k / 64 + 1] = 0:=by
          have:=a4 (i + k / 64 + 1) hw1 (by omega)
          simp only [<- hys]
          rw [List.getElem_set_ne (by omega)]; exact this
        have v2:=val_put (shrU a[i] (64 - k % 64)) hy1
        rw [hy0] at v2
        rw [if_pos (by omega),obind,chkI (by omega) (by omega),obind,chkI (by omega) (by omega),obind,obind,chkI (by omega) (by omega),obind,show (64:Int) - ((k % 64:Nat):Int) = ((64 - k % 64:Nat):Int) by omega,natOf_nat,obind,show ((i:Nat):Int) + ((k / 64:Nat):Int) + 1 = ((i + k / 64 + 1:Nat):Int) by omega,idxN hy1,obind,putN _ hy1,obind]
        refine hJ _ ⟨hi,by simp only [List.length_set]; omega,?_,fun j hj hlt=>?_,?_⟩ (by simp only; omega)
        · simp only
          rw [e0,<- s1,Nat.mul_add,<- Nat.mul_assoc,<- Nat.pow_succ]
          simp only [UInt64.toNat_zero,Nat.mul_zero,Nat.add_zero] at v2
          rw [v2,<- a3]
          show val ys + 18446744073709551616 ^ (i + k / 64 + 1) * _ = val xs + (_ + 18446744073709551616 ^ (i + k / 64 + 1) * _)
          omega
        · simp only at hj hlt ⊢
          rw [List.getElem_set_ne (by omega)]
          simp only [<- hys]
          rw [List.getElem_set_ne (by omega)]
          exact a4 j (by simpa [<- hys] using hj) (by omega)
        · simp only
          rw [show i + 1 + k / 64 = i + k / 64 + 1 by omega,List.getElem?_set_self hy1]
          exact s3
      · have c0:k % 64 = 0:=by omega
        rw [c0,Nat.pow_zero] at a5'
        have hz:xs[i + k / 64] = 0:=UInt64.toNat_inj.1 (by simp; omega)
        have v1:=val_put (xs[i + k / 64] ||| shlU a[i] (k % 64)) hw
        rw [hz,or_zero_left,c0,shl_zero] at v1
        rw [if_neg (by omega),hz,or_zero_left,c0,shl_zero]
        refine hJ _ ⟨hi,by simp only [List.length_set]; omega,?_,fun j hj hlt=>?_,?_⟩ (by simp only; omega)
        · simp only
          rw [e0,c0,Nat.pow_zero,Nat.mul_one,<- a3]
          simp only [UInt64.toNat_zero,Nat.mul_zero,Nat.add_zero] at v1
          exact v1
        · simp only at hj hlt ⊢
          rw [List.getElem_set_ne (by omega)]
          exact a4 j (by simpa using hj) (by omega)
        · simp only
          rw [show i + 1 + k / 64 = i + k / 64 + 1 by omega,List.getElem?_set_ne (by omega),List.getElem?_eq_getElem hw1,a4 _ hw1 (by omega),c0]
          decide
    · rw [if_neg hi]
      rw [List.take_of_length_le (by omega)] at a3
      exact ⟨_,rfl,a2,a3⟩
  · simp only [List.take_zero,val,Nat.zero_mul]
    exact val_zero _ fun x hx=>(List.mem_replicate.1 hx).2
  · simp only
    rw [List.getElem?_replicate]
    split <;> simp <;> exact Nat.two_pow_pos _
end Go.Proofs.YtgejkdheojkfiaaGreatDoor
/- Plain laws: two words divided by one. No program in sight but the printed functions. -/
namespace Go.Proofs.YtgejkdheojkfiaaGreatDoor
open Go
set_option maxRecDepth 8000
theorem qhat_loop {B:(UInt64 × UInt64 -> Option UInt64) -> UInt64 × UInt64 -> Option UInt64} {y1 y0 un:UInt64}
    (hB:∀ J q rh,B J (q,rh) = if (4294967296:UInt64) <= q then (if (4294967296:UInt64) <= rh + y1 then some (q - 1) else J (q - 1,rh + y1)) else (if 4294967296 * rh + un < q * y0 then (if (4294967296:UInt64) <= rh + y1 then some (q - 1) else J (q - 1,rh + y1)) else some q))
    {U:Nat} (h1:2147483648 <= y1.toNat) (h1' : y1.toNat < 4294967296) (h0:y0.toNat < 4294967296) (hu:un.toNat < 4294967296) (hU:U < y1.toNat * 4294967296 + y0.toNat) (q0 r0:UInt64) (e:U = q0.toNat * y1.toNat + r0.toNat) (hr:r0.toNat < y1.toNat) (n:Nat) (hn:4294967300 < n) :
    ∃ q:UInt64,loopF B n (q0,r0) = some q/\q.toNat = (U * 4294967296 + un.toNat) / (y1.toNat * 4294967296 + y0.toNat):=by
  obtain ⟨V,hV⟩:∃ V,y1.toNat * 4294967296 + y0.toNat = V:=⟨_,rfl⟩
  obtain ⟨N,hN⟩:∃ N,U * 4294967296 + un.toNat = N:=⟨_,rfl⟩
  rw [hV] at hU
  rw [hV,hN]
  have hVp:0 < V:=by omega
  obtain ⟨D,hD⟩:∃ D,N / V = D:=⟨_,rfl⟩
  have hle:∀ x,x <= D ↔ x * V <= N:=fun x=>by rw [<- hD]; exact Nat.le_div_iff_mul_le hVp
  have hlt:∀ x,D < x ↔ N < x * V:=fun x=>by rw [<- hD]; exact Nat.div_lt_iff_lt_mul hVp
  rw [hD]
  have hNV:D < 4294967296:=by
    rw [hlt]
    omega
  have hq0:q0.toNat <= 4294967297:=by
    have h2:q0.toNat * 2147483648 <= q0.toNat * y1.toNat:=Nat.mul_le_mul_left _ h1
    by_cases h3:q0.toNat <= 4294967297
    · exact h3
    · exfalso
      have h4:4294967298 * y1.toNat <= q0.toNat * y1.toNat:=Nat.mul_le_mul_right _ (by omega)
      omega
  have up:D <= q0.toNat:=by
    rw [<- hD]
    have h3:N / V <= N / (y1.toNat * 4294967296):=Nat.div_le_div_left (by omega) (by omega)
    have h4:N / (y1.toNat * 4294967296) = U / y1.toNat:=by
      rw [Nat.mul_comm,<- Nat.div_div_eq_div_mul]
      congr 1
      omega
    have h5:U / y1.toNat = q0.toNat:=by
      rw [e,Nat.mul_comm,Nat.add_comm,Nat.add_mul_div_left _ _ (by omega),Nat.div_eq_of_lt hr,Nat.zero_add]
    rw [h4,h5] at h3
    exact h3
  refine loop_ok (B:=B) (fun s:UInt64 × UInt64=>s.1.toNat) (fun s=>U = s.1.toNat * y1.toNat + s.2.toNat/\s.2.toNat < 4294967296/\D <= s.1.toNat/\s.1.toNat <= 4294967297) (fun q=>q.toNat = D) ?_ n (q0,r0) ⟨e,by simp only; omega,up,hq0⟩ (by simp only; omega)
  rintro ⟨q,rh⟩ J ⟨i1,i2,i3,i4⟩ hJ
  simp only at i1 i2 i3 i4 hJ
  rw [hB]
  have c32:(4294967296:UInt64).toNat = 4294967296:=rfl
  have hrh:(rh + y1).toNat = rh.toNat + y1.toNat:=by rw [UInt64.toNat_add]; omega
  -- what follows once the guess is too great
  have over:D + 1 <= q.toNat -> ∃ r,(if (4294967296:UInt64) <= rh + y1 then some (q - 1) else J (q - 1,rh + y1)) = some r/\r.toNat = D:=fun ho=>by
    have hq1:(q - 1).toNat = q.toNat - 1:=by
      rw [UInt64.toNat_sub]
      have:=q.toNat_lt
      simp only [UInt64.toNat_one]
      omega
    have e1:q.toNat * y1.toNat = (q.toNat - 1) * y1.toNat + y1.toNat:=by
      rw [<- Nat.succ_mul]; congr 1; omega
    split
    · rename_i hbig
      rw [UInt64.le_iff_toNat_le,c32,hrh] at hbig
      refine ⟨_,rfl,?_⟩
      rw [hq1]
      refine Nat.le_antisymm ?_ (by omega)
      rw [hle,<- hV,Nat.mul_add,<- Nat.mul_assoc]
      have h5:(q.toNat - 1) * y0.toNat <= 4294967296 * 4294967295:=Nat.mul_le_mul (by omega) (by omega)
      omega
    · rename_i hbig
      rw [UInt64.le_iff_toNat_le,c32,hrh] at hbig
      exact hJ _ ⟨by simp only; rw [hq1,hrh]; omega,by simp only; rw [hrh]; omega,by simp only; rw [hq1]; omega,by simp only; rw [hq1]; omega⟩ (by simp only; rw [hq1]; omega)
  by_cases c:(4294967296:UInt64) <= q
  · rw [if_pos c]
    rw [UInt64.le_iff_toNat_le,c32] at c
    exact over (by omega)
  · rw [if_neg c]
    rw [UInt64.le_iff_toNat_le,c32] at c
    have m1:(4294967296 * rh + un).toNat = 4294967296 * rh.toNat + un.toNat:=by
      rw [UInt64.toNat_add,UInt64.toNat_mul,c32]; omega
    have m2:(q * y0).toNat = q.toNat * y0.toNat:=by
      rw [UInt64.toNat_mul]
      have:q.toNat * y0.toNat <= 4294967295 * 4294967295:=Nat.mul_le_mul (by omega) (by omega)
      omega
    have eqV:q.toNat * V = q.toNat * y1.toNat * 4294967296 + q.toNat * y0.toNat:=by rw [<- hV,Nat.mul_add,<- Nat.mul_assoc]
    by_cases c2:4294967296 * rh + un < q * y0
    · rw [if_pos c2]
      rw [UInt64.lt_iff_toNat_lt,m1,m2] at c2
      refine over ?_
      have:D < q.toNat:=by
        rw [hlt,eqV]
        omega
      omega
    · rw [if_neg c2]
      rw [UInt64.lt_iff_toNat_lt,m1,m2] at c2
      refine ⟨_,rfl,Nat.le_antisymm ?_ i3⟩
      rw [hle,eqV]
      omega
theorem sub_mod {N M R:Nat} (h:N = M + R) (hR:R < 18446744073709551616):(18446744073709551616 - M % 18446744073709551616 + N % 18446744073709551616) % 18446744073709551616 = R:=by omega
theorem glue2 {hi lo p u t w:Nat} (t1:u = hi * p + t) (t2:w + 18446744073709551616 * t = lo * p):(hi * 18446744073709551616 + lo) * p = u * 18446744073709551616 + w:=by
  rw [Nat.add_mul,Nat.mul_right_comm hi 18446744073709551616 p,t1,<- t2]
  generalize hi * p = z
  omega
theorem glue {P Q R1 R0 u w:Nat} (h1:P + R1 = u * 4294967296 + w / 4294967296) (h2:Q + R0 = R1 * 4294967296 + w % 4294967296):u * 18446744073709551616 + w = P * 4294967296 + Q + R0:=by omega
theorem div64g_ok (n:Nat) (hi lo y:UInt64) (h:hi.toNat < y.toNat) (hn:4294967300 < n):∃ q r:UInt64,aG_p n hi lo y = some (q,r)/\hi.toNat * 18446744073709551616 + lo.toNat = q.toNat * y.toNat + r.toNat/\r.toNat < y.toNat:=by
  have hy:=y.toNat_lt
  have hlo:=lo.toNat_lt
  have hy0:y ≠ 0:=fun e=>by rw [e] at h; simp at h
  unfold aG_p
  rw [if_neg hy0,if_neg (by rw [UInt64.le_iff_toNat_le]; omega)]
  by_cases h0:hi = 0
  · subst h0
    rw [if_pos rfl]
    unfold quoW remW
    rw [if_neg hy0,obind,if_neg hy0,obind]
    refine ⟨_,_,rfl,?_,?_⟩
    · rw [UInt64.toNat_div,UInt64.toNat_mod]
      have:=Nat.div_add_mod lo.toNat y.toNat
      rw [Nat.mul_comm] at this
      simp; omega
    · rw [UInt64.toNat_mod]; exact Nat.mod_lt _ (by omega)
  · rw [if_neg h0,lz_ok,obind]
    have hyn:y.toNat ≠ 0:=by omega
    have b1:=bln_pos hyn
    have b2:=bln_small (l:=64) (m:=y.toNat) (by omega)
    have b3:=bln_lt y.toNat
    have b4:=bln_ge hyn
    obtain ⟨s,hs⟩:∃ s,s = 64 - bln y.toNat:=⟨_,rfl⟩
    have e1:(u64of (64 - (bln y.toNat:Int))).toNat = s:=by unfold u64of; rw [UInt64.toNat_ofNat']; omega
    have e2:((64:UInt64) - u64of (64 - (bln y.toNat:Int))).toNat = 64 - s:=by
      rw [UInt64.toNat_sub,e1]
      simp only [show (64:UInt64).toNat = 64 from rfl]
      omega
    have hs64:s < 64:=by omega
    have hps:=Nat.two_pow_pos s
    -- the divisor,moved
    have v2:y.toNat * 2 ^ s < 18446744073709551616:=by
      have:y.toNat * 2 ^ s < 2 ^ bln y.toNat * 2 ^ s:=Nat.mul_lt_mul_of_pos_right b3 hps
      rw [<- Nat.pow_add,show bln y.toNat + s = 64 by omega] at this
      exact this
    have v1:9223372036854775808 <= y.toNat * 2 ^ s:=by
      have:2 ^ (bln y.toNat - 1) * 2 ^ s <= y.toNat * 2 ^ s:=Nat.mul_le_mul_right _ b4
      rw [<- Nat.pow_add,show bln y.toNat - 1 + s = 63 by omega] at this
      exact this
    have hyv:(shlU y s).toNat = y.toNat * 2 ^ s:=by rw [shl_nat y hs64,Nat.mod_eq_of_lt v2]
    have hhi:hi.toNat * 2 ^ s < 18446744073709551616:=Nat.lt_of_le_of_lt (Nat.mul_le_mul_right _ (Nat.le_of_lt h)) v2
    have hhv:(shlU hi s).toNat = hi.toNat * 2 ^ s:=by rw [shl_nat hi hs64,Nat.mod_eq_of_lt hhi]
    -- the dividend,moved
    have hun:∃ t:Nat,(shlU hi s ||| shrU lo (64 - s)).toNat = hi.toNat * 2 ^ s + t/\(shlU lo s).toNat + 18446744073709551616 * t = lo.toNat * 2 ^ s:=by
      by_cases s0:s = 0
      · subst s0
        refine ⟨0,?_,by rw [shl_zero]; simp⟩
        rw [shl_zero,show shrU lo (64 - 0) = 0 from by unfold shrU; rw [if_neg (by decide)],UInt64.toNat_or]
        simp
      · obtain ⟨t1,t2,t3⟩:=shift_two lo (by omega) hs64
        refine ⟨(shrU lo (64 - s)).toNat,?_,t1⟩
        rw [UInt64.or_comm,or_low t3 (by rw [hhv]; exact Nat.dvd_mul_left ..),hhv,Nat.add_comm]
    obtain ⟨t,t1,t2⟩:=hun
    rw [e1,e2]
    generalize hyy:shlU y s = yy at *
    generalize hun32:shlU hi s ||| shrU lo (64 - s) = un32 at *
    generalize hun10:shlU lo s = un10 at *
    have hun10l:=un10.toNat_lt
    have hun32l:=un32.toNat_lt
    -- both halves of the divisor
    have w1:(shrU yy 32).toNat = yy.toNat / 4294967296:=shr32n yy
    have w0:(yy &&& (4294967295:UInt64)).toNat = yy.toNat % 4294967296:=and32 yy
    have x1:(shrU un10 32).toNat = un10.toNat / 4294967296:=shr32n un10
    have x0:(un10 &&& (4294967295:UInt64)).toNat = un10.toNat % 4294967296:=and32 un10
    have hyyl:=yy.toNat_lt
    have hV:(shrU yy 32).toNat * 4294967296 + (yy &&& (4294967295:UInt64)).toNat = yy.toNat:=by rw [w1,w0]; omega
    have hy1:2147483648 <= (shrU yy 32).toNat:=by rw [w1]; omega
    have hy1' : (shrU yy 32).toNat < 4294967296:=by rw [w1]; omega
    have hy0' : (yy &&& (4294967295:UInt64)).toNat < 4294967296:=by rw [w0]; omega
    have hne:shrU yy 32 ≠ 0:=fun e=>by rw [e] at hy1; simp at hy1
    have hUV:un32.toNat < yy.toNat:=by
      have h5:(hi.toNat * 18446744073709551616 + lo.toNat) * 2 ^ s < y.toNat * 18446744073709551616 * 2 ^ s:=Nat.mul_lt_mul_of_pos_right (by omega) hps
      rw [Nat.add_mul,Nat.mul_right_comm,Nat.mul_right_comm y.toNat] at h5
      omega
    -- the first digit
    have d1:∀ (U:UInt64) (hU:U.toNat < yy.toNat) (un:UInt64) (hu:un.toNat < 4294967296) (B:(UInt64 × UInt64 -> Option UInt64) -> UInt64 × UInt64 -> Option UInt64) (hB:∀ J q rh,B J (q,rh) = if (4294967296:UInt64) <= q then (if (4294967296:UInt64) <= rh + shrU yy 32 then some (q - 1) else J (q - 1,rh + shrU yy 32)) else (if 4294967296 * rh + un < q * (yy &&& (4294967295:UInt64)) then (if (4294967296:UInt64) <= rh + shrU yy 32 then some (q - 1) else J (q - 1,rh + shrU yy 32)) else some q)),
        ∃ q:UInt64,loopF B n (U / shrU yy 32,U - U / shrU yy 32 * shrU yy 32) = some q/\q.toNat = (U.toNat * 4294967296 + un.toNat) / yy.toNat:=fun U hU un hu B hB=>by
      have hm:=Nat.div_add_mod U.toNat (shrU yy 32).toNat
      have hml:=Nat.mod_lt U.toNat (show 0 < (shrU yy 32).toNat by omega)
      have hUl:=U.toNat_lt
      have e3:(U - U / shrU yy 32 * shrU yy 32).toNat = U.toNat % (shrU yy 32).toNat:=by
        rw [UInt64.toNat_sub,UInt64.toNat_mul,UInt64.toNat_div]
        rw [Nat.mul_comm] at hm
        have:U.toNat / (shrU yy 32).toNat * (shrU yy 32).toNat <= U.toNat:=by omega
        rw [Nat.mod_eq_of_lt (a:=U.toNat / (shrU yy 32).toNat * (shrU yy 32).toNat) (by omega)]
        omega
      obtain ⟨q,a1,a2⟩:=qhat_loop hB (U:=U.toNat) hy1 hy1' hy0' hu (by rw [hV]; exact hU) (U / shrU yy 32) (U - U / shrU yy 32 * shrU yy 32) (by rw [UInt64.toNat_div,e3,Nat.mul_comm]; exact hm.symm) (by rw [e3]; exact hml) n hn
      exact ⟨q,a1,by rw [a2,hV]⟩
    obtain ⟨q1,l2,q1v⟩:=d1 un32 hUV (shrU un10 32) (by rw [x1]; omega) (aG_l2 n y (64 - (bln y.toNat:Int)) lo) (fun J q rh=>by unfold aG_l2; simp only [e1,hyy,hun10])
    have hm1:=Nat.div_add_mod (un32.toNat * 4294967296 + (shrU un10 32).toNat) yy.toNat
    have hml1:=Nat.mod_lt (un32.toNat * 4294967296 + (shrU un10 32).toNat) (show 0 < yy.toNat by omega)
    rw [<- q1v] at hm1
    generalize hR1:(un32.toNat * 4294967296 + (shrU un10 32).toNat) % yy.toNat = R1 at hm1 hml1
    have u21:(un32 * 4294967296 + shrU un10 32 - q1 * yy).toNat = R1:=by
      rw [UInt64.toNat_sub,UInt64.toNat_add,UInt64.toNat_mul,UInt64.toNat_mul]
      rw [show (4294967296:UInt64).toNat = 4294967296 from rfl]
      have:=sub_mod (N:=un32.toNat * 4294967296 + (shrU un10 32).toNat) (M:=q1.toNat * yy.toNat) (R:=R1) (by rw [Nat.mul_comm q1.toNat]; exact hm1.symm) (by omega)
      generalize q1.toNat * yy.toNat = M at *
      omega
    obtain ⟨q0,l1,q0v⟩:=d1 (un32 * 4294967296 + shrU un10 32 - q1 * yy) (by rw [u21]; exact hml1) (un10 &&& (4294967295:UInt64)) (by rw [x0]; omega) (aG_l1 n y (64 - (bln y.toNat:Int)) lo) (fun J q rh=>by unfold aG_l1; simp only [e1,hyy,hun10])
    rw [u21] at q0v
    have hm0:=Nat.div_add_mod (R1 * 4294967296 + (un10 &&& (4294967295:UInt64)).toNat) yy.toNat
    have hml0:=Nat.mod_lt (R1 * 4294967296 + (un10 &&& (4294967295:UInt64)).toNat) (show 0 < yy.toNat by omega)
    rw [<- q0v] at hm0
    generalize hR0:(R1 * 4294967296 + (un10 &&& (4294967295:UInt64)).toNat) % yy.toNat = R0 at hm0 hml0
    have u00:((un32 * 4294967296 + shrU un10 32 - q1 * yy) * 4294967296 + (un10 &&& (4294967295:UInt64)) - q0 * yy).toNat = R0:=by
      rw [UInt64.toNat_sub,UInt64.toNat_add,UInt64.toNat_mul,UInt64.toNat_mul,u21]
      rw [show (4294967296:UInt64).toNat = 4294967296 from rfl]
      have:=sub_mod (N:=R1 * 4294967296 + (un10 &&& (4294967295:UInt64)).toNat) (M:=q0.toNat * yy.toNat) (R:=R0) (by rw [Nat.mul_comm q0.toNat]; exact hm0.symm) (by omega)
      generalize q0.toNat * yy.toNat = M at *
      omega
    have q1l:q1.toNat < 4294967296:=by
      rw [q1v,Nat.div_lt_iff_lt_mul (by omega)]; rw [x1]; omega
    have q0l:q0.toNat < 4294967296:=by
      rw [q0v,Nat.div_lt_iff_lt_mul (by omega)]; rw [x0]; omega
    -- all together
    have all:(hi.toNat * 18446744073709551616 + lo.toNat) * 2 ^ s = (q1.toNat * 4294967296 + q0.toNat) * y.toNat * 2 ^ s + R0:=by
      have a1:(hi.toNat * 18446744073709551616 + lo.toNat) * 2 ^ s = un32.toNat * 18446744073709551616 + un10.toNat:=by
        exact glue2 t1 t2
      have a2:(q1.toNat * 4294967296 + q0.toNat) * y.toNat * 2 ^ s = yy.toNat * q1.toNat * 4294967296 + yy.toNat * q0.toNat:=by
        rw [Nat.mul_assoc,<- hyv]; grind
      rw [a1,a2]
      rw [x1] at hm1
      rw [x0] at hm0
      exact glue hm1 hm0
    have hq:(q1 * 4294967296 + q0).toNat = q1.toNat * 4294967296 + q0.toNat:=by
      rw [UInt64.toNat_add,UInt64.toNat_mul,show (4294967296:UInt64).toNat = 4294967296 from rfl]; omega
    have hd:2 ^ s ∣ R0:=by
      have:=(Nat.dvd_add_right (Nat.dvd_mul_left (2 ^ s) ((q1.toNat * 4294967296 + q0.toNat) * y.toNat))).1 (by rw [<- all]; exact Nat.dvd_mul_left ..)
      exact this
    obtain ⟨rr,hrr⟩:=hd
    have hrv:(shrU ((un32 * 4294967296 + shrU un10 32 - q1 * yy) * 4294967296 + (un10 &&& (4294967295:UInt64)) - q0 * yy) s).toNat = rr:=by
      rw [shr_nat _ hs64,u00,hrr,Nat.mul_div_cancel_left _ hps]
    unfold jn quoW
    rw [if_neg hne,obind,obind]
    dsimp only
    rw [l2,obind,obind,if_neg hne,obind,obind]
    try dsimp only
    rw [l1,obind,obind,obind]
    refine ⟨_,_,rfl,?_,?_⟩
    · rw [hq,hrv]
      rw [hrr,Nat.mul_comm (2 ^ s) rr,<- Nat.add_mul] at all
      exact Nat.mul_right_cancel hps all
    · rw [hrv]
      rw [hrr,Nat.mul_comm,hyv] at hml0
      exact Nat.lt_of_mul_lt_mul_right hml0
end Go.Proofs.YtgejkdheojkfiaaGreatDoor
/- Plain laws: integers of any length divided; greatest common divisors; lowest terms. No program in sight but the printed functions. -/
namespace Go.Proofs.YtgejkdheojkfiaaGreatDoor
open Go
set_option maxRecDepth 8000
theorem bln_dg (a:Nat):bln a <= 64 * (dg a).length:=bln_small (by
  have:=val_lt (dg a)
  rw [val_dg,pow64] at this
  exact this)
theorem dg_one {m:Nat} (h:(dg m).length = 1):∃ y:UInt64,dg m = [y]/\y.toNat = m:=by
  rcases e:dg m with _ | ⟨y,_ | ⟨z,zs⟩⟩
  · rw [e] at h; simp at h
  · refine ⟨y,rfl,?_⟩
    have:=val_dg m
    rw [e] at this
    simp only [val] at this
    omega
  · rw [e] at h; simp at h
theorem drop_set_self {xs:List UInt64} {i:Nat} (v:UInt64) (h:i < xs.length):(xs.set i v).drop i = v :: xs.drop (i + 1):=by
  rw [List.drop_eq_getElem_cons (by simpa using h),List.getElem_set_self,List.drop_set_of_lt (by omega)]
theorem short_loop (n:Nat) (a:List UInt64) (y:UInt64) (hy:0 < y.toNat) (hl:a.length < 100000) (hn:4294967300 < n):∃ u xs,loopF (aL_l1 n a [y]) n (0,((a.length:Nat):Int) - 1,List.replicate a.length 0) = some (u,xs)/\xs.length = a.length/\val a = val xs * y.toNat + u.toNat/\u.toNat < y.toNat:=by
  have hh:=loop_ok (B:=aL_l1 n a [y]) (fun s:UInt64 × Int × List UInt64=>(s.2.1 + 1).toNat) (fun s=>(-1 <= s.2.1/\s.2.1 < a.length)/\s.2.2.length = a.length/\val (a.drop (s.2.1 + 1).toNat) = val (s.2.2.drop (s.2.1 + 1).toNat) * y.toNat + s.1.toNat/\s.1.toNat < y.toNat)
    (fun r=>r.2.length = a.length/\val a = val r.2 * y.toNat + r.1.toNat/\r.1.toNat < y.toNat) ?_ n (0,((a.length:Nat):Int) - 1,List.replicate a.length 0) ⟨by simp only; omega,by simp,?_,by simpa using hy⟩ (by simp only; omega)
  · obtain ⟨⟨u,xs⟩,e,h1,h2,h3⟩:=hh; exact ⟨u,xs,e,h1,h2,h3⟩
  · rintro ⟨u,z,xs⟩ J ⟨a1,a2,a3,a4⟩ hJ
    simp only at a1 a2 a3 a4 hJ
    unfold aL_l1
    simp only
    by_cases hz:0 <= z
    · obtain ⟨k,rfl⟩:∃ k:Nat,z = k:=⟨z.toNat,by omega⟩
      have e0:(((k:Int) + 1).toNat) = k + 1:=by omega
      rw [e0] at a3
      have hka:k < a.length:=by omega
      have hkx:k < xs.length:=by omega
      obtain ⟨q,r,d1,d2,d3⟩:=div64g_ok n u a[k] y a4 hn
      rw [if_pos hz,idxN hka,obind]
      simp only [List.getElem?_cons_zero,obind]
      rw [d1,obind,idxN hkx,obind,putN _ hkx,obind,chkI (by omega) (by omega),obind]
      have eN:(((k:Int) - 1 + 1)).toNat = k:=by omega
      refine hJ (_,_,_) ⟨by simp only; omega,by simpa using a2,?_,d3⟩ (by simp only; omega)
      simp only
      rw [eN,drop_set_self q hkx,List.drop_eq_getElem_cons hka]
      simp only [val]
      rw [a3,Nat.add_mul,Nat.mul_add,<- Nat.mul_assoc]
      omega
    · rw [if_neg hz]
      have e0:(z + 1).toNat = 0:=by omega
      rw [e0] at a3
      exact ⟨_,rfl,a2,by simpa using a3,a4⟩
  · simp only
    rw [show ((((a.length:Nat):Int) - 1 + 1)).toNat = a.length by omega,List.drop_length,List.drop_eq_nil_of_le (by simp)]
    simp [val]
theorem dividedG (n:Nat) (a b:Nat) (h0:b ≠ 0) (ha:(dg a).length < 10000) (hb:(dg b).length < 10000) (hn:18446744073709551616 < n):∃ q,aL_p n (dg a) (dg b) = some (q,dg (a % b))/\q.length <= (dg a).length/\val q = a / b:=by
  unfold aL_p
  rw [mk_ok _ _ (by omega),obind]
  by_cases h1:(dg b).length = 1
  · obtain ⟨y,e,hy⟩:=dg_one h1
    obtain ⟨u,xs,l1,l2,l3,l4⟩:=short_loop n (dg a) y (by omega) (by omega) (by omega)
    rw [e,if_pos (show ([y]:List UInt64).length = 1 from rfl),l1,obind]
    simp only
    rw [trimmed_ok n false _ (by simp only [List.length_cons,List.length_nil]; omega) (by simp),obind]
    rw [val_dg,hy] at l3
    rw [hy] at l4
    have hu:=(Nat.div_mod_unique (a:=a) (b:=b) (c:=u.toNat) (d:=val xs) (by omega)).2 ⟨by rw [Nat.mul_comm]; omega,l4⟩
    refine ⟨xs,?_,by omega,hu.1.symm⟩
    simp only [val,Nat.mul_zero,Nat.add_zero]
    rw [hu.2]
  · rw [if_neg h1,length_ok n a (by omega),obind,length_ok n b (by omega),obind]
    have bla:=bln_dg a
    have blb:=bln_dg b
    rw [chkI (by omega) (by omega),obind]
    have hbp:=bln_pos h0
    have hbg:=bln_ge h0
    have hal:=bln_lt a
    by_cases hK:(bln a:Int) - bln b < 0
    · obtain ⟨m,rfl⟩:∃ m,n = m + 1:=⟨n - 1,by omega⟩
      have hab:a < b:=Nat.lt_of_lt_of_le hal (Nat.le_trans (Nat.pow_le_pow_right (by decide) (by omega)) hbg)
      rw [loopF_succ]
      unfold aL_l2
      simp only
      rw [if_neg (by omega),obind]
      refine ⟨_,by rw [Nat.mod_eq_of_lt hab],by simp,?_⟩
      rw [Nat.div_eq_of_lt hab]
      exact val_zero _ fun x hx=>(List.mem_replicate.1 hx).2
    · obtain ⟨K,hKe⟩:∃ K:Nat,(bln a:Int) - bln b = K:=⟨bln a - bln b,by omega⟩
      rw [hKe]
      have hstart:a < b * 2 ^ (K + 1):=by
        have h2:2 ^ bln a <= b * 2 ^ (K + 1):=by
          have:2 ^ (bln b - 1) * 2 ^ (K + 1) <= b * 2 ^ (K + 1):=Nat.mul_le_mul_right _ hbg
          rw [<- Nat.pow_add,show bln b - 1 + (K + 1) = bln a by omega] at this
          exact this
        omega
      have hh:=loop_ok (B:=aL_l2 n (dg b)) (fun s:List UInt64 × Int × List UInt64=>(s.2.1 + 1).toNat)
        (fun s=>(-1 <= s.2.1/\s.2.1 <= K)/\s.2.2.length = (dg a).length/\∃ R,s.1 = dg R/\R <= a/\a = b * val s.2.2 + R/\R < b * 2 ^ (s.2.1 + 1).toNat/\2 ^ (s.2.1 + 1).toNat ∣ val s.2.2)
        (fun r=>r.1.length = (dg a).length/\val r.1 = a / b/\r.2 = dg (a % b)) ?_ n (dg a,(K:Int),List.replicate (dg a).length 0)
        ⟨by simp only; omega,by simp,a,rfl,Nat.le_refl _,?_,?_,?_⟩ (by simp only; omega)
      · obtain ⟨⟨q,r⟩,e,e1,e2,e3⟩:=hh
        simp only at e1 e2 e3
        rw [e,obind]
        simp only
        rw [e3]
        exact ⟨q,rfl,by omega,e2⟩
      · rintro ⟨rw_,z,q⟩ J ⟨a1,a2,R,rfl,a3,a4,a5,a6⟩ hJ
        simp only at a1 a2 a3 a4 a5 a6 hJ
        unfold aL_l2
        simp only
        by_cases hz:0 <= z
        · obtain ⟨k,rfl⟩:∃ k:Nat,z = k:=⟨z.toNat,by omega⟩
          have e0:(((k:Int) + 1).toNat) = k + 1:=by omega
          rw [e0] at a5 a6
          have eN:(((k:Int) - 1 + 1)).toNat = k:=by omega
          have hRl:=dg_mono a3
          obtain ⟨st1,st2⟩:=div_step a4 a5 a6
          rw [if_pos hz,moved_ok n (dg b) k (by omega) (by omega) (by omega),obind,val_dg]
          obtain ⟨c,ec,c1,c2⟩:=compared_ok n (dg R) (dg (b * 2 ^ k)) (dg_nm _) (dg_nm _) (by omega) (by omega)
          rw [val_dg,val_dg] at c1 c2
          rw [ec,obind]
          unfold jn
          simp only
          by_cases hc:0 <= c
          · have hge:b * 2 ^ k <= R:=by omega
            obtain ⟨g1,g2,g3⟩:=st1 hge
            obtain ⟨xs,t1,t2,t3⟩:=taken_ok n (dg R) (dg (b * 2 ^ k)) (dg_mono hge) (by rw [val_dg,val_dg]; exact hge) (by omega) (by omega)
            rw [val_dg,val_dg] at t3
            have hkq:k / 64 < q.length:=by
              have h2:2 ^ k < 2 ^ (64 * (dg a).length):=by
                have h3:=val_lt (dg a)
                rw [val_dg,pow64] at h3
                have h4:1 * 2 ^ k <= b * 2 ^ k:=Nat.mul_le_mul_right _ (by omega)
                omega
              have h5:=(Nat.pow_lt_pow_iff_right (by decide:1 < 2)).1 h2
              omega
            have hbit:=bit_add hkq a6 (shl_one (Nat.mod_lt _ (by decide)))
            rw [if_pos hc,t1,obind,trimmed_ok n false xs (by omega) (by omega),obind,quo64 k (by omega),obind,idxN hkq,obind,rem64,obind,natOf_nat,obind,putN _ hkq,obind]
            simp only
            rw [chkI (by omega) (by omega),obind,t3]
            refine hJ (_,_,_) ⟨by simp only; omega,by simpa using a2,R - b * 2 ^ k,rfl,by omega,?_,?_,?_⟩ (by simp only; omega)
            · simp only; rw [hbit]; exact g1
            · simp only; rw [eN]; exact g2
            · simp only; rw [eN,hbit]; exact g3
          · rw [if_neg hc,chkI (by omega) (by omega),obind]
            refine hJ (_,_,_) ⟨by simp only; omega,a2,R,rfl,a3,a4,?_,?_⟩ (by simp only; omega)
            · simp only; rw [eN]; omega
            · simp only; rw [eN]; exact st2 (by omega)
        · rw [if_neg hz]
          have e0:(z + 1).toNat = 0:=by omega
          rw [e0,Nat.pow_zero,Nat.mul_one] at a5
          have hu:=(Nat.div_mod_unique (a:=a) (b:=b) (c:=R) (d:=val q) (by omega)).2 ⟨by omega,a5⟩
          exact ⟨_,rfl,a2,hu.1.symm,by simp only; rw [hu.2]⟩
      · simp only
        rw [val_zero _ fun x hx=>(List.mem_replicate.1 hx).2]; omega
      · simp only
        rw [show (((K:Int) + 1).toNat) = K + 1 by omega]
        exact hstart
      · simp only
        rw [val_zero _ fun x hx=>(List.mem_replicate.1 hx).2]
        exact Nat.dvd_zero _
theorem partsG (n l:Nat) (a b:Int) (ha:Fit l a) (hb:Fit l b) (h0:b ≠ 0) (hl:l < 5000) (hn:18446744073709551616 < n):bw_p n (L a) (L b) = some (L (a / b),L (a % b)):=by
  have hal:=ha.len
  have hbl:=hb.len
  obtain ⟨q,e1,e2,e3⟩:=dividedG n a.natAbs b.natAbs (by omega) (by omega) (by omega) hn
  have hm:a.natAbs % b.natAbs < b.natAbs:=Nat.mod_lt _ (by omega)
  have hl2:(dg (a.natAbs % b.natAbs)).length <= l:=dg_len (Nat.lt_trans hm hb)
  have hdm:=Nat.div_add_mod a.natAbs b.natAbs
  have hq:a.natAbs / b.natAbs <= a.natAbs:=Nat.div_le_self _ _
  unfold bw_p
  rw [show (L a).fm = dg a.natAbs from rfl,show (L b).fm = dg b.natAbs from rfl,e1,obind]
  simp only
  rw [trimmed_ok n _ _ (by omega) (by omega),obind,trimmed_ok n _ _ (by omega) (by omega),obind,e3,val_dg]
  generalize hx:a.natAbs / b.natAbs = x at *
  generalize hy:a.natAbs % b.natAbs = y at *
  simp only [L_sg]
  show (if (decide (a < 0) && decide (0 < y)) = true then _ else _) = _
  have hqf:x < 18446744073709551616 ^ l:=Nat.lt_of_le_of_lt hq ha
  have hyf:y < 18446744073709551616 ^ l:=Nat.lt_trans hm hb
  have hpw:2 * 18446744073709551616 ^ l <= 18446744073709551616 ^ (l + 1):=by rw [Nat.pow_succ,Nat.mul_comm]; exact Nat.mul_le_mul_left _ (by decide)
  have hp1:1 <= 18446744073709551616 ^ l:=Nat.pow_pos (by decide)
  have hbb:b.natAbs < 18446744073709551616 ^ l:=hb
  have hab:(b.natAbs:Int) * x + y = a.natAbs:=by exact_mod_cast hdm
  by_cases hr:a < 0/\0 < y
  · obtain ⟨h1,h2⟩:=hr
    rw [if_pos (by simp [h1,h2])]
    have f1:(⟨false,dg b.natAbs⟩:Te) = L b.natAbs:=by unfold L; simp
    have f2:(⟨!(L b).fc,([(1:UInt64)]:List UInt64)⟩:Te) = L (if b < 0 then 1 else -1):=by
      unfold L
      by_cases hb0:b < 0 <;> simp [hb0] <;> rw [dg1 (by decide) (by decide)] <;> rfl
    rw [f1,f2,plus_ok n (l + 1) _ _ ?_ ?_ (by omega) (by omega),obind,plus_ok n (l + 1) _ _ ?_ ?_ (by omega) (by omega),obind]
    · have e:sg (!(decide (a < 0) == decide (b < 0))) x + (if b < 0 then 1 else -1) = a / b/\sg (decide (a < 0)) y + b.natAbs = a % b:=by
        have:=ediv_uniq (a:=a) (b:=b) (q:=sg (!(decide (a < 0) == decide (b < 0))) x + (if b < 0 then 1 else -1)) (r:=sg (decide (a < 0)) y + b.natAbs) ?_ ?_ ?_
        · exact ⟨this.1.symm,this.2.symm⟩
        · unfold sg
          by_cases hb0:b < 0
          · have:(b.natAbs:Int) = -b:=by omega
            rw [this] at hab ⊢
            have h3:(a.natAbs:Int) = -a:=by omega
            simp [h1,hb0]
            rw [Int.mul_add]; grind
          · have:(b.natAbs:Int) = b:=by omega
            rw [this] at hab ⊢
            have h3:(a.natAbs:Int) = -a:=by omega
            simp [h1,hb0]
            rw [Int.mul_add]; grind
        · unfold sg; simp [h1]; omega
        · unfold sg; simp [h1]; omega
      show some (L (sg (!(decide (a < 0) == decide (b < 0))) x + (if b < 0 then 1 else -1)),L (sg (decide (a < 0)) y + b.natAbs)) = _
      rw [e.1,e.2]
    · unfold Fit; rw [sg_abs]; omega
    · unfold Fit; split <;> simp <;> omega
    · unfold Fit; rw [sg_abs]; omega
    · unfold Fit; rw [Int.natAbs_natCast]; omega
  · rw [if_neg (by simpa using hr)]
    have e:=ediv_uniq (a:=a) (b:=b) (q:=sg (!(decide (a < 0) == decide (b < 0))) x) (r:=sg (decide (a < 0)) y) ?_ ?_ ?_
    · rw [e.1,e.2]; rfl
    · unfold sg
      by_cases h1:a < 0
      · have hy0:y = 0:=by omega
        have h3:(a.natAbs:Int) = -a:=by omega
        by_cases hb0:b < 0
        · have:(b.natAbs:Int) = -b:=by omega
          rw [this] at hab; simp [h1,hb0,hy0] at hab ⊢; grind
        · have:(b.natAbs:Int) = b:=by omega
          rw [this] at hab; simp [h1,hb0,hy0] at hab ⊢; grind
      · have h3:(a.natAbs:Int) = a:=by omega
        by_cases hb0:b < 0
        · have:(b.natAbs:Int) = -b:=by omega
          rw [this] at hab; simp [h1,hb0] at hab ⊢; grind
        · have:(b.natAbs:Int) = b:=by omega
          rw [this] at hab; simp [h1,hb0] at hab ⊢; grind
    · unfold sg
      by_cases h1:a < 0
      · have hy0:y = 0:=by omega
        simp [hy0]
      · simp [h1]
    · unfold sg
      by_cases h1:a < 0
      · have hy0:y = 0:=by omega
        simp [hy0]; omega
      · simp [h1]; omega
theorem commonG (n l:Nat) (a b:Int) (ha:Fit l a) (hb:Fit l b) (hl:l < 5000) (hn:18446744073709551616 < n):aB_p n (L a) (L b) = some (L (Nat.gcd a.natAbs b.natAbs:Nat)):=by
  obtain ⟨M,hM⟩:∃ M:Nat,M = 64 * l:=⟨_,rfl⟩
  have hx2:a.natAbs < 2 ^ M:=by unfold Fit at ha; rw [pow64,<- hM] at ha; exact ha
  have hy2:b.natAbs < 2 ^ M:=by unfold Fit at hb; rw [pow64,<- hM] at hb; exact hb
  have he:=eu_le hx2 hy2
  have h:=loop_ok (B:=aB_l1 n) (fun s:List UInt64 × List UInt64=>eu (val s.1) (val s.2)) (fun s=>∃ x y,s = (dg x,dg y)/\(dg x).length < 10000/\(dg y).length < 10000/\Nat.gcd x y = Nat.gcd a.natAbs b.natAbs)
    (fun r=>r = dg (Nat.gcd a.natAbs b.natAbs)) ?_ n (dg a.natAbs,dg b.natAbs) ⟨_,_,rfl,by have:=ha.len; omega,by have:=hb.len; omega,rfl⟩ (by simp only [val_dg]; omega)
  · obtain ⟨r,h1,rfl⟩:=h
    unfold aB_p
    rw [show (L a).fm = dg a.natAbs from rfl,show (L b).fm = dg b.natAbs from rfl,h1,obind]
    unfold L
    simp
  · rintro _ J ⟨x,y,rfl,h1,h2,h3⟩ hJ
    unfold aB_l1
    simp only
    by_cases h0:y = 0
    · subst h0
      rw [if_neg (by rw [dg0]; simp)]
      exact ⟨_,rfl,by rw [<- h3,Nat.gcd_zero_right]⟩
    · obtain ⟨q,e1,_,_⟩:=dividedG n x y h0 h1 h2 hn
      have hm:x % y < y:=Nat.mod_lt _ (by omega)
      have hyl:0 < (dg y).length:=by
        rcases e:dg y with _ | ⟨z,zs⟩
        · have:=val_dg y; rw [e] at this; exact absurd this.symm h0
        · simp
      rw [if_pos hyl,e1,obind]
      simp only
      refine hJ (dg y,dg (x % y)) ⟨_,_,rfl,h2,Nat.lt_of_le_of_lt (dg_mono (Nat.le_of_lt hm)) h2,?_⟩ (by simp only [val_dg]; exact eu_step h0)
      rw [<- h3,Nat.gcd_comm x y,Nat.gcd_rec y x,Nat.gcd_comm]
theorem lowestG (n l:Nat) (a b:Int) (ha:Fit l a) (hb:Fit l b) (h0:b ≠ 0) (hl:l < 5000) (hn:18446744073709551616 < n) :
    bP_p n (L a) (L b) = some (Rt (Rat.divInt a b))/\(Rat.divInt a b).num.natAbs <= a.natAbs/\(Rat.divInt a b).den <= b.natAbs:=by
  have hg:0 < Nat.gcd a.natAbs b.natAbs:=Nat.gcd_pos_of_pos_right _ (by omega)
  have hgb:Nat.gcd a.natAbs b.natAbs <= b.natAbs:=Nat.gcd_le_right _ (by omega)
  have hgw:Fit l ((Nat.gcd a.natAbs b.natAbs:Nat):Int):=by unfold Fit at *; rw [Int.natAbs_natCast]; omega
  obtain ⟨x,hx⟩:((Nat.gcd a.natAbs b.natAbs:Nat):Int) ∣ a:=Int.ofNat_dvd_left.2 (Nat.gcd_dvd_left _ _)
  obtain ⟨y,hy⟩:((Nat.gcd a.natAbs b.natAbs:Nat):Int) ∣ b:=Int.ofNat_dvd_left.2 (Nat.gcd_dvd_right _ _)
  have hco:=Nat.coprime_div_gcd_div_gcd hg
  generalize Nat.gcd a.natAbs b.natAbs = g at *
  have hg0:(g:Int) ≠ 0:=by omega
  have e1:a / (g:Int) = x:=by rw [hx]; exact Int.mul_ediv_cancel_left _ hg0
  have e2:b / (g:Int) = y:=by rw [hy]; exact Int.mul_ediv_cancel_left _ hg0
  have e3:a.natAbs = g * x.natAbs:=by rw [hx,Int.natAbs_mul]; rfl
  have e4:b.natAbs = g * y.natAbs:=by rw [hy,Int.natAbs_mul]; rfl
  have hc:x.natAbs.Coprime y.natAbs:=by
    rw [e3,e4,Nat.mul_div_cancel_left _ hg,Nat.mul_div_cancel_left _ hg] at hco; exact hco
  have hxl:x.natAbs <= a.natAbs:=by rw [e3]; exact Nat.le_mul_of_pos_left _ hg
  have hyl:y.natAbs <= b.natAbs:=by rw [e4]; exact Nat.le_mul_of_pos_left _ hg
  have hy0:y ≠ 0:=fun e=>h0 (by rw [hy,e,Int.mul_zero])
  have eq:Rat.divInt a b = Rat.divInt x y:=by
    conv=>lhs; rw [hx,hy]
    exact Rat.divInt_mul_left hg0
  have xw:Fit l x:=Nat.lt_of_le_of_lt hxl ha
  have yw:Fit l y:=Nat.lt_of_le_of_lt hyl hb
  have gc:aB_p n (L a) (L b) = some (L g):=by
    have:=commonG n l a b ha hb hl hn
    rw [this]
    have h5:Nat.gcd a.natAbs b.natAbs = g:=by
      rw [e3,e4,Nat.gcd_mul_left,show Nat.gcd x.natAbs y.natAbs = 1 from hc,Nat.mul_one]
    rw [h5]
  unfold bP_p
  rw [gc,obind,partsG n l a g ha hgw hg0 hl hn,obind,partsG n l b g hb hgw hg0 hl hn,obind,e1,e2]
  simp only
  rw [eq]
  by_cases hs:y < 0
  · rw [if_pos (by simpa [L] using hs),turned_ok n l x xw (by omega) (by omega),obind,turned_ok n l y yw (by omega) (by omega),obind]
    have h5:=rat_is (x:=-x) (y:=-y) (by omega) (by rwa [Int.natAbs_neg,Int.natAbs_neg])
    rw [Rat.neg_divInt_neg] at h5
    unfold Rt
    rw [h5.1,h5.2]
    exact ⟨rfl,by rw [Int.natAbs_neg]; exact hxl,by have:=h5.2; omega⟩
  · rw [if_neg (by simpa [L] using hs)]
    have h5:=rat_is (x:=x) (y:=y) (by omega) hc
    unfold Rt
    rw [h5.1,h5.2]
    exact ⟨rfl,hxl,by have:=h5.2; omega⟩
end Go.Proofs.YtgejkdheojkfiaaGreatDoor
/- Plain laws: integers of 512 bits read and told. No program in sight but the printed functions. -/
namespace Go.Proofs.YtgejkdheojkfiaaGreatDoor
open Go
set_option maxRecDepth 8000
abbrev T8:=UInt64 × UInt64 × UInt64 × UInt64 × UInt64 × UInt64 × UInt64 × UInt64
def wv (t:T8):List UInt64:=[t.1,t.2.1,t.2.2.1,t.2.2.2.1,t.2.2.2.2.1,t.2.2.2.2.2.1,t.2.2.2.2.2.2.1,t.2.2.2.2.2.2.2]
theorem val_inj:∀ {xs ys:List UInt64},xs.length = ys.length -> val xs = val ys -> xs = ys
  | [],[],_,_=>rfl
  | x :: xs,[],h,_=>by simp at h
  | [],y :: ys,h,_=>by simp at h
  | x :: xs,y :: ys,h,e=>by
    simp only [val] at e
    have hx:=x.toNat_lt
    have hy:=y.toNat_lt
    have e1:x = y:=UInt64.toNat_inj.1 (by omega)
    have e2:val xs = val ys:=by omega
    rw [e1,val_inj (by simpa using h) e2]
theorem wv_inj {s t:T8} (h:val (wv s) = val (wv t)):s = t:=by
  have:=val_inj (by rfl) h
  unfold wv at this
  obtain ⟨s1,s2,s3,s4,s5,s6,s7,s8⟩:=s
  obtain ⟨t1,t2,t3,t4,t5,t6,t7,t8⟩:=t
  simp only [List.cons.injEq,and_true] at this
  simp only [Prod.mk.injEq]
  exact this
def HB:Nat:=9223372036854775808 * 18446744073709551616 ^ 7
def FB:Nat:=18446744073709551616 ^ 8
theorem FB_HB:FB = 2 * HB:=by unfold FB HB; rfl
theorem HB_pos:0 < HB:=by unfold HB; decide
theorem wv_lt (t:T8):val (wv t) < FB:=val_lt (wv t)
def Wn (m:Nat):T8:=(UInt64.ofNat m,UInt64.ofNat (m / 18446744073709551616),UInt64.ofNat (m / 18446744073709551616 / 18446744073709551616),UInt64.ofNat (m / 18446744073709551616 / 18446744073709551616 / 18446744073709551616),UInt64.ofNat (m / 18446744073709551616 / 18446744073709551616 / 18446744073709551616 / 18446744073709551616),UInt64.ofNat (m / 18446744073709551616 / 18446744073709551616 / 18446744073709551616 / 18446744073709551616 / 18446744073709551616),UInt64.ofNat (m / 18446744073709551616 / 18446744073709551616 / 18446744073709551616 / 18446744073709551616 / 18446744073709551616 / 18446744073709551616),UInt64.ofNat (m / 18446744073709551616 / 18446744073709551616 / 18446744073709551616 / 18446744073709551616 / 18446744073709551616 / 18446744073709551616 / 18446744073709551616))
theorem val_step (m:Nat) (xs:List UInt64) (h:val xs = m / 18446744073709551616):val (UInt64.ofNat m :: xs) = m:=by
  simp only [val]
  rw [UInt64.toNat_ofNat', h]
  exact Nat.mod_add_div m 18446744073709551616
theorem Wn_val {m:Nat} (h:m < FB):val (wv (Wn m)) = m:=by
  unfold wv Wn
  refine val_step _ _ (val_step _ _ (val_step _ _ (val_step _ _ (val_step _ _ (val_step _ _ (val_step _ _ ?_))))))
  simp only [val]
  rw [UInt64.toNat_ofNat', Nat.mul_zero,Nat.add_zero]
  refine Nat.mod_eq_of_lt ?_
  simp only [Nat.div_div_eq_div_mul]
  refine Nat.div_lt_of_lt_mul ?_
  exact h
def Fw (z:Int):Prop:=-(HB:Int) <= z/\z < HB
def Wg (z:Int):T8:=Wn (z % (FB:Int)).toNat
theorem Wg_val (z:Int):(val (wv (Wg z)):Int) = z % (FB:Int):=by
  have hp:=HB_pos
  have hf:=FB_HB
  have h0:=Int.emod_nonneg z (b:=(FB:Int)) (by omega)
  have h1:=Int.emod_lt_of_pos z (b:=(FB:Int)) (by omega)
  unfold Wg
  rw [Wn_val (by omega)]
  omega
theorem Wg_pos {z:Int} (h:Fw z) (h0:0 <= z):val (wv (Wg z)) = z.natAbs:=by
  have hp:=HB_pos
  have hf:=FB_HB
  have:=Wg_val z
  rw [Int.emod_eq_of_lt h0 (by have:=h.2; omega)] at this
  omega
theorem Wg_neg {z:Int} (h:Fw z) (h0:z < 0):val (wv (Wg z)) + z.natAbs = FB:=by
  have hp:=HB_pos
  have hf:=FB_HB
  have:=Wg_val z
  have e:z % (FB:Int) = z + FB:=by
    rw [<- Int.add_emod_right]
    exact Int.emod_eq_of_lt (by have:=h.1; omega) (by omega)
  rw [e] at this
  have:=h.1
  omega
theorem sub_step {s b c a c1 c2 Vs Vb Va K:Nat} (h1:s + b + c = a + 18446744073709551616 * c1) (h2:Vs + Vb + c1 = Va + K * c2):(s + 18446744073709551616 * Vs) + (b + 18446744073709551616 * Vb) + c = (a + 18446744073709551616 * Va) + 18446744073709551616 * K * c2:=by
  rw [Nat.mul_assoc]
  have:=congrArg (18446744073709551616 * ·) h2
  simp only [Nat.mul_add] at this
  omega
theorem minus_val (n:Nat) (a b:T8):∃ s c,bv_p n a b = some (s,c)/\val (wv s) + val (wv b) = val (wv a) + FB * c.toNat/\c.toNat <= 1:=by
  obtain ⟨a1,a2,a3,a4,a5,a6,a7,a8⟩:=a
  obtain ⟨b1,b2,b3,b4,b5,b6,b7,b8⟩:=b
  obtain ⟨s1,c1,e1,f1,g1⟩:=sub64_ok a1 b1 0 (by decide)
  obtain ⟨s2,c2,e2,f2,g2⟩:=sub64_ok a2 b2 c1 g1
  obtain ⟨s3,c3,e3,f3,g3⟩:=sub64_ok a3 b3 c2 g2
  obtain ⟨s4,c4,e4,f4,g4⟩:=sub64_ok a4 b4 c3 g3
  obtain ⟨s5,c5,e5,f5,g5⟩:=sub64_ok a5 b5 c4 g4
  obtain ⟨s6,c6,e6,f6,g6⟩:=sub64_ok a6 b6 c5 g5
  obtain ⟨s7,c7,e7,f7,g7⟩:=sub64_ok a7 b7 c6 g6
  obtain ⟨s8,c8,e8,f8,g8⟩:=sub64_ok a8 b8 c7 g7
  refine ⟨(s1,s2,s3,s4,s5,s6,s7,s8),c8,?_,?_,g8⟩
  · unfold bv_p
    simp only [e1,e2,e3,e4,e5,e6,e7,e8,obind]
  · have hFB:FB = 18446744073709551616 * (18446744073709551616 * (18446744073709551616 * (18446744073709551616 * (18446744073709551616 * (18446744073709551616 * (18446744073709551616 * (18446744073709551616 * 1))))))):=rfl
    have:=sub_step f1 (sub_step f2 (sub_step f3 (sub_step f4 (sub_step f5 (sub_step f6 (sub_step f7 (sub_step f8 (show 0 + 0 + c8.toNat = 0 + 1 * c8.toNat by omega))))))))
    rw [<- hFB,show (0:UInt64).toNat = 0 from rfl,Nat.add_zero] at this
    simp only [wv,val]
    exact this
theorem order_val (n:Nat) (a b:T8) (hn:10 < n):∃ c,aY_p n a b = some c/\(c < 0 ↔ val (wv a) < val (wv b))/\(c = 0 ↔ val (wv a) = val (wv b)):=by
  have hh:=loop_ok (B:=aY_l1 n a b) (fun z:Int=>(z + 1).toNat) (fun z=>-1 <= z/\z < 8/\(wv a).drop (z + 1).toNat = (wv b).drop (z + 1).toNat)
    (fun r=>(r = .inl (-1)/\val (wv a) < val (wv b)) ∨ (r = .inl 1/\val (wv b) < val (wv a)) ∨ (r = .inr ()/\wv a = wv b)) ?_ n 7 ⟨by omega,by omega,rfl⟩ (by omega)
  · obtain ⟨r,hr,h1 | h1 | h1⟩:=hh
    · unfold aY_p
      rw [hr,h1.1]; exact ⟨_,rfl,by have:=h1.2; omega,by have:=h1.2; omega⟩
    · unfold aY_p
      rw [hr,h1.1]; exact ⟨_,rfl,by have:=h1.2; omega,by have:=h1.2; omega⟩
    · unfold aY_p
      rw [hr,h1.1,h1.2]; exact ⟨_,rfl,by omega,by omega⟩
  · intro z J ⟨h1,h2,h3⟩ hJ
    unfold aY_l1
    simp only
    have la:(wv a).length = 8:=rfl
    have lb:(wv b).length = 8:=rfl
    by_cases h0:0 <= z
    · have e1:(z + 1).toNat = z.toNat + 1:=by omega
      rw [e1] at h3
      rw [if_pos h0]
      show ∃ r,((idx (wv a) z).bind fun z64=>(idx (wv b) z).bind fun z68=>if z64 = z68 then (chk (z - 1)).bind fun s73=>J s73 else if z64 < z68 then some (Sum.inl (-1:Int)) else some (Sum.inl (1:Int))) = some r/\_
      rw [idx_ok h0 (by omega),obind,idx_ok h0 (by omega),obind]
      split
      · rename_i he
        rw [chkI (by omega) (by omega),obind]
        refine hJ (z - 1) ⟨by omega,by omega,?_⟩ (by omega)
        rw [show (z - 1 + 1).toNat = z.toNat by omega,List.drop_eq_getElem_cons (by omega),List.drop_eq_getElem_cons (l:=wv b) (by omega),h3,he]
      · rename_i hne
        split
        · rename_i hlt; exact ⟨_,rfl,.inl ⟨rfl,word_lt (by omega) (by omega) h3 hlt⟩⟩
        · rename_i h5
          refine ⟨_,rfl,.inr (.inl ⟨rfl,word_lt (by omega) (by omega) h3.symm ?_⟩)⟩
          rw [UInt64.lt_iff_toNat_lt] at h5 ⊢
          have:((wv a)[z.toNat]'(by omega)).toNat ≠ ((wv b)[z.toNat]'(by omega)).toNat:=fun e=>hne (UInt64.toNat_inj.1 e)
          omega
    · rw [if_neg h0]
      have e1:(z + 1).toNat = 0:=by omega
      rw [e1] at h3
      exact ⟨_,rfl,.inr (.inr ⟨rfl,by simpa using h3⟩)⟩
theorem top_bit (t:T8):shrU t.2.2.2.2.2.2.2 63 = 1 ↔ HB <= val (wv t):=by
  obtain ⟨t1,t2,t3,t4,t5,t6,t7,t8⟩:=t
  have h1:=val_lt [t1,t2,t3,t4,t5,t6,t7]
  have e:val (wv (t1,t2,t3,t4,t5,t6,t7,t8)) = val [t1,t2,t3,t4,t5,t6,t7] + 18446744073709551616 ^ 7 * t8.toNat:=by
    have:=val_app [t1,t2,t3,t4,t5,t6,t7] [t8]
    simp only [List.length_cons,List.length_nil] at this
    show val ([t1,t2,t3,t4,t5,t6,t7] ++ [t8]) = _
    rw [this]
    simp [val]
  rw [e]
  simp only [List.length_cons,List.length_nil] at h1
  have h8:=t8.toNat_lt
  have hs:(shrU t8 63).toNat = t8.toNat / 9223372036854775808:=shr_nat t8 (by decide)
  have hsw:shrU t8 63 = 1 ↔ 9223372036854775808 <= t8.toNat:=by
    constructor
    · intro h
      have:=congrArg UInt64.toNat h
      rw [hs] at this
      simp only [UInt64.toNat_one] at this
      omega
    · intro h
      refine UInt64.toNat_inj.1 ?_
      rw [hs]
      simp only [UInt64.toNat_one]
      omega
  show shrU t8 63 = 1 ↔ _
  rw [hsw]
  unfold HB
  generalize val [t1,t2,t3,t4,t5,t6,t7] = lo at *
  generalize hP:(18446744073709551616:Nat) ^ 7 = P at *
  constructor
  · intro h
    have:=Nat.mul_le_mul_left P h
    rw [Nat.mul_comm] at this
    omega
  · intro h
    by_cases c:9223372036854775808 <= t8.toNat
    · exact c
    · exfalso
      have:=Nat.mul_le_mul_left P (show t8.toNat + 1 <= 9223372036854775808 by omega)
      rw [Nat.mul_add,Nat.mul_comm P 9223372036854775808] at this
      omega
theorem longerG (n:Nat) (z:Int) (h:Fw z) (hn:10 < n):bM_p n (Wg z) = some (L z):=by
  have hp:=HB_pos
  have hf:=FB_HB
  have fin:∀ (b:Bool) (t:T8),val (wv t) = z.natAbs -> (b && decide (0 < z.natAbs)) = decide (z < 0) -> ((app ([]:List UInt64) ([t.1,t.2.1,t.2.2.1,t.2.2.2.1,t.2.2.2.2.1,t.2.2.2.2.2.1,t.2.2.2.2.2.2.1,t.2.2.2.2.2.2.2]:List UInt64)).bind fun xs=>(ao_p n b xs).bind fun y=>some y) = some (L z):=fun b t hv hb=>by
    show ((app ([]:List UInt64) (wv t)).bind fun xs=>(ao_p n b xs).bind fun y=>some y) = some (L z)
    rw [appS [] (wv t) (by show 0 + 8 <= 1000000; decide),obind,List.nil_append,trimmed_ok n b (wv t) (by show 8 < n; omega) (by show 8 <= 4294967296; decide),obind,hv,hb]
    rfl
  unfold bM_p cY_p
  by_cases h0:z < 0
  · have hv:=Wg_neg h h0
    have hge:HB <= val (wv (Wg z)):=by have:=h.1; omega
    obtain ⟨s,c,e,e2,e3⟩:=minus_val n (0,0,0,0,0,0,0,0) (Wg z)
    have hz:val (wv ((0,0,0,0,0,0,0,0):T8)) = 0:=rfl
    rw [hz] at e2
    have hs:=wv_lt s
    have hc:c.toNat = 1:=by
      by_cases hc0:c.toNat = 0
      · rw [hc0] at e2; omega
      · omega
    rw [hc] at e2
    rw [if_pos ((top_bit _).2 hge),e,obind,obind]
    exact fin _ s (by omega) (by rw [decide_eq_true ((top_bit _).2 hge),decide_eq_true (by omega:0 < z.natAbs),decide_eq_true h0]; rfl)
  · have hv:=Wg_pos h (by omega)
    have hlt:¬ shrU (Wg z).2.2.2.2.2.2.2 63 = 1:=fun e=>by have:=(top_bit _).1 e; have:=h.2; omega
    rw [if_neg hlt,obind]
    exact fin _ (Wg z) hv (by rw [decide_eq_false hlt,decide_eq_false h0]; rfl)
theorem Wg_of {z:Int} {t:T8} (h:(val (wv t):Int) = z % (FB:Int)):t = Wg z:=wv_inj (by have:=Wg_val z; omega)
theorem getA_val {ws:List UInt64} (h:ws.length <= 8):val (wv (getA ws 0 0,getA ws 1 0,getA ws 2 0,getA ws 3 0,getA ws 4 0,getA ws 5 0,getA ws 6 0,getA ws 7 0)) = val ws:=by
  unfold wv getA
  rcases ws with _ | ⟨a,_ | ⟨b,_ | ⟨c,_ | ⟨d,_ | ⟨e,_ | ⟨f,_ | ⟨g,_ | ⟨i,_ | ⟨j,xs⟩⟩⟩⟩⟩⟩⟩⟩⟩
  any_goals simp [val]
  simp only [List.length_cons] at h
  omega
open Classical in
theorem toldG (n:Nat) (z:Int) (hn:10 < n):bn_p n (L z) = some (if Fw z then (Wg z,0) else ((0,0,0,0,0,0,0,0),6)):=by
  have hp:=HB_pos
  have hf:=FB_HB
  have hdg:=val_dg z.natAbs
  unfold bn_p
  by_cases hl:8 < (dg z.natAbs).length
  · have h1:=val_ge (dg_nm z.natAbs) (by intro e; rw [e] at hl; simp at hl)
    have h2:18446744073709551616 ^ 8 <= 18446744073709551616 ^ ((dg z.natAbs).length - 1):=Nat.pow_le_pow_right (by decide) (by omega)
    have hbig:FB <= z.natAbs:=by unfold FB; omega
    rw [if_pos (show 8 < (L z).fm.length from hl),if_neg fun h:Fw z=>by have:=h.1; have:=h.2; omega]
  · have hv:=getA_val (ws:=dg z.natAbs) (by omega)
    rw [if_neg (show ¬ 8 < (L z).fm.length from hl)]
    show ((cn_p n ⟨decide (z < 0),(getA (dg z.natAbs) 0 0,getA (dg z.natAbs) 1 0,getA (dg z.natAbs) 2 0,getA (dg z.natAbs) 3 0,getA (dg z.natAbs) 4 0,getA (dg z.natAbs) 5 0,getA (dg z.natAbs) 6 0,getA (dg z.natAbs) 7 0)⟩).bind _) = _
    generalize hT:((getA (dg z.natAbs) 0 0,getA (dg z.natAbs) 1 0,getA (dg z.natAbs) 2 0,getA (dg z.natAbs) 3 0,getA (dg z.natAbs) 4 0,getA (dg z.natAbs) 5 0,getA (dg z.natAbs) 6 0,getA (dg z.natAbs) 7 0):T8) = t at *
    rw [hdg] at hv
    unfold cn_p
    obtain ⟨c,ec,c1,c2⟩:=order_val n t (0,0,0,0,0,0,0,9223372036854775808) hn
    have hlim:val (wv ((0,0,0,0,0,0,0,9223372036854775808):T8)) = HB:=by decide
    rw [hlim,hv] at c1 c2
    simp only
    rw [ec,obind]
    obtain ⟨s,cc,e,e2,e3⟩:=minus_val n (0,0,0,0,0,0,0,0) t
    have hz:val (wv ((0,0,0,0,0,0,0,0):T8)) = 0:=rfl
    rw [hz,hv] at e2
    have hs:=wv_lt s
    have neg:z < 0 -> Fw z -> s = Wg z:=fun h0 hw=>by
      refine Wg_of ?_
      have hc:cc.toNat = 1:=by
        by_cases hc0:cc.toNat = 0
        · rw [hc0] at e2; omega
        · omega
      rw [hc] at e2
      have e5:z % (FB:Int) = z + FB:=by
        rw [<- Int.add_emod_right]
        exact Int.emod_eq_of_lt (by have:=hw.1; omega) (by omega)
      rw [e5]; omega
    by_cases g1:0 < c
    · rw [if_pos g1,obind,if_neg fun h:Fw z=>by have:=h.1; have:=h.2; omega]
    · rw [if_neg g1]
      by_cases g2:c = 0
      · rw [if_pos g2]
        by_cases h0:z < 0
        · have hw:Fw z:=⟨by omega,by omega⟩
          rw [if_pos (decide_eq_true h0),e,obind,obind,if_pos hw,neg h0 hw]
        · rw [if_neg (by simpa using h0),obind,if_neg fun h:Fw z=>by have:=h.2; omega]
      · rw [if_neg g2]
        by_cases h0:z < 0
        · have hw:Fw z:=⟨by omega,by omega⟩
          rw [if_pos (decide_eq_true h0),e,obind,obind,if_pos hw,neg h0 hw]
        · have hw:Fw z:=⟨by omega,by omega⟩
          rw [if_neg (by simpa using h0),obind,if_pos hw]
          rw [show t = Wg z from Wg_of (by rw [Int.emod_eq_of_lt (by omega) (by have:=hw.2; omega)]; omega)]
end Go.Proofs.YtgejkdheojkfiaaGreatDoor
