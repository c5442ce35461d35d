/- Plain laws: two words divided by one. No program in sight but the printed functions. -/
import Derived.Test.YtfccehcnajelgaaGreatDoorRDVb
namespace Go.Proofs.YtfccehcnajelgaaGreatDoor
open Go
set_option maxRecDepth 8000
theorem qhat_loop {B:(UInt64 × UInt64 → Option UInt64) → UInt64 × UInt64 → Option UInt64} {y1 y0 un:UInt64}
    (hB:∀ J q rh,B J (q,rh) = if (4294967296:UInt64) ≤ q then (if (4294967296:UInt64) ≤ rh + y1 then some (q - 1) else J (q - 1,rh + y1)) else (if 4294967296 * rh + un < q * y0 then (if (4294967296:UInt64) ≤ rh + y1 then some (q - 1) else J (q - 1,rh + y1)) else some q))
    {U:Nat} (h1:2147483648 ≤ y1.toNat) (h1' : y1.toNat < 4294967296) (h0:y0.toNat < 4294967296) (hu:un.toNat < 4294967296) (hU:U < y1.toNat * 4294967296 + y0.toNat) (q0 r0:UInt64) (e:U = q0.toNat * y1.toNat + r0.toNat) (hr:r0.toNat < y1.toNat) (n:Nat) (hn:4294967300 < n) :
    ∃ q:UInt64,loopF B n (q0,r0) = some q∧q.toNat = (U * 4294967296 + un.toNat) / (y1.toNat * 4294967296 + y0.toNat):=by
  obtain ⟨V,hV⟩:∃ V,y1.toNat * 4294967296 + y0.toNat = V:=⟨_,rfl⟩
  obtain ⟨N,hN⟩:∃ N,U * 4294967296 + un.toNat = N:=⟨_,rfl⟩
  rw [hV] at hU
  rw [hV,hN]
  have hVp:0 < V:=by omega
  obtain ⟨D,hD⟩:∃ D,N / V = D:=⟨_,rfl⟩
  have hle:∀ x,x ≤ D ↔ x * V ≤ N:=fun x=>by rw [← hD]; exact Nat.le_div_iff_mul_le hVp
  have hlt:∀ x,D < x ↔ N < x * V:=fun x=>by rw [← hD]; exact Nat.div_lt_iff_lt_mul hVp
  rw [hD]
  have hNV:D < 4294967296:=by
    rw [hlt]
    omega
  have hq0:q0.toNat ≤ 4294967297:=by
    have h2:q0.toNat * 2147483648 ≤ q0.toNat * y1.toNat:=Nat.mul_le_mul_left _ h1
    by_cases h3:q0.toNat ≤ 4294967297
    · exact h3
    · exfalso
      have h4:4294967298 * y1.toNat ≤ q0.toNat * y1.toNat:=Nat.mul_le_mul_right _ (by omega)
      omega
  have up:D ≤ q0.toNat:=by
    rw [← hD]
    have h3:N / V ≤ N / (y1.toNat * 4294967296):=Nat.div_le_div_left (by omega) (by omega)
    have h4:N / (y1.toNat * 4294967296) = U / y1.toNat:=by
      rw [Nat.mul_comm,← Nat.div_div_eq_div_mul]
      congr 1
      omega
    have h5:U / y1.toNat = q0.toNat:=by
      rw [e,Nat.mul_comm,Nat.add_comm,Nat.add_mul_div_left _ _ (by omega),Nat.div_eq_of_lt hr,Nat.zero_add]
    rw [h4,h5] at h3
    exact h3
  refine loop_ok (B:=B) (fun s:UInt64 × UInt64=>s.1.toNat) (fun s=>U = s.1.toNat * y1.toNat + s.2.toNat∧s.2.toNat < 4294967296∧D ≤ s.1.toNat∧s.1.toNat ≤ 4294967297) (fun q=>q.toNat = D) ?_ n (q0,r0) ⟨e,by simp only; omega,up,hq0⟩ (by simp only; omega)
  rintro ⟨q,rh⟩ J ⟨i1,i2,i3,i4⟩ hJ
  simp only at i1 i2 i3 i4 hJ
  rw [hB]
  have c32:(4294967296:UInt64).toNat = 4294967296:=rfl
  have hrh:(rh + y1).toNat = rh.toNat + y1.toNat:=by rw [UInt64.toNat_add]; omega
  -- what follows once the guess is too great
  have over:D + 1 ≤ q.toNat → ∃ r,(if (4294967296:UInt64) ≤ rh + y1 then some (q - 1) else J (q - 1,rh + y1)) = some r∧r.toNat = D:=fun ho=>by
    have hq1:(q - 1).toNat = q.toNat - 1:=by
      rw [UInt64.toNat_sub]
      have:=q.toNat_lt
      simp only [UInt64.toNat_one]
      omega
    have e1:q.toNat * y1.toNat = (q.toNat - 1) * y1.toNat + y1.toNat:=by
      rw [← Nat.succ_mul]; congr 1; omega
    split
    · rename_i hbig
      rw [UInt64.le_iff_toNat_le,c32,hrh] at hbig
      refine ⟨_,rfl,?_⟩
      rw [hq1]
      refine Nat.le_antisymm ?_ (by omega)
      rw [hle,← hV,Nat.mul_add,← Nat.mul_assoc]
      have h5:(q.toNat - 1) * y0.toNat ≤ 4294967296 * 4294967295:=Nat.mul_le_mul (by omega) (by omega)
      omega
    · rename_i hbig
      rw [UInt64.le_iff_toNat_le,c32,hrh] at hbig
      exact hJ _ ⟨by simp only; rw [hq1,hrh]; omega,by simp only; rw [hrh]; omega,by simp only; rw [hq1]; omega,by simp only; rw [hq1]; omega⟩ (by simp only; rw [hq1]; omega)
  by_cases c:(4294967296:UInt64) ≤ q
  · rw [if_pos c]
    rw [UInt64.le_iff_toNat_le,c32] at c
    exact over (by omega)
  · rw [if_neg c]
    rw [UInt64.le_iff_toNat_le,c32] at c
    have m1:(4294967296 * rh + un).toNat = 4294967296 * rh.toNat + un.toNat:=by
      rw [UInt64.toNat_add,UInt64.toNat_mul,c32]; omega
    have m2:(q * y0).toNat = q.toNat * y0.toNat:=by
      rw [UInt64.toNat_mul]
      have:q.toNat * y0.toNat ≤ 4294967295 * 4294967295:=Nat.mul_le_mul (by omega) (by omega)
      omega
    have eqV:q.toNat * V = q.toNat * y1.toNat * 4294967296 + q.toNat * y0.toNat:=by rw [← hV,Nat.mul_add,← Nat.mul_assoc]
    by_cases c2:4294967296 * rh + un < q * y0
    · rw [if_pos c2]
      rw [UInt64.lt_iff_toNat_lt,m1,m2] at c2
      refine over ?_
      have:D < q.toNat:=by
        rw [hlt,eqV]
        omega
      omega
    · rw [if_neg c2]
      rw [UInt64.lt_iff_toNat_lt,m1,m2] at c2
      refine ⟨_,rfl,Nat.le_antisymm ?_ i3⟩
      rw [hle,eqV]
      omega
theorem sub_mod {N M R:Nat} (h:N = M + R) (hR:R < 18446744073709551616):(18446744073709551616 - M % 18446744073709551616 + N % 18446744073709551616) % 18446744073709551616 = R:=by omega
theorem glue2 {hi lo p u t w:Nat} (t1:u = hi * p + t) (t2:w + 18446744073709551616 * t = lo * p):(hi * 18446744073709551616 + lo) * p = u * 18446744073709551616 + w:=by
  rw [Nat.add_mul,Nat.mul_right_comm hi 18446744073709551616 p,t1,← t2]
  generalize hi * p = z
  omega
theorem glue {P Q R1 R0 u w:Nat} (h1:P + R1 = u * 4294967296 + w / 4294967296) (h2:Q + R0 = R1 * 4294967296 + w % 4294967296):u * 18446744073709551616 + w = P * 4294967296 + Q + R0:=by omega
theorem div64g_ok (n:Nat) (hi lo y:UInt64) (h:hi.toNat < y.toNat) (hn:4294967300 < n):∃ q r:UInt64,math_bits_Div64_p n hi lo y = some (q,r)∧hi.toNat * 18446744073709551616 + lo.toNat = q.toNat * y.toNat + r.toNat∧r.toNat < y.toNat:=by
  have hy:=y.toNat_lt
  have hlo:=lo.toNat_lt
  have hy0:y ≠ 0:=fun e=>by rw [e] at h; simp at h
  unfold math_bits_Div64_p
  rw [if_neg hy0,if_neg (by rw [UInt64.le_iff_toNat_le]; omega)]
  by_cases h0:hi = 0
  · subst h0
    rw [if_pos rfl]
    unfold quoW remW
    rw [if_neg hy0,obind,if_neg hy0,obind]
    refine ⟨_,_,rfl,?_,?_⟩
    · rw [UInt64.toNat_div,UInt64.toNat_mod]
      have:=Nat.div_add_mod lo.toNat y.toNat
      rw [Nat.mul_comm] at this
      simp; omega
    · rw [UInt64.toNat_mod]; exact Nat.mod_lt _ (by omega)
  · rw [if_neg h0,lz_ok,obind]
    have hyn:y.toNat ≠ 0:=by omega
    have b1:=bln_pos hyn
    have b2:=bln_small (l:=64) (m:=y.toNat) (by omega)
    have b3:=bln_lt y.toNat
    have b4:=bln_ge hyn
    obtain ⟨s,hs⟩:∃ s,s = 64 - bln y.toNat:=⟨_,rfl⟩
    have e1:(u64of (64 - (bln y.toNat:Int))).toNat = s:=by unfold u64of; rw [UInt64.toNat_ofNat']; omega
    have e2:((64:UInt64) - u64of (64 - (bln y.toNat:Int))).toNat = 64 - s:=by
      rw [UInt64.toNat_sub,e1]
      simp only [show (64:UInt64).toNat = 64 from rfl]
      omega
    have hs64:s < 64:=by omega
    have hps:=Nat.two_pow_pos s
    -- the divisor,moved
    have v2:y.toNat * 2 ^ s < 18446744073709551616:=by
      have:y.toNat * 2 ^ s < 2 ^ bln y.toNat * 2 ^ s:=Nat.mul_lt_mul_of_pos_right b3 hps
      rw [← Nat.pow_add,show bln y.toNat + s = 64 by omega] at this
      exact this
    have v1:9223372036854775808 ≤ y.toNat * 2 ^ s:=by
      have:2 ^ (bln y.toNat - 1) * 2 ^ s ≤ y.toNat * 2 ^ s:=Nat.mul_le_mul_right _ b4
      rw [← Nat.pow_add,show bln y.toNat - 1 + s = 63 by omega] at this
      exact this
    have hyv:(shlU y s).toNat = y.toNat * 2 ^ s:=by rw [shl_nat y hs64,Nat.mod_eq_of_lt v2]
    have hhi:hi.toNat * 2 ^ s < 18446744073709551616:=Nat.lt_of_le_of_lt (Nat.mul_le_mul_right _ (Nat.le_of_lt h)) v2
    have hhv:(shlU hi s).toNat = hi.toNat * 2 ^ s:=by rw [shl_nat hi hs64,Nat.mod_eq_of_lt hhi]
    -- the dividend,moved
    have hun:∃ t:Nat,(shlU hi s ||| shrU lo (64 - s)).toNat = hi.toNat * 2 ^ s + t∧(shlU lo s).toNat + 18446744073709551616 * t = lo.toNat * 2 ^ s:=by
      by_cases s0:s = 0
      · subst s0
        refine ⟨0,?_,by rw [shl_zero]; simp⟩
        rw [shl_zero,show shrU lo (64 - 0) = 0 from by unfold shrU; rw [if_neg (by decide)],UInt64.toNat_or]
        simp
      · obtain ⟨t1,t2,t3⟩:=shift_two lo (by omega) hs64
        refine ⟨(shrU lo (64 - s)).toNat,?_,t1⟩
        rw [UInt64.or_comm,or_low t3 (by rw [hhv]; exact Nat.dvd_mul_left ..),hhv,Nat.add_comm]
    obtain ⟨t,t1,t2⟩:=hun
    rw [e1,e2]
    generalize hyy:shlU y s = yy at *
    generalize hun32:shlU hi s ||| shrU lo (64 - s) = un32 at *
    generalize hun10:shlU lo s = un10 at *
    have hun10l:=un10.toNat_lt
    have hun32l:=un32.toNat_lt
    -- both halves of the divisor
    have w1:(shrU yy 32).toNat = yy.toNat / 4294967296:=shr32n yy
    have w0:(yy &&& (4294967295:UInt64)).toNat = yy.toNat % 4294967296:=and32 yy
    have x1:(shrU un10 32).toNat = un10.toNat / 4294967296:=shr32n un10
    have x0:(un10 &&& (4294967295:UInt64)).toNat = un10.toNat % 4294967296:=and32 un10
    have hyyl:=yy.toNat_lt
    have hV:(shrU yy 32).toNat * 4294967296 + (yy &&& (4294967295:UInt64)).toNat = yy.toNat:=by rw [w1,w0]; omega
    have hy1:2147483648 ≤ (shrU yy 32).toNat:=by rw [w1]; omega
    have hy1' : (shrU yy 32).toNat < 4294967296:=by rw [w1]; omega
    have hy0' : (yy &&& (4294967295:UInt64)).toNat < 4294967296:=by rw [w0]; omega
    have hne:shrU yy 32 ≠ 0:=fun e=>by rw [e] at hy1; simp at hy1
    have hUV:un32.toNat < yy.toNat:=by
      have h5:(hi.toNat * 18446744073709551616 + lo.toNat) * 2 ^ s < y.toNat * 18446744073709551616 * 2 ^ s:=Nat.mul_lt_mul_of_pos_right (by omega) hps
      rw [Nat.add_mul,Nat.mul_right_comm,Nat.mul_right_comm y.toNat] at h5
      omega
    -- the first digit
    have d1:∀ (U:UInt64) (hU:U.toNat < yy.toNat) (un:UInt64) (hu:un.toNat < 4294967296) (B:(UInt64 × UInt64 → Option UInt64) → UInt64 × UInt64 → Option UInt64) (hB:∀ J q rh,B J (q,rh) = if (4294967296:UInt64) ≤ q then (if (4294967296:UInt64) ≤ rh + shrU yy 32 then some (q - 1) else J (q - 1,rh + shrU yy 32)) else (if 4294967296 * rh + un < q * (yy &&& (4294967295:UInt64)) then (if (4294967296:UInt64) ≤ rh + shrU yy 32 then some (q - 1) else J (q - 1,rh + shrU yy 32)) else some q)),
        ∃ q:UInt64,loopF B n (U / shrU yy 32,U - U / shrU yy 32 * shrU yy 32) = some q∧q.toNat = (U.toNat * 4294967296 + un.toNat) / yy.toNat:=fun U hU un hu B hB=>by
      have hm:=Nat.div_add_mod U.toNat (shrU yy 32).toNat
      have hml:=Nat.mod_lt U.toNat (show 0 < (shrU yy 32).toNat by omega)
      have hUl:=U.toNat_lt
      have e3:(U - U / shrU yy 32 * shrU yy 32).toNat = U.toNat % (shrU yy 32).toNat:=by
        rw [UInt64.toNat_sub,UInt64.toNat_mul,UInt64.toNat_div]
        rw [Nat.mul_comm] at hm
        have:U.toNat / (shrU yy 32).toNat * (shrU yy 32).toNat ≤ U.toNat:=by omega
        rw [Nat.mod_eq_of_lt (a:=U.toNat / (shrU yy 32).toNat * (shrU yy 32).toNat) (by omega)]
        omega
      obtain ⟨q,a1,a2⟩:=qhat_loop hB (U:=U.toNat) hy1 hy1' hy0' hu (by rw [hV]; exact hU) (U / shrU yy 32) (U - U / shrU yy 32 * shrU yy 32) (by rw [UInt64.toNat_div,e3,Nat.mul_comm]; exact hm.symm) (by rw [e3]; exact hml) n hn
      exact ⟨q,a1,by rw [a2,hV]⟩
    obtain ⟨q1,l2,q1v⟩:=d1 un32 hUV (shrU un10 32) (by rw [x1]; omega) (math_bits_Div64_l2 n y (64 - (bln y.toNat:Int)) lo) (fun J q rh=>by unfold math_bits_Div64_l2; simp only [e1,hyy,hun10])
    have hm1:=Nat.div_add_mod (un32.toNat * 4294967296 + (shrU un10 32).toNat) yy.toNat
    have hml1:=Nat.mod_lt (un32.toNat * 4294967296 + (shrU un10 32).toNat) (show 0 < yy.toNat by omega)
    rw [← q1v] at hm1
    generalize hR1:(un32.toNat * 4294967296 + (shrU un10 32).toNat) % yy.toNat = R1 at hm1 hml1
    have u21:(un32 * 4294967296 + shrU un10 32 - q1 * yy).toNat = R1:=by
      rw [UInt64.toNat_sub,UInt64.toNat_add,UInt64.toNat_mul,UInt64.toNat_mul]
      rw [show (4294967296:UInt64).toNat = 4294967296 from rfl]
      have:=sub_mod (N:=un32.toNat * 4294967296 + (shrU un10 32).toNat) (M:=q1.toNat * yy.toNat) (R:=R1) (by rw [Nat.mul_comm q1.toNat]; exact hm1.symm) (by omega)
      generalize q1.toNat * yy.toNat = M at *
      omega
    obtain ⟨q0,l1,q0v⟩:=d1 (un32 * 4294967296 + shrU un10 32 - q1 * yy) (by rw [u21]; exact hml1) (un10 &&& (4294967295:UInt64)) (by rw [x0]; omega) (math_bits_Div64_l1 n y (64 - (bln y.toNat:Int)) lo) (fun J q rh=>by unfold math_bits_Div64_l1; simp only [e1,hyy,hun10])
    rw [u21] at q0v
    have hm0:=Nat.div_add_mod (R1 * 4294967296 + (un10 &&& (4294967295:UInt64)).toNat) yy.toNat
    have hml0:=Nat.mod_lt (R1 * 4294967296 + (un10 &&& (4294967295:UInt64)).toNat) (show 0 < yy.toNat by omega)
    rw [← q0v] at hm0
    generalize hR0:(R1 * 4294967296 + (un10 &&& (4294967295:UInt64)).toNat) % yy.toNat = R0 at hm0 hml0
    have u00:((un32 * 4294967296 + shrU un10 32 - q1 * yy) * 4294967296 + (un10 &&& (4294967295:UInt64)) - q0 * yy).toNat = R0:=by
      rw [UInt64.toNat_sub,UInt64.toNat_add,UInt64.toNat_mul,UInt64.toNat_mul,u21]
      rw [show (4294967296:UInt64).toNat = 4294967296 from rfl]
      have:=sub_mod (N:=R1 * 4294967296 + (un10 &&& (4294967295:UInt64)).toNat) (M:=q0.toNat * yy.toNat) (R:=R0) (by rw [Nat.mul_comm q0.toNat]; exact hm0.symm) (by omega)
      generalize q0.toNat * yy.toNat = M at *
      omega
    have q1l:q1.toNat < 4294967296:=by
      rw [q1v,Nat.div_lt_iff_lt_mul (by omega)]; rw [x1]; omega
    have q0l:q0.toNat < 4294967296:=by
      rw [q0v,Nat.div_lt_iff_lt_mul (by omega)]; rw [x0]; omega
    -- all together
    have all:(hi.toNat * 18446744073709551616 + lo.toNat) * 2 ^ s = (q1.toNat * 4294967296 + q0.toNat) * y.toNat * 2 ^ s + R0:=by
      have a1:(hi.toNat * 18446744073709551616 + lo.toNat) * 2 ^ s = un32.toNat * 18446744073709551616 + un10.toNat:=by
        exact glue2 t1 t2
      have a2:(q1.toNat * 4294967296 + q0.toNat) * y.toNat * 2 ^ s = yy.toNat * q1.toNat * 4294967296 + yy.toNat * q0.toNat:=by
        rw [Nat.mul_assoc,← hyv]; grind
      rw [a1,a2]
      rw [x1] at hm1
      rw [x0] at hm0
      exact glue hm1 hm0
    have hq:(q1 * 4294967296 + q0).toNat = q1.toNat * 4294967296 + q0.toNat:=by
      rw [UInt64.toNat_add,UInt64.toNat_mul,show (4294967296:UInt64).toNat = 4294967296 from rfl]; omega
    have hd:2 ^ s ∣ R0:=by
      have:=(Nat.dvd_add_right (Nat.dvd_mul_left (2 ^ s) ((q1.toNat * 4294967296 + q0.toNat) * y.toNat))).1 (by rw [← all]; exact Nat.dvd_mul_left ..)
      exact this
    obtain ⟨rr,hrr⟩:=hd
    have hrv:(shrU ((un32 * 4294967296 + shrU un10 32 - q1 * yy) * 4294967296 + (un10 &&& (4294967295:UInt64)) - q0 * yy) s).toNat = rr:=by
      rw [shr_nat _ hs64,u00,hrr,Nat.mul_div_cancel_left _ hps]
    unfold jn quoW
    rw [if_neg hne,obind,obind]
    dsimp only
    rw [l2,obind,obind,if_neg hne,obind,obind]
    try dsimp only
    rw [l1,obind,obind,obind]
    refine ⟨_,_,rfl,?_,?_⟩
    · rw [hq,hrv]
      rw [hrr,Nat.mul_comm (2 ^ s) rr,← Nat.add_mul] at all
      exact Nat.mul_right_cancel hps all
    · rw [hrv]
      rw [hrr,Nat.mul_comm,hyv] at hml0
      exact Nat.lt_of_mul_lt_mul_right hml0
end Go.Proofs.YtfccehcnajelgaaGreatDoor
