/- Plain laws: integers of any length divided; greatest common divisors; lowest terms. No program in sight but the printed functions. -/
import Derived.Test.YtfccehcnajelgaaGreatDoorRDVc
namespace Go.Proofs.YtfccehcnajelgaaGreatDoor
open Go
set_option maxRecDepth 8000
theorem bln_dg (a:Nat):bln a ≤ 64 * (dg a).length:=bln_small (by
  have:=val_lt (dg a)
  rw [val_dg,pow64] at this
  exact this)
theorem dg_one {m:Nat} (h:(dg m).length = 1):∃ y:UInt64,dg m = [y]∧y.toNat = m:=by
  rcases e:dg m with _ | ⟨y,_ | ⟨z,zs⟩⟩
  · rw [e] at h; simp at h
  · refine ⟨y,rfl,?_⟩
    have:=val_dg m
    rw [e] at this
    simp only [val] at this
    omega
  · rw [e] at h; simp at h
theorem drop_set_self {xs:List UInt64} {i:Nat} (v:UInt64) (h:i < xs.length):(xs.set i v).drop i = v :: xs.drop (i + 1):=by
  rw [List.drop_eq_getElem_cons (by simpa using h),List.getElem_set_self,List.drop_set_of_lt (by omega)]
theorem short_loop (n:Nat) (a:List UInt64) (y:UInt64) (hy:0 < y.toNat) (hl:a.length < 100000) (hn:4294967300 < n):∃ u xs,loopF (wide_divided_l1 n a [y]) n (0,((a.length:Nat):Int) - 1,List.replicate a.length 0) = some (u,xs)∧xs.length = a.length∧val a = val xs * y.toNat + u.toNat∧u.toNat < y.toNat:=by
  have hh:=loop_ok (B:=wide_divided_l1 n a [y]) (fun s:UInt64 × Int × List UInt64=>(s.2.1 + 1).toNat) (fun s=>(-1 ≤ s.2.1∧s.2.1 < a.length)∧s.2.2.length = a.length∧val (a.drop (s.2.1 + 1).toNat) = val (s.2.2.drop (s.2.1 + 1).toNat) * y.toNat + s.1.toNat∧s.1.toNat < y.toNat)
    (fun r=>r.2.length = a.length∧val a = val r.2 * y.toNat + r.1.toNat∧r.1.toNat < y.toNat) ?_ n (0,((a.length:Nat):Int) - 1,List.replicate a.length 0) ⟨by simp only; omega,by simp,?_,by simpa using hy⟩ (by simp only; omega)
  · obtain ⟨⟨u,xs⟩,e,h1,h2,h3⟩:=hh; exact ⟨u,xs,e,h1,h2,h3⟩
  · rintro ⟨u,z,xs⟩ J ⟨a1,a2,a3,a4⟩ hJ
    simp only at a1 a2 a3 a4 hJ
    unfold wide_divided_l1
    simp only
    by_cases hz:0 ≤ z
    · obtain ⟨k,rfl⟩:∃ k:Nat,z = k:=⟨z.toNat,by omega⟩
      have e0:(((k:Int) + 1).toNat) = k + 1:=by omega
      rw [e0] at a3
      have hka:k < a.length:=by omega
      have hkx:k < xs.length:=by omega
      obtain ⟨q,r,d1,d2,d3⟩:=div64g_ok n u a[k] y a4 hn
      rw [if_pos hz,idxN hka,obind]
      simp only [List.getElem?_cons_zero,obind]
      rw [d1,obind,idxN hkx,obind,putN _ hkx,obind,chkI (by omega) (by omega),obind]
      have eN:(((k:Int) - 1 + 1)).toNat = k:=by omega
      refine hJ (_,_,_) ⟨by simp only; omega,by simpa using a2,?_,d3⟩ (by simp only; omega)
      simp only
      rw [eN,drop_set_self q hkx,List.drop_eq_getElem_cons hka]
      simp only [val]
      rw [a3,Nat.add_mul,Nat.mul_add,← Nat.mul_assoc]
      omega
    · rw [if_neg hz]
      have e0:(z + 1).toNat = 0:=by omega
      rw [e0] at a3
      exact ⟨_,rfl,a2,by simpa using a3,a4⟩
  · simp only
    rw [show ((((a.length:Nat):Int) - 1 + 1)).toNat = a.length by omega,List.drop_length,List.drop_eq_nil_of_le (by simp)]
    simp [val]
theorem dividedG (n:Nat) (a b:Nat) (h0:b ≠ 0) (ha:(dg a).length < 10000) (hb:(dg b).length < 10000) (hn:18446744073709551616 < n):∃ q,wide_divided_p n (dg a) (dg b) = some (q,dg (a % b))∧q.length ≤ (dg a).length∧val q = a / b:=by
  unfold wide_divided_p
  rw [mk_ok _ _ (by omega),obind]
  by_cases h1:(dg b).length = 1
  · obtain ⟨y,e,hy⟩:=dg_one h1
    obtain ⟨u,xs,l1,l2,l3,l4⟩:=short_loop n (dg a) y (by omega) (by omega) (by omega)
    rw [e,if_pos (show ([y]:List UInt64).length = 1 from rfl),l1,obind]
    simp only
    rw [trimmed_ok n false _ (by simp only [List.length_cons,List.length_nil]; omega) (by simp),obind]
    rw [val_dg,hy] at l3
    rw [hy] at l4
    have hu:=(Nat.div_mod_unique (a:=a) (b:=b) (c:=u.toNat) (d:=val xs) (by omega)).2 ⟨by rw [Nat.mul_comm]; omega,l4⟩
    refine ⟨xs,?_,by omega,hu.1.symm⟩
    simp only [val,Nat.mul_zero,Nat.add_zero]
    rw [hu.2]
  · rw [if_neg h1,length_ok n a (by omega),obind,length_ok n b (by omega),obind]
    have bla:=bln_dg a
    have blb:=bln_dg b
    rw [chkI (by omega) (by omega),obind]
    have hbp:=bln_pos h0
    have hbg:=bln_ge h0
    have hal:=bln_lt a
    by_cases hK:(bln a:Int) - bln b < 0
    · obtain ⟨m,rfl⟩:∃ m,n = m + 1:=⟨n - 1,by omega⟩
      have hab:a < b:=Nat.lt_of_lt_of_le hal (Nat.le_trans (Nat.pow_le_pow_right (by decide) (by omega)) hbg)
      rw [loopF_succ]
      unfold wide_divided_l2
      simp only
      rw [if_neg (by omega),obind]
      refine ⟨_,by rw [Nat.mod_eq_of_lt hab],by simp,?_⟩
      rw [Nat.div_eq_of_lt hab]
      exact val_zero _ fun x hx=>(List.mem_replicate.1 hx).2
    · obtain ⟨K,hKe⟩:∃ K:Nat,(bln a:Int) - bln b = K:=⟨bln a - bln b,by omega⟩
      rw [hKe]
      have hstart:a < b * 2 ^ (K + 1):=by
        have h2:2 ^ bln a ≤ b * 2 ^ (K + 1):=by
          have:2 ^ (bln b - 1) * 2 ^ (K + 1) ≤ b * 2 ^ (K + 1):=Nat.mul_le_mul_right _ hbg
          rw [← Nat.pow_add,show bln b - 1 + (K + 1) = bln a by omega] at this
          exact this
        omega
      have hh:=loop_ok (B:=wide_divided_l2 n (dg b)) (fun s:List UInt64 × Int × List UInt64=>(s.2.1 + 1).toNat)
        (fun s=>(-1 ≤ s.2.1∧s.2.1 ≤ K)∧s.2.2.length = (dg a).length∧∃ R,s.1 = dg R∧R ≤ a∧a = b * val s.2.2 + R∧R < b * 2 ^ (s.2.1 + 1).toNat∧2 ^ (s.2.1 + 1).toNat ∣ val s.2.2)
        (fun r=>r.1.length = (dg a).length∧val r.1 = a / b∧r.2 = dg (a % b)) ?_ n (dg a,(K:Int),List.replicate (dg a).length 0)
        ⟨by simp only; omega,by simp,a,rfl,Nat.le_refl _,?_,?_,?_⟩ (by simp only; omega)
      · obtain ⟨⟨q,r⟩,e,e1,e2,e3⟩:=hh
        simp only at e1 e2 e3
        rw [e,obind]
        simp only
        rw [e3]
        exact ⟨q,rfl,by omega,e2⟩
      · rintro ⟨rw_,z,q⟩ J ⟨a1,a2,R,rfl,a3,a4,a5,a6⟩ hJ
        simp only at a1 a2 a3 a4 a5 a6 hJ
        unfold wide_divided_l2
        simp only
        by_cases hz:0 ≤ z
        · obtain ⟨k,rfl⟩:∃ k:Nat,z = k:=⟨z.toNat,by omega⟩
          have e0:(((k:Int) + 1).toNat) = k + 1:=by omega
          rw [e0] at a5 a6
          have eN:(((k:Int) - 1 + 1)).toNat = k:=by omega
          have hRl:=dg_mono a3
          obtain ⟨st1,st2⟩:=div_step a4 a5 a6
          rw [if_pos hz,moved_ok n (dg b) k (by omega) (by omega) (by omega),obind,val_dg]
          obtain ⟨c,ec,c1,c2⟩:=compared_ok n (dg R) (dg (b * 2 ^ k)) (dg_nm _) (dg_nm _) (by omega) (by omega)
          rw [val_dg,val_dg] at c1 c2
          rw [ec,obind]
          unfold jn
          simp only
          by_cases hc:0 ≤ c
          · have hge:b * 2 ^ k ≤ R:=by omega
            obtain ⟨g1,g2,g3⟩:=st1 hge
            obtain ⟨xs,t1,t2,t3⟩:=taken_ok n (dg R) (dg (b * 2 ^ k)) (dg_mono hge) (by rw [val_dg,val_dg]; exact hge) (by omega) (by omega)
            rw [val_dg,val_dg] at t3
            have hkq:k / 64 < q.length:=by
              have h2:2 ^ k < 2 ^ (64 * (dg a).length):=by
                have h3:=val_lt (dg a)
                rw [val_dg,pow64] at h3
                have h4:1 * 2 ^ k ≤ b * 2 ^ k:=Nat.mul_le_mul_right _ (by omega)
                omega
              have h5:=(Nat.pow_lt_pow_iff_right (by decide:1 < 2)).1 h2
              omega
            have hbit:=bit_add hkq a6 (shl_one (Nat.mod_lt _ (by decide)))
            rw [if_pos hc,t1,obind,trimmed_ok n false xs (by omega) (by omega),obind,quo64 k (by omega),obind,idxN hkq,obind,rem64,obind,natOf_nat,obind,putN _ hkq,obind]
            simp only
            rw [chkI (by omega) (by omega),obind,t3]
            refine hJ (_,_,_) ⟨by simp only; omega,by simpa using a2,R - b * 2 ^ k,rfl,by omega,?_,?_,?_⟩ (by simp only; omega)
            · simp only; rw [hbit]; exact g1
            · simp only; rw [eN]; exact g2
            · simp only; rw [eN,hbit]; exact g3
          · rw [if_neg hc,chkI (by omega) (by omega),obind]
            refine hJ (_,_,_) ⟨by simp only; omega,a2,R,rfl,a3,a4,?_,?_⟩ (by simp only; omega)
            · simp only; rw [eN]; omega
            · simp only; rw [eN]; exact st2 (by omega)
        · rw [if_neg hz]
          have e0:(z + 1).toNat = 0:=by omega
          rw [e0,Nat.pow_zero,Nat.mul_one] at a5
          have hu:=(Nat.div_mod_unique (a:=a) (b:=b) (c:=R) (d:=val q) (by omega)).2 ⟨by omega,a5⟩
          exact ⟨_,rfl,a2,hu.1.symm,by simp only; rw [hu.2]⟩
      · simp only
        rw [val_zero _ fun x hx=>(List.mem_replicate.1 hx).2]; omega
      · simp only
        rw [show (((K:Int) + 1).toNat) = K + 1 by omega]
        exact hstart
      · simp only
        rw [val_zero _ fun x hx=>(List.mem_replicate.1 hx).2]
        exact Nat.dvd_zero _
theorem commonG (n l:Nat) (a b:Int) (ha:Fit l a) (hb:Fit l b) (hl:l < 5000) (hn:18446744073709551616 < n):wide_Long_Common_p n (L a) (L b) = some (L (Nat.gcd a.natAbs b.natAbs:Nat)):=by
  obtain ⟨M,hM⟩:∃ M:Nat,M = 64 * l:=⟨_,rfl⟩
  have hx2:a.natAbs < 2 ^ M:=by unfold Fit at ha; rw [pow64,← hM] at ha; exact ha
  have hy2:b.natAbs < 2 ^ M:=by unfold Fit at hb; rw [pow64,← hM] at hb; exact hb
  have he:=eu_le hx2 hy2
  have h:=loop_ok (B:=wide_Long_Common_l1 n) (fun s:List UInt64 × List UInt64=>eu (val s.1) (val s.2)) (fun s=>∃ x y,s = (dg x,dg y)∧(dg x).length < 10000∧(dg y).length < 10000∧Nat.gcd x y = Nat.gcd a.natAbs b.natAbs)
    (fun r=>r = dg (Nat.gcd a.natAbs b.natAbs)) ?_ n (dg a.natAbs,dg b.natAbs) ⟨_,_,rfl,by have:=ha.len; omega,by have:=hb.len; omega,rfl⟩ (by simp only [val_dg]; omega)
  · obtain ⟨r,h1,rfl⟩:=h
    unfold wide_Long_Common_p
    rw [show (L a).fm = dg a.natAbs from rfl,show (L b).fm = dg b.natAbs from rfl,h1,obind]
    unfold L
    simp
  · rintro _ J ⟨x,y,rfl,h1,h2,h3⟩ hJ
    unfold wide_Long_Common_l1
    simp only
    by_cases h0:y = 0
    · subst h0
      rw [if_neg (by rw [dg0]; simp)]
      exact ⟨_,rfl,by rw [← h3,Nat.gcd_zero_right]⟩
    · obtain ⟨q,e1,_,_⟩:=dividedG n x y h0 h1 h2 hn
      have hm:x % y < y:=Nat.mod_lt _ (by omega)
      have hyl:0 < (dg y).length:=by
        rcases e:dg y with _ | ⟨z,zs⟩
        · have:=val_dg y; rw [e] at this; exact absurd this.symm h0
        · simp
      rw [if_pos hyl,e1,obind]
      simp only
      refine hJ (dg y,dg (x % y)) ⟨_,_,rfl,h2,Nat.lt_of_le_of_lt (dg_mono (Nat.le_of_lt hm)) h2,?_⟩ (by simp only [val_dg]; exact eu_step h0)
      rw [← h3,Nat.gcd_comm x y,Nat.gcd_rec y x,Nat.gcd_comm]
end Go.Proofs.YtfccehcnajelgaaGreatDoor
