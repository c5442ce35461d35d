/- Plain laws: the reference's digits divided; its fractions of small numbers that are not negative. No program in sight but the printed functions. -/
import Derived.Test.YtfccehcnajelgaaGreatDoorQARa
import Derived.Test.YtfccehcnajelgaaGreatDoorQAVa
namespace Go.Proofs.YtfccehcnajelgaaGreatDoor
open Go
theorem shlS_all:(List.range 32).all (fun k=>decide (shlS 1 k = (2:Int) ^ k)) = true:=by kernel_rfl
theorem shlS_ok {k:Nat} (h:k < 32):shlS 1 k = (2:Int) ^ k:=of_decide_eq_true (List.all_eq_true.1 shlS_all k (List.mem_range.2 h))
theorem pow2_int (k:Nat):(2:Int) ^ k = ((2 ^ k:Nat):Int):=by norm_cast
theorem bit_ok {x:Int} {k:Nat} (hx:0 ≤ x) (hk:k < 32):remI (shrS x k) 2 = some ((x.toNat / 2 ^ k % 2:Nat):Int):=by
  obtain ⟨m,rfl⟩:=Int.eq_ofNat_of_zero_le hx
  unfold shrS
  rw [Nat.min_eq_left (by omega),pow2_int,Int.fdiv_eq_ediv_of_nonneg _ (Int.natCast_nonneg _),remI_ok (by decide),← Int.natCast_ediv,Int.tmod_eq_emod_of_nonneg (Int.natCast_nonneg _),Int.toNat_natCast]
  congr 1
theorem pow32 (w:Nat):4294967296 ^ w = 2 ^ (32 * w):=by
  rw [show (4294967296:Nat) = 2 ^ 32 from rfl,← Nat.pow_mul]
theorem dv_div {xs:List Int} (h:Dig xs) (i:Nat) (hi:i ≤ xs.length):dv xs / 4294967296 ^ i = dv (xs.drop i):=by
  have h1:=dv_lt (xs:=xs.take i) fun x hx=>h x (List.mem_of_mem_take hx)
  rw [List.length_take,Nat.min_eq_left hi] at h1
  have e:dv xs = dv (xs.take i) + 4294967296 ^ i * dv (xs.drop i):=by
    conv=>lhs; rw [← List.take_append_drop i xs,dv_app,List.length_take,Nat.min_eq_left hi]
  rw [e,Nat.add_mul_div_left _ _ (Nat.pow_pos (by decide)),Nat.div_eq_of_lt h1,Nat.zero_add]
theorem digit_bit (a i k:Nat) (hk:k < 32) (hi:i < (rd a).length):(rd a)[i].toNat / 2 ^ k % 2 = a / 2 ^ (32 * i + k) % 2:=by
  have h1:=dv_div (rd_dig a) i (by omega)
  rw [dv_rd,List.drop_eq_getElem_cons hi] at h1
  simp only [dv] at h1
  rw [Nat.pow_add,← pow32,← Nat.div_div_eq_div_mul,h1]
  have e:(4294967296:Nat) = 2 ^ k * (2 * 2 ^ (31 - k)):=by
    rw [← Nat.pow_succ', ← Nat.pow_add,show k + (31 - k).succ = 32 by omega]
  generalize dv (List.drop (i + 1) (rd a)) = r
  rw [e,Nat.mul_assoc,Nat.add_mul_div_left _ _ (Nat.two_pow_pos k),Nat.mul_assoc]
  omega
theorem dig_dvd {q:List Int} {i k:Nat} (hd:Dig q) (h:i < q.length) (hk:k < 32) (hv:2 ^ (32 * i + k + 1) ∣ dv q):2 ^ (k + 1) ∣ q[i].toNat:=by
  have hs:=dv_split q h
  have hl:=dv_lt (xs:=q.take i) fun x hx=>hd x (List.mem_of_mem_take hx)
  rw [List.length_take,Nat.min_eq_left (by omega)] at hl
  have e1:2 ^ (32 * i + k + 1) = 4294967296 ^ i * 2 ^ (k + 1):=by rw [pow32,← Nat.pow_add]; congr 1
  have e2:(4294967296:Nat) = 2 ^ (k + 1) * 2 ^ (31 - k):=by rw [← Nat.pow_add,show k + 1 + (31 - k) = 32 by omega]
  have h0:dv (q.take i) = 0:=by
    have h1:4294967296 ^ i ∣ dv q:=Nat.dvd_trans ⟨_,e1⟩ hv
    rw [hs,Nat.pow_succ,Nat.mul_assoc,Nat.add_assoc,← Nat.mul_add] at h1
    have h2:=(Nat.dvd_add_left (Nat.dvd_mul_right ..)).1 h1
    exact Nat.eq_zero_of_dvd_of_lt h2 hl
  rw [e1,hs,h0,Nat.zero_add,show (4294967296:Nat) ^ (i + 1) = 4294967296 ^ i * 4294967296 from Nat.pow_succ ..,Nat.mul_assoc (4294967296 ^ i) 4294967296,← Nat.mul_add] at hv
  have h4:=Nat.dvd_of_mul_dvd_mul_left (Nat.pow_pos (by decide)) hv
  have h5:2 ^ (k + 1) ∣ 4294967296 * dv (q.drop (i + 1)):=Nat.dvd_trans ⟨_,e2⟩ (Nat.dvd_mul_right ..)
  exact (Nat.dvd_add_left h5).1 h4
theorem dig_set {q:List Int} {i:Nat} {v:Int} (h:Dig q) (hv:0 ≤ v∧v < 4294967296):Dig (q.set i v):=fun x hx=>(List.mem_or_eq_of_mem_set hx).elim (h x) fun e=>e ▸ hv
theorem digit_room {t k:Nat} (hk:k < 32) (ht:t < 4294967296) (hd:2 ^ (k + 1) ∣ t):t + 2 ^ k < 4294967296:=by
  obtain ⟨c,rfl⟩:=hd
  have e2:(4294967296:Nat) = 2 ^ (k + 1) * 2 ^ (31 - k):=by rw [← Nat.pow_add,show k + 1 + (31 - k) = 32 by omega]
  rw [e2] at ht
  have h1:=Nat.lt_of_mul_lt_mul_left ht
  have h2:2 ^ (k + 1) * (c + 1) ≤ 2 ^ (k + 1) * 2 ^ (31 - k):=Nat.mul_le_mul_left _ h1
  rw [← e2,Nat.mul_add,Nat.pow_succ] at h2
  have:=Nat.two_pow_pos k
  rw [Nat.pow_succ]
  omega
theorem parts_in (n:Nat) (a b i:Nat) (q:List Int) (hb:(rd b).length < 10000) (hi:i < (rd a).length) (hq:i < q.length) (hqd:Dig q) (Q R:Nat) (h1:dv q = 2 ^ (32 * i + 32) * Q) (h2:a / 2 ^ (32 * i + 32) = b * Q + R) (h3:R < b) (hn:20000 < n) :
    ∃ q' Q' R', loopF (wardmoteref01_parts_l1 n (rd a) (i:Int) (rd b)) n (rd R,31,q) = some (rd R', q')∧q'.length = q.length∧Dig q' ∧dv q' = 2 ^ (32 * i) * Q' ∧a / 2 ^ (32 * i) = b * Q' + R' ∧R' < b:=by
  have hh:=loop_ok (B:=wardmoteref01_parts_l1 n (rd a) (i:Int) (rd b)) (fun s:List Int × Int × List Int=>(s.2.1 + 1).toNat)
    (fun s=>(-1 ≤ s.2.1∧s.2.1 ≤ 31)∧s.2.2.length = q.length∧Dig s.2.2∧∃ Q R,s.1 = rd R∧dv s.2.2 = 2 ^ (32 * i + (s.2.1 + 1).toNat) * Q∧a / 2 ^ (32 * i + (s.2.1 + 1).toNat) = b * Q + R∧R < b)
    (fun y=>y.2.length = q.length∧Dig y.2∧∃ Q R,y.1 = rd R∧dv y.2 = 2 ^ (32 * i) * Q∧a / 2 ^ (32 * i) = b * Q + R∧R < b) ?_ n (rd R,31,q) ⟨by simp,rfl,hqd,Q,R,rfl,h1,h2,h3⟩ (by simp only; omega)
  · obtain ⟨⟨x,q'⟩,e,e1,e2,Q', R', e3,e4,e5,e6⟩:=hh
    simp only at e3
    subst e3
    exact ⟨q', Q', R', e,e1,e2,e4,e5,e6⟩
  · rintro ⟨xs,z,q⟩ J ⟨a1,a2,a3,Q,R,rfl,a4,a5,a6⟩ hJ
    simp only at a1 a2 a3 a4 a5 hJ
    unfold wardmoteref01_parts_l1
    simp only
    by_cases hz:0 ≤ z
    · obtain ⟨k,rfl⟩:∃ k:Nat,z = k:=⟨z.toNat,by omega⟩
      have hk:k < 32:=by omega
      have e0:(((k:Int) + 1).toNat) = k + 1:=by omega
      rw [e0] at a4 a5
      have hdi:=rd_dig a (rd a)[i] (List.getElem_mem _)
      have hRl:=rd_mono (Nat.le_of_lt a6)
      rw [if_pos hz,idx_ok (by omega) (by rw [Int.toNat_natCast]; exact hi),obind,show natOf (k:Int) = some k from by unfold natOf; rw [if_pos hz,Int.toNat_natCast],obind]
      simp only [Int.toNat_natCast]
      rw [bit_ok hdi.1 hk,obind,digit_bit a i k hk hi,twiceR_ok n _ _ (rd_dig R) (by omega) (by omega) (by omega),obind,dv_rd,Int.toNat_natCast]
      have hbit:a / 2 ^ (32 * i + k) % 2 < 2:=Nat.mod_lt _ (by decide)
      have hab:a / 2 ^ (32 * i + k) = b * (2 * Q) + (2 * R + a / 2 ^ (32 * i + k) % 2):=by
        have:a / 2 ^ (32 * i + (k + 1)) = a / 2 ^ (32 * i + k) / 2:=by rw [← Nat.add_assoc,Nat.pow_succ,Nat.div_div_eq_div_mul]
        rw [this] at a5
        rw [Nat.mul_left_comm]; omega
      have hdq:dv q = 2 ^ (32 * i + k) * (2 * Q):=by rw [a4,← Nat.add_assoc,Nat.pow_succ,Nat.mul_assoc]
      generalize a / 2 ^ (32 * i + k) % 2 = t at hbit hab ⊢
      obtain ⟨c,ec,c1,c2⟩:=order_ok n (rd (2 * R + t)) (rd b) (rd_dig _) (rd_dig _) (rd_nr _) (rd_nr _) (by have:=rd_len (m:=2 * R + t) (l:=(rd b).length + 1) (by have:=dv_lt (rd_dig b); rw [dv_rd] at this; rw [Nat.pow_succ]; omega); omega) (by have:=rd_len (m:=2 * R + t) (l:=(rd b).length + 1) (by have:=dv_lt (rd_dig b); rw [dv_rd] at this; rw [Nat.pow_succ]; omega); omega)
      rw [dv_rd,dv_rd] at c1 c2
      have hl2:(rd (2 * R + t)).length < 10002:=by have:=rd_len (m:=2 * R + t) (l:=(rd b).length + 1) (by have:=dv_lt (rd_dig b); rw [dv_rd] at this; rw [Nat.pow_succ]; omega); omega
      rw [ec,obind]
      unfold jn
      simp only
      have eN:(((k:Int) - 1 + 1)).toNat = k:=by omega
      by_cases hc:0 ≤ c
      · have hge:b ≤ 2 * R + t:=by omega
        have hdd:=dig_dvd a3 (by omega:i < q.length) hk (by rw [a4]; exact Nat.dvd_mul_right ..)
        have hqi:=a3 (q[i]'(by omega)) (List.getElem_mem _)
        have hroom:=digit_room hk (by omega) hdd
        have hk2:(2:Nat) ^ k < 4294967296:=by have:=Nat.zero_le (q[i]'(by omega)).toNat; omega
        rw [if_pos hc,lessR_ok n _ _ (rd_dig _) (rd_dig _) (rd_mono hge) (by rw [dv_rd,dv_rd]; exact hge) (by omega) (by omega),obind,dv_rd,dv_rd,idx_ok (by omega) (by rw [Int.toNat_natCast]; omega),obind]
        simp only [Int.toNat_natCast]
        rw [obind,shlS_ok hk,pow2_int,chkI (by omega) (by omega),obind,put_ok _ (by omega),obind,chkI (by omega) (by omega),obind]
        refine hJ (_,_,_) ⟨by simp only; omega,by simpa using a2,dig_set a3 (by omega),2 * Q + 1,2 * R + t - b,rfl,?_,?_,by omega⟩ (by simp only; omega)
        · simp only
          rw [eN]
          have hp:=dv_put ((q[i]'(by omega)) + ((2 ^ k:Nat):Int)) (by omega:i < q.length)
          rw [show ((q[i]'(by omega)) + ((2 ^ k:Nat):Int)).toNat = (q[i]'(by omega)).toNat + 2 ^ k by omega,Nat.mul_add] at hp
          have e5:2 ^ (32 * i + k) = 4294967296 ^ i * 2 ^ k:=by rw [pow32,← Nat.pow_add]
          rw [Nat.mul_add,Nat.mul_one,← hdq,e5]
          omega
        · simp only
          rw [eN,hab,Nat.mul_add]; omega
      · rw [if_neg hc,chkI (by omega) (by omega),obind]
        refine hJ (_,_,_) ⟨by simp only; omega,a2,a3,2 * Q,2 * R + t,rfl,?_,?_,by omega⟩ (by simp only; omega)
        · simp only; rw [eN]; exact hdq
        · simp only; rw [eN]; exact hab
    · rw [if_neg hz]
      have e0:(z + 1).toNat = 0:=by omega
      rw [e0] at a4 a5
      exact ⟨_,rfl,a2,a3,Q,R,rfl,a4,a5,a6⟩
theorem partsD_ok (n:Nat) (a b:Nat) (h0:b ≠ 0) (ha:(rd a).length < 10000) (hb:(rd b).length < 10000) (hn:20000 < n):wardmoteref01_parts_p n (rd a) (rd b) = some (rd (a / b),rd (a % b)):=by
  have hbn:rd b ≠ []:=fun e=>h0 (rd_nil.1 e)
  have hbp:=dv_ge (rd_dig b) (rd_nr b) hbn
  have hal:=dv_lt (rd_dig a)
  rw [dv_rd] at hbp hal
  have hb1:1 ≤ (rd b).length:=by
    rcases h:rd b with _ | ⟨x,xs⟩
    · exact absurd h hbn
    · simp
  unfold wardmoteref01_parts_p
  by_cases hc:(((rd a).length:Nat):Int) ≤ (((rd b).length:Nat):Int) - 1
  · have hab:a < b:=Nat.lt_of_lt_of_le hal (Nat.le_trans (Nat.pow_le_pow_right (by decide) (by omega)) hbp)
    rw [if_pos hc,appS _ _ (by simp only [List.length_nil]; omega),obind,List.nil_append,Nat.div_eq_of_lt hab,Nat.mod_eq_of_lt hab,rd0]
  · obtain ⟨lq,hlq⟩:∃ lq:Nat,(((rd a).length:Nat):Int) - ((((rd b).length:Nat):Int) - 1) = lq:=⟨(rd a).length - ((rd b).length - 1),by omega⟩
    have hdr:(rd a).drop lq = rd (a / 2 ^ (32 * lq)):=by
      have h1:=dv_div (rd_dig a) lq (by omega)
      rw [dv_rd,pow32] at h1
      rw [h1]
      refine (rd_dv (fun x hx=>rd_dig a x (List.mem_of_mem_drop hx)) fun x hx=>?_).symm
      rw [List.getLast?_drop] at hx
      split at hx
      · cases hx
      · exact rd_nr a x hx
    have hR:a / 2 ^ (32 * lq) < b:=by
      rw [← pow32]
      refine Nat.lt_of_lt_of_le ?_ hbp
      refine Nat.div_lt_of_lt_mul ?_
      rw [← Nat.pow_add,show lq + ((rd b).length - 1) = (rd a).length by omega]
      exact hal
    rw [if_neg hc,hlq,mk_ok _ _ (by omega),obind]
    rw [show cut (rd a) (lq:Int) (((rd a).length:Nat):Int) = some ((rd a).drop lq) from by unfold cut; rw [if_pos ⟨by omega,by omega,by omega⟩,Int.toNat_natCast,Int.toNat_natCast,List.take_length],obind,appS _ _ (by rw [List.length_drop]; simp only [List.length_nil]; omega),obind,List.nil_append,hdr,List.length_replicate]
    have hh:=loop_ok (B:=wardmoteref01_parts_l2 n (rd a) (rd b)) (fun s:List Int × Int × List Int=>(s.2.1 + 1).toNat)
      (fun s=>(-1 ≤ s.2.1∧s.2.1 < lq)∧s.2.2.length = lq∧Dig s.2.2∧∃ Q R,s.1 = rd R∧dv s.2.2 = 2 ^ (32 * (s.2.1 + 1).toNat) * Q∧a / 2 ^ (32 * (s.2.1 + 1).toNat) = b * Q + R∧R < b)
      (fun y=>y.1.length = lq∧Dig y.1∧dv y.1 = a / b∧y.2 = rd (a % b)) ?_ n (rd (a / 2 ^ (32 * lq)),(lq:Int) - 1,List.replicate lq 0)
      ⟨by simp only; omega,by simp,fun x hx=>by rw [(List.mem_replicate.1 hx).2]; decide,0,a / 2 ^ (32 * lq),rfl,by simp only [Nat.mul_zero]; exact dv_zero _ fun x hx=>(List.mem_replicate.1 hx).2,by simp only [Nat.mul_zero,Nat.zero_add]; congr 2; omega,hR⟩ (by simp only; omega)
    · obtain ⟨⟨q,r⟩,e,e1,e2,e3,e4⟩:=hh
      simp only at e1 e2 e3 e4
      rw [e,obind]
      simp only
      rw [cutR_ok n q e2 (by omega) (by omega),obind,e3,e4]
    · rintro ⟨xs,z,q⟩ J ⟨a1,a2,a3,Q,R,rfl,a4,a5,a6⟩ hJ
      simp only at a1 a2 a3 a4 a5 hJ
      unfold wardmoteref01_parts_l2
      simp only
      by_cases hz:0 ≤ z
      · obtain ⟨k,rfl⟩:∃ k:Nat,z = k:=⟨z.toNat,by omega⟩
        have e0:32 * (((k:Int) + 1).toNat) = 32 * k + 32:=by omega
        rw [e0] at a4 a5
        obtain ⟨q', Q', R', e,e1,e2,e3,e4,e5⟩:=parts_in n a b k q hb (by omega) (by omega) a3 Q R a4 a5 a6 hn
        rw [if_pos hz,e,obind]
        simp only
        rw [chkI (by omega) (by omega),obind]
        have eN:(((k:Int) - 1 + 1)).toNat = k:=by omega
        refine hJ (_,_,_) ⟨by simp only; omega,by simp only; omega,e2,Q', R', rfl,by simp only; rw [eN]; exact e3,by simp only; rw [eN]; exact e4,e5⟩ (by simp only; omega)
      · rw [if_neg hz]
        have e0:(z + 1).toNat = 0:=by omega
        rw [e0,Nat.mul_zero,Nat.pow_zero] at a4 a5
        rw [Nat.div_one] at a5
        rw [Nat.one_mul] at a4
        have hu:=(Nat.div_mod_unique (a:=a) (b:=b) (c:=R) (d:=Q) (by omega)).2 ⟨by omega,a6⟩
        exact ⟨_,rfl,a2,a3,by simp only; rw [a4,hu.1],by simp only; rw [hu.2]⟩
theorem divisor_ok (n:Nat) (x y:Nat) (s t:Bool) (hx:(rd x).length < 10000) (hy:(rd y).length < 10000) (hn:18446744073709551616 < n):wardmoteref01_Divisor_p n ⟨s,rd x⟩ ⟨t,rd y⟩ = some ⟨false,rd (Nat.gcd x y)⟩:=by
  have hxl:=dv_lt (rd_dig x)
  have hyl:=dv_lt (rd_dig y)
  rw [dv_rd,pow32] at hxl hyl
  obtain ⟨M,hM⟩:∃ M:Nat,M = 320000:=⟨_,rfl⟩
  have hx2:x < 2 ^ M:=Nat.lt_of_lt_of_le hxl (Nat.pow_le_pow_right (by decide) (by omega))
  have hy2:y < 2 ^ M:=Nat.lt_of_lt_of_le hyl (Nat.pow_le_pow_right (by decide) (by omega))
  have he:=eu_le hx2 hy2
  have hh:=loop_ok (B:=wardmoteref01_Divisor_l1 n) (fun s:List Int × List Int=>eu (dv s.1) (dv s.2)) (fun s=>∃ a b,s = (rd a,rd b)∧(rd a).length < 10000∧(rd b).length < 10000∧Nat.gcd a b = Nat.gcd x y)
    (fun r=>r = rd (Nat.gcd x y)) ?_ n (rd x,rd y) ⟨_,_,rfl,hx,hy,rfl⟩ (by simp only [dv_rd]; omega)
  · obtain ⟨r,h1,rfl⟩:=hh
    unfold wardmoteref01_Divisor_p
    simp only
    rw [h1,obind]
  · rintro _ J ⟨a,b,rfl,h1,h2,h3⟩ hJ
    unfold wardmoteref01_Divisor_l1
    simp only
    by_cases h0:b = 0
    · subst h0
      rw [if_neg (by rw [rd0]; simp)]
      exact ⟨_,rfl,by rw [← h3,Nat.gcd_zero_right]⟩
    · have hm:a % b < b:=Nat.mod_lt _ (by omega)
      have hbl:0 < (rd b).length:=by
        rcases h:rd b with _ | ⟨z,zs⟩
        · exact absurd (rd_nil.1 h) h0
        · simp
      rw [if_pos hbl,partsD_ok n a b h0 h1 h2 (by omega),obind]
      simp only
      refine hJ (rd b,rd (a % b)) ⟨_,_,rfl,h2,Nat.lt_of_le_of_lt (rd_mono (Nat.le_of_lt hm)) h2,?_⟩ (by simp only [dv_rd]; exact eu_step h0)
      rw [← h3,Nat.gcd_comm a b,Nat.gcd_rec b a,Nat.gcd_comm]
end Go.Proofs.YtfccehcnajelgaaGreatDoor
