/- Plain laws: the reference's fractions of any integers: checked, added, multiplied, divided. No program in sight but the printed functions. -/
import Derived.Test.YtgejkdheojkfiaaGreatDoorQDVg
namespace Go.Proofs.YtgejkdheojkfiaaGreatDoor
open Go
set_option maxRecDepth 8000
def RR (q:Rat):Tf:=⟨R8 q.num,R8 (q.den:Int)⟩
theorem Fw.r {z:Int} (h:Fw z):FtR 16 z:=by
 have h1:=h.1
 have h2:=h.2
 have h3:=FB_HB
 have hp:=HB_pos
 unfold FtR
 rw [<- FB_dig]
 omega
theorem FtR.of_le {l:Nat} {a b:Int} (h:FtR l b) (hl:a.natAbs <= b.natAbs):FtR l a:=Nat.lt_of_le_of_lt hl h
theorem Sm.r {z:Int} (h:Sm z):FtR 16 z:=(Fw_small h).r
theorem refIn_ok (n:Nat) (q:Rat) (h:FQ q) (hn:20000 < n):aE_p n (Sg q) = some (RR q):=by
 unfold aE_p Sg
 simp only
 rw [inR_ok n _ h.1 hn,obind,inR_ok n _ h.2 hn,obind]
 rfl
theorem one_ok (n g:Nat):cI_p n ⟨false,rd g⟩ = some (decide (g = 1)):=by
 unfold cI_p
 simp only
 by_cases h:(rd g).length = 1
 ·have hg:=dv_rd g
  rcases e:rd g with _ | ⟨x,_ | ⟨y,xs⟩⟩
  ·rw [e] at h; simp at h
  ·have hd:=rd_dig g x (by rw [e]; exact List.mem_singleton_self _)
   rw [e] at hg
   simp only [dv,Nat.mul_zero,Nat.add_zero] at hg
   rw [if_pos (show ([x]:List Int).length = 1 from rfl),show ([x]:List Int)[0]? = some x from rfl,obind]
   by_cases hx:x = 1
   ·rw [if_pos hx,decide_eq_true (by omega)]; rfl
   ·rw [if_neg hx,decide_eq_false (by omega)]
  ·rw [e] at h; simp at h
 ·rw [if_neg h,decide_eq_false]
  rintro rfl
  exact h (by rw [rd_ne (by decide),show (1:Nat) / 4294967296 = 0 from rfl,rd0]; rfl)
theorem refRightG (n:Nat) (x y:Int) (hx:Fw x) (hy:Fw y) (hn:18446744073709551616 < n):ah_p n ⟨Wg x,Wg y⟩ = some (decide (0 < y/\Nat.gcd x.natAbs y.natAbs = 1)):=by
 have lx:=hx.r.len
 have ly:=hy.r.len
 unfold ah_p
 simp only
 rw [inR_ok n _ hx (by omega),obind,inR_ok n _ hy (by omega),obind]
 by_cases h:y < 0
 ·rw [if_pos (show (R8 y).fc = true from decide_eq_true h),decide_eq_false (fun hc=>by omega)]
 ·rw [if_neg (show ¬ (R8 y).fc = true from by simpa [R8] using h)]
  by_cases h0:y = 0
  ·subst h0
   rw [if_neg (show ¬ 0 < (R8 0).fD.length from by show ¬ 0 < (rd 0).length; rw [rd0]; decide),decide_eq_false (fun hc=>by omega)]
  ·rw [if_pos (show 0 < (R8 y).fD.length from rd_pos.2 (by omega))]
   rw [show R8 x = ⟨decide (x < 0),rd x.natAbs⟩ from rfl,show R8 y = ⟨decide (y < 0),rd y.natAbs⟩ from rfl,divisor_ok n _ _ _ _ (by omega) (by omega) hn,obind,one_ok,obind]
   exact congrArg some (decide_eq_decide.2 ⟨fun hg=>⟨by omega,hg⟩,fun hg=>hg.2⟩)
theorem refRight_ok (n:Nat) (q:Rat) (h:FQ q) (hn:18446744073709551616 < n):ah_p n (Sg q) = some true:=by
 have hd:=q.den_pos
 have e:=refRightG n q.num (q.den:Int) h.1 h.2 hn
 rw [decide_eq_true (show 0 < (q.den:Int)/\Nat.gcd q.num.natAbs (q.den:Int).natAbs = 1 from ⟨by omega,q.reduced⟩)] at e
 exact e
open Classical in
theorem refOut_ok (n l:Nat) (q:Rat) (h1:FtR l q.num) (h2:FtR l (q.den:Int)) (hl:l < 10000) (hn:20000 < n):bA_p n (RR q) = some (if FQ q then (Sg q,0) else (noS,6)):=by
 unfold bA_p
 rw [show (RR q).fN = R8 q.num from rfl,show (RR q).fD = R8 (q.den:Int) from rfl,outG_ok n l _ h1 hl hn,obind,outG_ok n l _ h2 hl hn,obind]
 by_cases f1:Fw q.num
 ·by_cases f2:Fw (q.den:Int)
  ·rw [if_pos f1,if_pos f2,if_pos (show FQ q from ⟨f1,f2⟩)]; rfl
  ·rw [if_pos f1,if_neg f2,if_neg fun h:FQ q=>f2 h.2]; rfl
 ·rw [if_neg f1,if_neg fun h:FQ q=>f1 h.1]; rfl
theorem refLow (n l:Nat) (a b:Int) (h0:b ≠ 0) (ha:FtR l a) (hb:FtR l b) (hl:l < 10000) (hn:18446744073709551616 < n):bb_p n (R8 a) (R8 b) = some (RR (Rat.divInt a b))/\FtR l (Rat.divInt a b).num/\FtR l ((Rat.divInt a b).den:Int):=by
 obtain ⟨e,l1,l2⟩:=refLowest_ok n a b h0 (Nat.lt_of_le_of_lt ha.len hl) (Nat.lt_of_le_of_lt hb.len hl) hn
 exact ⟨e,ha.of_le l1,hb.of_le (by omega)⟩
theorem refPlus_ok (n:Nat) (a b:Rat) (ha:FQ a) (hb:FQ b) (hn:18446744073709551616 < n):bQ_p n (RR a) (RR b) = some (RR (a + b))/\FtR 33 (a + b).num/\FtR 33 ((a + b).den:Int):=by
 have d0:(a.den:Int) * b.den ≠ 0:=Int.mul_ne_zero FQ.ndnz FQ.ndnz
 have e:a + b = Rat.divInt (a.num * b.den + b.num * a.den) (a.den * b.den):=by
  conv=>lhs; rw [<- Rat.num_divInt_den a,<- Rat.num_divInt_den b]
  exact Rat.divInt_add_divInt _ _ FQ.ndnz FQ.ndnz
 have x1:=ha.1.r.mul hb.2.r
 have x2:=hb.1.r.mul ha.2.r
 have x3:=ha.2.r.mul hb.2.r
 obtain ⟨f1,f2,f3⟩:=refLow n 33 _ _ d0 (x1.add x2) (x3.mono (by decide)) (by decide) hn
 unfold bQ_p RR
 simp only
 rw [timesR_ok n 16 16 _ _ ha.1.r hb.2.r (by omega) (by decide),obind,timesR_ok n 16 16 _ _ hb.1.r ha.2.r (by omega) (by decide),obind,plusR_ok n 32 _ _ x1 x2 (by omega) (by decide),obind,timesR_ok n 16 16 _ _ ha.2.r hb.2.r (by omega) (by decide),obind,f1,obind,e]
 exact ⟨rfl,f2,f3⟩
theorem refTimes_ok (n:Nat) (a b:Rat) (ha:FQ a) (hb:FQ b) (hn:18446744073709551616 < n):cA_p n (RR a) (RR b) = some (RR (a * b))/\FtR 33 (a * b).num/\FtR 33 ((a * b).den:Int):=by
 have d0:(a.den:Int) * b.den ≠ 0:=Int.mul_ne_zero FQ.ndnz FQ.ndnz
 have e:a * b = Rat.divInt (a.num * b.num) (a.den * b.den):=by
  conv=>lhs; rw [<- Rat.num_divInt_den a,<- Rat.num_divInt_den b]
  exact Rat.divInt_mul_divInt _ _
 have x1:=ha.1.r.mul hb.1.r
 have x3:=ha.2.r.mul hb.2.r
 obtain ⟨f1,f2,f3⟩:=refLow n 33 _ _ d0 (x1.mono (by decide)) (x3.mono (by decide)) (by decide) hn
 unfold cA_p RR
 simp only
 rw [timesR_ok n 16 16 _ _ ha.1.r hb.1.r (by omega) (by decide),obind,timesR_ok n 16 16 _ _ ha.2.r hb.2.r (by omega) (by decide),obind,f1,obind,e]
 exact ⟨rfl,f2,f3⟩
open Classical in
theorem refAdd_ok (n:Nat) (a b:Rat) (ha:FQ a) (hb:FQ b) (hn:18446744073709551616 < n):cM_p n (Sg a) (Sg b) = some (if FQ (a + b) then (Sg (a + b),0) else (noS,6)):=by
 obtain ⟨f1,f2,f3⟩:=refPlus_ok n a b ha hb hn
 unfold cM_p
 rw [refRight_ok n a ha hn,obind,if_pos rfl,refRight_ok n b hb hn,obind,if_pos rfl,refIn_ok n a ha (by omega),obind,refIn_ok n b hb (by omega),obind,f1,obind,refOut_ok n 33 _ f2 f3 (by decide) (by omega),obind]
open Classical in
theorem refMul_ok (n:Nat) (a b:Rat) (ha:FQ a) (hb:FQ b) (hn:18446744073709551616 < n):cK_p n (Sg a) (Sg b) = some (if FQ (a * b) then (Sg (a * b),0) else (noS,6)):=by
 obtain ⟨f1,f2,f3⟩:=refTimes_ok n a b ha hb hn
 unfold cK_p
 rw [refRight_ok n a ha hn,obind,if_pos rfl,refRight_ok n b hb hn,obind,if_pos rfl,refIn_ok n a ha (by omega),obind,refIn_ok n b hb (by omega),obind,f1,obind,refOut_ok n 33 _ f2 f3 (by decide) (by omega),obind]
theorem refOfG (n:Nat) (a b:Int) (ha:Sm a) (hb:Sm b) (h0:b ≠ 0) (hn:18446744073709551616 < n):aX_p n a b = some (Sg (Rat.divInt a b)):=by
 obtain ⟨e,l1,l2⟩:=refLow n 16 a b h0 ha.r hb.r (by decide) hn
 obtain ⟨d1,d2⟩:=div_le (a:=a) h0
 have hq:FQ (Rat.divInt a b):=⟨Fw_small (by unfold Sm at *; omega),Fw_small (by unfold Sm at *; omega)⟩
 unfold aX_p df_p
 rw [if_neg h0]
 unfold cO_p
 rw [long1_ok n a ha (by omega),obind,long1_ok n b hb (by omega),obind,e,obind,obind,refOut_ok n 16 _ l1 l2 (by decide) (by omega),obind,if_pos hq,obind]
end Go.Proofs.YtgejkdheojkfiaaGreatDoor
/- Plain laws: totals, the ideal, deviations and the spread, of the program and of the reference. No program in sight but the printed functions. -/
namespace Go.Proofs.YtgejkdheojkfiaaGreatDoor
open Go
set_option maxRecDepth 8000
theorem FU_big:(18446744073709551616:Nat) < FU:=by decide
theorem of_sg {a b:Int} (ha:Sm a) (hb:Sm b) (h0:b ≠ 0):dJ_p FU a b = some (Sg (Rat.divInt a b),0):=by
 have hd:=div_le (a:=a) h0
 rw [share_of_ok FU a b ha hb h0 FU_big,Sh_Sg (by unfold Sm at *; omega) (by unfold Sm at *; omega)]
theorem bof_sg {a b:Int} (ha:Sm a) (hb:Sm b) (h0:b ≠ 0):aT_p FU a b = some (.ok (Sg (Rat.divInt a b))):=by
 unfold aT_p
 rw [of_sg ha hb h0,obind]
 rfl
theorem fqd {a b:Int} (h0:b ≠ 0) (ha:a.natAbs < 1152921504606846976) (hb:b.natAbs < 1152921504606846976):FQ (Rat.divInt a b):=
 (Bt.of (i:=60) (j:=60) h0 ha hb).fq (by decide) (by decide)
open Classical in
theorem counted_eq {r:Td} (hS:∀ u ∈ r.fo,Sm4 u) (k:Int):aB_p FU r k = some (if RV r then (if 1 <= k/\k <= 8 then .ok ⟨r,k⟩ else .error ⟨2⟩) else .error ⟨161⟩):=by
 unfold aB_p
 rw [checkroll_eq r hS,obind]
 by_cases hv:RV r
 ·rw [if_pos hv,if_pos hv]
  unfold cT_p
  rw [if_pos rfl,obind]
  unfold exc
  simp only
  by_cases h1:k < 1
  ·rw [if_pos h1,fail_arg,obind,if_neg (by omega)]
  ·rw [if_neg h1]
   by_cases h2:8 < k
   ·rw [decide_eq_true h2,fail_arg,obind,if_neg (by omega)]
   ·rw [decide_eq_false h2,fail_no', obind,if_pos (by omega)]
 ·rw [if_neg hv,if_neg hv]
  rfl
open Classical in
theorem countedR_eq {r:Td} (hS:∀ u ∈ r.fo,Sm4 u) (k:Int):bg_p FU r k = some (if RV r then (if 1 <= k/\k <= 8 then 0 else 2) else 161):=by
 unfold bg_p
 rw [checkrollR_eq r hS,obind]
 by_cases hv:RV r
 ·rw [if_pos hv,if_pos hv,if_pos rfl]
  by_cases h1:k < 1
  ·rw [if_pos h1,if_neg (by omega)]
  ·rw [if_neg h1]
   by_cases h2:8 < k
   ·rw [if_pos h2,if_neg (by omega)]
   ·rw [if_neg h2,if_pos (by omega)]
 ·rw [if_neg hv,if_neg hv,if_neg (by decide)]
def pe (us:List Tb):Nat -> Int
 | 0=>0
 | i + 1=>pe us i + (us[i]?.map (·.fv)).getD 0
theorem pe_succ {us:List Tb} {i:Nat} (h:i < us.length):pe us (i + 1) = pe us i + us[i].fv:=by
 show pe us i + (us[i]?.map (·.fv)).getD 0 = _
 rw [List.getElem?_eq_getElem h]; rfl
structure Lp (r:Td) (us:List Tb):Prop where
 l:Lnd r us
 n:r.fo.length <= 64
 p:∀ u ∈ us,0 <= u.fv/\u.fv <= 1000000000
theorem Lp.of {r:Td} {us:List Tb} (hv:RV r) (h:Lnd r us):Lp r us:=by
 refine ⟨h,hv.n.2,fun u hu=>?_⟩
 obtain ⟨ws,e,_⟩:=h.all
 obtain ⟨i,hi,rfl⟩:=List.getElem_of_mem hu
 have hi2:i < r.fo.length:=by rw [e,List.length_append]; omega
 have h1:=hv.u i hi2
 have e0:r.fo[i] = us[i]:=by simp only [e]; exact List.getElem_append_left hi
 rw [e0] at h1
 refine ⟨h1.1,Int.le_trans h1.2.1 ?_⟩
 split <;> omega
theorem Lp.m {r:Td} {us:List Tb} (h:Lp r us):us.length <= 64:=Nat.le_trans h.l.le h.n
theorem pe_bound {r:Td} {us:List Tb} (h:Lp r us):∀ i:Nat,0 <= pe us i/\pe us i <= (i:Int) * 1000000000
 | 0=>⟨Int.le_refl _,by simp [pe]⟩
 | i + 1=>by
  have ih:=pe_bound h i
  by_cases hi:i < us.length
  ·have h2:=h.p us[i] (List.getElem_mem hi)
   rw [pe_succ hi]; omega
  ·show 0 <= pe us i + (us[i]?.map (·.fv)).getD 0/\pe us i + (us[i]?.map (·.fv)).getD 0 <= _
   rw [List.getElem?_eq_none (by omega)]
   simp only [Option.map_none,Option.getD_none]; omega
theorem pe_all {r:Td} {us:List Tb} (h:Lp r us):0 <= pe us us.length/\pe us us.length <= 64000000000:=by
 have h1:=pe_bound h us.length; have h2:=h.m; omega
theorem people_eq {r:Td} {us:List Tb} (h:Lp r us) (k:Int):ay_p FU ⟨r,k⟩ = some (pe us us.length):=by
 have hF:=FU_lt
 have hn:=h.n
 have hle:=h.l.le
 have hh:=loop_ok (B:=ay_l1 FU ⟨r,k⟩) (fun s:Nat × Int=>r.fo.length - s.1) (fun s=>s.1 <= us.length/\s.2 = pe us s.1) (fun y=>y = .inl (pe us us.length) ∨ y = .inr (pe us us.length)) ?_ FU (0,0) ⟨Nat.zero_le _,rfl⟩ (by simp only; omega)
 ·obtain ⟨y,e,hy⟩:=hh
  unfold ay_p
  rw [e]
  rcases hy with rfl | rfl <;> rfl
 ·rintro ⟨i,z⟩ J ⟨a1,a2⟩ hJ
  simp only at a1 a2 hJ
  subst a2
  unfold ay_l1
  simp only
  by_cases hi:i < r.fo.length
  ·rw [if_pos hi,List.getElem?_eq_getElem hi,obind]
   rcases h.l.at hi with ⟨h2,e0,hw⟩ | ⟨h2,hw⟩
   ·have h3:=pe_bound h i; have h4:=pe_bound h (i + 1); have h5:=pe_succ h2
    rw [if_neg (by rw [hw]; decide),e0,<- h5,chkI (by omega) (by omega),obind]
    exact hJ _ ⟨by simp only; omega,rfl⟩ (by simp only; omega)
   ·rw [if_pos hw]
    exact ⟨_,rfl,.inl (by rw [show i = us.length by omega])⟩
  ·rw [if_neg hi]
   exact ⟨_,rfl,.inr (by rw [show i = us.length by omega])⟩
theorem peopleR_eq {r:Td} {us:List Tb} (hS:∀ u ∈ r.fo,Sm4 u) (hv:RV r) (h:Lp r us):bc_p FU r = some (pe us us.length):=by
 have hF:=FU_lt
 have hm:=h.m
 have hle:=h.l.le
 have hh:=loop_ok (B:=bc_l1 FU r) (fun s:Int × Int=>64 - s.2.toNat) (fun s=>0 <= s.2/\s.2 <= us.length/\s.1 = pe us s.2.toNat) (fun y=>y = pe us us.length) ?_ FU (0,0) ⟨by simp,by simp,rfl⟩ (by simp only; omega)
 ·obtain ⟨y,e,rfl⟩:=hh
  unfold bc_p
  rw [e]; rfl
 ·rintro ⟨z,j⟩ J ⟨a0,a1,a2⟩ hJ
  simp only at a0 a1 a2 hJ
  obtain ⟨i,rfl⟩:∃ i:Nat,j = (i:Int):=⟨j.toNat,by omega⟩
  simp only [Int.toNat_natCast] at a2 hJ
  subst a2
  unfold bc_l1
  simp only
  rw [land_eq hS hv h.l,obind]
  by_cases hi:(i:Int) < us.length
  ·have hi2:i < us.length:=by omega
   have hi3:i < r.fo.length:=by omega
   have h3:=pe_bound h i; have h4:=pe_bound h (i + 1); have h5:=pe_succ hi2
   have e0:r.fo[i] = us[i]:=by
    rcases h.l.at hi3 with ⟨_,e0,_⟩ | ⟨h6,_⟩
    ·exact e0
    ·omega
   rw [if_pos hi,idxK hi3,obind,e0,<- h5,chkI (by omega) (by omega),obind,chkI (by omega) (by omega),obind]
   exact hJ _ ⟨by simp only; omega,by simp only; omega,by simp only; rw [show ((i:Int) + 1).toNat = i + 1 by omega]⟩ (by simp only; omega)
  ·rw [if_neg hi]
   exact ⟨_,rfl,by rw [show i = us.length by omega]⟩
def tt (us:List Tb) (p:List Int) (k:Int):Nat -> List Int
 | 0=>List.replicate k.toNat 0
 | i + 1=>(tt us p k i).set (p[i]?.getD 0).toNat ((tt us p k i)[(p[i]?.getD 0).toNat]?.getD 0 + (us[i]?.map (·.fv)).getD 0)
theorem tt_len (us:List Tb) (p:List Int) (k:Int):∀ i,(tt us p k i).length = k.toNat
 | 0=>by simp [tt]
 | i + 1=>by show ((tt us p k i).set _ _).length = _; rw [List.length_set]; exact tt_len us p k i
theorem tt_succ {us:List Tb} {p:List Int} {k:Int} {i:Nat} (h1:i < us.length) (h2:i < p.length) (h3:p[i].toNat < (tt us p k i).length):tt us p k (i + 1) = (tt us p k i).set p[i].toNat ((tt us p k i)[p[i].toNat] + us[i].fv):=by
 show (tt us p k i).set (p[i]?.getD 0).toNat ((tt us p k i)[(p[i]?.getD 0).toNat]?.getD 0 + (us[i]?.map (·.fv)).getD 0) = _
 rw [List.getElem?_eq_getElem h1,List.getElem?_eq_getElem h2]
 simp only [Option.getD_some,Option.map_some]
 rw [List.getElem?_eq_getElem h3]; rfl
theorem tt_bound {r:Td} {us:List Tb} (h:Lp r us) (p:List Int) (k:Int):∀ i ≤ us.length,∀ x ∈ tt us p k i,0 <= x/\x <= pe us i
 | 0,_,x,hx=>by rw [List.eq_of_mem_replicate hx]; exact ⟨Int.le_refl _,Int.le_refl _⟩
 | i + 1,hi,x,hx=>by
  have ih:=tt_bound h p k i (by omega)
  have h2:=h.p us[i] (List.getElem_mem _)
  have h3:=pe_bound h i
  rw [pe_succ (by omega)]
  rcases List.mem_or_eq_of_mem_set hx with hx | hx
  ·have:=ih x hx; omega
  ·rw [hx,List.getElem?_eq_getElem (show i < us.length by omega)]
   simp only [Option.map_some,Option.getD_some]
   by_cases h4:(p[i]?.getD 0).toNat < (tt us p k i).length
   ·rw [List.getElem?_eq_getElem h4]
    have:=ih _ (List.getElem_mem h4)
    simp only [Option.getD_some]; omega
   ·rw [List.getElem?_eq_none (by omega)]
    simp only [Option.getD_none]; omega
open Classical in
theorem totals_eq {r:Td} {us:List Tb} (h:Lp r us) (p:List Int) (k:Int) (hk:1 <= k) (hk8:k <= 8) (hl:p.length <= 1000):ao_p FU ⟨r,k⟩ p = some (if Fits p us.length k then .ok (tt us p k us.length) else .error ⟨220⟩):=by
 have hF:=FU_lt
 have hn:=h.n
 have hle:=h.l.le
 unfold ao_p
 rw [check_eq h.l (by omega) p k hk hl,obind]
 by_cases hf:Fits p us.length k
 ·rw [if_pos hf,if_pos hf]
  unfold exc
  simp only
  rw [show mk k (0:Int) = some (List.replicate k.toNat 0) from if_pos ⟨by omega,by omega⟩,obind]
  have hh:=loop_ok (B:=ao_l1 FU ⟨r,k⟩ p) (fun s:Nat × List Int=>r.fo.length - s.1) (fun s=>s.1 <= us.length/\s.2 = tt us p k s.1) (fun y=>y = .inl (.ok (tt us p k us.length)) ∨ y = .inr (tt us p k us.length)) ?_ FU (0,List.replicate k.toNat 0) ⟨Nat.zero_le _,rfl⟩ (by simp only; omega)
  ·obtain ⟨y,e,hy⟩:=hh
   rw [e]
   rcases hy with rfl | rfl <;> rfl
  ·rintro ⟨i,xs⟩ J ⟨a1,a2⟩ hJ
   simp only at a1 a2 hJ
   subst a2
   unfold ao_l1
   simp only
   by_cases hi:i < r.fo.length
   ·rw [if_pos hi,List.getElem?_eq_getElem hi,obind]
    rcases h.l.at hi with ⟨h2,e0,hw⟩ | ⟨h2,hw⟩
    ·have hip:i < p.length:=by have:=hf.1; omega
     have hx:=hf.2.1 p[i] (List.getElem_mem hip)
     have hlen:=tt_len us p k i
     have h3:p[i].toNat < (tt us p k i).length:=by omega
     have hb:=tt_bound h p k i (by omega) _ (List.getElem_mem h3)
     have h4:=pe_bound h i
     have h5:=h.p us[i] (List.getElem_mem h2)
     rw [if_neg (by rw [hw]; decide),List.getElem?_eq_getElem hip,obind,idx_ok hx.1 h3,obind,e0,chkI (by omega) (by omega),obind,put_ok _ h3,obind,<- tt_succ h2 hip h3]
     exact hJ _ ⟨h2,rfl⟩ (by simp only; omega)
    ·rw [if_pos hw]
     exact ⟨_,rfl,.inl (by rw [show i = us.length by omega])⟩
   ·rw [if_neg hi]
    exact ⟨_,rfl,.inr (by rw [show i = us.length by omega])⟩
 ·rw [if_neg hf,if_neg hf]; rfl
open Classical in
theorem refTotals_eq {r:Td} {us:List Tb} (hS:∀ u ∈ r.fo,Sm4 u) (hv:RV r) (h:Lp r us) (p:List Int) (k:Int) (hk:1 <= k) (hk8:k <= 8) (hl:p.length <= 1000):aR_p FU r p k = some (if Fits p us.length k then (tt us p k us.length,0) else ([],220)):=by
 have hF:=FU_lt
 have hn:=h.n
 have hle:=h.l.le
 unfold aR_p
 rw [refCheck_eq hS p k hk hk8 us (fun _=>h.l),if_pos hv,obind]
 by_cases hf:Fits p us.length k
 ·rw [if_pos hf,if_pos hf,if_pos rfl,show mk k (0:Int) = some (List.replicate k.toNat 0) from if_pos ⟨by omega,by omega⟩,obind]
  have hpl:=hf.1
  have hh:=loop_ok (B:=aR_l1 FU p r) (fun s:Nat × List Int=>p.length - s.1) (fun s=>s.1 <= p.length/\s.2 = tt us p k s.1) (fun y=>y = tt us p k us.length) ?_ FU (0,List.replicate k.toNat 0) ⟨Nat.zero_le _,rfl⟩ (by simp only; omega)
  ·obtain ⟨y,e,rfl⟩:=hh
   rw [e]; rfl
  ·rintro ⟨i,xs⟩ J ⟨a1,a2⟩ hJ
   simp only at a1 a2 hJ
   subst a2
   unfold aR_l1
   simp only
   by_cases hip:i < p.length
   ·have h2:i < us.length:=by omega
    have hi:i < r.fo.length:=by omega
    have hx:=hf.2.1 p[i] (List.getElem_mem hip)
    have hlen:=tt_len us p k i
    have h3:p[i].toNat < (tt us p k i).length:=by omega
    have hb:=tt_bound h p k i (by omega) _ (List.getElem_mem h3)
    have h4:=pe_bound h i
    have h5:=h.p us[i] (List.getElem_mem h2)
    have e0:r.fo[i] = us[i]:=by
     rcases h.l.at hi with ⟨_,e0,_⟩ | ⟨h6,_⟩
     ·exact e0
     ·omega
    rw [if_pos hip,List.getElem?_eq_getElem hip,obind,idx_ok hx.1 h3,obind,List.getElem?_eq_getElem hi,obind,e0,chkI (by omega) (by omega),obind,put_ok _ h3,obind,<- tt_succ h2 hip h3]
    exact hJ _ ⟨hip,rfl⟩ (by simp only; omega)
   ·rw [if_neg hip]
    exact ⟨_,rfl,by rw [show i = us.length by omega]⟩
 ·rw [if_neg hf,if_neg hf,if_neg (by decide)]
structure Ns (l:List Int) (all k:Int):Prop where
 k1:1 <= k
 k8:k <= 8
 a1:0 < all
 a2:all <= 64000000000
 n:(l.length:Int) = k
 b:∀ x ∈ l,0 <= x/\x <= all
theorem least_eq (a:Int) (l:List Int) (hl:l.length <= 1000):ca_p FU a l = some (l.foldl min a):=by
 have hF:=FU_lt
 have hh:=loop_ok (B:=ca_l1 FU l) (fun s:Int × Nat=>l.length - s.2) (fun s=>s.2 <= l.length/\s.1 = (l.take s.2).foldl min a) (fun y=>y = l.foldl min a) ?_ FU (a,0) ⟨by simp,by simp⟩ (by simp only; omega)
 ·obtain ⟨y,e,rfl⟩:=hh
  unfold ca_p
  rw [e]; rfl
 ·rintro ⟨z,i⟩ J ⟨a1,a2⟩ hJ
  simp only at a1 a2 hJ
  unfold ca_l1
  simp only
  by_cases hi:i < l.length
  ·rw [if_pos hi,List.getElem?_eq_getElem hi,obind]
   refine hJ _ ⟨hi,?_⟩ (by simp only; omega)
   simp only
   rw [a2,<- List.take_append_getElem hi,List.foldl_append]; rfl
  ·rw [if_neg hi]
   exact ⟨_,rfl,by rw [a2,List.take_of_length_le (by omega)]⟩
theorem greatest_eq (a:Int) (l:List Int) (hl:l.length <= 1000):bz_p FU a l = some (l.foldl max a):=by
 have hF:=FU_lt
 have hh:=loop_ok (B:=bz_l1 FU l) (fun s:Int × Nat=>l.length - s.2) (fun s=>s.2 <= l.length/\s.1 = (l.take s.2).foldl max a) (fun y=>y = l.foldl max a) ?_ FU (a,0) ⟨by simp,by simp⟩ (by simp only; omega)
 ·obtain ⟨y,e,rfl⟩:=hh
  unfold bz_p
  rw [e]; rfl
 ·rintro ⟨z,i⟩ J ⟨a1,a2⟩ hJ
  simp only at a1 a2 hJ
  unfold bz_l1
  simp only
  by_cases hi:i < l.length
  ·rw [if_pos hi,List.getElem?_eq_getElem hi,obind]
   refine hJ _ ⟨hi,?_⟩ (by simp only; omega)
   simp only
   rw [a2,<- List.take_append_getElem hi,List.foldl_append]; rfl
  ·rw [if_neg hi]
   exact ⟨_,rfl,by rw [a2,List.take_of_length_le (by omega)]⟩
end Go.Proofs.YtgejkdheojkfiaaGreatDoor
/- Plain laws: fractions of any length rounded, compared, checked; the program and the reference. No program in sight but the printed functions. -/
namespace Go.Proofs.YtgejkdheojkfiaaGreatDoor
open Go
set_option maxRecDepth 8000
theorem exE {ε α β:Type} (x:ε) (f:α -> Option β) (g:ε -> Option β):exc (.error x) f g = g x:=rfl
theorem exO {ε α β:Type} (x:α) (f:α -> Option β) (g:ε -> Option β):exc (.ok x) f g = f x:=rfl
theorem Wg_sur (t:T8):∃ z,Fw z/\t = Wg z:=by
 have h1:=wv_lt t
 have h2:=FB_HB
 by_cases h:val (wv t) < HB
 ·refine ⟨(val (wv t):Int),⟨by omega,by omega⟩,Wg_of ?_⟩
  rw [Int.emod_eq_of_lt (by omega) (by omega)]
 ·refine ⟨(val (wv t):Int) - FB,⟨by omega,by omega⟩,Wg_of ?_⟩
  rw [Int.sub_emod_right,Int.emod_eq_of_lt (by omega) (by omega)]
theorem gcd_fit {x y:Int} (hy:Fw y) (h0:0 < y):Fit 8 ((Nat.gcd x.natAbs y.natAbs:Nat):Int):=by
 refine Nat.lt_of_le_of_lt ?_ hy.fit
 rw [Int.natAbs_natCast]
 exact Nat.gcd_le_right _ (by omega)
theorem checkXY (x y:Int) (hx:Fw x) (hy:Fw y):cQ_p FU ⟨Wg x,Wg y⟩ = some (if 0 < y/\Nat.gcd x.natAbs y.natAbs = 1 then 0 else 20):=by
 have hF:=FU_big
 have hr:aF_p FU ⟨Wg x,Wg y⟩ = some ⟨L x,L y⟩:=by
  unfold aF_p
  simp only
  rw [longerG FU _ hx (by omega),obind,longerG FU _ hy (by omega),obind]
 unfold cQ_p
 rw [from_ok FU 1 (by unfold Sm; decide) (by omega),obind,hr,obind]
 simp only
 rw [side_ok,obind]
 by_cases h0:0 < y
 ·rw [Int.sign_eq_one_of_pos h0,if_neg (by decide),commonG FU 8 _ _ hx.fit hy.fit (by decide) hF,obind]
  unfold dr_p
  rw [minus_ok FU 8 _ _ (gcd_fit hy h0) (by unfold Fit; decide) (by omega) (by decide),obind,side_ok,obind]
  by_cases hg:Nat.gcd x.natAbs y.natAbs = 1
  ·rw [obind,if_pos (show (((Nat.gcd x.natAbs y.natAbs:Nat):Int) - 1).sign = 0 from by rw [hg]; rfl),if_pos ⟨h0,hg⟩]
  ·have:(((Nat.gcd x.natAbs y.natAbs:Nat):Int) - 1).sign ≠ 0:=fun e=>by
    have:=Int.sign_eq_zero_iff_zero.1 e; omega
   rw [if_neg fun h=>hg h.2,obind,if_neg this]
 ·have hs:y.sign <= 0:=by
   rcases Int.lt_trichotomy y 0 with h | h | h
   ·rw [Int.sign_eq_neg_one_of_neg h]; decide
   ·rw [h]; decide
   ·omega
  rw [if_pos hs,if_neg fun h=>h0 h.1]
theorem valid_bad (s:Ta) (l:List Ta) (h:cQ_p FU s = some 20):aD_p FU (s :: l) = some false:=by
 have hF:=FU_lt
 have hh:=loop_ok (B:=aD_l1 FU (s :: l)) (fun i:Nat=>1 - i) (fun i=>i = 0) (fun y=>y = .inl false) ?_ FU 0 rfl (by omega)
 ·obtain ⟨y,e,rfl⟩:=hh
  unfold aD_p
  rw [e]; rfl
 ·rintro i J rfl hJ
  unfold aD_l1 cZ_p
  simp only
  rw [if_pos (by simp),show (s :: l)[0]? = some s from rfl,obind,h,obind,obind,if_neg (by decide)]
  exact ⟨_,rfl,rfl⟩
theorem share_cases (s:Ta):(∃ q,FQ q/\s = Sg q) ∨ (cQ_p FU s = some 20/\ah_p FU s = some false):=by
 obtain ⟨a,b⟩:=s
 obtain ⟨x,hx,rfl⟩:=Wg_sur a
 obtain ⟨y,hy,rfl⟩:=Wg_sur b
 have c1:=checkXY x y hx hy
 have c2:=refRightG FU x y hx hy FU_big
 by_cases h:0 < y/\Nat.gcd x.natAbs y.natAbs = 1
 ·refine .inl ?_
  obtain ⟨m,rfl⟩:∃ m:Nat,y = (m:Int):=⟨y.toNat,by omega⟩
  have hn:(Rat.mk' x m (by omega) h.2).num = x:=rfl
  exact ⟨Rat.mk' x m (by omega) h.2,⟨hx,hy⟩,rfl⟩
 ·rw [if_neg h] at c1
  rw [decide_eq_false h] at c2
  exact .inr ⟨c1,c2⟩
theorem valid1 {q:Rat} (h:FQ q):aD_p FU [Sg q] = some true:=validG FU [q] (fun x hx=>by rw [List.mem_singleton.1 hx]; exact h) (by have:=FU_lt; simp only [List.length_cons,List.length_nil]; omega) FU_big
theorem signG {q:Rat} (h:FQ q):dB_p FU (Sg q) = some (q.num.sign,0):=by
 have hF:=FU_big
 unfold dB_p dH_p
 rw [valid2G FU q q h h hF,obind,if_pos rfl,sreadG FU q h (by omega),obind,obind,show (Rt q).fy = L q.num from rfl,side_ok,obind,obind]
theorem orderR (a b:Int) (ha:FtR 17 a) (hb:FtR 17 b):bD_p FU (R8 a) (R8 b) = some (a - b).sign:=by
 have hF:=FU_big
 have hm:=ha.add hb.neg
 unfold bD_p bS_p
 rw [turnR_ok FU b (by have:=hb.len; omega) (by omega),obind,plusR_ok FU 17 a (-b) ha hb.neg (by omega) (by decide),obind,obind,<- Int.sub_eq_add_neg]
 by_cases h:a - b < 0
 ·rw [if_pos (show (R8 (a - b)).fc = true from decide_eq_true h),Int.sign_eq_neg_one_of_neg h]
 ·rw [if_neg (show ¬ (R8 (a - b)).fc = true from by simpa [R8] using h)]
  by_cases h0:a - b = 0
  ·rw [h0,if_neg (show ¬ 0 < (R8 0).fD.length from by show ¬ 0 < (rd 0).length; rw [rd0]; decide)]; rfl
  ·rw [if_pos (show 0 < (R8 (a - b)).fD.length from rd_pos.2 (by omega)),Int.sign_eq_one_of_pos (by omega)]
theorem FtR_zero (l:Nat):FtR l 0:=by unfold FtR; simp; exact Nat.pow_pos (by decide)
theorem signR {q:Rat} (h:FQ q):ck_p FU (Sg q) = some (q.num.sign,0):=by
 have hF:=FU_big
 unfold ck_p cS_p
 rw [refRight_ok FU q h hF,obind,if_pos rfl,show (Sg q).fN = Wg q.num from rfl,inR_ok FU _ h.1 (by omega),obind,show (⟨false,[]⟩:Tc) = R8 0 from by unfold R8; simp [rd0],orderR _ _ (h.1.r.mono (by decide)) (FtR_zero _),obind,obind,Int.sub_zero]
def dn (q:Rat):Int:=q.num / (q.den:Int)
def up (q:Rat):Int:=-((-q.num) / (q.den:Int))
open Classical in
theorem floorG {q:Rat} (h:FQ q):dA_p FU (Sg q) = some (if Fw (dn q) then (Wg (dn q),0) else ((0,0,0,0,0,0,0,0),6)):=by
 have hF:=FU_big
 unfold dA_p cx_p
 rw [valid1 h,obind,if_pos rfl,sreadG FU q h (by omega),obind,show (Rt q).fy = L q.num from rfl,show (Rt q).ft = L q.den from rfl,partsG FU 8 _ _ h.n h.d FQ.ndnz (by decide) hF,obind,obind,toldG FU _ (by omega),obind]
 rfl
open Classical in
theorem ceilG {q:Rat} (h:FQ q):dE_p FU (Sg q) = some (if Fw (up q) then (Wg (up q),0) else ((0,0,0,0,0,0,0,0),6)):=by
 have hF:=FU_big
 have hb:Fit 8 ((-q.num) / (q.den:Int)):=by
  refine Nat.lt_of_le_of_lt ?_ h.n
  have h1:=Int.natAbs_ediv_le_natAbs (-q.num) (q.den:Int)
  rwa [Int.natAbs_neg] at h1
 unfold dE_p dI_p cx_p
 rw [valid1 h,obind,if_pos rfl,sreadG FU q h (by omega),obind,turnedG FU 8 q h.rf (by decide) hF,obind,show (Rt (-q)).fy = L (-q).num from rfl,show (Rt (-q)).ft = L (-q).den from rfl,Rat.neg_num,Rat.neg_den,partsG FU 8 _ _ h.n.neg h.d FQ.ndnz (by decide) hF,obind,obind,turned_ok FU 8 _ hb (by omega) (by decide),obind,obind,toldG FU _ (by omega),obind]
 rfl
theorem refPartsG (a b:Int) (ha:FtR 17 a) (hb:FtR 17 b) (h0:0 < b):∃ y,aN_p FU (R8 a) (R8 b) = some (R8 (a / b),y):=by
 have hF:=FU_big
 have la:=ha.len
 have lb:=hb.len
 have e1:(rd (a.natAbs / b.natAbs)).length <= 17:=Nat.le_trans (rd_mono (Nat.div_le_self _ _)) la
 have e2:(rd (a.natAbs % b.natAbs)).length <= 17:=Nat.le_trans (rd_mono (Nat.le_of_lt (Nat.mod_lt _ (by omega)))) lb
 have f1:FtR 17 (sg (decide (a < 0)) (a.natAbs / b.natAbs)):=Nat.lt_of_le_of_lt (by unfold sg; split <;> simp <;> exact Nat.div_le_self _ _) ha
 have f2:FtR 17 (sg (decide (a < 0)) (a.natAbs % b.natAbs)):=Nat.lt_of_le_of_lt (by unfold sg; split <;> simp <;> exact Nat.le_of_lt (Nat.mod_lt _ (by omega))) hb
 unfold aN_p
 rw [show (R8 a).fD = rd a.natAbs from rfl,show (R8 b).fD = rd b.natAbs from rfl,partsD_ok FU _ _ (by omega) (by omega) (by omega) (by omega),obind]
 simp only
 rw [made_ok FU _ _ (rd_dig _) (by omega) (by omega),obind,dv_rd,made_ok FU _ _ (rd_dig _) (by omega) (by omega),obind,dv_rd,show (R8 a).fc = decide (a < 0) from rfl,show (R8 b).fc = decide (b < 0) from rfl,decide_eq_false (show ¬ b < 0 by omega),show (!(decide (a < 0) == false)) = decide (a < 0) from by cases decide (a < 0) <;> rfl,R_sg,R_sg]
 by_cases hs:(R8 (sg (decide (a < 0)) (a.natAbs % b.natAbs))).fc = true
 ·have hs2:sg (decide (a < 0)) (a.natAbs % b.natAbs) < 0:=of_decide_eq_true hs
  have han:a < 0:=by
   refine Classical.byContradiction fun h=>?_
   rw [decide_eq_false h] at hs2
   unfold sg at hs2; simp at hs2; omega
  rw [decide_eq_true han] at hs hs2 f1 f2 ⊢
  rw [if_pos hs,show (⟨false,rd b.natAbs⟩:Tc) = R8 b from by unfold R8; rw [decide_eq_false (show ¬ b < 0 by omega)],plusR_ok FU 17 _ _ f2 hb (by omega) (by decide),obind,if_neg (by decide),long1_ok FU 1 (by unfold Sm; decide) (by omega),obind]
  unfold bS_p
  have f3:FtR 17 1:=by unfold FtR; decide
  rw [turnR_ok FU 1 (by have:=f3.len; omega) (by omega),obind,plusR_ok FU 17 _ _ f1 f3.neg (by omega) (by decide),obind,obind]
  refine ⟨_,congrArg some (Prod.ext (congrArg R8 ?_) rfl)⟩
  show sg true (a.natAbs / b.natAbs) + -1 = a / b
  have hm:a.natAbs % b.natAbs ≠ 0:=fun e=>by rw [e] at hs2; simp [sg] at hs2
  have hdm:=Nat.div_add_mod a.natAbs b.natAbs
  have hml:=Nat.mod_lt a.natAbs (show 0 < b.natAbs by omega)
  have e5:sg true (a.natAbs / b.natAbs) = -((a.natAbs / b.natAbs:Nat):Int):=rfl
  rw [e5]
  symm
  have hbb:((b.natAbs:Nat):Int) = b:=by omega
  have haa:((a.natAbs:Nat):Int) = -a:=by omega
  have hdm2:b * ((a.natAbs / b.natAbs:Nat):Int) + ((a.natAbs % b.natAbs:Nat):Int) = -a:=by rw [<- haa,<- hdm,Int.natCast_add,Int.natCast_mul,hbb,hdm]
  refine (Int.ediv_eq_iff_of_pos h0).2 ?_
  rw [Int.add_mul,Int.neg_mul,Int.mul_comm _ b]
  generalize ((a.natAbs / b.natAbs:Nat):Int) = u at *
  generalize b * u = bu at *
  omega
 ·rw [if_neg hs]
  refine ⟨_,congrArg some (Prod.ext (congrArg R8 ?_) rfl)⟩
  have hdm:=Nat.div_add_mod a.natAbs b.natAbs
  have hml:=Nat.mod_lt a.natAbs (show 0 < b.natAbs by omega)
  have hbb:((b.natAbs:Nat):Int) = b:=by omega
  have hs2:¬ sg (decide (a < 0)) (a.natAbs % b.natAbs) < 0:=fun h=>hs (decide_eq_true h)
  have hdm2:b * ((a.natAbs / b.natAbs:Nat):Int) + ((a.natAbs % b.natAbs:Nat):Int) = ((a.natAbs:Nat):Int):=by rw [<- hdm,Int.natCast_add,Int.natCast_mul,hbb,hdm]
  symm
  refine (Int.ediv_eq_iff_of_pos h0).2 ?_
  by_cases han:a < 0
  ·rw [decide_eq_true han] at hs2 ⊢
   have hm:a.natAbs % b.natAbs = 0:=by unfold sg at hs2; simp at hs2; omega
   rw [show sg true (a.natAbs / b.natAbs) = -((a.natAbs / b.natAbs:Nat):Int) from rfl,Int.neg_mul,Int.mul_comm _ b]
   generalize ((a.natAbs / b.natAbs:Nat):Int) = u at *
   generalize b * u = bu at *
   omega
  ·rw [decide_eq_false han]
   rw [show sg false (a.natAbs / b.natAbs) = ((a.natAbs / b.natAbs:Nat):Int) from rfl,Int.mul_comm _ b]
   generalize ((a.natAbs / b.natAbs:Nat):Int) = u at *
   generalize b * u = bu at *
   omega
open Classical in
theorem floorR {q:Rat} (h:FQ q):cB_p FU (Sg q) = some (if Fw (dn q) then (Wg (dn q),0) else ((0,0,0,0,0,0,0,0),6)):=by
 have hF:=FU_big
 have hd:=q.den_pos
 have hb:FtR 17 (dn q):=Nat.lt_of_le_of_lt (Int.natAbs_ediv_le_natAbs _ _) (h.1.r.mono (by decide))
 obtain ⟨y,e⟩:=refPartsG q.num (q.den:Int) (h.1.r.mono (by decide)) (h.2.r.mono (by decide)) (by omega)
 unfold cB_p cn_p
 rw [refRight_ok FU q h hF,obind,if_pos rfl,refIn_ok FU q h (by omega),obind,show (RR q).fN = R8 q.num from rfl,show (RR q).fD = R8 q.den from rfl,e,obind,obind,show q.num / (q.den:Int) = dn q from rfl,outG_ok FU 17 _ hb (by decide) (by omega),obind]
open Classical in
theorem ceilR {q:Rat} (h:FQ q):cD_p FU (Sg q) = some (if Fw (up q) then (Wg (up q),0) else ((0,0,0,0,0,0,0,0),6)):=by
 have hF:=FU_big
 have hd:=q.den_pos
 have hn:FtR 17 q.num:=h.1.r.mono (by decide)
 have hb:FtR 17 ((-q.num) / (q.den:Int)):=Nat.lt_of_le_of_lt (Int.natAbs_ediv_le_natAbs _ _) hn.neg
 obtain ⟨y,e⟩:=refPartsG (-q.num) (q.den:Int) hn.neg (h.2.r.mono (by decide)) (by omega)
 unfold cD_p cn_p cm_p
 rw [refRight_ok FU q h hF,obind,if_pos rfl,refIn_ok FU q h (by omega),obind,show (RR q).fN = R8 q.num from rfl,show (RR q).fD = R8 q.den from rfl,turnR_ok FU _ (by have:=hn.len; omega) (by omega),obind,obind]
 simp only
 rw [e,obind,obind,turnR_ok FU _ (by have:=hb.len; omega) (by omega),obind,show -((-q.num) / (q.den:Int)) = up q from rfl,outG_ok FU 17 (up q) hb.neg (by decide) (by omega),obind]
end Go.Proofs.YtgejkdheojkfiaaGreatDoor
/- Plain laws: BalanceBounds. No program in sight but the printed functions. -/
namespace Go.Proofs.YtgejkdheojkfiaaGreatDoor
open Go
set_option maxRecDepth 8000
def I6 (z:Int):Prop:=-9223372036854775808 <= z/\z < 9223372036854775808
instance (z:Int):Decidable (I6 z):=by unfold I6; infer_instance
theorem FB_mul:∃ K:Nat,FB = 18446744073709551616 * K/\HB = 9223372036854775808 * K/\0 < K:=⟨18446744073709551616 ^ 7,by unfold FB; rw [Nat.pow_succ,Nat.mul_comm],rfl,Nat.pow_pos (by decide)⟩
theorem I6.fw {z:Int} (h:I6 z):Fw z:=by
 obtain ⟨K,_,h2,h3⟩:=FB_mul
 unfold I6 at h; unfold Fw
 rw [h2]
 have:(9223372036854775808:Nat) <= 9223372036854775808 * K:=Nat.le_mul_of_pos_right _ h3
 omega
theorem W8_I6 {z:Int} (h:I6 z):W8 z = Wg z:=by
 by_cases h0:z = -9223372036854775808
 ·subst h0; decide +kernel
 ·unfold I6 at h
  exact W8_Wg (by unfold Sm; omega)
theorem low_I6 {z:Int} (h:I6 z):i64of (Wg z).1 = z:=by
 obtain ⟨K,h1,h2,h3⟩:=FB_mul
 have hf:=h.fw
 unfold I6 at h
 unfold Fw at hf
 have e:(Wg z).1.toNat = (z % (FB:Int)).toNat % 18446744073709551616:=by
  rfl
 have h4:=FB_HB
 unfold i64of
 rw [e]
 by_cases h0:0 <= z
 ·rw [Int.emod_eq_of_lt h0 (by omega)]
  split <;> omega
 ·have e2:z % (FB:Int) = z + FB:=by
   rw [<- Int.add_emod_right,Int.emod_eq_of_lt (by omega) (by omega)]
  rw [e2,h1]
  split <;> omega
theorem i64_I6 (u:UInt64):I6 (i64of u):=by
 have:=u.toNat_lt
 unfold i64of I6
 split <;> omega
theorem intG {z:Int} (h:Fw z):dD_p FU (Wg z) = some (if I6 z then (z,0) else (0,6)):=by
 have hF:=FU_big
 unfold dD_p
 rw [of_ok FU _ (by omega),obind,W8_I6 (i64_I6 _)]
 by_cases hz:I6 z
 ·rw [low_I6 hz,if_pos rfl,if_pos hz]
 ·rw [if_neg fun e=>hz (by rw [<- Wg_inj (i64_I6 _).fw h e]; exact i64_I6 _),if_neg hz]
theorem long1_min:az_p FU (-9223372036854775808) = some (R8 (-9223372036854775808)):=by
 have e:rd 9223372036854775808 = [0,2147483648]:=by
  rw [rd_ne (by decide),show 9223372036854775808 / 4294967296 = 2147483648 from rfl,rd_ne (by decide),show 2147483648 / 4294967296 = 0 from rfl,rd0]; rfl
 unfold R8
 rw [show Int.natAbs (-9223372036854775808) = 9223372036854775808 from rfl,e]
 show az_p FU (-9223372036854775808) = some (⟨true,[0,2147483648]⟩:Tc)
 kernel_rfl
theorem integer_loop {a:Nat} (ha:a < 18446744073709551616) (s:Bool):∃ u:UInt64,loopF (aZ_l1 FU ⟨s,rd a⟩) FU (0,(((rd a).length:Nat):Int) - 1) = some u/\u.toNat = a:=by
 have hF:=FU_lt
 have hl:(rd a).length <= 2:=rd_len (by simpa using ha)
 refine loop_ok (B:=aZ_l1 FU ⟨s,rd a⟩) (fun x:UInt64 × Int=>(x.2 + 1).toNat) (fun x=>-1 <= x.2/\x.2 < (rd a).length/\x.1.toNat = dv ((rd a).drop (x.2 + 1).toNat)) (fun u=>u.toNat = a) ?_ FU _ ⟨by simp only; omega,by simp only; omega,?_⟩ (by simp only; omega)
 ·rintro ⟨u,z⟩ J ⟨a1,a2,a3⟩ hJ
  simp only at a1 a2 a3 hJ
  unfold aZ_l1
  simp only
  by_cases hz:0 <= z
  ·obtain ⟨j,rfl⟩:∃ j:Nat,z = (j:Int):=⟨z.toNat,by omega⟩
   have hj:j < (rd a).length:=by omega
   have hd:=rd_dig a _ (List.getElem_mem hj)
   have e1:dv ((rd a).drop j) = (rd a)[j].toNat + 4294967296 * dv ((rd a).drop (j + 1)):=by rw [List.drop_eq_getElem_cons hj]; rfl
   have e2:=dv_div (rd_dig a) j (by omega)
   rw [dv_rd] at e2
   have e3:a / 4294967296 ^ j <= a:=Nat.div_le_self _ _
   rw [show ((j:Int) + 1).toNat = j + 1 by omega] at a3
   rw [if_pos hz,idxK hj,obind,chkI (by omega) (by omega),obind]
   refine hJ _ ⟨by simp only; omega,by simp only; omega,?_⟩ (by simp only; omega)
   simp only
   rw [show ((j:Int) - 1 + 1).toNat = j by omega,UInt64.toNat_add,UInt64.toNat_mul,u64_dig hd,e1,a3,show (4294967296:UInt64).toNat = 4294967296 from rfl]
   omega
  ·rw [if_neg hz]
   refine ⟨_,rfl,?_⟩
   rw [a3,show (z + 1).toNat = 0 by omega,List.drop_zero,dv_rd]
 ·simp only
  rw [show ((((rd a).length:Nat):Int) - 1 + 1).toNat = (rd a).length by omega,List.drop_length]; rfl
theorem refIntG {z:Int} (h:Fw z):cL_p FU (Wg z) = some (if I6 z then (z,0) else (0,6)):=by
 have hF:=FU_big
 have h17:FtR 17 z:=h.r.mono (by decide)
 unfold cL_p aZ_p
 rw [inR_ok FU z h (by omega),obind,long1_min,obind,orderR z _ h17 (by unfold FtR; decide),obind]
 by_cases h1:z < -9223372036854775808
 ·rw [Int.sign_eq_neg_one_of_neg (by omega),if_pos (by decide),obind,if_neg fun hc:I6 z=>by unfold I6 at hc; omega]
 ·have s1:¬ (z - -9223372036854775808).sign < 0:=fun hc=>by have:=Int.sign_neg_iff.1 hc; omega
  rw [if_neg s1,long1_ok FU 9223372036854775807 (by unfold Sm; decide) (by omega),obind,orderR z _ h17 (by unfold FtR; decide),obind]
  by_cases h2:9223372036854775807 < z
  ·rw [Int.sign_eq_one_of_pos (by omega),if_pos (by decide),obind,if_neg fun hc:I6 z=>by unfold I6 at hc; omega]
  ·have s2:¬ 0 < (z - 9223372036854775807).sign:=fun hc=>by have:=Int.sign_pos_iff.1 hc; omega
   obtain ⟨u,e,hu⟩:=integer_loop (a:=z.natAbs) (by omega) (decide (z < 0))
   rw [if_neg s2,show (R8 z).fD = rd z.natAbs from rfl,show R8 z = ⟨decide (z < 0),rd z.natAbs⟩ from rfl,e,obind,if_pos (show I6 z from ⟨by omega,by omega⟩)]
   simp only
   by_cases h0:z < 0
   ·rw [if_pos (decide_eq_true h0),obind]
    refine congrArg some (Prod.ext ?_ rfl)
    show i64of (-u) = z
    unfold i64of
    rw [UInt64.toNat_neg,hu,show UInt64.size = 18446744073709551616 from rfl]
    split <;> omega
   ·rw [if_neg (by simpa using h0),obind]
    refine congrArg some (Prod.ext ?_ rfl)
    show i64of u = z
    unfold i64of
    rw [hu]
    split <;> omega
open Classical in
theorem refSubG (a b:Rat) (ha:FQ a) (hb:FQ b):cJ_p FU (Sg a) (Sg b) = some (if FQ (a - b) then (Sg (a - b),0) else (noS,6)):=by
 have hn:=FU_big
 have d0:(a.den:Int) * b.den ≠ 0:=Int.mul_ne_zero FQ.ndnz FQ.ndnz
 have e:a - b = Rat.divInt (a.num * b.den + -b.num * a.den) (a.den * b.den):=by
  conv=>lhs; rw [<- Rat.num_divInt_den a,<- Rat.num_divInt_den b,Rat.sub_eq_add_neg,Rat.neg_divInt]
  exact Rat.divInt_add_divInt _ _ FQ.ndnz FQ.ndnz
 have x1:=ha.1.r.mul hb.2.r
 have x2:=hb.1.r.neg.mul ha.2.r
 have x3:=ha.2.r.mul hb.2.r
 obtain ⟨f1,f2,f3⟩:=refLow FU 33 _ _ d0 (x1.add x2) (x3.mono (by decide)) (by decide) hn
 rw [<- e] at f1 f2 f3
 unfold cJ_p cP_p cm_p
 rw [refRight_ok FU a ha hn,obind,if_pos rfl,refRight_ok FU b hb hn,obind,if_pos rfl,refIn_ok FU a ha (by omega),obind,refIn_ok FU b hb (by omega),obind]
 unfold RR at f1 ⊢
 simp only
 rw [turnR_ok FU _ (by have:=hb.1.r.len; omega) (by omega),obind,obind]
 unfold bQ_p
 simp only
 rw [timesR_ok FU 16 16 _ _ ha.1.r hb.2.r (by omega) (by decide),obind,timesR_ok FU 16 16 _ _ hb.1.r.neg ha.2.r (by omega) (by decide),obind,plusR_ok FU 32 _ _ x1 x2 (by omega) (by decide),obind,timesR_ok FU 16 16 _ _ ha.2.r hb.2.r (by omega) (by decide),obind,f1,obind,obind]
 have:=refOut_ok FU 33 _ f2 f3 (by decide) (by omega)
 unfold RR at this
 rw [obind,this,obind]
theorem mustS (s:Ta) (e:Int):ab_p FU s e = some (if e = 0 then .ok s else .error ⟨e⟩):=by unfold ab_p; split <;> rfl
theorem mustW (s:T8) (e:Int):aS_p FU s e = some (if e = 0 then .ok s else .error ⟨e⟩):=by unfold aS_p; split <;> rfl
theorem mustI (s e:Int):a9_p FU s e = some (if e = 0 then .ok s else .error ⟨e⟩):=by unfold a9_p; split <;> rfl
theorem endC {β:Type} (i a:Rat) (hi:FQ i) (ha:FQ a):∃ v e,bE_p FU (Sg i) (Sg a) true = some (v,e)/\∀ K:Int -> Option (Except Tg β),((dz_p FU (Sg a) (Sg i)).bind fun y97=>(ab_p FU y97.1 y97.2).bind fun y98=>exc y98 (fun y100=>(dE_p FU y100).bind fun y106=>(aS_p FU y106.1 y106.2).bind fun y107=>exc y107 (fun y109=>(dD_p FU y109).bind fun y115=>(a9_p FU y115.1 y115.2).bind fun y116=>exc y116 (fun y118=>K y118) (fun e117=>some (.error e117))) (fun e108=>some (.error e108))) (fun e99=>some (.error e99))) = (if e = 0 then K v else some (.error ⟨e⟩)):=by
 have hF:=FU_big
 unfold bE_p jn
 by_cases f:FQ (a * i)
 ·by_cases w:Fw (up (a * i))
  ·refine ⟨if I6 (up (a * i)) then up (a * i) else 0,if I6 (up (a * i)) then 0 else 6,?_,fun K=>?_⟩
   ·rw [refMul_ok FU a i ha hi hF,if_pos f,obind]
    simp only
    rw [if_pos trivial,floorR f,obind,ceilR f,if_pos w]
    simp only [obind,if_true]
    rw [show ((Wg (up (a * i))).1,(Wg (up (a * i))).2.1,(Wg (up (a * i))).2.2.1,(Wg (up (a * i))).2.2.2.1,(Wg (up (a * i))).2.2.2.2.1,(Wg (up (a * i))).2.2.2.2.2.1,(Wg (up (a * i))).2.2.2.2.2.2.1,(Wg (up (a * i))).2.2.2.2.2.2.2) = Wg (up (a * i)) from rfl,refIntG w,obind]
    by_cases h6:I6 (up (a * i))
    ·rw [if_pos h6,if_pos h6,if_pos h6]
    ·rw [if_neg h6,if_neg h6,if_neg h6]
   ·rw [mulG FU a i ha hi hF,if_pos f,obind,mustS,if_pos rfl,obind,exO,ceilG f,if_pos w,obind,mustW,if_pos rfl,obind,exO,intG w,obind,mustI,obind]
    by_cases h6:I6 (up (a * i))
    ·rw [if_pos h6,if_pos h6,if_pos h6,if_pos rfl,if_pos rfl,exO]
    ·rw [if_neg h6,if_neg h6,if_neg h6,if_neg (by decide),if_neg (by decide),exE]
  ·refine ⟨0,6,?_,fun K=>?_⟩
   ·rw [refMul_ok FU a i ha hi hF,if_pos f,obind]
    simp only
    rw [if_pos trivial,floorR f,obind,ceilR f,if_neg w]
    simp only [obind,if_true]
    rfl
   ·rw [mulG FU a i ha hi hF,if_pos f,obind,mustS,if_pos rfl,obind,exO,ceilG f,if_neg w,obind,mustW,if_neg (by decide),obind,exE,if_neg (by decide)]
 ·refine ⟨0,6,?_,fun K=>?_⟩
  ·rw [refMul_ok FU a i ha hi hF,if_neg f,obind,if_neg (by decide)]
  ·rw [mulG FU a i ha hi hF,if_neg f,obind,mustS,if_neg (by decide),obind,exE,if_neg (by decide)]
theorem endF {β:Type} (i a:Rat) (hi:FQ i) (ha:FQ a):∃ v e,bE_p FU (Sg i) (Sg a) false = some (v,e)/\∀ K:Int -> Option (Except Tg β),((dz_p FU (Sg a) (Sg i)).bind fun y97=>(ab_p FU y97.1 y97.2).bind fun y98=>exc y98 (fun y100=>(dA_p FU y100).bind fun y106=>(aS_p FU y106.1 y106.2).bind fun y107=>exc y107 (fun y109=>(dD_p FU y109).bind fun y115=>(a9_p FU y115.1 y115.2).bind fun y116=>exc y116 (fun y118=>K y118) (fun e117=>some (.error e117))) (fun e108=>some (.error e108))) (fun e99=>some (.error e99))) = (if e = 0 then K v else some (.error ⟨e⟩)):=by
 have hF:=FU_big
 unfold bE_p jn
 by_cases f:FQ (a * i)
 ·by_cases w:Fw (dn (a * i))
  ·refine ⟨if I6 (dn (a * i)) then dn (a * i) else 0,if I6 (dn (a * i)) then 0 else 6,?_,fun K=>?_⟩
   ·rw [refMul_ok FU a i ha hi hF,if_pos f,obind]
    simp only
    rw [if_pos trivial,floorR f,if_pos w,obind]
    simp only [obind,if_true]
    rw [if_neg (by decide),show ((Wg (dn (a * i))).1,(Wg (dn (a * i))).2.1,(Wg (dn (a * i))).2.2.1,(Wg (dn (a * i))).2.2.2.1,(Wg (dn (a * i))).2.2.2.2.1,(Wg (dn (a * i))).2.2.2.2.2.1,(Wg (dn (a * i))).2.2.2.2.2.2.1,(Wg (dn (a * i))).2.2.2.2.2.2.2) = Wg (dn (a * i)) from rfl,refIntG w,obind]
    by_cases h6:I6 (dn (a * i))
    ·rw [if_pos h6,if_pos h6,if_pos h6]
    ·rw [if_neg h6,if_neg h6,if_neg h6]
   ·rw [mulG FU a i ha hi hF,if_pos f,obind,mustS,if_pos rfl,obind,exO,floorG f,if_pos w,obind,mustW,if_pos rfl,obind,exO,intG w,obind,mustI,obind]
    by_cases h6:I6 (dn (a * i))
    ·rw [if_pos h6,if_pos h6,if_pos h6,if_pos rfl,if_pos rfl,exO]
    ·rw [if_neg h6,if_neg h6,if_neg h6,if_neg (by decide),if_neg (by decide),exE]
  ·refine ⟨0,6,?_,fun K=>?_⟩
   ·rw [refMul_ok FU a i ha hi hF,if_pos f,obind]
    simp only
    rw [if_pos trivial,floorR f,if_neg w,obind,if_neg (by decide),if_neg (by decide)]
   ·rw [mulG FU a i ha hi hF,if_pos f,obind,mustS,if_pos rfl,obind,exO,floorG f,if_neg w,obind,mustW,if_neg (by decide),obind,exE,if_neg (by decide)]
 ·refine ⟨0,6,?_,fun K=>?_⟩
  ·rw [refMul_ok FU a i ha hi hF,if_neg f,obind,if_neg (by decide)]
  ·rw [mulG FU a i ha hi hF,if_neg f,obind,mustS,if_neg (by decide),obind,exE,if_neg (by decide)]
end Go.Proofs.YtgejkdheojkfiaaGreatDoor
/- Plain laws: BalanceBounds, whole. No program in sight but the printed functions. -/
namespace Go.Proofs.YtgejkdheojkfiaaGreatDoor
open Go
set_option maxRecDepth 8000
def bres:Except Tg Tm -> Int × Int × Int
 | .ok b=>(b.flow,b.fhigh,0)
 | .error e=>(0,0,e.fB)
theorem signBad {t:Ta} (h:cQ_p FU t = some 20):dB_p FU t = some (0,20):=by
 unfold dB_p
 rw [valid_bad t [t] h,obind,if_neg (by decide)]
theorem signBadR {t:Ta} (h:ah_p FU t = some false):ck_p FU t = some (0,20):=by
 unfold ck_p
 rw [h,obind,if_neg (by decide)]
theorem tol_eq {r:Td} {us:List Tb} (h:Lp r us) {k:Int} (hk:1 <= k/\k <= 8) (hI:bT_p FU r k = some (Sg (Rat.divInt (pe us us.length) k),0)) (t:Ta):∃ res,bv_p FU ⟨r,k⟩ t = some res/\aJ_p FU r k t = some (bres res)/\∀ e,res = .error e -> e.fB ≠ 0:=by
 have hF:=FU_big
 have ha:=pe_all h
 have p1:=people_eq h k
 obtain ⟨all,hall⟩:∃ all,all = pe us us.length:=⟨_,rfl⟩
 rw [<- hall] at p1 hI ha
 have hi:FQ (Rat.divInt all k):=fqd (by omega) (by omega) (by omega)
 have h1:FQ (Rat.divInt 1 1):=fqd (by decide) (by decide) (by decide)
 have b1:aT_p FU 1 1 = some (.ok (Sg (Rat.divInt 1 1))):=bof_sg (by unfold Sm; decide) (by unfold Sm; decide) (by decide)
 have r1:aX_p FU 1 1 = some (Sg (Rat.divInt 1 1)):=refOfG FU 1 1 (by unfold Sm; decide) (by unfold Sm; decide) (by decide) hF
 have bk:aT_p FU all k = some (.ok (Sg (Rat.divInt all k))):=bof_sg (by unfold Sm; omega) (by unfold Sm; omega) (by omega)
 unfold bv_p aJ_p
 rw [hI,obind,if_pos rfl]
 rcases share_cases t with ⟨q,hq,rfl⟩ | ⟨c1,c2⟩
 ·rw [signG hq,obind,mustI,if_pos rfl,obind,exO,signR hq,obind,if_pos rfl]
  by_cases hs:q.num.sign < 0
  ·rw [decide_eq_true hs,fail_arg,obind,exE,if_pos hs]
   exact ⟨_,rfl,rfl,fun e he=>by cases he; decide⟩
  ·rw [decide_eq_false hs,fail_no', obind,exO,if_neg hs]
   simp only
   rw [p1,obind,bk,obind,exO,b1,obind,exO,r1,obind,subG FU _ q h1 hq hF,refSubG _ q h1 hq,obind,obind,mustS]
   by_cases f1:FQ (Rat.divInt 1 1 - q)
   ·rw [if_pos f1,if_pos rfl,obind,exO,if_pos rfl]
    obtain ⟨v1,e1,w1,K1⟩:=endC (β:=Tm) _ _ hi f1
    rw [K1,w1]
    by_cases g1:e1 = 0
    ·rw [if_pos g1,obind,exO,obind,if_pos g1,obind,addG FU _ q h1 hq hF,refAdd_ok FU _ q h1 hq hF,obind,obind,mustS]
     by_cases f2:FQ (Rat.divInt 1 1 + q)
     ·rw [if_pos f2,if_pos rfl,obind,exO,if_pos rfl]
      obtain ⟨v2,e2,w2,K2⟩:=endF (β:=Tm) _ _ hi f2
      rw [K2,w2]
      by_cases g2:e2 = 0
      ·rw [if_pos g2,obind,if_pos g2]
       exact ⟨_,rfl,rfl,fun e he=>by cases he⟩
      ·rw [if_neg g2,obind,if_neg g2]
       exact ⟨_,rfl,rfl,fun e he=>by cases he; exact g2⟩
     ·rw [if_neg f2,if_neg (by decide),obind,exE,if_neg (by decide)]
      exact ⟨_,rfl,rfl,fun e he=>by cases he; decide⟩
    ·rw [if_neg g1,obind,if_neg g1]
     exact ⟨_,rfl,rfl,fun e he=>by cases he; exact g1⟩
   ·rw [if_neg f1,if_neg (by decide),obind,exE,if_neg (by decide)]
    exact ⟨_,rfl,rfl,fun e he=>by cases he; decide⟩
 ·rw [signBad c1,obind,mustI,if_neg (by decide),obind,exE,signBadR c2,obind,if_neg (by decide)]
  exact ⟨_,rfl,rfl,fun e he=>by cases he; decide⟩
theorem le_min {b:Int}:∀ (l:List Int) (a:Int),b <= l.foldl min a ↔ b <= a/\∀ x ∈ l,b <= x
 | [],a=>by simp
 | x :: l,a=>by
  rw [List.foldl_cons,le_min l,List.forall_mem_cons]
  constructor
  ·rintro ⟨h1,h2⟩; exact ⟨by omega,by omega,h2⟩
  ·rintro ⟨h1,h2,h3⟩; exact ⟨by omega,h3⟩
theorem max_le' {b:Int}:∀ (l:List Int) (a:Int),l.foldl max a <= b ↔ a <= b/\∀ x ∈ l,x <= b
 | [],a=>by simp
 | x :: l,a=>by
  rw [List.foldl_cons,max_le' l,List.forall_mem_cons]
  constructor
  ·rintro ⟨h1,h2⟩; exact ⟨by omega,by omega,h2⟩
  ·rintro ⟨h1,h2,h3⟩; exact ⟨by omega,h3⟩
open Classical in
theorem withinR_loop {l:List Int} {k:Int} (e:Int) (y:Int × Int × Int) (h1:1 <= k) (h8:k <= 8) (hn:(l.length:Int) = k):loopF (aw_l1 FU k (l,e) y) FU 0 = some (if ∀ x ∈ l,y.1 <= x/\x <= y.2.1 then .inr () else .inl (false,0)):=by
 have hF:=FU_lt
 have hh:=loop_ok (B:=aw_l1 FU k (l,e) y) (fun z:Int=>9 - z.toNat) (fun z=>0 <= z/\z <= k/\∀ x ∈ l.take z.toNat,y.1 <= x/\x <= y.2.1) (fun w=>w = if ∀ x ∈ l,y.1 <= x/\x <= y.2.1 then .inr () else .inl (false,0)) ?_ FU 0 ⟨by simp,by omega,by simp⟩ (by omega)
 ·obtain ⟨w,e,rfl⟩:=hh; exact e
 ·rintro z J ⟨a0,a1,a2⟩ hJ
  obtain ⟨i,rfl⟩:∃ i:Nat,z = (i:Int):=⟨z.toNat,by omega⟩
  simp only [Int.toNat_natCast] at a2 hJ
  unfold aw_l1
  simp only
  by_cases hi:(i:Int) < k
  ·have hi2:i < l.length:=by omega
   rw [if_pos hi,idxK hi2,obind]
   by_cases b1:l[i] < y.1
   ·rw [if_pos b1]
    exact ⟨_,rfl,by rw [if_neg fun hc=>by have:=hc _ (List.getElem_mem hi2); omega]⟩
   rw [if_neg b1]
   by_cases b2:y.2.1 < l[i]
   ·rw [if_pos b2]
    exact ⟨_,rfl,by rw [if_neg fun hc=>by have:=hc _ (List.getElem_mem hi2); omega]⟩
   rw [if_neg b2,chkI (by omega) (by omega),obind]
   refine hJ _ ⟨by omega,by omega,fun x hx=>?_⟩ (by omega)
   rw [show ((i:Int) + 1).toNat = i + 1 by omega,<- List.take_append_getElem hi2,List.mem_append,List.mem_singleton] at hx
   rcases hx with hx | rfl
   ·exact a2 x hx
   ·omega
  ·rw [if_neg hi]
   rw [List.take_of_length_le (by omega)] at a2
   exact ⟨_,rfl,by rw [if_pos a2]⟩
structure Two (r:Td) (p:List Int) (k:Int) (t:Ta):Prop where
 qb:∃ y,bN_p FU r k t = some y/\aJ_p FU r k t = some y
 qw:∃ y,bw_p FU r p k t = some y/\aw_p FU r p k t = some y
theorem two_bad {r:Td} {p:List Int} {k e:Int} {t:Ta} (he:e ≠ 0) (h:aB_p FU r k = some (.error ⟨e⟩)) (hr:bg_p FU r k = some e):Two r p k t:=by
 have hc:bU_p FU r p k = some e:=by unfold bU_p; rw [hr,obind,if_neg he]
 have ht:aR_p FU r p k = some ([],e):=by unfold aR_p; rw [hc,obind,if_neg he]
 refine ⟨⟨(0,0,e),?_,?_⟩,⟨(false,e),?_,?_⟩⟩
 ·unfold bN_p cF_p; rw [h,obind,exE,obind,exE]
 ·unfold aJ_p bT_p; rw [hr,obind,if_neg he,obind,if_neg he]
 ·unfold bw_p cy_p; rw [h,obind,exE,obind,exE]
 ·unfold aw_p; rw [ht,obind,if_neg he]
open Classical in
theorem two_ok {r:Td} {p:List Int} (k:Int) (hr:Dn r) (hp:p.length <= 10) (t:Ta):Two r p k t:=by
 have hS:=hr.s
 have c1:=counted_eq hS k
 have c2:=countedR_eq hS k
 by_cases hv:RV r
 ·rw [if_pos hv] at c1 c2
  by_cases hk:1 <= k/\k <= 8
  ·rw [if_pos hk] at c1 c2
   obtain ⟨us,hL,_⟩:=lnd_of hv
   have h:=Lp.of hv hL
   have ha:=pe_all h
   have t1:=totals_eq h p k hk.1 hk.2 (by omega)
   have t2:=refTotals_eq hS hv h p k hk.1 hk.2 (by omega)
   have p2:=peopleR_eq hS hv h
   have hI:bT_p FU r k = some (Sg (Rat.divInt (pe us us.length) k),0):=by
    unfold bT_p
    rw [c2,obind,if_pos rfl,p2,obind,refOfG FU _ _ (by unfold Sm; omega) (by unfold Sm; omega) (by omega) FU_big,obind]
   obtain ⟨res,w1,w2,w3⟩:=tol_eq h hk hI t
   refine ⟨⟨bres res,?_,w2⟩,?_⟩
   ·unfold bN_p cF_p
    rw [c1,obind,exO,w1,obind]
    cases res <;> rfl
   ·by_cases hf:Fits p us.length k
    ·rw [if_pos hf] at t1 t2
     have hlen:=tt_len us p k us.length
     obtain ⟨l,hl⟩:∃ l,l = tt us p k us.length:=⟨_,rfl⟩
     rw [<- hl] at t1 t2 hlen
     have hl0:0 < l.length:=by omega
     unfold bw_p cy_p aw_p
     rw [c1,obind,exO,t1,obind,exO,w1,obind,t2,obind,if_pos rfl,w2,obind]
     rcases res with e | b
     ·have he:=w3 e rfl
      rw [exE,obind,exE,show (bres (.error e)).2.2 = e.fB from rfl,if_neg he]
      exact ⟨_,rfl,rfl⟩
     ·rw [exO,List.getElem?_eq_getElem hl0,obind,least_eq _ _ (by omega),obind,show (bres (.ok b)).2.2 = 0 from rfl,if_pos rfl,withinR_loop 0 _ hk.1 hk.2 (by omega)]
      have m1:=le_min (b:=b.flow) l l[0]
      have m2:=max_le' (b:=b.fhigh) l l[0]
      have hx0:l[0] ∈ l:=List.getElem_mem hl0
      by_cases g1:b.flow <= l.foldl min l[0]
      ·rw [if_pos g1,greatest_eq _ _ (by omega),obind,obind,exO]
       by_cases g2:l.foldl max l[0] <= b.fhigh
       ·rw [decide_eq_true g2,if_pos fun x hx=>⟨(m1.1 g1).2 x hx,(m2.1 g2).2 x hx⟩]
        exact ⟨_,rfl,rfl⟩
       ·rw [decide_eq_false g2,if_neg fun hc=>g2 (m2.2 ⟨(hc _ hx0).2,fun x hx=>(hc x hx).2⟩)]
        exact ⟨_,rfl,rfl⟩
      ·rw [if_neg g1,obind,exO,if_neg fun hc=>g1 (m1.2 ⟨(hc _ hx0).1,fun x hx=>(hc x hx).1⟩)]
       exact ⟨_,rfl,rfl⟩
    ·rw [if_neg hf] at t1 t2
     refine ⟨(false,220),?_,?_⟩
     ·unfold bw_p cy_p; rw [c1,obind,exO,t1,obind,exE,obind,exE]
     ·unfold aw_p; rw [t2,obind,if_neg (by decide)]
  ·rw [if_neg hk] at c1 c2
   exact two_bad (by decide) c1 c2
 ·rw [if_neg hv] at c1 c2
  exact two_bad (by decide) c1 c2
theorem empty_dn:Dn ⟨0,0,0,[]⟩:=⟨by simp,fun u hu=>by cases hu⟩
theorem samples_ok (a0:Tk) (a1:Tj) (a2 a3:Tn) (a4:Int):∃ l,cr_p FU a0 a1 a2 a3 a4 = some l/\l.length = 5/\∀ s ∈ l,Dn s.fr/\s.fp.length <= 10:=by
 have hF:=FU_lt
 obtain ⟨p,k,e0,p1,p2,hp,k1,k2⟩:=loose_ok FU a0 (by omega)
 obtain ⟨r,e1,hr,_⟩:=draft_ok a1 p.length (by omega)
 obtain ⟨r', e4,hr'⟩:=bend_ok a3 hr
 obtain ⟨p', e5,hp'⟩:=bendP a2 p1 p2
 unfold cr_p
 rw [e0,obind]
 simp only
 rw [e1,obind,e5,obind,e4,obind]
 refine ⟨_,rfl,rfl,fun s hs=>?_⟩
 simp only [List.mem_cons,List.not_mem_nil,or_false] at hs
 rcases hs with rfl | rfl | rfl | rfl | rfl
 ·exact ⟨hr.dn,by simp only; omega⟩
 ·exact ⟨hr.dn,hp'⟩
 ·exact ⟨hr', by simp only; omega⟩
 ·exact ⟨hr.dn,by simp only; omega⟩
 ·exact ⟨empty_dn,by simp⟩
theorem works_ok:cN_p FU = some true:=by kernel_rfl
theorem unit_ok (a:Tp):∃ s,bY_p FU a = some s:=by
 have h1:=a.fD.toNat_lt
 have h2:=Int16.le_toInt a.fN
 have h3:=Int16.toInt_lt a.fN
 have key:∀ z:Int,0 <= z -> z < 40000 -> ∃ s,((remI z ((a.fD.toNat + 2:Nat):Int)).bind fun s32=>(aX_p FU s32 ((1 + a.fD.toNat:Nat):Int)).bind fun y34=>some y34) = some s:=fun z z0 z1=>by
  have e1:=Int.emod_lt_of_pos z (b:=((a.fD.toNat + 2:Nat):Int)) (by omega)
  have e2:=Int.emod_nonneg z (b:=((a.fD.toNat + 2:Nat):Int)) (by omega)
  rw [remI_ok (by omega),obind,Int.tmod_eq_emod_of_nonneg z0,refOfG FU _ _ (by unfold Sm; omega) (by unfold Sm; omega) (by omega) FU_big,obind]
  exact ⟨_,rfl⟩
 unfold bY_p jn
 simp only
 by_cases h0:a.fN.toInt < 0
 ·rw [if_pos h0]; exact key _ (by omega) (by omega)
 ·rw [if_neg h0]; exact key _ (by omega) (by omega)
theorem share_ok (a:Tp):∃ s,bO_p FU a = some s:=by
 have h1:=a.fD.toNat_lt
 have h2:=Int16.le_toInt a.fN
 have h3:=Int16.toInt_lt a.fN
 unfold bO_p
 rw [refOfG FU _ _ (by unfold Sm; omega) (by unfold Sm; omega) (by omega) FU_big,obind]
 exact ⟨_,rfl⟩
theorem balanceBounds_ok (a0:Tk) (a1:Tj) (a2:Tn) (a3:Int) (a4:Tp) (a5:Ta):aC_p FU a0 a1 a2 a3 a4 a5 = some true:=by
 have hF:=FU_lt
 obtain ⟨l,e,hl,hs⟩:=samples_ok a0 a1 a2 a2 a3
 obtain ⟨s1,u1⟩:=unit_ok a4
 obtain ⟨s2,u2⟩:=share_ok a4
 unfold aC_p
 rw [works_ok,obind,if_pos rfl,e,obind]
 have hh:=loop_ok (B:=aC_l1 FU l a4 a5) (fun i:Nat=>l.length - i) (fun _=>True) (fun z=>z = .inr ()) ?_ FU 0 trivial (by omega)
 ·obtain ⟨z,e,rfl⟩:=hh
  rw [e]; rfl
 ·intro i J _ hJ
  unfold aC_l1
  simp only
  by_cases hi:i < l.length
  ·obtain ⟨h1,h2⟩:=hs l[i] (List.getElem_mem hi)
   obtain ⟨y1,b1,b2⟩:=(two_ok l[i].fk h1 h2 s1).qb
   obtain ⟨y2,c1,c2⟩:=(two_ok l[i].fk h1 h2 s1).qw
   obtain ⟨y3,d1,d2⟩:=(two_ok l[i].fk h1 h2 s2).qb
   obtain ⟨y4,f1,f2⟩:=(two_ok l[i].fk h1 h2 s2).qw
   obtain ⟨y5,g1,g2⟩:=(two_ok l[i].fk h1 h2 a5).qb
   obtain ⟨y6,k1,k2⟩:=(two_ok l[i].fk h1 h2 a5).qw
   rw [if_pos hi,List.getElem?_eq_getElem hi,obind,u1,obind,u2,obind,b1,obind,b2,obind,c1,obind,c2,obind]
   unfold jn
   simp only [beq_self_eq_true,if_true,decide_true,Bool.not_true]
   rw [if_neg (by decide),d1,obind,d2,obind,f1,obind,f2,obind]
   simp only [beq_self_eq_true,if_true,decide_true,Bool.not_true]
   rw [if_neg (by decide),g1,obind,g2,obind,k1,obind,k2,obind]
   simp only [beq_self_eq_true,if_true,decide_true,Bool.not_true]
   rw [if_neg (by decide)]
   exact hJ _ trivial (by omega)
  ·rw [if_neg hi]; exact ⟨_,rfl,rfl⟩
theorem balanceBounds_ex (a0:Tk) (a1:Tj) (a2:Tn) (a3:Int) (a4:Tp) (a5:Ta):∃ n,aC_p n a0 a1 a2 a3 a4 a5 = some true:=⟨FU,balanceBounds_ok a0 a1 a2 a3 a4 a5⟩
end Go.Proofs.YtgejkdheojkfiaaGreatDoor
