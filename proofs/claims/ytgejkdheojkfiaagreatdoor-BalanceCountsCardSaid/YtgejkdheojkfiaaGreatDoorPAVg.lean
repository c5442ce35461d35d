/- Plain laws: shares of any integers of 512 bits: read, told, checked, added, taken, multiplied, divided, compared. No program in sight but the printed functions. -/
import Derived.Test.YtgejkdheojkfiaaGreatDoorPAVe
import Derived.Test.YtgejkdheojkfiaaGreatDoorPARc
namespace Go.Proofs.YtgejkdheojkfiaaGreatDoor
open Go
set_option maxRecDepth 8000
def Sg (q:Rat):Ta:=⟨Wg q.num,Wg q.den⟩
def FQ (q:Rat):Prop:=Fw q.num/\Fw (q.den:Int)
def noS:Ta:=⟨(0,0,0,0,0,0,0,0),(0,0,0,0,0,0,0,0)⟩
theorem Fw.fit {z:Int} (h:Fw z):Fit 8 z:=by
  have h1:=FB_HB
  have h2:=HB_pos
  unfold Fit
  show z.natAbs < FB
  have:=h.1
  have:=h.2
  omega
theorem FQ.n {q:Rat} (h:FQ q):Fit 8 q.num:=h.1.fit
theorem FQ.d {q:Rat} (h:FQ q):Fit 8 (q.den:Int):=h.2.fit
theorem FQ.ndnz {q:Rat}:(q.den:Int) ≠ 0:=by have:=q.den_pos; omega
theorem Fw_small {z:Int} (h:Sm z):Fw z:=by
  have:9223372036854775808 <= HB:=by unfold HB; decide
  unfold Sm at h
  exact ⟨by omega,by omega⟩
theorem W8_Wg {z:Int} (h:Sm z):W8 z = Wg z:=by
  have hp:9223372036854775808 <= HB:=by unfold HB; decide
  have hf:=FB_HB
  refine Wg_of ?_
  unfold W8
  by_cases h0:z < 0
  · have e5:z % (FB:Int) = z + FB:=by
      rw [<- Int.add_emod_right]
      exact Int.emod_eq_of_lt (by unfold Sm at h; omega) (by omega)
    rw [if_pos h0,e5]
    have hv:val (wv ((u64of z,18446744073709551615,18446744073709551615,18446744073709551615,18446744073709551615,18446744073709551615,18446744073709551615,18446744073709551615):T8)) = (u64of z).toNat + 18446744073709551616 * val [18446744073709551615,18446744073709551615,18446744073709551615,18446744073709551615,18446744073709551615,18446744073709551615,18446744073709551615]:=rfl
    have hc:18446744073709551616 * val [18446744073709551615,18446744073709551615,18446744073709551615,18446744073709551615,18446744073709551615,18446744073709551615,18446744073709551615] + 18446744073709551616 = FB:=by decide
    rw [hv,u64_neg h h0]
    unfold Sm at h
    omega
  · rw [if_neg h0,Int.emod_eq_of_lt (by omega) (by unfold Sm at h; omega)]
    have hv:val (wv ((u64of z,0,0,0,0,0,0,0):T8)) = (u64of z).toNat:=by unfold wv; simp [val]
    rw [hv,u64_pos h h0,toNat_of h.w]
    omega
theorem Sh_Sg {q:Rat} (h1:Sm q.num) (h2:Sm (q.den:Int)):Sh q = Sg q:=by unfold Sh Sg; rw [W8_Wg h1,W8_Wg h2]
theorem Wg_inj {x y:Int} (hx:Fw x) (hy:Fw y) (e:Wg x = Wg y):x = y:=by
  have h1:=Wg_val x
  have h2:=Wg_val y
  rw [e,h2] at h1
  have hf:=FB_HB
  have hp:=HB_pos
  have a:=hx.1; have b:=hx.2; have c:=hy.1; have d:=hy.2
  have e3:=Int.emod_eq_emod_iff_emod_sub_eq_zero.1 h1
  obtain ⟨k,hk⟩:=Int.dvd_of_emod_eq_zero e3
  by_cases k0:k = 0
  · rw [k0,Int.mul_zero] at hk; omega
  · by_cases kp:1 <= k
    · have:(FB:Int) * 1 <= FB * k:=Int.mul_le_mul_of_nonneg_left kp (by omega)
      omega
    · have:(FB:Int) * k <= FB * (-1):=Int.mul_le_mul_of_nonneg_left (show k <= -1 by omega) (by omega)
      omega
theorem sreadG (n:Nat) (q:Rat) (h:FQ q) (hn:10 < n):aD_p n (Sg q) = some (Rt q):=by
  unfold aD_p
  rw [show (Sg q).fN = Wg q.num from rfl,show (Sg q).fD = Wg q.den from rfl,longerG n _ h.1 hn,obind,longerG n _ h.2 hn,obind]
  rfl
open Classical in
theorem rtoldG (n:Nat) (q:Rat) (hn:10 < n):bG_p n (Rt q) = some (if FQ q then (Sg q,0) else (noS,6)):=by
  unfold bG_p
  rw [show (Rt q).fx = L q.num from rfl,show (Rt q).ft = L q.den from rfl,toldG n _ hn,obind,toldG n _ hn,obind]
  by_cases h1:Fw q.num
  · by_cases h2:Fw (q.den:Int)
    · rw [if_pos h1,if_pos h2,if_pos (show FQ q from ⟨h1,h2⟩)]
      rfl
    · rw [if_pos h1,if_neg h2,if_neg fun h:FQ q=>h2 h.2]
      rfl
  · rw [if_neg h1,if_neg fun h:FQ q=>h1 h.1]
    rfl
theorem checkG (n:Nat) (q:Rat) (h:FQ q) (hn:18446744073709551616 < n):cU_p n (Sg q) = some 0:=by
  have hd:=q.den_pos
  unfold cU_p
  rw [from_ok n 1 (by unfold Sm; decide) (by omega),obind,sreadG n q h (by omega),obind,show (Rt q).fx = L q.num from rfl,show (Rt q).ft = L q.den from rfl,side_ok,obind,Int.sign_eq_one_of_pos (by omega),if_neg (by decide)]
  rw [commonG n 8 _ _ h.n h.d (by decide) hn,obind,show Nat.gcd q.num.natAbs (q.den:Int).natAbs = 1 from q.reduced]
  unfold cQ_p
  rw [minus_ok n 1 _ _ (by unfold Fit; decide) (by unfold Fit; decide) (by omega) (by omega),obind,side_ok]
  rfl
theorem valid1G (n:Nat) (q:Rat) (h:FQ q) (hn:18446744073709551616 < n):cO_p n (Sg q) = some true:=by
  unfold cO_p; rw [checkG n q h hn]; rfl
theorem validG (n:Nat) (l:List Rat) (h:∀ q ∈ l,FQ q) (hl:l.length < n) (hn:18446744073709551616 < n):aI_p n (l.map Sg) = some true:=by
  have hh:=loop_ok (B:=aI_l1 n (l.map Sg)) (fun i:Nat=>l.length - i) (fun i=>i <= l.length) (fun r=>r = .inr ()) ?_ n 0 (Nat.zero_le _) (by simpa using hl)
  · obtain ⟨r,e,rfl⟩:=hh
    unfold aI_p
    rw [e]; rfl
  · intro i J hi hJ
    unfold aI_l1
    simp only
    by_cases h0:i < l.length
    · rw [if_pos (by simpa using h0),List.getElem?_eq_getElem (by simpa using h0),obind,List.getElem_map]
      rw [valid1G n _ (h l[i] (List.getElem_mem _)) hn,obind,if_pos rfl]
      exact hJ (i + 1) h0 (by omega)
    · rw [if_neg (by simpa using h0)]
      exact ⟨_,rfl,rfl⟩
theorem valid2G (n:Nat) (a b:Rat) (ha:FQ a) (hb:FQ b) (hn:18446744073709551616 < n):aI_p n [Sg a,Sg b] = some true:=
  validG n [a,b] (fun q hq=>by
    rcases List.mem_cons.1 hq with rfl | hq
    · exact ha
    · rw [List.mem_singleton.1 hq]; exact hb) (by simp only [List.length_cons,List.length_nil]; omega) hn
theorem Fit.mul {l m:Nat} {a b:Int} (ha:Fit l a) (hb:Fit m b):Fit (l + m) (a * b):=by
  unfold Fit at *
  rw [Int.natAbs_mul,Nat.pow_add]
  exact Nat.mul_lt_mul'' ha hb
theorem Fit.add {l:Nat} {a b:Int} (ha:Fit l a) (hb:Fit l b):Fit (l + 1) (a + b):=by
  unfold Fit at *
  have:2 * 18446744073709551616 ^ l <= 18446744073709551616 ^ (l + 1):=by rw [Nat.pow_succ,Nat.mul_comm]; exact Nat.mul_le_mul_left _ (by decide)
  omega
theorem Fit.mono {l m:Nat} {a:Int} (ha:Fit l a) (h:l <= m):Fit m a:=Nat.lt_of_lt_of_le ha (Nat.pow_le_pow_right (by decide) h)
structure RF (l:Nat) (q:Rat):Prop where
  n:Fit l q.num
  d:Fit l (q.den:Int)
theorem FQ.rf {q:Rat} (h:FQ q):RF 8 q:=⟨h.n,h.d⟩
theorem RF.of {l:Nat} {a b:Int} (ha:Fit l a) (hb:Fit l b) (h1:(Rat.divInt a b).num.natAbs <= a.natAbs) (h2:(Rat.divInt a b).den <= b.natAbs):RF l (Rat.divInt a b):=
  ⟨Nat.lt_of_le_of_lt h1 ha,by unfold Fit; rw [Int.natAbs_natCast]; exact Nat.lt_of_le_of_lt h2 hb⟩
theorem plusG (n l:Nat) (a b:Rat) (ha:RF l a) (hb:RF l b) (hl:l < 1000) (hn:18446744073709551616 < n):cg_p n (Rt a) (Rt b) = some (Rt (a + b))/\RF (l + l + 1) (a + b):=by
  have d0:(a.den:Int) * b.den ≠ 0:=Int.mul_ne_zero FQ.ndnz FQ.ndnz
  have e:a + b = Rat.divInt (a.num * b.den + b.num * a.den) (a.den * b.den):=by
    conv=>lhs; rw [<- Rat.num_divInt_den a,<- Rat.num_divInt_den b]
    exact Rat.divInt_add_divInt _ _ FQ.ndnz FQ.ndnz
  have f1:=(ha.n.mul hb.d).add (hb.n.mul ha.d)
  have f2:=(ha.d.mul hb.d).mono (show l + l <= l + l + 1 by omega)
  obtain ⟨e1,e2,e3⟩:=lowestG n (l + l + 1) _ _ f1 f2 d0 (by omega) hn
  rw [<- e] at e1 e2 e3
  refine ⟨?_,?_⟩
  · unfold cg_p Rt
    rw [times_ok n l l _ _ ha.n hb.d (by omega) (by omega),obind,times_ok n l l _ _ hb.n ha.d (by omega) (by omega),obind,plus_ok n (l + l) _ _ (ha.n.mul hb.d) (hb.n.mul ha.d) (by omega) (by omega),obind,times_ok n l l _ _ ha.d hb.d (by omega) (by omega),obind,e1]
    rfl
  · rw [e]; rw [e] at e2 e3; exact RF.of f1 f2 e2 e3
theorem overG (n l:Nat) (a b:Rat) (ha:RF l a) (hb:RF l b) (h0:b ≠ 0) (hl:l < 1000) (hn:18446744073709551616 < n):ci_p n (Rt a) (Rt b) = some (Rt (a / b))/\RF (l + l) (a / b):=by
  have b0:b.num ≠ 0:=fun e=>h0 (Rat.num_eq_zero.1 e)
  have d0:(a.den:Int) * b.num ≠ 0:=Int.mul_ne_zero FQ.ndnz b0
  have e:a / b = Rat.divInt (a.num * b.den) (a.den * b.num):=by
    conv=>lhs; rw [Rat.div_def,<- Rat.num_divInt_den a,<- Rat.num_divInt_den b,Rat.inv_divInt]
    exact Rat.divInt_mul_divInt _ _
  have f1:=ha.n.mul hb.d
  have f2:=ha.d.mul hb.n
  obtain ⟨e1,e2,e3⟩:=lowestG n (l + l) _ _ f1 f2 d0 (by omega) hn
  rw [<- e] at e1 e2 e3
  refine ⟨?_,?_⟩
  · unfold ci_p Rt
    rw [times_ok n l l _ _ ha.n hb.d (by omega) (by omega),obind,times_ok n l l _ _ ha.d hb.n (by omega) (by omega),obind,e1]
    rfl
  · rw [e]; rw [e] at e2 e3; exact RF.of f1 f2 e2 e3
theorem RF.neg {l:Nat} {q:Rat} (h:RF l q):RF l (-q):=⟨by rw [Rat.neg_num]; exact h.n.neg,by rw [Rat.neg_den]; exact h.d⟩
theorem turnedG (n l:Nat) (a:Rat) (ha:RF l a) (hl:l < 1000) (hn:18446744073709551616 < n):bQ_p n (Rt a) = some (Rt (-a)):=by
  unfold bQ_p Rt
  rw [turned_ok n l _ ha.n (by omega) (by omega),obind,Rat.neg_num,Rat.neg_den]
open Classical in
theorem stoldG (n:Nat) (q:Rat) (hn:10 < n):bg_p n (Rt q) 0 = some (if FQ q then (Sg q,0) else (noS,6)):=by
  unfold bg_p
  rw [if_pos rfl,rtoldG n q hn]
  rfl
open Classical in
theorem subG (n:Nat) (a b:Rat) (ha:FQ a) (hb:FQ b) (hn:18446744073709551616 < n):cR_p n (Sg a) (Sg b) = some (if FQ (a - b) then (Sg (a - b),0) else (noS,6)):=by
  obtain ⟨e1,_⟩:=plusG n 8 a (-b) ha.rf hb.rf.neg (by decide) hn
  rw [<- Rat.sub_eq_add_neg] at e1
  unfold cR_p
  rw [valid2G n a b ha hb hn,obind,if_pos rfl,sreadG n a ha (by omega),obind,sreadG n b hb (by omega),obind]
  unfold cz_p
  rw [turnedG n 8 b hb.rf (by decide) hn,obind,e1,obind,obind,stoldG n _ (by omega)]
  rfl
theorem Wg_zero:Wg 0 = (0,0,0,0,0,0,0,0):=(Wg_of (by decide)).symm
open Classical in
theorem divG (n:Nat) (a b:Rat) (ha:FQ a) (hb:FQ b) (h0:b ≠ 0) (hn:18446744073709551616 < n):cS_p n (Sg a) (Sg b) = some (if FQ (a / b) then (Sg (a / b),0) else (noS,6)):=by
  obtain ⟨e1,_⟩:=overG n 8 a b ha.rf hb.rf h0 (by decide) hn
  have hz:Fw 0:=⟨by have:=HB_pos; omega,by have:=HB_pos; omega⟩
  unfold cS_p
  rw [valid2G n a b ha hb hn,obind,if_pos rfl,if_neg (show ¬ (Sg b).fN = (0,0,0,0,0,0,0,0) from fun e=>h0 (Rat.num_eq_zero.1 (Wg_inj hb.1 hz (e.trans Wg_zero.symm)))),obind,if_pos rfl,sreadG n a ha (by omega),obind,sreadG n b hb (by omega),obind,e1,obind,stoldG n _ (by omega)]
  rfl
end Go.Proofs.YtgejkdheojkfiaaGreatDoor
/- Plain laws: the reference's integers of any length: sums, products, differences; wide integers, read and told. No program in sight but the printed functions. -/
namespace Go.Proofs.YtgejkdheojkfiaaGreatDoor
open Go
set_option maxRecDepth 8000
def FtR (l:Nat) (z:Int):Prop:=z.natAbs < 4294967296 ^ l
theorem FtR.len {l:Nat} {z:Int} (h:FtR l z):(rd z.natAbs).length <= l:=rd_len h
/-! ### Products -/
theorem u64_dig {x:Int} (h:0 <= x/\x < 4294967296):(u64of x).toNat = x.toNat:=by
  unfold u64of
  rw [UInt64.toNat_ofNat']; omega
end Go.Proofs.YtgejkdheojkfiaaGreatDoor
/- Plain laws: the reference's wide integers, read and told; its fractions. No program in sight but the printed functions. -/
namespace Go.Proofs.YtgejkdheojkfiaaGreatDoor
open Go
set_option maxRecDepth 8000
theorem FB_dig:FB = 4294967296 ^ 16:=by unfold FB; decide
theorem HB_dig:HB = 4294967296 ^ 15 * 2147483648:=by unfold HB; decide
theorem one_at (l j:Nat) (v:Int) (h:j < l) (hv:0 <= v/\v < 4294967296):dv ((List.replicate l (0:Int)).set j v) = 4294967296 ^ j * v.toNat/\Dig ((List.replicate l (0:Int)).set j v):=by
  have hz:dv (List.replicate l (0:Int)) = 0:=dv_zero _ fun x hx=>(List.mem_replicate.1 hx).2
  have hp:=dv_put (xs:=List.replicate l (0:Int)) v (show j < (List.replicate l (0:Int)).length by simpa using h)
  rw [hz,List.getElem_replicate] at hp
  refine ⟨by simpa using hp,fun x hx=>?_⟩
  rcases List.mem_or_eq_of_mem_set hx with hm | rfl
  · rw [(List.mem_replicate.1 hm).2]; exact ⟨Int.le_refl _,by decide⟩
  · exact hv
theorem whole_ok {α:Type} (f:List Int -> Option α):((mk 17 (0:Int)).bind fun xs42=>(xs42[16]?).bind fun _=>(put xs42 ((16:Nat):Int) (1:Int)).bind f) = f ((List.replicate 17 (0:Int)).set 16 1):=rfl
theorem less_whole (n m:Nat) (hm:m <= FB) (_h0:0 < m) (hn:20000 < n):ar_p n ((List.replicate 17 (0:Int)).set 16 1) (rd m) = some (rd (FB - m)):=by
  obtain ⟨w1,w2⟩:=one_at 17 16 1 (by decide) (by decide)
  have e:dv ((List.replicate 17 (0:Int)).set 16 1) = FB:=by rw [w1,FB_dig]; rfl
  have hl:(rd m).length <= 17:=rd_len (Nat.lt_of_le_of_lt hm (by rw [FB_dig]; decide))
  rw [lessR_ok n _ _ w2 (rd_dig _) (by rw [List.length_set,List.length_replicate]; exact hl) (by rw [e,dv_rd]; exact hm) (by rw [List.length_set,List.length_replicate]; omega) (by rw [List.length_set,List.length_replicate]; omega),e,dv_rd]
theorem wv_setA (t:T8) (m:Nat) (hm:m < 8) (v:UInt64):wv (setA m 0 v t.1,setA m 1 v t.2.1,setA m 2 v t.2.2.1,setA m 3 v t.2.2.2.1,setA m 4 v t.2.2.2.2.1,setA m 5 v t.2.2.2.2.2.1,setA m 6 v t.2.2.2.2.2.2.1,setA m 7 v t.2.2.2.2.2.2.2) = (wv t).set m v:=by
  obtain ⟨t1,t2,t3,t4,t5,t6,t7,t8⟩:=t
  match m,hm with
  | 0,_=>rfl
  | 1,_=>rfl
  | 2,_=>rfl
  | 3,_=>rfl
  | 4,_=>rfl
  | 5,_=>rfl
  | 6,_=>rfl
  | 7,_=>rfl
theorem pow_two (m:Nat):4294967296 ^ (2 * m) = 18446744073709551616 ^ m:=by
  rw [Nat.pow_mul]
theorem words_ok (n:Nat) (ys:List Int) (hd:Dig ys) (hl:ys.length <= 16) (hn:20 < n):∃ t:T8,loopF (aw_l2 n ys) n (0,(0:UInt64),(0:UInt64),(0:UInt64),(0:UInt64),(0:UInt64),(0:UInt64),(0:UInt64),(0:UInt64)) = some t/\val (wv t) = dv ys:=by
  refine loop_ok (B:=aw_l2 n ys) (fun s:Nat × T8=>ys.length - s.1) (fun s=>s.1 <= ys.length/\val (wv s.2) = dv (ys.take s.1)/\(∀ k (h:k < (wv s.2).length),(s.1 + 1) / 2 <= k -> (wv s.2)[k] = 0)/\(s.1 % 2 = 1 -> ∀ (h:s.1 / 2 < (wv s.2).length),(wv s.2)[s.1 / 2].toNat < 4294967296)) (fun t=>val (wv t) = dv ys) ?_ n (0,((0,0,0,0,0,0,0,0):T8)) ⟨Nat.zero_le _,rfl,fun k hk _=>?_,fun h=>(by cases h)⟩ (by simp only; omega)
  · rintro ⟨i,t⟩ J ⟨h1,h2,h3,h4⟩ hJ
    simp only at h1 h2 h3 h4 hJ
    obtain ⟨t1,t2,t3,t4,t5,t6,t7,t8⟩:=t
    have e8:(wv (t1,t2,t3,t4,t5,t6,t7,t8)).length = 8:=rfl
    unfold aw_l2
    simp only
    by_cases hi:i < ys.length
    · have hm:i / 2 < (wv (t1,t2,t3,t4,t5,t6,t7,t8)).length:=by rw [e8]; omega
      have dy:=hd ys[i] (List.getElem_mem _)
      have hu:=u64_dig dy
      have hset:=fun v=>wv_setA (t1,t2,t3,t4,t5,t6,t7,t8) (i / 2) (by omega) v
      rw [if_pos hi]
      show ∃ r,(((wv (t1,t2,t3,t4,t5,t6,t7,t8))[i / 2]?).bind fun z340=>(ys[i]?).bind fun x342=>(chk (32 * ((i % 2:Nat):Int))).bind fun s351=>(natOf s351).bind fun k352=>J (i + 1,setA (i / 2) 0 (z340 + (shlU (u64of x342) k352)) t1,setA (i / 2) 1 (z340 + (shlU (u64of x342) k352)) t2,setA (i / 2) 2 (z340 + (shlU (u64of x342) k352)) t3,setA (i / 2) 3 (z340 + (shlU (u64of x342) k352)) t4,setA (i / 2) 4 (z340 + (shlU (u64of x342) k352)) t5,setA (i / 2) 5 (z340 + (shlU (u64of x342) k352)) t6,setA (i / 2) 6 (z340 + (shlU (u64of x342) k352)) t7,setA (i / 2) 7 (z340 + (shlU (u64of x342) k352)) t8)) = some r/\_
      have key:∀ v:UInt64,(wv (t1,t2,t3,t4,t5,t6,t7,t8))[i / 2].toNat <= v.toNat -> 18446744073709551616 ^ (i / 2) * (v.toNat - (wv (t1,t2,t3,t4,t5,t6,t7,t8))[i / 2].toNat) = 4294967296 ^ i * ys[i].toNat -> (i % 2 = 0 -> v.toNat < 4294967296) -> ∃ r,J (i + 1,setA (i / 2) 0 v t1,setA (i / 2) 1 v t2,setA (i / 2) 2 v t3,setA (i / 2) 3 v t4,setA (i / 2) 4 v t5,setA (i / 2) 5 v t6,setA (i / 2) 6 v t7,setA (i / 2) 7 v t8) = some r/\val (wv r) = dv ys:=fun v hv1 hv2 hv3=>by
        refine hJ (i + 1,(setA (i / 2) 0 v t1,setA (i / 2) 1 v t2,setA (i / 2) 2 v t3,setA (i / 2) 3 v t4,setA (i / 2) 4 v t5,setA (i / 2) 5 v t6,setA (i / 2) 6 v t7,setA (i / 2) 7 v t8)) ⟨hi,?_,fun k hk hk2=>?_,fun hp hk=>?_⟩ (by simp only; omega)
        · have hput:=val_put (xs:=wv (t1,t2,t3,t4,t5,t6,t7,t8)) (j:=i / 2) v (by omega)
          have hs:=hset v
          simp only at hs ⊢
          rw [hs,dv_take ys hi,<- h2,<- hv2]
          have:=Nat.mul_sub (18446744073709551616 ^ (i / 2)) v.toNat (wv (t1,t2,t3,t4,t5,t6,t7,t8))[i / 2].toNat
          have:=Nat.mul_le_mul_left (18446744073709551616 ^ (i / 2)) hv1
          omega
        · have hs:=hset v
          simp only at hs hk hk2 ⊢
          simp only [hs]
          rw [List.getElem_set_ne (by omega)]
          exact h3 k (by rw [hs,List.length_set] at hk; exact hk) (by omega)
        · have hs:=hset v
          simp only at hs hk hp ⊢
          have hq:(i + 1) / 2 = i / 2:=by omega
          simp only [hs,hq]
          rw [List.getElem_set_self]
          exact hv3 (by omega)
      rw [List.getElem?_eq_getElem (by omega),obind,List.getElem?_eq_getElem hi,obind]
      rcases Nat.mod_two_eq_zero_or_one i with hp | hp
      · have hw:=h3 (i / 2) (by omega) (by omega)
        rw [hp,show chk (32 * ((0:Nat):Int)) = some 0 from rfl,obind,show natOf 0 = some 0 from rfl,obind,shl_zero]
        rw [hw] at key ⊢
        rw [UInt64.zero_add]
        refine key _ (by simp) ?_ fun _=>by rw [hu]; omega
        rw [hu,UInt64.toNat_zero,Nat.sub_zero,<- pow_two,show 2 * (i / 2) = i by omega]
      · have hw:=h4 hp (by omega)
        rw [hp,show chk (32 * ((1:Nat):Int)) = some 32 from rfl,obind,show natOf 32 = some 32 from rfl,obind]
        have hv:((wv (t1,t2,t3,t4,t5,t6,t7,t8))[i / 2] + shlU (u64of ys[i]) 32).toNat = (wv (t1,t2,t3,t4,t5,t6,t7,t8))[i / 2].toNat + ys[i].toNat * 4294967296:=by
          rw [UInt64.toNat_add,shl_nat _ (by decide),hu]
          omega
        refine key _ (by rw [hv]; omega) ?_ fun h=>by omega
        have hsub:(wv (t1,t2,t3,t4,t5,t6,t7,t8))[i / 2].toNat + ys[i].toNat * 4294967296 - (wv (t1,t2,t3,t4,t5,t6,t7,t8))[i / 2].toNat = ys[i].toNat * 4294967296:=Nat.add_sub_cancel_left ..
        have e:4294967296 ^ i = 18446744073709551616 ^ (i / 2) * 4294967296:=by
          conv=>lhs; rw [show i = 2 * (i / 2) + 1 by omega,Nat.pow_succ,pow_two]
        rw [hv,hsub,e,Nat.mul_assoc,Nat.mul_comm ys[i].toNat]
    · rw [if_neg hi]
      refine ⟨_,rfl,?_⟩
      rw [h2,List.take_of_length_le (by omega)]
  · match k,hk with
    | 0,_=>rfl
    | 1,_=>rfl
    | 2,_=>rfl
    | 3,_=>rfl
    | 4,_=>rfl
    | 5,_=>rfl
    | 6,_=>rfl
    | 7,_=>rfl
open Classical in
theorem outG_ok (n l:Nat) (z:Int) (h:FtR l z) (hl:l < 10000) (hn:20000 < n):aw_p n (R8 z) = some (if Fw z then (Wg z,0) else ((0,0,0,0,0,0,0,0),6)):=by
  have hf:=FB_HB
  have hp:=HB_pos
  have hlen:=h.len
  obtain ⟨w1,w2⟩:=one_at 16 15 2147483648 (by decide) (by decide)
  have hdv:dv ((List.replicate 16 (0:Int)).set 15 2147483648) = HB:=by rw [w1,HB_dig]; rfl
  have hnr:Nr ((List.replicate 16 (0:Int)).set 15 2147483648):=fun x hx=>by
    rw [show ((List.replicate 16 (0:Int)).set 15 2147483648).getLast? = some 2147483648 from rfl] at hx
    rw [<- Option.some.inj hx]; decide
  obtain ⟨c,e1,e2,e3⟩:=order_ok n (rd z.natAbs) ((List.replicate 16 (0:Int)).set 15 2147483648) (rd_dig _) w2 (rd_nr _) hnr (by omega) (by omega)
  rw [dv_rd,hdv] at e2 e3
  have hlim:∀ {α:Type} (f:List Int -> Option α),((mk 16 (0:Int)).bind fun xs21=>(xs21[15]?).bind fun _=>(put xs21 ((15:Nat):Int) (2147483648:Int)).bind f) = f ((List.replicate 16 (0:Int)).set 15 2147483648):=fun f=>rfl
  unfold aw_p
  refine (hlim _).trans ?_
  rw [show (R8 z).fD = rd z.natAbs from rfl,e1,obind]
  have l12:∀ ys,aw_l1 n ys = aw_l2 n ys:=fun _=>rfl
  have hneg:z < 0 -> Fw z -> ∃ t:T8,loopF (aw_l2 n (rd (FB - z.natAbs))) n (0,(0:UInt64),(0:UInt64),(0:UInt64),(0:UInt64),(0:UInt64),(0:UInt64),(0:UInt64),(0:UInt64)) = some t/\t = Wg z:=fun hz hw=>by
    obtain ⟨t,e,hv⟩:=words_ok n (rd (FB - z.natAbs)) (rd_dig _) (rd_len (by rw [<- FB_dig]; omega)) (by omega)
    rw [dv_rd] at hv
    refine ⟨t,e,Wg_of ?_⟩
    have:=Wg_neg hw hz
    rw [hv,<- Wg_val]
    omega
  by_cases c1:0 < c
  · rw [if_pos c1,if_neg (fun hw=>by have:=hw.1; have:=hw.2; omega)]
  · rw [if_neg c1]
    by_cases c0:c = 0
    · rw [if_pos c0]
      have hz:=e3.1 c0
      by_cases hb:z < 0
      · have hw:Fw z:=⟨by omega,by omega⟩
        obtain ⟨t,e,rfl⟩:=hneg hb hw
        rw [if_pos (show (R8 z).fc = true from decide_eq_true hb),if_pos hw]
        refine (whole_ok _).trans ?_
        rw [less_whole n _ (by omega) (by omega) hn,obind,l12,e,obind]
      · rw [if_neg (show ¬ (R8 z).fc = true from by simpa [R8] using hb),if_neg (fun hw=>by have:=hw.2; omega)]
    · rw [if_neg c0]
      have hlt:z.natAbs < HB:=e2.1 (by omega)
      have hw:Fw z:=⟨by omega,by omega⟩
      unfold jn
      simp only
      rw [if_pos hw]
      by_cases hb:z < 0
      · obtain ⟨t,e,rfl⟩:=hneg hb hw
        rw [if_pos (show (R8 z).fc = true from decide_eq_true hb)]
        refine (whole_ok _).trans ?_
        rw [less_whole n _ (by omega) (by omega) hn,obind,e,obind]
      · obtain ⟨t,e,hv⟩:=words_ok n (rd z.natAbs) (rd_dig _) (rd_len (by rw [<- FB_dig]; omega)) (by omega)
        rw [dv_rd] at hv
        have:t = Wg z:=Wg_of (by
          have:=Wg_pos hw (by omega)
          rw [hv,<- Wg_val,this])
        subst this
        rw [if_neg (show ¬ (R8 z).fc = true from by simpa [R8] using hb),e,obind]
end Go.Proofs.YtgejkdheojkfiaaGreatDoor
/- Plain laws: how long the parts of fractions are, in bits. No program in sight. -/
namespace Go.Proofs.YtgejkdheojkfiaaGreatDoor
open Go
set_option maxRecDepth 8000
theorem div_num {a b:Int} (hb:b ≠ 0):(Rat.divInt a b).num * b = a * (Rat.divInt a b).den:=by
  have h:=Rat.num_divInt_den (Rat.divInt a b)
  exact (Rat.divInt_eq_divInt_iff FQ.ndnz hb).1 h
theorem div_le {a b:Int} (hb:b ≠ 0):(Rat.divInt a b).num.natAbs <= a.natAbs/\(Rat.divInt a b).den <= b.natAbs:=by
  have h:=congrArg Int.natAbs (div_num (a:=a) hb)
  rw [Int.natAbs_mul,Int.natAbs_mul,Int.natAbs_natCast] at h
  have hc:=(Rat.divInt a b).reduced
  have hd:=(Rat.divInt a b).den_pos
  generalize (Rat.divInt a b).num.natAbs = x at *
  generalize (Rat.divInt a b).den = y at *
  have hbp:0 < b.natAbs:=by omega
  constructor
  · by_cases h0:a.natAbs = 0
    · rw [h0,Nat.zero_mul] at h
      rcases Nat.mul_eq_zero.1 h with h1 | h1
      · omega
      · omega
    · exact Nat.le_of_dvd (by omega) (hc.dvd_of_dvd_mul_right (by rw [<- h]; exact Nat.dvd_mul_right ..))
  · exact Nat.le_of_dvd hbp (hc.symm.dvd_of_dvd_mul_left (by rw [h]; exact Nat.dvd_mul_left ..))
def Bt (i j:Nat) (q:Rat):Prop:=q.num.natAbs < 2 ^ i/\q.den < 2 ^ j
theorem hb_pow (w:Nat):9223372036854775808 * 18446744073709551616 ^ w = 2 ^ (63 + 64 * w):=by
  rw [Nat.pow_add,<- pow64]
def hbl:Nat:=511
theorem hb_pow' {w l:Nat} (h:l = 63 + 64 * w):9223372036854775808 * 18446744073709551616 ^ w = 2 ^ l:=by subst h; exact hb_pow w
theorem HB_pow:HB = 2 ^ hbl:=hb_pow' (w:=7) (l:=hbl) rfl
theorem Bt.fq {i j:Nat} {q:Rat} (h:Bt i j q) (hi:i <= 500) (hj:j <= 500):FQ q:=by
  have e:hbl = 511:=rfl
  have h1:2 ^ i <= HB:=by rw [HB_pow]; exact Nat.pow_le_pow_right (by decide) (by omega)
  have h2:2 ^ j <= HB:=by rw [HB_pow]; exact Nat.pow_le_pow_right (by decide) (by omega)
  have h3:=h.1
  have h4:=h.2
  exact ⟨⟨by omega,by omega⟩,⟨by omega,by omega⟩⟩
theorem Bt.of {i j:Nat} {a b:Int} (hb:b ≠ 0) (h1:a.natAbs < 2 ^ i) (h2:b.natAbs < 2 ^ j):Bt i j (Rat.divInt a b):=by
  obtain ⟨d1,d2⟩:=div_le (a:=a) hb
  exact ⟨by omega,by omega⟩
section
variable {n:Nat} {a b:Rat}
theorem sub_q (ha:FQ a) (hb:FQ b) (h:FQ (a - b)) (hn:18446744073709551616 < n):cR_p n (Sg a) (Sg b) = some (Sg (a - b),0):=by rw [subG n a b ha hb hn,if_pos h]
theorem div_q (ha:FQ a) (hb:FQ b) (h0:b ≠ 0) (h:FQ (a / b)) (hn:18446744073709551616 < n):cS_p n (Sg a) (Sg b) = some (Sg (a / b),0):=by rw [divG n a b ha hb h0 hn,if_pos h]
end
end Go.Proofs.YtgejkdheojkfiaaGreatDoor
