/- Plain laws: the reference's wide integers, read and told; its fractions. No program in sight but the printed functions. -/
import Derived.Test.YtfccehcnajelgaaGreatDoorUBRe
namespace Go.Proofs.YtfccehcnajelgaaGreatDoor
open Go
set_option maxRecDepth 8000
def hvs:List UInt64 -> List Int
 | []=>[]
 | w :: ws=>az (w % (4294967296:UInt64)) :: az (w / (4294967296:UInt64)) :: hvs ws
theorem lK:∀ xs ys:List UInt64,hvs (xs ++ ys) = hvs xs ++ hvs ys
 | [],_=>rfl
 | x :: xs,ys=>by show _ :: _ :: hvs (xs ++ ys) = _; rw [lK xs ys]; rfl
theorem iT:∀ ws:List UInt64,Dig (hvs ws)
 | []=>eF
 | w :: ws=>fun x hx=>by
  have hw:=w.toNat_lt
  rcases List.mem_cons.1 hx with rfl | hx
  ·rw [ju]; omega
  ·rcases List.mem_cons.1 hx with rfl | hx
   ·rw [ma]; omega
   ·exact iT ws x hx
theorem kZ:∀ ws:List UInt64,dv (hvs ws) = val ws
 | []=>rfl
 | w :: ws=>by
  show (az (w % (4294967296:UInt64))).toNat + 4294967296 * ((az (w / (4294967296:UInt64))).toNat + 4294967296 * dv (hvs ws)) = w.toNat + 18446744073709551616 * val ws
  rw [kZ ws,ju,ma,Int.toNat_natCast,Int.toNat_natCast]
  omega
theorem jp:∀ ws:List UInt64,(hvs ws).length = 2 * ws.length
 | []=>rfl
 | w :: ws=>by show (hvs ws).length + 1 + 1 = 2 * (ws.length + 1); rw [jp ws]; omega
theorem mA (n:Nat) (t:T8) (hn:10 < n):bq_p n t = some (hvs (wv t)):=by
 have hl:(wv t).length = 8:=rfl
 have h:=aj (B:=bq_l1 n t) (fun s:Nat × List Int=>8 - s.1) (fun s=>s.1 <= 8/\s.2 = hvs ((wv t).take s.1)) (fun r=>r = hvs (wv t)) ?_ n (0,[]) ⟨Nat.zero_le _,rfl⟩ (by simp only; omega)
 ·obtain ⟨y,e,rfl⟩:=h
  unfold bq_p
  rw [e,aa]
 ·rintro ⟨i,xs⟩ J ⟨h1,h2⟩ hJ
  simp only at h1 h2 hJ
  subst h2
  unfold bq_l1
  simp only
  by_cases hi:i < 8
  ·rw [if_pos hi]
   show ∃ r,(((wv t)[i]?).bind fun z90=>(app (hvs ((wv t).take i)) ([az (z90 % (4294967296:UInt64)),az (z90 / (4294967296:UInt64))]:List Int)).bind fun xs99=>J (i + 1,xs99)) = some r/\_
   have next:=hJ (i + 1,hvs ((wv t).take (i + 1))) ⟨hi,rfl⟩ (by simp only; omega)
   rw [List.take_succ_eq_append_getElem (by omega),lK] at next
   rw [geE (by omega),aa,bb _ _ (by rw [jp,List.length_take]; simp only [leC,leN]; omega),aa]
   exact next
  ·rw [if_neg hi]
   exact ⟨_,rfl,by rw [List.take_of_length_le (by omega)]⟩
theorem oB (t:T8):t.2.2.2.2.2.2.2 < (9223372036854775808:UInt64) ↔ val (wv t) < HB:=by
 have h:=gq t
 have hs:(shrU t.2.2.2.2.2.2.2 63).toNat = t.2.2.2.2.2.2.2.toNat / 9223372036854775808:=bM _ (by decide)
 have ht:=t.2.2.2.2.2.2.2.toNat_lt
 have hsw:shrU t.2.2.2.2.2.2.2 63 = 1 ↔ 9223372036854775808 <= t.2.2.2.2.2.2.2.toNat:=by
  constructor
  ·intro h
   have:=congrArg UInt64.toNat h
   rw [hs] at this
   simp only [UInt64.toNat_one] at this
   omega
  ·intro h
   refine UInt64.toNat_inj.1 ?_
   rw [hs]
   simp only [UInt64.toNat_one]
   omega
 rw [UInt64.lt_iff_toNat_lt,show (9223372036854775808:UInt64).toNat = 9223372036854775808 from rfl]
 rw [hsw] at h
 omega
theorem eb:FB = 4294967296 ^ 16:=by unfold FB; decide
theorem HB_dig:HB = 4294967296 ^ 15 * 2147483648:=by unfold HB; decide
theorem og (l j:Nat) (v:Int) (h:j < l) (hv:0 <= v/\v < 4294967296):dv ((List.replicate l (0:Int)).set j v) = 4294967296 ^ j * v.toNat/\Dig ((List.replicate l (0:Int)).set j v):=by
 have hz:dv (List.replicate l (0:Int)) = 0:=ew _ fun x hx=>(List.mem_replicate.1 hx).2
 have hp:=lB (xs:=List.replicate l (0:Int)) v (show j < (List.replicate l (0:Int)).length by simpa using h)
 rw [hz,List.getElem_replicate] at hp
 refine ⟨by simpa using hp,fun x hx=>?_⟩
 rcases List.mem_or_eq_of_mem_set hx with hm | rfl
 ·rw [(List.mem_replicate.1 hm).2]; exact ⟨Int.le_refl _,by decide⟩
 ·exact hv
theorem gG {α:Type} (f:List Int -> Option α):((mk 17 (0:Int)).bind fun xs42=>(xs42[16]?).bind fun _=>(put xs42 ((16:Nat):Int) (1:Int)).bind f) = f ((List.replicate 17 (0:Int)).set 16 1):=rfl
theorem dS (n m:Nat) (hm:m <= FB) (_h0:0 < m) (hn:20000 < n):al_p n ((List.replicate 17 (0:Int)).set 16 1) (rd m) = some (rd (FB - m)):=by
 obtain ⟨w1,w2⟩:=og 17 16 1 (by decide) (by decide)
 have e:dv ((List.replicate 17 (0:Int)).set 16 1) = FB:=by rw [w1,eb]; rfl
 have hl:(rd m).length <= 17:=cu (Nat.lt_of_le_of_lt hm (by rw [eb]; decide))
 rw [gz n _ _ w2 (aC _) (by rw [List.length_set,List.length_replicate]; exact hl) (by rw [e,aL]; exact hm) (by rw [List.length_set,List.length_replicate]; omega) (by rw [List.length_set,List.length_replicate]; omega),e,aL]
theorem jH (n:Nat) (z:Int) (h:Fw z) (hn:20000 < n):ap_p n (Wg z) = some (R8 z):=by
 have hf:=cW
 have hp:=bU
 have hl:(hvs (wv (Wg z))).length = 16:=jp _
 unfold ap_p
 rw [mA n _ (by omega),aa]
 by_cases hz:z < 0
 ·have hv:=kS h hz
  have h1:=h.1
  rw [if_neg (fun hc=>by have:=(oB _).1 hc; omega)]
  have hw:=gG (fun xs61=>(az_p n (hvs (wv (Wg z)))).bind fun y67=>(al_p n xs61 y67).bind fun y76=>(aa_p n true y76).bind fun y90=>some y90)
  refine hw.trans ?_
  rw [dK n _ (iT _) (by omega) (by omega),aa,kZ,dS n _ (by omega) (by omega) hn,aa,show FB - val (wv (Wg z)) = z.natAbs by omega,bW n _ _ (aC _) (by have:=cu (m:=z.natAbs) (l:=17) (Nat.lt_of_le_of_lt (show z.natAbs <= FB by omega) (by rw [eb]; decide)); omega) (by have:=cu (m:=z.natAbs) (l:=17) (Nat.lt_of_le_of_lt (show z.natAbs <= FB by omega) (by rw [eb]; decide)); omega),aa,aL]
  unfold R8
  rw [decide_eq_true hz,decide_eq_true (show 0 < z.natAbs by omega)]
  rfl
 ·have hv:=lu h (by omega)
  have h1:=h.2
  rw [if_pos ((oB _).2 (by omega)),bW n _ _ (iT _) (by omega) (by omega),aa,kZ,hv]
  unfold R8
  rw [decide_eq_false hz]
  rfl
/-! ### Told -/
theorem wv_setA (t:T8) (m:Nat) (hm:m < 8) (v:UInt64):wv (au m 0 v t.1,au m 1 v t.2.1,au m 2 v t.2.2.1,au m 3 v t.2.2.2.1,au m 4 v t.2.2.2.2.1,au m 5 v t.2.2.2.2.2.1,au m 6 v t.2.2.2.2.2.2.1,au m 7 v t.2.2.2.2.2.2.2) = (wv t).set m v:=by
 obtain ⟨t1,t2,t3,t4,t5,t6,t7,t8⟩:=t
 match m,hm with
 | 0,_=>rfl
 | 1,_=>rfl
 | 2,_=>rfl
 | 3,_=>rfl
 | 4,_=>rfl
 | 5,_=>rfl
 | 6,_=>rfl
 | 7,_=>rfl
theorem mn (m:Nat):4294967296 ^ (2 * m) = 18446744073709551616 ^ m:=by
 rw [Nat.pow_mul]
theorem jS (n:Nat) (ys:List Int) (hd:Dig ys) (hl:ys.length <= 16) (hn:20 < n):∃ t:T8,ah (aI_l2 n ys) n (0,(0:UInt64),(0:UInt64),(0:UInt64),(0:UInt64),(0:UInt64),(0:UInt64),(0:UInt64),(0:UInt64)) = some t/\val (wv t) = dv ys:=by
 refine aj (B:=aI_l2 n ys) (fun s:Nat × T8=>ys.length - s.1) (fun s=>s.1 <= ys.length/\val (wv s.2) = dv (ys.take s.1)/\(∀ k (h:k < (wv s.2).length),(s.1 + 1) / 2 <= k -> (wv s.2)[k] = 0)/\(s.1 % 2 = 1 -> ∀ (h:s.1 / 2 < (wv s.2).length),(wv s.2)[s.1 / 2].toNat < 4294967296)) (fun t=>val (wv t) = dv ys) ?_ n (0,((0,0,0,0,0,0,0,0):T8)) ⟨Nat.zero_le _,rfl,fun k hk _=>?_,fun h=>(by cases h)⟩ (by simp only; omega)
 ·rintro ⟨i,t⟩ J ⟨h1,h2,h3,h4⟩ hJ
  simp only at h1 h2 h3 h4 hJ
  obtain ⟨t1,t2,t3,t4,t5,t6,t7,t8⟩:=t
  have e8:(wv (t1,t2,t3,t4,t5,t6,t7,t8)).length = 8:=rfl
  unfold aI_l2
  simp only
  by_cases hi:i < ys.length
  ·have hm:i / 2 < (wv (t1,t2,t3,t4,t5,t6,t7,t8)).length:=by rw [e8]; omega
   have dy:=hd ys[i] (List.getElem_mem _)
   have hu:=gx dy
   have hset:=fun v=>wv_setA (t1,t2,t3,t4,t5,t6,t7,t8) (i / 2) (by omega) v
   rw [if_pos hi]
   show ∃ r,(((wv (t1,t2,t3,t4,t5,t6,t7,t8))[i / 2]?).bind fun z340=>(ys[i]?).bind fun x342=>(chk (32 * ((i % 2:Nat):Int))).bind fun s351=>(aT s351).bind fun k352=>J (i + 1,au (i / 2) 0 (z340 + (shlU (ab x342) k352)) t1,au (i / 2) 1 (z340 + (shlU (ab x342) k352)) t2,au (i / 2) 2 (z340 + (shlU (ab x342) k352)) t3,au (i / 2) 3 (z340 + (shlU (ab x342) k352)) t4,au (i / 2) 4 (z340 + (shlU (ab x342) k352)) t5,au (i / 2) 5 (z340 + (shlU (ab x342) k352)) t6,au (i / 2) 6 (z340 + (shlU (ab x342) k352)) t7,au (i / 2) 7 (z340 + (shlU (ab x342) k352)) t8)) = some r/\_
   have key:∀ v:UInt64,(wv (t1,t2,t3,t4,t5,t6,t7,t8))[i / 2].toNat <= v.toNat -> 18446744073709551616 ^ (i / 2) * (v.toNat - (wv (t1,t2,t3,t4,t5,t6,t7,t8))[i / 2].toNat) = 4294967296 ^ i * ys[i].toNat -> (i % 2 = 0 -> v.toNat < 4294967296) -> ∃ r,J (i + 1,au (i / 2) 0 v t1,au (i / 2) 1 v t2,au (i / 2) 2 v t3,au (i / 2) 3 v t4,au (i / 2) 4 v t5,au (i / 2) 5 v t6,au (i / 2) 6 v t7,au (i / 2) 7 v t8) = some r/\val (wv r) = dv ys:=fun v hv1 hv2 hv3=>by
    refine hJ (i + 1,(au (i / 2) 0 v t1,au (i / 2) 1 v t2,au (i / 2) 2 v t3,au (i / 2) 3 v t4,au (i / 2) 4 v t5,au (i / 2) 5 v t6,au (i / 2) 6 v t7,au (i / 2) 7 v t8)) ⟨hi,?_,fun k hk hk2=>?_,fun hp hk=>?_⟩ (by simp only; omega)
    ·have hput:=dp (xs:=wv (t1,t2,t3,t4,t5,t6,t7,t8)) (j:=i / 2) v (by omega)
     have hs:=hset v
     simp only at hs ⊢
     rw [hs,bL ys hi,<- h2,<- hv2]
     have:=Nat.mul_sub (18446744073709551616 ^ (i / 2)) v.toNat (wv (t1,t2,t3,t4,t5,t6,t7,t8))[i / 2].toNat
     have:=Nat.mul_le_mul_left (18446744073709551616 ^ (i / 2)) hv1
     omega
    ·have hs:=hset v
     simp only at hs hk hk2 ⊢
     simp only [hs]
     rw [List.getElem_set_ne (by omega)]
     exact h3 k (by rw [hs,List.length_set] at hk; exact hk) (by omega)
    ·have hs:=hset v
     simp only at hs hk hp ⊢
     have hq:(i + 1) / 2 = i / 2:=by omega
     simp only [hs,hq]
     rw [List.getElem_set_self]
     exact hv3 (by omega)
   rw [geE (by omega),aa,geE hi,aa]
   rcases Nat.mod_two_eq_zero_or_one i with hp | hp
   ·have hw:=h3 (i / 2) (by omega) (by omega)
    rw [hp,show chk (32 * ((0:Nat):Int)) = some 0 from rfl,aa,show aT 0 = some 0 from rfl,aa,cV]
    rw [hw] at key ⊢
    rw [UInt64.zero_add]
    refine key _ (by simp) ?_ fun _=>by rw [hu]; omega
    rw [hu,UInt64.toNat_zero,Nat.sub_zero,<- mn,show 2 * (i / 2) = i by omega]
   ·have hw:=h4 hp (by omega)
    rw [hp,show chk (32 * ((1:Nat):Int)) = some 32 from rfl,aa,show aT 32 = some 32 from rfl,aa]
    have hv:((wv (t1,t2,t3,t4,t5,t6,t7,t8))[i / 2] + shlU (ab ys[i]) 32).toNat = (wv (t1,t2,t3,t4,t5,t6,t7,t8))[i / 2].toNat + ys[i].toNat * 4294967296:=by
     rw [UInt64.toNat_add,dI _ (by decide),hu]
     omega
    refine key _ (by rw [hv]; omega) ?_ fun h=>by omega
    have hsub:(wv (t1,t2,t3,t4,t5,t6,t7,t8))[i / 2].toNat + ys[i].toNat * 4294967296 - (wv (t1,t2,t3,t4,t5,t6,t7,t8))[i / 2].toNat = ys[i].toNat * 4294967296:=Nat.add_sub_cancel_left ..
    have e:4294967296 ^ i = 18446744073709551616 ^ (i / 2) * 4294967296:=by
     conv=>lhs; rw [show i = 2 * (i / 2) + 1 by omega,Nat.pow_succ,mn]
    rw [hv,hsub,e,Nat.mul_assoc,Nat.mul_comm ys[i].toNat]
  ·rw [if_neg hi]
   refine ⟨_,rfl,?_⟩
   rw [h2,List.take_of_length_le (by omega)]
 ·match k,hk with
  | 0,_=>rfl
  | 1,_=>rfl
  | 2,_=>rfl
  | 3,_=>rfl
  | 4,_=>rfl
  | 5,_=>rfl
  | 6,_=>rfl
  | 7,_=>rfl
open Classical in
theorem lP (n l:Nat) (z:Int) (h:FtR l z) (hl:l < 10000) (hn:20000 < n):aI_p n (R8 z) = some (if Fw z then (Wg z,0) else ((0,0,0,0,0,0,0,0),6)):=by
 have hf:=cW
 have hp:=bU
 have hlen:=h.len
 obtain ⟨w1,w2⟩:=og 16 15 2147483648 (by decide) (by decide)
 have hdv:dv ((List.replicate 16 (0:Int)).set 15 2147483648) = HB:=by rw [w1,HB_dig]; rfl
 have hnr:Nr ((List.replicate 16 (0:Int)).set 15 2147483648):=fun x hx=>by
  rw [show ((List.replicate 16 (0:Int)).set 15 2147483648).getLast? = some 2147483648 from rfl] at hx
  rw [<- Option.some.inj hx]; decide
 obtain ⟨c,e1,e2,e3⟩:=gJ n (rd z.natAbs) ((List.replicate 16 (0:Int)).set 15 2147483648) (aC _) w2 (gk _) hnr (by omega) (by omega)
 rw [aL,hdv] at e2 e3
 have hlim:∀ {α:Type} (f:List Int -> Option α),((mk 16 (0:Int)).bind fun xs21=>(xs21[15]?).bind fun _=>(put xs21 ((15:Nat):Int) (2147483648:Int)).bind f) = f ((List.replicate 16 (0:Int)).set 15 2147483648):=fun f=>rfl
 unfold aI_p
 refine (hlim _).trans ?_
 rw [show (R8 z).fD = rd z.natAbs from rfl,e1,aa]
 have l12:∀ ys,aI_l1 n ys = aI_l2 n ys:=fun _=>rfl
 have hneg:z < 0 -> Fw z -> ∃ t:T8,ah (aI_l2 n (rd (FB - z.natAbs))) n (0,(0:UInt64),(0:UInt64),(0:UInt64),(0:UInt64),(0:UInt64),(0:UInt64),(0:UInt64),(0:UInt64)) = some t/\t = Wg z:=fun hz hw=>by
  obtain ⟨t,e,hv⟩:=jS n (rd (FB - z.natAbs)) (aC _) (cu (by rw [<- eb]; omega)) (by omega)
  rw [aL] at hv
  refine ⟨t,e,iG ?_⟩
  have:=kS hw hz
  rw [hv,<- ea]
  omega
 by_cases c1:0 < c
 ·rw [if_pos c1,if_neg (fun hw=>by have:=hw.1; have:=hw.2; omega)]
 ·rw [if_neg c1]
  by_cases c0:c = 0
  ·rw [if_pos c0]
   have hz:=e3.1 c0
   by_cases hb:z < 0
   ·have hw:Fw z:=⟨by omega,by omega⟩
    obtain ⟨t,e,rfl⟩:=hneg hb hw
    rw [if_pos (show (R8 z).fc = true from decide_eq_true hb),if_pos hw]
    refine (gG _).trans ?_
    rw [dS n _ (by omega) (by omega) hn,aa,l12,e,aa]
   ·rw [if_neg (show ¬ (R8 z).fc = true from by simpa [R8] using hb),if_neg (fun hw=>by have:=hw.2; omega)]
  ·rw [if_neg c0]
   have hlt:z.natAbs < HB:=e2.1 (by omega)
   have hw:Fw z:=⟨by omega,by omega⟩
   unfold jn
   simp only
   rw [if_pos hw]
   by_cases hb:z < 0
   ·obtain ⟨t,e,rfl⟩:=hneg hb hw
    rw [if_pos (show (R8 z).fc = true from decide_eq_true hb)]
    refine (gG _).trans ?_
    rw [dS n _ (by omega) (by omega) hn,aa,e,aa]
   ·obtain ⟨t,e,hv⟩:=jS n (rd z.natAbs) (aC _) (cu (by rw [<- eb]; omega)) (by omega)
    rw [aL] at hv
    have:t = Wg z:=iG (by
     have:=lu hw (by omega)
     rw [hv,<- ea,this])
    subst this
    rw [if_neg (show ¬ (R8 z).fc = true from by simpa [R8] using hb),e,aa]
end Go.Proofs.YtfccehcnajelgaaGreatDoor
namespace Go.Proofs.YtfccehcnajelgaaGreatDoor
open Go
set_option maxRecDepth 8000
def RR (q:Rat):Tg:=⟨R8 q.num,R8 (q.den:Int)⟩
theorem Fw.r {z:Int} (h:Fw z):FtR 16 z:=by
 have h1:=h.1
 have h2:=h.2
 have h3:=cW
 have hp:=bU
 unfold FtR
 rw [<- eb]
 omega
theorem FtR.of_le {l:Nat} {a b:Int} (h:FtR l b) (hl:a.natAbs <= b.natAbs):FtR l a:=Nat.lt_of_le_of_lt hl h
theorem Sm.r {z:Int} (h:Sm z):FtR 16 z:=(gX h).r
theorem cz (n:Nat) (q:Rat) (h:FQ q) (hn:20000 < n):bg_p n (Sg q) = some (RR q):=by
 unfold bg_p Sg
 simp only
 rw [jH n _ h.1 hn,aa,jH n _ h.2 hn,aa]
 rfl
theorem one_ok (n g:Nat):cJ_p n ⟨false,rd g⟩ = some (decide (g = 1)):=by
 unfold cJ_p
 simp only
 by_cases h:(rd g).length = 1
 ·have hg:=aL g
  rcases e:rd g with _ | ⟨x,_ | ⟨y,xs⟩⟩
  ·rw [e] at h; simp at h
  ·have hd:=aC g x (by rw [e]; exact List.mem_singleton_self _)
   rw [e] at hg
   simp only [dv,Nat.mul_zero,Nat.add_zero] at hg
   rw [if_pos (show ([x]:List Int).length = 1 from rfl),show ([x]:List Int)[0]? = some x from rfl,aa]
   by_cases hx:x = 1
   ·rw [if_pos hx,decide_eq_true (by omega)]; rfl
   ·rw [if_neg hx,decide_eq_false (by omega)]
  ·rw [e] at h; simp at h
 ·rw [if_neg h,decide_eq_false]
  rintro rfl
  exact h (by rw [iL (by decide),show (1:Nat) / 4294967296 = 0 from rfl,rd0]; rfl)
theorem nh (n:Nat) (x y:Int) (hx:Fw x) (hy:Fw y) (hn:18446744073709551616 < n):aJ_p n ⟨Wg x,Wg y⟩ = some (decide (0 < y/\Nat.gcd x.natAbs y.natAbs = 1)):=by
 have lx:=hx.r.len
 have ly:=hy.r.len
 unfold aJ_p
 simp only
 rw [jH n _ hx (by omega),aa,jH n _ hy (by omega),aa]
 by_cases h:y < 0
 ·rw [if_pos (show (R8 y).fc = true from decide_eq_true h),decide_eq_false (fun hc=>by omega)]
 ·rw [if_neg (show ¬ (R8 y).fc = true from by simpa [R8] using h)]
  by_cases h0:y = 0
  ·subst h0
   rw [if_neg (show ¬ 0 < (R8 0).fD.length from by show ¬ 0 < (rd 0).length; rw [rd0]; decide),decide_eq_false (fun hc=>by omega)]
  ·rw [if_pos (show 0 < (R8 y).fD.length from kP.2 (by omega))]
   rw [show R8 x = ⟨decide (x < 0),rd x.natAbs⟩ from rfl,show R8 y = ⟨decide (y < 0),rd y.natAbs⟩ from rfl,ic n _ _ _ _ (by omega) (by omega) hn,aa,one_ok,aa]
   exact congrArg some (decide_eq_decide.2 ⟨fun hg=>⟨by omega,hg⟩,fun hg=>hg.2⟩)
theorem bD (n:Nat) (q:Rat) (h:FQ q) (hn:18446744073709551616 < n):aJ_p n (Sg q) = some true:=by
 have hd:=q.den_pos
 have e:=nh n q.num (q.den:Int) h.1 h.2 hn
 rw [decide_eq_true (show 0 < (q.den:Int)/\Nat.gcd q.num.natAbs (q.den:Int).natAbs = 1 from ⟨by omega,q.reduced⟩)] at e
 exact e
open Classical in
theorem dC (n l:Nat) (q:Rat) (h1:FtR l q.num) (h2:FtR l (q.den:Int)) (hl:l < 10000) (hn:20000 < n):bC_p n (RR q) = some (if FQ q then (Sg q,0) else (noS,6)):=by
 unfold bC_p
 rw [show (RR q).fN = R8 q.num from rfl,show (RR q).fD = R8 (q.den:Int) from rfl,lP n l _ h1 hl hn,aa,lP n l _ h2 hl hn,aa]
 by_cases f1:Fw q.num
 ·by_cases f2:Fw (q.den:Int)
  ·rw [if_pos f1,if_pos f2,if_pos (show FQ q from ⟨f1,f2⟩)]; rfl
  ·rw [if_pos f1,if_neg f2,if_neg fun h:FQ q=>f2 h.2]; rfl
 ·rw [if_neg f1,if_neg fun h:FQ q=>f1 h.1]; rfl
theorem jI (n l:Nat) (a b:Int) (h0:b ≠ 0) (ha:FtR l a) (hb:FtR l b) (hl:l < 10000) (hn:18446744073709551616 < n):aZ_p n (R8 a) (R8 b) = some (RR (Rat.divInt a b))/\FtR l (Rat.divInt a b).num/\FtR l ((Rat.divInt a b).den:Int):=by
 obtain ⟨e,l1,l2⟩:=jm n a b h0 (Nat.lt_of_le_of_lt ha.len hl) (Nat.lt_of_le_of_lt hb.len hl) hn
 exact ⟨e,ha.of_le l1,hb.of_le (by omega)⟩
theorem lm (n:Nat) (a b:Rat) (ha:FQ a) (hb:FQ b) (hn:18446744073709551616 < n):cC_p n (RR a) (RR b) = some (RR (a + b))/\FtR 33 (a + b).num/\FtR 33 ((a + b).den:Int):=by
 have d0:(a.den:Int) * b.den ≠ 0:=Int.mul_ne_zero FQ.ndnz FQ.ndnz
 have e:a + b = Rat.divInt (a.num * b.den + b.num * a.den) (a.den * b.den):=by
  conv=>lhs; rw [<- Rat.num_divInt_den a,<- Rat.num_divInt_den b]
  exact Rat.divInt_add_divInt _ _ FQ.ndnz FQ.ndnz
 have x1:=ha.1.r.mul hb.2.r
 have x2:=hb.1.r.mul ha.2.r
 have x3:=ha.2.r.mul hb.2.r
 obtain ⟨f1,f2,f3⟩:=jI n 33 _ _ d0 (x1.add x2) (x3.mono (by decide)) (by decide) hn
 unfold cC_p RR
 simp only
 rw [bJ n 16 16 _ _ ha.1.r hb.2.r (by omega) (by decide),aa,bJ n 16 16 _ _ hb.1.r ha.2.r (by omega) (by decide),aa,ot n 32 _ _ x1 x2 (by omega) (by decide),aa,bJ n 16 16 _ _ ha.2.r hb.2.r (by omega) (by decide),aa,f1,aa,e]
 exact ⟨rfl,f2,f3⟩
theorem jN (n:Nat) (a b:Rat) (ha:FQ a) (hb:FQ b) (hn:18446744073709551616 < n):cy_p n (RR a) (RR b) = some (RR (a * b))/\FtR 33 (a * b).num/\FtR 33 ((a * b).den:Int):=by
 have d0:(a.den:Int) * b.den ≠ 0:=Int.mul_ne_zero FQ.ndnz FQ.ndnz
 have e:a * b = Rat.divInt (a.num * b.num) (a.den * b.den):=by
  conv=>lhs; rw [<- Rat.num_divInt_den a,<- Rat.num_divInt_den b]
  exact Rat.divInt_mul_divInt _ _
 have x1:=ha.1.r.mul hb.1.r
 have x3:=ha.2.r.mul hb.2.r
 obtain ⟨f1,f2,f3⟩:=jI n 33 _ _ d0 (x1.mono (by decide)) (x3.mono (by decide)) (by decide) hn
 unfold cy_p RR
 simp only
 rw [bJ n 16 16 _ _ ha.1.r hb.1.r (by omega) (by decide),aa,bJ n 16 16 _ _ ha.2.r hb.2.r (by omega) (by decide),aa,f1,aa,e]
 exact ⟨rfl,f2,f3⟩
theorem kQ (n:Nat) (a b:Rat) (ha:FQ a) (hb:FQ b) (h0:b ≠ 0) (hn:18446744073709551616 < n):cD_p n (RR a) (RR b) = some (RR (a / b))/\FtR 33 (a / b).num/\FtR 33 ((a / b).den:Int):=by
 have b0:b.num ≠ 0:=fun e=>h0 (Rat.num_eq_zero.1 e)
 have d0:(a.den:Int) * b.num ≠ 0:=Int.mul_ne_zero FQ.ndnz b0
 have e:a / b = Rat.divInt (a.num * b.den) (a.den * b.num):=by
  conv=>lhs; rw [Rat.div_def,<- Rat.num_divInt_den a,<- Rat.num_divInt_den b,Rat.inv_divInt]
  exact Rat.divInt_mul_divInt _ _
 have x1:=ha.1.r.mul hb.2.r
 have x3:=ha.2.r.mul hb.1.r
 obtain ⟨f1,f2,f3⟩:=jI n 33 _ _ d0 (x1.mono (by decide)) (x3.mono (by decide)) (by decide) hn
 unfold cD_p RR
 simp only
 rw [bJ n 16 16 _ _ ha.1.r hb.2.r (by omega) (by decide),aa,bJ n 16 16 _ _ ha.2.r hb.1.r (by omega) (by decide),aa,f1,aa,e]
 exact ⟨rfl,f2,f3⟩
open Classical in
theorem ng (n:Nat) (a b:Rat) (ha:FQ a) (hb:FQ b) (hn:18446744073709551616 < n):cL_p n (Sg a) (Sg b) = some (if FQ (a + b) then (Sg (a + b),0) else (noS,6)):=by
 obtain ⟨f1,f2,f3⟩:=lm n a b ha hb hn
 unfold cL_p
 rw [bD n a ha hn,aa,if_pos rfl,bD n b hb hn,aa,if_pos rfl,cz n a ha (by omega),aa,cz n b hb (by omega),aa,f1,aa,dC n 33 _ f2 f3 (by decide) (by omega),aa]
open Classical in
theorem mx (n:Nat) (a b:Rat) (ha:FQ a) (hb:FQ b) (hn:18446744073709551616 < n):cK_p n (Sg a) (Sg b) = some (if FQ (a * b) then (Sg (a * b),0) else (noS,6)):=by
 obtain ⟨f1,f2,f3⟩:=jN n a b ha hb hn
 unfold cK_p
 rw [bD n a ha hn,aa,if_pos rfl,bD n b hb hn,aa,if_pos rfl,cz n a ha (by omega),aa,cz n b hb (by omega),aa,f1,aa,dC n 33 _ f2 f3 (by decide) (by omega),aa]
open Classical in
theorem mH (n:Nat) (a b:Rat) (ha:FQ a) (hb:FQ b) (h0:b ≠ 0) (hn:18446744073709551616 < n):cM_p n (Sg a) (Sg b) = some (if FQ (a / b) then (Sg (a / b),0) else (noS,6)):=by
 have b0:b.num ≠ 0:=fun e=>h0 (Rat.num_eq_zero.1 e)
 obtain ⟨f1,f2,f3⟩:=kQ n a b ha hb h0 hn
 unfold cM_p cV_p
 rw [bD n a ha hn,aa,if_pos rfl,bD n b hb hn,aa,if_pos rfl,cz n b hb (by omega),aa,aa,if_neg (by
  rw [decide_eq_true_eq]
  exact Nat.ne_of_gt (kP.2 (by omega))),cz n a ha (by omega),aa,f1,aa,dC n 33 _ f2 f3 (by decide) (by omega),aa]
theorem iR (n:Nat) (a b:Int) (ha:Sm a) (hb:Sm b) (h0:b ≠ 0) (hn:18446744073709551616 < n):bL_p n a b = some (Sg (Rat.divInt a b)):=by
 obtain ⟨e,l1,l2⟩:=jI n 16 a b h0 ha.r hb.r (by decide) hn
 obtain ⟨d1,d2⟩:=kX (a:=a) h0
 have hq:FQ (Rat.divInt a b):=⟨gX (by unfold Sm at *; omega),gX (by unfold Sm at *; omega)⟩
 unfold bL_p df_p
 rw [if_neg h0]
 unfold cO_p
 rw [kG n a ha (by omega),aa,kG n b hb (by omega),aa,e,aa,aa,dC n 16 _ l1 l2 (by decide) (by omega),aa,if_pos hq,aa]
end Go.Proofs.YtfccehcnajelgaaGreatDoor
namespace Go.Proofs.YtfccehcnajelgaaGreatDoor
open Go
set_option maxRecDepth 8000
theorem hasB (u:UInt64) {i:Nat} (hi:i < 64):bM_p FU u ((i:Nat):Int) = some (bit u i):=by
 rw [ov _ _ hi]
 unfold bit
 rw [Nat.testBit_eq_decide_div_mod_eq]
theorem partR (c:Ta) {p:List Int} (hp:p.length <= 64) (d:Int):bE_p FU c p d = some (pm c.fm p d):=by
 have hF:=aO
 have hh:=aj (B:=bE_l1 FU p c d) (fun s:UInt64 × Nat=>p.length - s.2) (fun s=>s.2 <= p.length/\∀ j,bit s.1 j = (decide (j < s.2) && (bit c.fm j && decide (p[j]? = some d)))) (fun y=>y = pm c.fm p d) ?_ FU (0,0) ⟨Nat.zero_le _,fun j=>by simp [eA]⟩ (by simp only; omega)
 ·obtain ⟨y,e,rfl⟩:=hh
  unfold bE_p
  rw [e,aa]
 ·rintro ⟨u,i⟩ J ⟨a1,a2⟩ hJ
  simp only at a1 a2 hJ
  unfold bE_l1
  simp only
  by_cases hi:i < p.length
  ·rw [if_pos hi,hasB _ (by omega),aa]
   by_cases hb:bit c.fm i = true
   ·rw [if_pos hb,geE hi,aa]
    by_cases hd:p[i] = d
    ·rw [if_pos hd]
     refine hJ _ ⟨hi,fun j=>?_⟩ (by simp only; omega)
     simp only
     rw [om,a2,mh (by omega)]
     by_cases e:j = i
     ·subst e
      rw [hb,geE hi,hd]; simp
     ·rw [decide_eq_false e,Bool.or_false,decide_eq_decide.2 (show j < i ↔ j < i + 1 by omega)]
    ·rw [if_neg hd]
     refine hJ _ ⟨hi,fun j=>?_⟩ (by simp only; omega)
     simp only
     rw [a2]
     by_cases e:j = i
     ·subst e
      rw [geE hi,decide_eq_false (show ¬ (some p[j] = some d) from fun h=>hd (Option.some.inj h))]; simp
     ·rw [decide_eq_decide.2 (show j < i ↔ j < i + 1 by omega)]
   ·rw [if_neg hb]
    refine hJ _ ⟨hi,fun j=>?_⟩ (by simp only; omega)
    simp only
    rw [a2]
    by_cases e:j = i
    ·subst e
     rw [show bit c.fm j = false from by simpa using hb]; simp
    ·rw [decide_eq_decide.2 (show j < i ↔ j < i + 1 by omega)]
  ·rw [if_neg hi]
   refine ⟨_,rfl,lS fun j=>?_⟩
   rw [a2,oH]
   by_cases hj:j < i
   ·rw [decide_eq_true hj,Bool.true_and]
   ·rw [decide_eq_false hj,List.getElem?_eq_none (by omega)]; simp
theorem kV (c:Ta) {p:List Int} (hp:p.length <= 64) (k:Nat) (hk:k <= 8):aP_p FU c p (k:Int) = some (prt c.fm p k):=by
 have hF:=aO
 have hh:=aj (B:=aP_l1 FU (k:Int) c p) (fun s:Int × List UInt64=>k - s.1.toNat) (fun s=>0 <= s.1/\s.1 <= k/\s.2 = prt c.fm p s.1.toNat) (fun y=>y = prt c.fm p k) ?_ FU (0,[]) ⟨Int.le_refl _,by omega,rfl⟩ (by simp only; omega)
 ·obtain ⟨y,e,rfl⟩:=hh
  unfold aP_p
  rw [e,aa]
 ·rintro ⟨z,xs⟩ J ⟨a0,a1,a2⟩ hJ
  simp only at a0 a1 a2 hJ
  obtain ⟨d,rfl⟩:∃ d:Nat,z = (d:Int):=⟨z.toNat,by omega⟩
  rw [Int.toNat_natCast] at a2
  subst a2
  unfold aP_l1
  simp only
  have e1:prt c.fm p (d + 1) = prt c.fm p d ++ [pm c.fm p (d:Int)].filter fun m=>decide (m ≠ 0):=by
   unfold prt
   rw [List.range_succ,List.map_append,List.filter_append]; rfl
  have hlen:(prt c.fm p d).length <= 8:=by
   unfold prt
   refine Nat.le_trans (List.length_filter_le ..) ?_
   rw [List.length_map,List.length_range]; omega
  by_cases hd:(d:Int) < k
  ·have next:=hJ (((d + 1:Nat):Int),prt c.fm p (d + 1)) ⟨by simp only; omega,by simp only; omega,by simp only; rw [Int.toNat_natCast]⟩ (by simp only; omega)
   rw [e1,show ((d + 1:Nat):Int) = (d:Int) + 1 by omega] at next
   rw [if_pos hd,partR c hp,aa]
   by_cases h0:pm c.fm p (d:Int) = 0
   ·rw [if_pos h0,aH (by omega) (by omega),aa]
    rw [List.filter_cons_of_neg (by simpa using h0),List.filter_nil,List.append_nil] at next
    exact next
   ·rw [if_neg h0,bb _ _ (by simp only [leC,leN]; omega),aa,aH (by omega) (by omega),aa]
    rw [List.filter_cons_of_pos (by simpa using h0),List.filter_nil] at next
    exact next
  ·rw [if_neg hd]
   exact ⟨_,rfl,by rw [show d = k by omega]⟩
theorem gC (w:Nat -> Int) (m:UInt64) (r:Te) (b:Bool) (hw:∀ i,bit m i = true -> 0 <= w i/\w i <= 1000000000) (hs:∀ (J:Int × Nat -> Option Int) (z:Int) (i:Nat),i < 64 -> bit m i = true -> (if b = true then (r.fm[i]?).bind fun x82=>(chk (z + x82.fx)).bind fun s97=>J (s97,i + 1) else (chk (z + 1)).bind fun s98=>J (s98,i + 1)) = (chk (z + w i)).bind fun s=>J (s,i + 1)):aE_p FU m r b = some (ws w m):=by
 have hF:=aO
 have hh:=aj (B:=aE_l1 FU m b r) (fun s:Int × Nat=>64 - s.2) (fun s=>s.2 <= 64/\s.1 = (((List.range s.2).filter (bit m ·)).map w).sum/\0 <= s.1/\s.1 <= 1000000000 * s.2) (fun y=>y = ws w m) ?_ FU (0,0) ⟨Nat.zero_le _,rfl,Int.le_refl _,by simp⟩ (by simp only; omega)
 ·obtain ⟨y,e,rfl⟩:=hh
  unfold aE_p
  rw [e,aa]
 ·rintro ⟨z,i⟩ J ⟨a1,a2,a3,a4⟩ hJ
  simp only at a1 a2 a3 a4 hJ
  unfold aE_l1
  simp only
  by_cases hi:i < 64
  ·have e1:(((List.range (i + 1)).filter (bit m ·)).map w).sum = z + (([i].filter (bit m ·)).map w).sum:=by
    rw [List.range_succ,List.filter_append,List.map_append,List.sum_append,a2]
   rw [if_pos hi,hasB _ hi,aa]
   by_cases hb:bit m i = true
   ·have hwi:=hw i hb
    rw [List.filter_cons_of_pos hb,List.filter_nil,List.map_cons,List.map_nil,List.sum_cons,List.sum_nil,Int.add_zero] at e1
    rw [if_pos hb,hs _ _ _ hi hb,aH (by omega) (by omega),aa]
    exact hJ _ ⟨hi,e1.symm,by simp only; omega,by simp only; omega⟩ (by simp only; omega)
   ·rw [List.filter_cons_of_neg hb,List.filter_nil,List.map_nil,List.sum_nil,Int.add_zero] at e1
    rw [if_neg hb]
    exact hJ _ ⟨hi,e1.symm,a3,by simp only; omega⟩ (by simp only; omega)
  ·rw [if_neg hi]
   refine ⟨_,rfl,?_⟩
   rw [a2,show i = 64 by omega]
   rfl
theorem oc {m:UInt64} {r:Te} (hp:∀ u ∈ r.fm,0 <= u.fx/\u.fx <= 1000000000) (hm:∀ i,bit m i = true -> i < r.fm.length):aE_p FU m r true = some (ws (ppo r) m):=by
 have e:∀ i (h:i < r.fm.length),ppo r i = r.fm[i].fx:=fun i h=>by unfold ppo; rw [geE h]; rfl
 refine gC (ppo r) m r true (fun i hi=>?_) fun J z i hi hb=>?_
 ·rw [e i (hm i hi)]; exact hp _ (List.getElem_mem _)
 ·rw [if_pos rfl,geE (hm i hb),aa,e i (hm i hb)]
theorem countO (m:UInt64) (r:Te):aE_p FU m r false = some (ws (fun _=>1) m):=
 gC (fun _=>1) m r false (fun _ _=>by omega) fun J z i _ _=>by rw [if_neg (by decide)]
theorem kc {r:Te} {p:List Int} {k:Nat} {c:Ta} (v:VC r p k c) (hp:p.length <= 64):aV_p FU c r p (k:Int) = some (Sg (lsh r p k c)):=by
 have hF:=aO
 have hun:∀ i,bit c.fm i = true -> i < r.fm.length:=fun i hi=>Nat.lt_of_lt_of_le (v.ub i hi) v.n
 have hnn:=oP (w:=ppo r) (u:=c.fm) fun i _=>(kM v i).1
 have cw:∀ m,(∀ i,bit m i = true -> bit c.fm i = true) -> aE_p FU m r (decide (0 < ws (ppo r) c.fm)) = some (ws (wt r c.fm) m):=fun m hm=>by
  unfold wt
  by_cases h0:ws (ppo r) c.fm = 0
  ·rw [if_pos h0,decide_eq_false (by omega)]; exact countO m r
  ·rw [if_neg h0,decide_eq_true (by omega)]; exact oc v.h fun i hi=>hun i (hm i hi)
 have hb:=dR v (prt c.fm p k)
 have hw:=eB v c.fm
 have hwp:=ln v
 have hpl:(prt c.fm p k).length <= 8:=by
  unfold prt
  refine Nat.le_trans (List.length_filter_le ..) ?_
  rw [List.length_map,List.length_range]; exact v.k8
 have hsub:∀ m ∈ prt c.fm p k,∀ i,bit m i = true -> bit c.fm i = true:=fun m hm i hi=>mm hm hi
 unfold aV_p lsh
 rw [oc v.h hun,aa,kV c hp k v.k8,aa]
 generalize prt c.fm p k = P at *
 have hh:=aj (B:=aV_l1 FU P r (ws (ppo r) c.fm)) (fun s:Int × Nat=>P.length - s.2) (fun s=>s.2 <= P.length/\s.1 = bP (wt r c.fm) (P.take s.2)) (fun y=>y = bP (wt r c.fm) P) ?_ FU (0,0) ⟨Nat.zero_le _,rfl⟩ (by simp only; omega)
 ·obtain ⟨y,e,rfl⟩:=hh
  rw [e,aa,cw _ fun _ h=>h,aa,iR FU _ _ (by unfold Sm; omega) (by unfold Sm; omega) (by omega) co,aa]
 ·rintro ⟨z,i⟩ J ⟨a1,a2⟩ hJ
  simp only at a1 a2 hJ
  subst a2
  unfold aV_l1
  simp only
  by_cases hi:i < P.length
  ·have next:=hJ (bP (wt r c.fm) (P.take (i + 1)),i + 1) ⟨hi,rfl⟩ (by simp only; omega)
   rw [List.take_succ_eq_append_getElem hi,dW] at next
   rw [if_pos hi,geE hi,aa,cw _ (hsub _ (List.getElem_mem _)),aa]
   exact next
  ·rw [if_neg hi]
   exact ⟨_,rfl,by rw [List.take_of_length_le (by omega)]⟩
/-! ### Lists -/
structure VR (r:Te) (p:List Int) (k:Nat) (l:List Ta):Prop extends VLs r p k l where
 e:aD_p FU l r p (k:Int) = some 0
 pl:p.length <= 64
 k8:k <= 8
 w:∀ c ∈ l,0 <= c.fE/\c.fE <= 1000
section
variable {r:Te} {p:List Int} {k:Nat} {l:List Ta} (h:VR r p k l)
include h
theorem keptR:bc_p FU l r p (k:Int) = some (l.map (kp p k),0):=by
 have hF:=aO
 have hn:=h.n
 unfold bc_p
 rw [h.e,aa,if_pos rfl]
 have hh:=aj (B:=bc_l1 FU l p (k:Int)) (fun s:Nat × List Bool=>l.length - s.1) (fun s=>s.1 <= l.length/\s.2 = (l.take s.1).map (kp p k)) (fun y=>y = l.map (kp p k)) ?_ FU (0,[]) ⟨Nat.zero_le _,rfl⟩ (by simp only; omega)
 ·obtain ⟨y,e,rfl⟩:=hh
  rw [e,aa]
 ·rintro ⟨i,xs⟩ J ⟨a1,a2⟩ hJ
  simp only at a1 a2 hJ
  subst a2
  unfold bc_l1
  simp only
  by_cases hi:i < l.length
  ·have next:=hJ (i + 1,(l.take (i + 1)).map (kp p k)) ⟨hi,rfl⟩ (by simp only; omega)
   rw [List.take_succ_eq_append_getElem hi,List.map_append] at next
   rw [if_pos hi,geE hi,aa,kV _ h.pl k h.k8,aa,bb _ _ (by simp only [List.length_map,List.length_take,leC,leN]; omega),aa]
   exact next
  ·rw [if_neg hi]
   exact ⟨_,rfl,by rw [List.take_of_length_le (by omega)]⟩
theorem PartsR:aX_p FU l r p (k:Int) = some (l.map fun c=>prt c.fm p k,0):=by
 have hF:=aO
 have hn:=h.n
 unfold aX_p
 rw [h.e,aa,if_pos rfl]
 have hh:=aj (B:=aX_l1 FU l p (k:Int)) (fun s:Nat × List (List UInt64)=>l.length - s.1) (fun s=>s.1 <= l.length/\s.2 = (l.take s.1).map fun c=>prt c.fm p k) (fun y=>y = l.map fun c=>prt c.fm p k) ?_ FU (0,[]) ⟨Nat.zero_le _,rfl⟩ (by simp only; omega)
 ·obtain ⟨y,e,rfl⟩:=hh
  rw [e,aa]
 ·rintro ⟨i,xs⟩ J ⟨a1,a2⟩ hJ
  simp only at a1 a2 hJ
  subst a2
  unfold aX_l1
  simp only
  by_cases hi:i < l.length
  ·have next:=hJ (i + 1,(l.take (i + 1)).map fun c=>prt c.fm p k) ⟨hi,rfl⟩ (by simp only; omega)
   rw [List.take_succ_eq_append_getElem hi,List.map_append] at next
   rw [if_pos hi,geE hi,aa,kV _ h.pl k h.k8,aa,bb _ _ (by simp only [List.length_map,List.length_take,leC,leN]; omega),aa]
   exact next
  ·rw [if_neg hi]
   exact ⟨_,rfl,by rw [List.take_of_length_le (by omega)]⟩
theorem oU:aL_p FU l r p (k:Int) = some (l.map fun c=>Sg (lsh r p k c),0):=by
 have hF:=aO
 have hn:=h.n
 unfold aL_p
 rw [h.e,aa,if_pos rfl]
 have hh:=aj (B:=aL_l1 FU l r p (k:Int)) (fun s:Nat × List Tb=>l.length - s.1) (fun s=>s.1 <= l.length/\s.2 = (l.take s.1).map fun c=>Sg (lsh r p k c)) (fun y=>y = l.map fun c=>Sg (lsh r p k c)) ?_ FU (0,[]) ⟨Nat.zero_le _,rfl⟩ (by simp only; omega)
 ·obtain ⟨y,e,rfl⟩:=hh
  rw [e,aa]
 ·rintro ⟨i,xs⟩ J ⟨a1,a2⟩ hJ
  simp only at a1 a2 hJ
  subst a2
  unfold aL_l1
  simp only
  by_cases hi:i < l.length
  ·have next:=hJ (i + 1,(l.take (i + 1)).map fun c=>Sg (lsh r p k c)) ⟨hi,rfl⟩ (by simp only; omega)
   rw [List.take_succ_eq_append_getElem hi,List.map_append] at next
   rw [if_pos hi,geE hi,aa,kc (h.v _ (List.getElem_mem hi)) h.pl,aa,bb _ _ (by simp only [List.length_map,List.length_take,leC,leN]; omega),aa]
   exact next
  ·rw [if_neg hi]
   exact ⟨_,rfl,by rw [List.take_of_length_le (by omega)]⟩
theorem kR:∀ (m n i:Nat) (s:S16) (q:Rat),un16 s = Sg q -> FQ q -> l.length - i <= m -> m < n ->
  (∃ s' q', FQ q' /\un16 s' = Sg q' /\ah (aG_l1 FU l (l.map fun c=>Sg (lsh r p k c))) n (i,s) = some (.inr s')/\ah (aq_l1 FU l r p (k:Int)) n (i,s) = some (.inr s')) ∨
  (ah (aG_l1 FU l (l.map fun c=>Sg (lsh r p k c))) n (i,s) = some (.inl (.error ⟨6⟩))/\ah (aq_l1 FU l r p (k:Int)) n (i,s) = some (.inl (noS,6))):=by
 intro m
 induction m with
 | zero=>
  intro n i s q e hq hm hn
  obtain ⟨n,rfl⟩:∃ j,n = j + 1:=⟨n - 1,by omega⟩
  refine .inl ⟨s,q,hq,e,?_,?_⟩
  ·rw [aY]
   unfold aG_l1
   simp only
   rw [if_neg (by omega)]
  ·rw [aY]
   unfold aq_l1
   simp only
   rw [if_neg (by omega)]
 | succ m ih=>
  intro n i s q e hq hm hn
  obtain ⟨n,rfl⟩:∃ j,n = j + 1:=⟨n - 1,by omega⟩
  rw [aY,aY]
  have ih2:=ih n (i + 1)
  generalize ah (aG_l1 FU l (l.map fun c=>Sg (lsh r p k c))) n = JP at *
  generalize ah (aq_l1 FU l r p (k:Int)) n = JR at *
  obtain ⟨a1,a2,a3,a4,a5,a6,a7,a8,b1,b2,b3,b4,b5,b6,b7,b8⟩:=s
  have e3:(⟨(a1,a2,a3,a4,a5,a6,a7,a8),(b1,b2,b3,b4,b5,b6,b7,b8)⟩:Tb) = Sg q:=e
  unfold aG_l1 aq_l1
  simp only
  by_cases hi:i < l.length
  ·have hm:=List.getElem_mem hi
   have hw:=h.w _ hm
   have v:=h.v _ hm
   have fw:FQ (Rat.divInt l[i].fE 1):=jh (by omega) (by decide) (by decide)
   have fl:=lsh_fq v
   rw [if_pos hi,if_pos hi,geE hi,aa,aa,iof (by decide) (cO (by omega)) (cO (by decide)),aa,cN,List.getElem?_map,geE hi]
   simp only [Option.map_some]
   rw [aa,mulG FU _ _ fw fl co,aa,iR FU _ _ (cO (by omega)) (cO (by decide)) (by decide) co,aa,kc v h.pl,aa,mx FU _ _ fw fl co,aa]
   unfold ao_p
   by_cases f1:FQ (Rat.divInt l[i].fE 1 * lsh r p k l[i])
   ·simp only [if_pos f1,if_true]
    rw [aa,cN,e3,addG FU _ _ hq f1 co,aa,ng FU _ _ hq f1 co,aa]
    by_cases f2:FQ (q + Rat.divInt l[i].fE 1 * lsh r p k l[i])
    ·simp only [if_pos f2,if_true]
     rw [aa,cN]
     exact ih2 ((Sg (q + Rat.divInt l[i].fE 1 * lsh r p k l[i])).fN.1,(Sg (q + Rat.divInt l[i].fE 1 * lsh r p k l[i])).fN.2.1,(Sg (q + Rat.divInt l[i].fE 1 * lsh r p k l[i])).fN.2.2.1,(Sg (q + Rat.divInt l[i].fE 1 * lsh r p k l[i])).fN.2.2.2.1,(Sg (q + Rat.divInt l[i].fE 1 * lsh r p k l[i])).fN.2.2.2.2.1,(Sg (q + Rat.divInt l[i].fE 1 * lsh r p k l[i])).fN.2.2.2.2.2.1,(Sg (q + Rat.divInt l[i].fE 1 * lsh r p k l[i])).fN.2.2.2.2.2.2.1,(Sg (q + Rat.divInt l[i].fE 1 * lsh r p k l[i])).fN.2.2.2.2.2.2.2,(Sg (q + Rat.divInt l[i].fE 1 * lsh r p k l[i])).fD.1,(Sg (q + Rat.divInt l[i].fE 1 * lsh r p k l[i])).fD.2.1,(Sg (q + Rat.divInt l[i].fE 1 * lsh r p k l[i])).fD.2.2.1,(Sg (q + Rat.divInt l[i].fE 1 * lsh r p k l[i])).fD.2.2.2.1,(Sg (q + Rat.divInt l[i].fE 1 * lsh r p k l[i])).fD.2.2.2.2.1,(Sg (q + Rat.divInt l[i].fE 1 * lsh r p k l[i])).fD.2.2.2.2.2.1,(Sg (q + Rat.divInt l[i].fE 1 * lsh r p k l[i])).fD.2.2.2.2.2.2.1,(Sg (q + Rat.divInt l[i].fE 1 * lsh r p k l[i])).fD.2.2.2.2.2.2.2) _ rfl f2 (by omega) (by omega)
    ·simp only [if_neg f2]
     exact .inr ⟨rfl,rfl⟩
   ·simp only [if_neg f1]
    exact .inr ⟨rfl,rfl⟩
  ·rw [if_neg hi,if_neg hi]
   exact .inl ⟨_,q,hq,e,rfl,rfl⟩
theorem scoreB:∃ y,cm_p FU l r p (k:Int) = some y/\aq_p FU l r p (k:Int) = some y:=by
 have hF:=aO
 have hn:=h.n
 have hb:=fY h.w l.length (Nat.le_refl _)
 rw [List.take_of_length_le (Nat.le_refl _)] at hb
 have hl2:aq_l2 FU l = aG_l2 FU l:=rfl
 have h01:FQ (Rat.divInt 0 1):=jh (by decide) (by decide) (by decide)
 have base:=kR h l.length FU 0 ((Sg (Rat.divInt 0 1)).fN.1,(Sg (Rat.divInt 0 1)).fN.2.1,(Sg (Rat.divInt 0 1)).fN.2.2.1,(Sg (Rat.divInt 0 1)).fN.2.2.2.1,(Sg (Rat.divInt 0 1)).fN.2.2.2.2.1,(Sg (Rat.divInt 0 1)).fN.2.2.2.2.2.1,(Sg (Rat.divInt 0 1)).fN.2.2.2.2.2.2.1,(Sg (Rat.divInt 0 1)).fN.2.2.2.2.2.2.2,(Sg (Rat.divInt 0 1)).fD.1,(Sg (Rat.divInt 0 1)).fD.2.1,(Sg (Rat.divInt 0 1)).fD.2.2.1,(Sg (Rat.divInt 0 1)).fD.2.2.2.1,(Sg (Rat.divInt 0 1)).fD.2.2.2.2.1,(Sg (Rat.divInt 0 1)).fD.2.2.2.2.2.1,(Sg (Rat.divInt 0 1)).fD.2.2.2.2.2.2.1,(Sg (Rat.divInt 0 1)).fD.2.2.2.2.2.2.2) _ rfl h01 (by omega) (by omega)
 unfold cm_p aG_p aq_p
 rw [iv h.toVLs,aa,h.e,aa,if_pos rfl,hl2]
 simp only
 unfold bn_p
 rw [if_pos rfl,aa,cN,iX (by omega) h.w,aa,aa]
 unfold dl_p aC_p
 by_cases h0:dL l = 0
 ·rw [if_pos h0,if_pos (decide_eq_true h0),if_neg (by decide),aa]
  exact ⟨_,rfl,rfl⟩
 ·rw [if_neg h0,if_neg (by simpa using h0),aa,cN,iof (by decide) (cO (by decide)) (cO (by decide)),aa,cN,iR FU _ _ (cO (by decide)) (cO (by decide)) (by decide) co,aa]
  rcases base with ⟨s,q,hq,hs,e1,e2⟩ | ⟨e1,e2⟩
  ·rw [e1,e2,jx,jx]
   obtain ⟨a1,a2,a3,a4,a5,a6,a7,a8,b1,b2,b3,b4,b5,b6,b7,b8⟩:=s
   have hs2:(⟨(a1,a2,a3,a4,a5,a6,a7,a8),(b1,b2,b3,b4,b5,b6,b7,b8)⟩:Tb) = Sg q:=hs
   have fw:FQ (Rat.divInt (dL l) 1):=jh (by omega) (by decide) (by decide)
   have hne:Rat.divInt (dL l) 1 ≠ 0:=fun e=>by
    have e2:Rat.divInt (dL l) 1 = Rat.divInt 0 1:=e.trans rfl
    have:=(Rat.divInt_eq_divInt_iff (by decide) (by decide)).1 e2
    omega
   simp only
   rw [iof (by decide) (cO (by omega)) (cO (by decide)),aa,cN,iR FU _ _ (cO (by omega)) (cO (by decide)) (by decide) co,aa,hs2,divG FU _ _ hq fw hne co,aa,mH FU _ _ hq fw hne co,aa]
   unfold ao_p
   by_cases f1:FQ (q / Rat.divInt (dL l) 1)
   ·simp only [if_pos f1,if_true]
    exact ⟨_,rfl,rfl⟩
   ·simp only [if_neg f1]
    exact ⟨_,rfl,rfl⟩
  ·rw [e1,e2]
   exact ⟨_,rfl,rfl⟩
end
end Go.Proofs.YtfccehcnajelgaaGreatDoor
namespace Go.Proofs.YtfccehcnajelgaaGreatDoor
open Go
set_option maxRecDepth 8000
def Sl (m:Nat) (l:List Ta):Prop:=l.length <= m/\∀ c ∈ l,c.ft.size <= 100
theorem shl_ne:∀ k,k < 13 -> shlU (1:UInt64) k ≠ 0:=by decide
theorem cname (x:UInt8):jl ⟨#[99]⟩ (iY ([x]:List UInt8)) = some ⟨#[99,x]⟩:=rfl
theorem mname (x:UInt8):jl ⟨#[109,111,114,101]⟩ (iY ([x]:List UInt8)) = some ⟨#[109,111,114,101,x]⟩:=rfl
theorem list_ok (d:Tp) (m:Nat) (hm:m < 13):∃ l,aS_p FU d m = some l/\Sl 6 l:=by
 have hF:=aO
 have hh:=aj (B:=aS_l1 FU d m) (fun s:Nat × List Ta=>6 - s.1) (fun s=>s.1 <= 6/\Sl s.1 s.2) (fun l=>Sl 6 l) ?_ FU (0,[]) ⟨Nat.zero_le _,Nat.le_refl _,fun c hc=>by cases hc⟩ (by simp only; omega)
 ·obtain ⟨l,e,hl⟩:=hh
  unfold aS_p jn
  rw [e]
  exact ⟨l,rfl,hl⟩
 ·rintro ⟨i,xs⟩ J ⟨a1,a2,a3⟩ hJ
  simp only at a1 a2 a3 hJ
  unfold aS_l1
  simp only
  have fin:Sl 6 xs:=⟨by omega,a3⟩
  by_cases h1:i < d.fL.length
  ·rw [if_pos h1]
   by_cases h2:i < 6
   ·have next:∀ c:Ta,c.ft.size <= 100 -> ∃ r,J (i + 1,xs ++ [c]) = some r/\Sl 6 r:=fun c hc=>
     hJ (i + 1,xs ++ [c]) ⟨h2,by simp only [List.length_append,leC,leN]; omega,fun c' hc' =>by
      rcases List.mem_append.1 hc' with h | h
      ·exact a3 c' h
      ·rw [List.mem_singleton.1 h]; exact hc⟩ (by simp only; omega)
    have hn:aT (m:Int) = some m:=by unfold aT; rw [if_pos (by omega),Int.toNat_natCast]
    rw [if_pos h2,geE h1,aa,hn,aa]
    unfold jX
    rw [if_neg (shl_ne m hm),aa,cname,aa,aa]
    split
    ·rw [bb _ _ (by simp only [leC,leN]; omega),aa]
     exact next _ (by show 2 <= 100; decide)
    ·rw [bb _ _ (by simp only [leC,leN]; omega),aa]
     exact next _ (by show 2 <= 100; decide)
   ·rw [if_neg h2]
    exact ⟨_,rfl,fin⟩
  ·rw [if_neg h1]
   exact ⟨_,rfl,fin⟩
theorem bAt (a n:Nat) (hn:0 < n):∃ j:Nat,j < n/\bH (a:Int) (n:Int) = some (j:Int):=by
 refine ⟨a % n,Nat.mod_lt _ hn,?_⟩
 unfold bH
 rw [if_neg (by omega),Int.tmod_eq_emod_of_nonneg (by omega)]
 rfl
theorem idxM {α:Type} {xs:List α} {j:Nat} (h:j < xs.length):idx xs (j:Int) = some xs[j]:=aM (i:=(j:Int)) (by omega) h
theorem Sl.set {m:Nat} {l:List Ta} (h:Sl m l) (j:Nat) {c:Ta} (hc:c.ft.size <= 100):Sl m (l.set j c):=by
 refine ⟨by rw [List.length_set]; exact h.1,fun v hv=>?_⟩
 rcases List.mem_or_eq_of_mem_set hv with hv | rfl
 ·exact h.2 v hv
 ·exact hc
theorem mO (b:TBend) {l:List Ta} {m:Nat} (h:Sl m l) (hm:m <= 1000):∃ l', bj_p FU b l = some l' /\Sl (m + 21) l' :=by
 have hF:=aO
 have hl:=h.1
 have key:∀ xs:List Ta,Sl (m + 21) xs -> ∃ l', (if xs.length = 0 then some xs else (bH ((b.fAt.toNat:Nat):Int) ((xs.length:Nat):Int)).bind fun s154=>(idx xs s154).bind fun x155=>(if ((b.fJ % (5:UInt8)).toNat) = 0 then (gm b.ft 0 ((min b.ft.size 30:Nat):Int)).bind fun s169=>(put xs ((s154.toNat:Nat):Int) (⟨s169,x155.fE,x155.fm⟩:Ta)).bind fun xs177=>some xs177 else (if ((b.fJ % (5:UInt8)).toNat) = 1 then (put xs ((s154.toNat:Nat):Int) (⟨x155.ft,b.fN,x155.fm⟩:Ta)).bind fun xs195=>some xs195 else (if ((b.fJ % (5:UInt8)).toNat) = 2 then (put xs ((s154.toNat:Nat):Int) (⟨x155.ft,x155.fE,ab b.fN⟩:Ta)).bind fun xs213=>some xs213 else (if ((b.fJ % (5:UInt8)).toNat) = 3 then (xs[0]?).bind fun x224=>(put xs ((s154.toNat:Nat):Int) (⟨x224.ft,x155.fE,x155.fm⟩:Ta)).bind fun xs242=>some xs242 else some xs))))) = some l' /\Sl (m + 21) l' :=fun xs hx=>by
  by_cases hz:xs.length = 0
  ·rw [if_pos hz]; exact ⟨_,rfl,hx⟩
  obtain ⟨j,hj,e⟩:=bAt b.fAt.toNat xs.length (by omega)
  have hc:=hx.2 _ (List.getElem_mem hj)
  rw [if_neg hz,e,aa,idxM hj,aa,Int.toNat_natCast]
  by_cases c0:(b.fJ % (5:UInt8)).toNat = 0
  ·have hs:gm b.ft 0 ((min b.ft.size 30:Nat):Int) = some (b.ft.extract 0 (min b.ft.size 30)):=by
    unfold gm
    rw [if_pos ⟨by omega,by omega,by omega⟩]
    rfl
   rw [if_pos c0,hs,aa,aR _ hj,aa]
   exact ⟨_,rfl,hx.set j (by simp only; rw [ByteArray.size_extract]; omega)⟩
  rw [if_neg c0]
  by_cases c1:(b.fJ % (5:UInt8)).toNat = 1
  ·rw [if_pos c1,aR _ hj,aa]
   exact ⟨_,rfl,hx.set j hc⟩
  rw [if_neg c1]
  by_cases c2:(b.fJ % (5:UInt8)).toNat = 2
  ·rw [if_pos c2,aR _ hj,aa]
   exact ⟨_,rfl,hx.set j hc⟩
  rw [if_neg c2]
  by_cases c3:(b.fJ % (5:UInt8)).toNat = 3
  ·have h0:0 < xs.length:=by omega
   rw [if_pos c3,geE h0,aa,aR _ hj,aa]
   exact ⟨_,rfl,hx.set j (show xs[0].ft.size <= 100 from hx.2 _ (List.getElem_mem h0))⟩
  rw [if_neg c3]
  exact ⟨_,rfl,hx⟩
 unfold bj_p jn
 rw [bb _ _ (by simp only [leN]; omega),aa,List.nil_append]
 simp only
 by_cases c4:(b.fJ % (5:UInt8)).toNat = 4
 ·rw [if_pos c4]
  have hat:(b.fAt % (22:UInt8)).toNat < 22:=by rw [UInt8.toNat_mod]; exact Nat.mod_lt _ (by decide)
  have hh:=aj (B:=bj_l1 FU b) (fun s:Nat × List Ta=>22 - s.1) (fun s=>s.1 <= 21/\Sl (m + s.1) s.2) (fun l=>Sl (m + 21) l) ?_ FU (0,l) ⟨Nat.zero_le _,h⟩ (by simp only; omega)
  ·obtain ⟨xs,e,hx⟩:=hh
   rw [e,aa]
   exact key xs hx
  ·rintro ⟨i,xs⟩ J ⟨a1,a2,a3⟩ hJ
   simp only at a1 a2 a3 hJ
   unfold bj_l1
   simp only
   by_cases hi:i < (b.fAt % (22:UInt8)).toNat
   ·rw [if_pos hi,mname,aa,bb _ _ (by simp only [leC,leN]; omega),aa]
    refine hJ _ ⟨by simp only; omega,by simp only [List.length_append,leC,leN]; omega,fun c' hc' =>?_⟩ (by simp only; omega)
    rcases List.mem_append.1 hc' with h | h
    ·exact a3 c' h
    ·rw [List.mem_singleton.1 h]; show 5 <= 100; decide
   ·rw [if_neg hi]
    exact ⟨_,rfl,by omega,a3⟩
 ·rw [if_neg c4]
  exact key l ⟨by omega,h.2⟩
end Go.Proofs.YtfccehcnajelgaaGreatDoor
namespace Go.Proofs.YtfccehcnajelgaaGreatDoor
open Go
set_option maxRecDepth 8000
theorem gF (l:List Bool) (hn:l.length <= 1000):bJ_p FU l = some (decide (∀ b ∈ l,b = true)):=by
 have hF:=aO
 by_cases h:∀ b ∈ l,b = true
 ·rw [decide_eq_true h]; exact oT FU l h (by omega)
 ·rw [decide_eq_false h]
  have hh:=aj (B:=aM_l1 FU l false) (fun i:Nat=>l.length - i) (fun i=>i <= l.length/\∀ b ∈ l.take i,b = true) (fun r=>∃ j:Nat,r = .inl (j:Int)) ?_ FU 0 ⟨Nat.zero_le _,by simp⟩ (by omega)
  ·obtain ⟨r,e,j,rfl⟩:=hh
   unfold bJ_p bQ_p aM_p
   rw [e]
   show (((some (j:Int)).bind fun y1=>some (decide (0 <= y1))).bind fun y1=>some (!y1)) = some false
   rw [aa,aa,decide_eq_true (by omega)]; rfl
  ·rintro i J ⟨hi,h2⟩ hJ
   unfold aM_l1
   simp only
   split
   ·rename_i h0
    rw [geE h0,aa]
    rcases hb:l[i] with _ | _
    ·rw [if_pos (by decide)]; exact ⟨_,rfl,i,rfl⟩
    ·rw [if_neg (by decide)]
     refine hJ (i + 1) ⟨h0,fun b hb2=>?_⟩ (by omega)
     rw [List.take_succ_eq_append_getElem h0,List.mem_append,List.mem_singleton,hb] at hb2
     exact hb2.elim (h2 b) id
   ·rw [List.take_of_length_le (by omega)] at h2
    exact absurd h2 h
def Wi (l:List Int) (a ba:Int):Prop:=(l.length:Int) = a/\∀ x ∈ l,0 <= x/\x <= ba
instance (l:List Int) (a ba:Int):Decidable (Wi l a ba):=by unfold Wi; infer_instance
theorem fZ (l:List Int) (a ba:Int) (hn:l.length <= 1000):bI_p FU l a ba = some (decide (Wi l a ba)):=by
 have hF:=aO
 unfold bI_p
 by_cases hl:(l.length:Int) = a
 ·rw [if_pos hl]
  have hh:=aj (B:=bI_l1 FU l ba) (fun i:Nat=>l.length - i) (fun i=>i <= l.length/\∀ x ∈ l.take i,0 <= x/\x <= ba) (fun r=>r = .inr ()/\Wi l a ba ∨ r = .inl false/\¬ Wi l a ba) ?_ FU 0 ⟨Nat.zero_le _,by simp⟩ (by omega)
  ·obtain ⟨r,e,hr⟩:=hh
   rw [e]
   rcases hr with ⟨rfl,hr⟩ | ⟨rfl,hr⟩
   ·rw [decide_eq_true hr]; rfl
   ·rw [decide_eq_false hr]; rfl
  ·rintro i J ⟨hi,h2⟩ hJ
   unfold bI_l1 dm_p
   simp only
   split
   ·rename_i h0
    rw [geE h0,aa]
    by_cases h3:0 <= l[i]/\l[i] <= ba
    ·rw [if_neg (by omega),aa,decide_eq_false (by omega),if_neg (by decide)]
     refine hJ (i + 1) ⟨h0,fun x hx=>?_⟩ (by omega)
     rw [List.take_succ_eq_append_getElem h0,List.mem_append,List.mem_singleton] at hx
     rcases hx with hx | rfl
     ·exact h2 x hx
     ·exact h3
    ·have hbad:¬ Wi l a ba:=fun h=>h3 (h.2 _ (List.getElem_mem _))
     by_cases h4:l[i] < 0
     ·rw [if_pos h4,aa,if_pos rfl,decide_eq_true (Nat.zero_le _)]
      exact ⟨_,rfl,.inr ⟨rfl,hbad⟩⟩
     ·rw [if_neg h4,aa,decide_eq_true (by omega),if_pos rfl,decide_eq_true (Nat.zero_le _)]
      exact ⟨_,rfl,.inr ⟨rfl,hbad⟩⟩
   ·rw [List.take_of_length_le (by omega)] at h2
    exact ⟨_,rfl,.inl ⟨rfl,hl,h2⟩⟩
 ·rw [if_neg hl,decide_eq_false fun h=>hl h.1]
theorem cj (l:List Int) (a ba:Int) (hn:l.length <= 1000):au_p FU l a ba = some (decide (Wi l a ba)):=by
 have hF:=aO
 have hh:=aj (B:=au_l1 FU l ba) (fun i:Nat=>l.length - i) (fun i=>i <= l.length/\∀ x ∈ l.take i,0 <= x/\x <= ba) (fun r=>r = .inr ()/\(∀ x ∈ l,0 <= x/\x <= ba) ∨ r = .inl false/\¬ ∀ x ∈ l,0 <= x/\x <= ba) ?_ FU 0 ⟨Nat.zero_le _,by simp⟩ (by omega)
 ·obtain ⟨r,e,hr⟩:=hh
  unfold au_p
  rw [e]
  rcases hr with ⟨rfl,hr⟩ | ⟨rfl,hr⟩
  ·exact congrArg some (decide_eq_decide.2 ⟨fun h=>⟨h,hr⟩,fun h=>h.1⟩)
  ·rw [decide_eq_false fun h:Wi l a ba=>hr h.2]; rfl
 ·rintro i J ⟨hi,h2⟩ hJ
  unfold au_l1
  simp only
  split
  ·rename_i h0
   rw [geE h0,aa]
   by_cases h3:0 <= l[i]/\l[i] <= ba
   ·rw [if_neg (by omega),if_neg (by omega)]
    refine hJ (i + 1) ⟨h0,fun x hx=>?_⟩ (by omega)
    rw [List.take_succ_eq_append_getElem h0,List.mem_append,List.mem_singleton] at hx
    rcases hx with hx | rfl
    ·exact h2 x hx
    ·exact h3
   ·have hbad:¬ ∀ x ∈ l,0 <= x/\x <= ba:=fun h=>h3 (h _ (List.getElem_mem _))
    by_cases h4:l[i] < 0
    ·rw [if_pos h4]; exact ⟨_,rfl,.inr ⟨rfl,hbad⟩⟩
    ·rw [if_neg h4,if_pos (by omega)]; exact ⟨_,rfl,.inr ⟨rfl,hbad⟩⟩
  ·rw [List.take_of_length_le (by omega)] at h2
   exact ⟨_,rfl,.inl ⟨rfl,h2⟩⟩
def NS:List ByteArray:=⟨#[115,101,97]⟩ :: (List.range 13).map nm
@[reducible] def ltrs:ByteArray:=⟨#[65,66,67,68,69,70,71,72,73,74,75,76,77,78,79,80,81,82,83,84,85,86,87,88,89,90,97,98,99,100,101,102,103,104,105,106,107,108,109,110,111,112,113,114,115,116,117,118,119,120,121,122,48,49,50,51,52,53,54,55,56,57,45,95]⟩
theorem ns_all:NS.all (fun b=>decide (aY_p FU b ltrs = some ⟨#[]⟩) && decide (bP_p FU b = some true) && !decide (b = ⟨#[]⟩) && decide (b.size <= 12)) = true:=by kernel_rfl
theorem ns_ok {b:ByteArray} (h:b ∈ NS):aY_p FU b ltrs = some ⟨#[]⟩/\bP_p FU b = some true/\¬ b = ⟨#[]⟩/\b.size <= 12:=by
 have:=List.all_eq_true.1 ns_all b h
 simpa [Bool.and_eq_true,and_assoc] using this
def UV (r:Te) (u:Tc):Prop:=0 <= u.fx/\u.fx <= (if u.fv = true then 0 else 1000000000)/\Wi u.fh r.fh u.fx/\Wi u.fM r.fe (if u.fv = true then 0 else 1000000000)/\Wi u.fI r.fj (if u.fv = true then 0 else 63)
instance (r:Te) (u:Tc):Decidable (UV r u):=by unfold UV; infer_instance
structure Sm4 (u:Tc):Prop where
 n:u.ft ∈ NS
 g:u.fh.length <= 1000
 v:u.fM.length <= 1000
 q:u.fI.length <= 1000
theorem ob (r:Te) (u:Tc) (h:Sm4 u):dr_p FU r u = some (decide (UV r u)):=by
 obtain ⟨n1,_,n3,n4⟩:=ns_ok h.n
 have key:∀ (V P:Nat),V = (if u.fv = true then 0 else 1000000000) -> P = (if u.fv = true then 0 else 63) -> ((aY_p FU u.ft ltrs).bind fun y30=>(bI_p FU u.fh r.fh u.fx).bind fun y31=>(bI_p FU u.fM r.fe ((V:Nat):Int)).bind fun y32=>(bI_p FU u.fI r.fj ((P:Nat):Int)).bind fun y33=>(bJ_p FU ([(!(decide (u.ft = ⟨#[]⟩))),(decide (u.ft.size <= 12)),(decide (y30 = ⟨#[]⟩)),(decide (0 <= u.fx)),(decide (u.fx <= ((V:Nat):Int))),y31,y32,y33]:List Bool)).bind fun y40=>some y40) = some (decide (UV r u)):=by
  intro V P hV hP
  rw [n1,aa,fZ _ _ _ h.g,aa,fZ _ _ _ h.v,aa,fZ _ _ _ h.q,aa,gF _ (by simp),aa]
  refine congrArg some (decide_eq_decide.2 ?_)
  have eV:((V:Nat):Int) = (if u.fv = true then 0 else 1000000000):=by rw [hV]; split <;> rfl
  have eP:((P:Nat):Int) = (if u.fv = true then 0 else 63):=by rw [hP]; split <;> rfl
  rw [eV,eP]
  unfold UV
  simp only [List.mem_cons,List.not_mem_nil,or_false,forall_eq_or_imp,forall_eq,Bool.not_eq_true', decide_eq_false_iff_not,decide_eq_true_eq]
  constructor
  ·rintro ⟨_,_,_,a,b,c,d,e⟩; exact ⟨a,b,c,d,e⟩
  ·rintro ⟨a,b,c,d,e⟩; exact ⟨n3,n4,trivial,a,b,c,d,e⟩
 unfold dr_p jn
 simp only
 by_cases hw:u.fv = true
 ·rw [if_pos hw]; exact key 0 0 (by rw [if_pos hw]) (by rw [if_pos hw])
 ·rw [if_neg hw]; exact key 1000000000 63 (by rw [if_neg hw]) (by rw [if_neg hw])
theorem mX (r:Te) (u:Tc) (h:Sm4 u):cu_p FU r u = some (decide (UV r u)):=by
 obtain ⟨_,n2,_,_⟩:=ns_ok h.n
 unfold cu_p
 rw [n2,aa,if_pos rfl]
 by_cases h1:u.fx < 0
 ·rw [if_pos h1,decide_eq_false fun h=>absurd h.1 (by omega)]
 ·rw [if_neg h1]
  by_cases h2:1000000000 < u.fx
  ·rw [if_pos h2,decide_eq_false fun h=>by have:=h.2.1; split at this <;> omega]
  ·rw [if_neg h2,cj _ _ _ h.g,aa]
   by_cases h3:Wi u.fh r.fh u.fx
   ·rw [if_pos (decide_eq_true h3),cj _ _ _ h.v,aa]
    by_cases h4:Wi u.fM r.fe 1000000000
    ·rw [if_pos (decide_eq_true h4),cj _ _ _ h.q,aa]
     by_cases h5:Wi u.fI r.fj 63
     ·rw [if_pos (decide_eq_true h5)]
      by_cases hw:u.fv = true
      ·rw [if_pos hw]
       by_cases h6:u.fx = 0
       ·rw [if_pos h6,cj _ _ _ h.v,aa]
        by_cases h7:Wi u.fM r.fe 0
        ·rw [if_pos (decide_eq_true h7),cj _ _ _ h.q,aa]
         refine congrArg some (decide_eq_decide.2 ?_)
         unfold UV
         simp only [if_pos hw]
         exact ⟨fun h8=>⟨by omega,by omega,h3,h7,h8⟩,fun h=>h.2.2.2.2⟩
        ·rw [if_neg (by simpa using h7),decide_eq_false fun h=>h7 (by have:=h.2.2.2.1; rwa [if_pos hw] at this)]
       ·rw [if_neg h6,decide_eq_false fun h=>h6 (by have h8:=h.2.1; have:=h.1; rw [if_pos hw] at h8; omega)]
      ·rw [if_neg hw,decide_eq_true ⟨by omega,by rw [if_neg hw]; omega,h3,by rw [if_neg hw]; exact h4,by rw [if_neg hw]; exact h5⟩]
     ·rw [if_neg (by simpa using h5),decide_eq_false fun h=>h5 ⟨h.2.2.2.2.1,fun x hx=>by have:=h.2.2.2.2.2 x hx; split at this <;> omega⟩]
    ·rw [if_neg (by simpa using h4),decide_eq_false fun h=>h4 ⟨h.2.2.2.1.1,fun x hx=>by have:=h.2.2.2.1.2 x hx; split at this <;> omega⟩]
   ·rw [if_neg (by simpa using h3),decide_eq_false fun h=>h3 h.2.2.1]
structure RV (r:Te):Prop where
 g:0 <= r.fh/\r.fh <= 6
 p:0 <= r.fe/\r.fe <= 12
 l:0 <= r.fj/\r.fj <= 3
 n:1 <= r.fm.length/\r.fm.length <= 64
 u:∀ i (h:i < r.fm.length),UV r r.fm[i]
 nm:∀ i (h:i < r.fm.length) j (h' : j < i),r.fm[j].ft ≠ r.fm[i].ft
 w:∀ i (h:i < r.fm.length) j (h' : j < i),r.fm[j].fv = true -> r.fm[i].fv = true
 z:∀ h:0 < r.fm.length,r.fm[0].fv = false
open Classical in
theorem iS (r:Te) (h:∀ u ∈ r.fm,Sm4 u):bV_p FU r = some (if RV r then 0 else 161):=by
 have hF:=aO
 unfold bV_p
 rw [gF _ (by simp),aa]
 by_cases h0:((0 <= r.fh/\r.fh <= 6)/\(0 <= r.fe/\r.fe <= 12)/\(0 <= r.fj/\r.fj <= 3)/\1 <= r.fm.length/\r.fm.length <= 64)
 ·rw [if_pos]
  ·have hh:=aj (B:=bV_l1 FU r) (fun s:Bool × Nat × List (ByteArray × Bool)=>r.fm.length - s.2.1)
    (fun s=>s.2.1 <= r.fm.length/\(s.2.1 = 0 -> s.1 = false)/\(∀ h:0 < s.2.1,∀ h' : s.2.1 - 1 < r.fm.length,s.1 = r.fm[s.2.1 - 1].fv)/\(∀ x,aB s.2.2 x false = true ↔ ∃ j,∃ hj:j < r.fm.length,j < s.2.1/\r.fm[j].ft = x)/\
     (∀ i (h:i < r.fm.length),i < s.2.1 -> UV r r.fm[i])/\(∀ i (h:i < r.fm.length) j (h' : j < i),i < s.2.1 -> r.fm[j].ft ≠ r.fm[i].ft)/\(∀ i (h:i < r.fm.length) j (h' : j < i),i < s.2.1 -> r.fm[j].fv = true -> r.fm[i].fv = true)/\(∀ h:0 < r.fm.length,0 < s.2.1 -> r.fm[0].fv = false))
    (fun y=>y = .inr ()/\RV r ∨ y = .inl 161/\¬ RV r) ?_ FU (false,0,[]) ⟨Nat.zero_le _,fun _=>rfl,fun h=>absurd h (by simp),fun x=>⟨fun hx=>by simp [aB,hZ] at hx,fun ⟨j,_,hj,_⟩=>by simp at hj⟩,fun i _ hi=>by simp at hi,fun i _ j _ hi=>by simp at hi,fun i _ j _ hi=>by simp at hi,fun _ hi=>by simp at hi⟩ (by simp only; omega)
   ·obtain ⟨y,e,hy⟩:=hh
    rw [e]
    rcases hy with ⟨rfl,hv⟩ | ⟨rfl,hv⟩
    ·rw [if_pos hv]; rfl
    ·rw [if_neg hv]; rfl
   ·rintro ⟨q,i,D⟩ J ⟨a1,a2,a3,a4,a5,a6,a7,a8⟩ hJ
    simp only at a1 a2 a3 a4 a5 a6 a7 a8 hJ
    unfold bV_l1
    simp only
    by_cases hi:i < r.fm.length
    ·rw [if_pos hi,geE hi,aa,ob r _ (h _ (List.getElem_mem _)),aa]
     -- what has to hold of this unit
     have good:UV r r.fm[i] -> aB D r.fm[i].ft false = false -> (q = true -> r.fm[i].fv = true) -> (i = 0 -> r.fm[i].fv = false) -> ∃ y,J (r.fm[i].fv,i + 1,bh D r.fm[i].ft true) = some y/\(y = .inr ()/\RV r ∨ y = .inl 161/\¬ RV r):=by
      intro g1 g2 g3 g4
      have gn:∀ j (hj:j < i),r.fm[j].ft ≠ r.fm[i].ft:=fun j hj e=>by
       have:=(a4 r.fm[i].ft).2 ⟨j,by omega,hj,e⟩
       rw [g2] at this; cases this
      have gw:∀ j (hj:j < i),r.fm[j].fv = true -> r.fm[i].fv = true:=fun j hj hw=>by
       refine g3 ?_
       rw [a3 (by omega) (by omega)]
       by_cases e:j = i - 1
       ·subst e; exact hw
       ·exact a7 (i - 1) (by omega) j (by omega) (by omega) hw
      refine hJ _ ⟨hi,fun e=>absurd e (by simp),fun _ h' =>rfl,fun x=>?_,fun k hk hki=>?_,fun k hk j hj hki=>?_,fun k hk j hj hki=>?_,fun hk _=>?_⟩ (by simp only; omega)
      ·simp only
       unfold aB
       rw [fR]
       have:=a4 x
       unfold aB at this
       by_cases e:x = r.fm[i].ft
       ·rw [if_pos e]
        exact ⟨fun _=>⟨i,hi,by omega,e.symm⟩,fun _=>rfl⟩
       ·rw [if_neg e,this]
        constructor
        ·rintro ⟨j,hj,hji,ej⟩; exact ⟨j,hj,by omega,ej⟩
        ·rintro ⟨j,hj,hji,ej⟩
         by_cases e2:j = i
         ·subst e2; exact absurd ej.symm e
         ·exact ⟨j,hj,by omega,ej⟩
      ·by_cases e:k = i
       ·subst e; exact g1
       ·exact a5 k hk (by simp only at hki; omega)
      ·by_cases e:k = i
       ·subst e; exact gn j hj
       ·exact a6 k hk j hj (by simp only at hki; omega)
      ·by_cases e:k = i
       ·subst e; exact gw j hj
       ·exact a7 k hk j hj (by simp only at hki; omega)
      ·by_cases e:i = 0
       ·subst e; exact g4 rfl
       ·exact a8 hk (by omega)
     have bad:(¬ UV r r.fm[i] ∨ aB D r.fm[i].ft false = true ∨ (q = true/\r.fm[i].fv = false) ∨ (i = 0/\r.fm[i].fv = true)) -> ¬ RV r:=by
      rintro hb hv
      rcases hb with hb | hb | ⟨hb,hb2⟩ | ⟨hb,hb2⟩
      ·exact hb (hv.u i hi)
      ·obtain ⟨j,hj,hji,e⟩:=(a4 _).1 hb
       exact hv.nm i hi j hji e
      ·by_cases e:i = 0
       ·rw [a2 e] at hb; cases hb
       ·have:=hv.w i hi (i - 1) (by omega) (by rw [<- a3 (by omega) (by omega)]; exact hb)
        rw [hb2] at this; cases this
      ·subst hb
       have:=hv.z hi
       rw [hb2] at this; cases this
     have fin:∀ l:List Bool,l.length <= 1000 -> ((∀ b ∈ l,b = true) ↔ (UV r r.fm[i]/\aB D r.fm[i].ft false = false/\(q = true -> r.fm[i].fv = true)/\(i = 0 -> r.fm[i].fv = false))) -> ∃ y,((bJ_p FU l).bind fun y=>(if y = true then J (r.fm[i].fv,i + 1,bh D r.fm[i].ft true) else some (.inl (161:Int)))) = some y/\(y = .inr ()/\RV r ∨ y = .inl 161/\¬ RV r):=by
      intro l hl hiff
      rw [gF l hl,aa]
      by_cases hq:∀ b ∈ l,b = true
      ·rw [if_pos (decide_eq_true hq)]
       obtain ⟨g1,g2,g3,g4⟩:=hiff.1 hq
       exact good g1 g2 g3 g4
      ·rw [if_neg (by simpa using hq)]
       refine ⟨_,rfl,.inr ⟨rfl,bad ?_⟩⟩
       refine Classical.byContradiction fun hc=>hq (hiff.2 ?_)
       simp only [not_or,not_and,Bool.not_eq_true,Classical.not_not] at hc
       obtain ⟨c1,c2,c3,c4⟩:=hc
       refine ⟨c1,c2,fun e=>?_,fun e=>?_⟩
       ·rcases hww:r.fm[i].fv with _ | _
        ·exact absurd hww (by simpa using c3 e)
        ·rfl
       ·simpa using c4 e
     rcases hw:r.fm[i].fv with _ | _
     ·rw [if_neg (by decide)]
      by_cases hp:0 < i
      ·rw [if_pos hp]
       have:=fin [decide (UV r r.fm[i]),!(aB D r.fm[i].ft false),!q,true] (by simp) (by
        rw [hw]
        simp only [List.mem_cons,List.not_mem_nil,or_false,forall_eq_or_imp,forall_eq,Bool.not_eq_true', decide_eq_true_eq]
        constructor
        ·rintro ⟨b1,b2,b3,_⟩; exact ⟨b1,b2,fun e=>(by rw [e] at b3; cases b3),fun _=>trivial⟩
        ·rintro ⟨b1,b2,b3,_⟩; exact ⟨b1,b2,by rcases q with _ | _; rfl; exact absurd (b3 rfl) (by decide),trivial⟩)
       rw [hw] at this
       exact this
      ·rw [if_neg hp]
       have:=fin [decide (UV r r.fm[i]),!(aB D r.fm[i].ft false),!q,!r.fm[i].fv] (by simp) (by
        rw [hw]
        simp only [List.mem_cons,List.not_mem_nil,or_false,forall_eq_or_imp,forall_eq,Bool.not_eq_true', decide_eq_true_eq]
        constructor
        ·rintro ⟨b1,b2,b3,_⟩; exact ⟨b1,b2,fun e=>(by rw [e] at b3; cases b3),fun _=>trivial⟩
        ·rintro ⟨b1,b2,b3,_⟩; exact ⟨b1,b2,by rcases q with _ | _; rfl; exact absurd (b3 rfl) (by decide),trivial⟩)
       rw [hw] at this
       exact this
     ·rw [if_pos rfl]
      by_cases hp:0 < i
      ·rw [if_pos hp]
       have:=fin [decide (UV r r.fm[i]),!(aB D r.fm[i].ft false),true,true] (by simp) (by
        rw [hw]
        simp only [List.mem_cons,List.not_mem_nil,or_false,forall_eq_or_imp,forall_eq,Bool.not_eq_true', decide_eq_true_eq]
        constructor
        ·rintro ⟨b1,b2,_,_⟩; exact ⟨b1,b2,fun _=>trivial,fun e=>by omega⟩
        ·rintro ⟨b1,b2,_,_⟩; exact ⟨b1,b2,trivial,trivial⟩)
       rw [hw] at this
       exact this
      ·rw [if_neg hp]
       have:=fin [decide (UV r r.fm[i]),!(aB D r.fm[i].ft false),true,!r.fm[i].fv] (by simp) (by
        rw [hw]
        simp only [List.mem_cons,List.not_mem_nil,or_false,forall_eq_or_imp,forall_eq,Bool.not_eq_true', decide_eq_true_eq]
        constructor
        ·rintro ⟨_,_,_,b4⟩; cases b4
        ·rintro ⟨_,_,_,b4⟩; exact absurd (b4 (by omega)) (by decide))
       rw [hw] at this
       exact this
    ·rw [if_neg hi]
     refine ⟨_,rfl,.inl ⟨rfl,h0.1,h0.2.1,h0.2.2.1,h0.2.2.2,fun i hi2=>a5 i hi2 (by omega),fun i hi2 j hj=>a6 i hi2 j hj (by omega),fun i hi2 j hj=>a7 i hi2 j hj (by omega),fun hi2=>a8 hi2 (by omega)⟩⟩
  ·simp only [List.mem_cons,List.not_mem_nil,or_false,forall_eq_or_imp,forall_eq,decide_eq_true_eq]
   omega
 ·rw [if_neg,if_neg fun hv:RV r=>h0 ⟨hv.g,hv.p,hv.l,hv.n⟩]
  simp only [List.mem_cons,List.not_mem_nil,or_false,forall_eq_or_imp,forall_eq,decide_eq_true_eq]
  omega
open Classical in
theorem dQ (r:Te) (h:∀ u ∈ r.fm,Sm4 u):ak_p FU r = some (if RV r then 0 else 161):=by
 have hF:=aO
 unfold ak_p jn
 simp only [if_true]
 by_cases g1:r.fh < 0
 ·rw [if_pos g1,if_neg fun hv:RV r=>by have:=hv.g; omega]
 rw [if_neg g1]
 by_cases g2:6 < r.fh
 ·rw [if_pos g2,if_neg fun hv:RV r=>by have:=hv.g; omega]
 rw [if_neg g2]
 by_cases g3:r.fe < 0
 ·rw [if_pos g3,if_neg fun hv:RV r=>by have:=hv.p; omega]
 rw [if_neg g3]
 by_cases g4:12 < r.fe
 ·rw [if_pos g4,if_neg fun hv:RV r=>by have:=hv.p; omega]
 rw [if_neg g4]
 by_cases g5:r.fj < 0
 ·rw [if_pos g5,if_neg fun hv:RV r=>by have:=hv.l; omega]
 rw [if_neg g5]
 by_cases g6:3 < r.fj
 ·rw [if_pos (decide_eq_true g6),if_neg fun hv:RV r=>by have:=hv.l; omega]
 rw [if_neg (by simpa using g6)]
 by_cases g7:r.fm.length < 1
 ·rw [if_pos g7,if_neg fun hv:RV r=>by have:=hv.n; omega]
 rw [if_neg g7]
 by_cases g8:64 < r.fm.length
 ·rw [if_pos g8,if_neg fun hv:RV r=>by have:=hv.n; omega]
 rw [if_neg g8,geE (by omega),aa]
 by_cases g9:r.fm[0].fv = true
 ·rw [if_pos g9,if_neg fun hv:RV r=>by have:=hv.z (by omega); rw [g9] at this; cases this]
 rw [if_neg g9]
 have hh:=aj (B:=ak_l2 FU r) (fun i:Nat=>r.fm.length - i)
  (fun s=>s <= r.fm.length/\(∀ i (h:i < r.fm.length),i < s -> UV r r.fm[i])/\(∀ i (h:i < r.fm.length) j (h' : j < i),i < s -> r.fm[j].ft ≠ r.fm[i].ft)/\(∀ i (h:i < r.fm.length) j (h' : j < i),i < s -> r.fm[j].fv = true -> r.fm[i].fv = true))
  (fun y=>y = .inr ()/\RV r ∨ y = .inl 161/\¬ RV r) ?_ FU 0 ⟨Nat.zero_le _,fun i _ hi=>by omega,fun i _ j _ hi=>by omega,fun i _ j _ hi=>by omega⟩ (by omega)
 ·obtain ⟨y,e,hy⟩:=hh
  rw [e]
  rcases hy with ⟨rfl,hv⟩ | ⟨rfl,hv⟩
  ·rw [if_pos hv]; rfl
  ·rw [if_neg hv]; rfl
 ·rintro i J ⟨a1,a5,a6,a7⟩ hJ
  unfold ak_l2
  simp only
  by_cases hi:i < r.fm.length
  ·rw [if_pos hi,geE hi,aa,mX r _ (h _ (List.getElem_mem _)),aa]
   by_cases hu:UV r r.fm[i]
   ·rw [if_pos (decide_eq_true hu)]
    have hin:=aj (B:=ak_l1 FU i r r.fm[i]) (fun j:Nat=>i - j) (fun s=>s <= i/\∀ j (hj:j < r.fm.length),j < s -> r.fm[j].ft ≠ r.fm[i].ft/\(r.fm[j].fv = true -> r.fm[i].fv = true))
     (fun y=>y = .inr ()/\(∀ j (hj:j < r.fm.length),j < i -> r.fm[j].ft ≠ r.fm[i].ft/\(r.fm[j].fv = true -> r.fm[i].fv = true)) ∨ y = .inl (.inl 161)/\¬ RV r) ?_ FU 0 ⟨Nat.zero_le _,fun j _ hj=>by omega⟩ (by omega)
    ·obtain ⟨y,e,hy⟩:=hin
     rw [e]
     rcases hy with ⟨rfl,hy⟩ | ⟨rfl,hy⟩
     ·refine hJ (i + 1) ⟨hi,fun k hk hki=>?_,fun k hk j hj hki=>?_,fun k hk j hj hki=>?_⟩ (by omega)
      ·by_cases e:k = i
       ·subst e; exact hu
       ·exact a5 k hk (by omega)
      ·by_cases e:k = i
       ·subst e; exact (hy j (by omega) hj).1
       ·exact a6 k hk j hj (by omega)
      ·by_cases e:k = i
       ·subst e; exact (hy j (by omega) hj).2
       ·exact a7 k hk j hj (by omega)
     ·exact ⟨_,rfl,.inr ⟨rfl,hy⟩⟩
    ·rintro j J' ⟨b1,b2⟩ hJ'
     unfold ak_l1
     simp only
     by_cases hj:j < i
     ·have next:r.fm[j].ft ≠ r.fm[i].ft -> (r.fm[j].fv = true -> r.fm[i].fv = true) -> _:=fun c1 c2=>hJ' (j + 1) ⟨hj,fun k hk hkj=>by
       by_cases e:k = j
       ·subst e; exact ⟨c1,c2⟩
       ·exact b2 k hk (by omega)⟩ (by omega)
      rw [if_pos hj,geE (by omega),aa]
      by_cases c1:r.fm[j].ft = r.fm[i].ft
      ·rw [if_pos c1]
       exact ⟨_,rfl,.inr ⟨rfl,fun hv=>hv.nm i hi j hj c1⟩⟩
      ·rw [if_neg c1]
       by_cases c2:r.fm[j].fv = true
       ·rw [if_pos c2]
        by_cases c3:r.fm[i].fv = true
        ·rw [if_pos c3]; exact next c1 fun _=>c3
        ·rw [if_neg c3]; exact ⟨_,rfl,.inr ⟨rfl,fun hv=>c3 (hv.w i hi j hj c2)⟩⟩
       ·rw [if_neg c2]; exact next c1 fun e=>absurd e c2
     ·rw [if_neg hj]
      exact ⟨_,rfl,.inl ⟨rfl,fun k hk hki=>b2 k hk (by omega)⟩⟩
   ·rw [if_neg (by simpa using hu)]
    exact ⟨_,rfl,.inr ⟨rfl,fun hv=>hu (hv.u i hi)⟩⟩
  ·rw [if_neg hi]
   exact ⟨_,rfl,.inl ⟨rfl,by omega,by omega,by omega,by omega,fun i hi2=>a5 i hi2 (by omega),fun i hi2 j hj=>a6 i hi2 j hj (by omega),fun i hi2 j hj=>a7 i hi2 j hj (by omega),fun hi2=>by simpa using g9⟩⟩
end Go.Proofs.YtfccehcnajelgaaGreatDoor
namespace Go.Proofs.YtfccehcnajelgaaGreatDoor
open Go
set_option maxRecDepth 8000
structure Lnd (r:Te) (us:List Tc):Prop where
 all:∃ ws,r.fm = us ++ ws/\∀ u ∈ ws,u.fv = true
 w:∀ u ∈ us,u.fv = false
theorem lnd_of {r:Te} (h:RV r):∃ us,Lnd r us/\1 <= us.length:=by
 have key:∀ (l:List Tc),(∀ i (h:i < l.length) j (h' : j < i),l[j].fv = true -> l[i].fv = true) -> ∃ us ws,l = us ++ ws/\(∀ u ∈ us,u.fv = false)/\(∀ u ∈ ws,u.fv = true)/\((∀ h:0 < l.length,l[0].fv = false) -> 0 < l.length -> 1 <= us.length):=by
  intro l
  induction l with
  | nil=>intro _; exact ⟨[],[],rfl,by simp,by simp,fun _ h=>by simp at h⟩
  | cons u l ih=>
   intro hl
   rcases hu:u.fv with _ | _
   ·obtain ⟨us,ws,e,h1,h2,_⟩:=ih fun i hi j hj=>hl (i + 1) (by simpa using hi) (j + 1) (by omega)
    refine ⟨u :: us,ws,by rw [e]; rfl,fun v hv=>?_,h2,fun _ _=>by simp⟩
    rcases List.mem_cons.1 hv with rfl | hv
    ·exact hu
    ·exact h1 v hv
   ·refine ⟨[],u :: l,rfl,by simp,fun v hv=>?_,fun h0 _=>?_⟩
    ·obtain ⟨i,hi,rfl⟩:=List.getElem_of_mem hv
     cases i with
     | zero=>exact hu
     | succ i=>exact hl (i + 1) hi 0 (by omega) hu
    ·have:=h0 (by simp)
     simp only [List.getElem_cons_zero] at this
     rw [hu] at this; cases this
 obtain ⟨us,ws,e,h1,h2,h3⟩:=key r.fm h.w
 exact ⟨us,⟨⟨ws,e,h2⟩,h1⟩,h3 h.z h.n.1⟩
theorem Lnd.at {r:Te} {us:List Tc} (h:Lnd r us) {i:Nat} (hi:i < r.fm.length):(∃ h2:i < us.length,r.fm[i] = us[i]/\r.fm[i].fv = false) ∨ us.length <= i/\r.fm[i].fv = true:=by
 obtain ⟨ws,e,hw⟩:=h.all
 have hz:r.fm.length = us.length + ws.length:=by rw [e,List.length_append]
 by_cases h2:i < us.length
 ·have e0:r.fm[i] = us[i]:=by simp only [e]; exact List.getElem_append_left h2
  exact .inl ⟨h2,e0,by rw [e0]; exact h.w _ (List.getElem_mem _)⟩
 ·refine .inr ⟨by omega,hw _ ?_⟩
  have:r.fm[i] = ws[i - us.length]'(by omega):=by simp only [e]; exact List.getElem_append_right (by omega)
  rw [this]; exact List.getElem_mem _
theorem Lnd.le {r:Te} {us:List Tc} (h:Lnd r us):us.length <= r.fm.length:=by
 obtain ⟨ws,e,_⟩:=h.all
 rw [e,List.length_append]; omega
theorem oI {r:Te} {us:List Tc} (h:Lnd r us) (hn:r.fm.length <= 1000):bz_p FU r = some (us.length:Int):=by
 have hF:=aO
 have hle:=h.le
 have hh:=aj (B:=bz_l1 FU r) (fun i:Nat=>r.fm.length - i) (fun i=>i <= us.length) (fun y=>y = us.length) ?_ FU 0 (Nat.zero_le _) (by omega)
 ·obtain ⟨y,e,rfl⟩:=hh
  unfold bz_p jn
  simp only
  rw [e,aa]
 ·intro i J hi hJ
  unfold bz_l1
  simp only
  by_cases h0:i < r.fm.length
  ·rw [if_pos h0,geE h0,aa]
   rcases h.at h0 with ⟨h2,_,hw⟩ | ⟨h2,hw⟩
   ·rw [if_neg (by rw [hw]; decide)]
    exact hJ (i + 1) h2 (by omega)
   ·rw [if_pos hw]
    exact ⟨_,rfl,by omega⟩
  ·rw [if_neg h0]
   exact ⟨_,rfl,by omega⟩
def dM (p:List Int) (n:Nat) (k:Int):Prop:=p.length = n/\bT p k
theorem gM (e:Int):ar_p FU false e = some (.ok ()):=rfl
theorem kj:ar_p FU true 220 = some (.error ⟨220⟩):=rfl
theorem kF {l:List Int} {k:Int} (hk:0 <= k) (hn:l.Nodup) (h:∀ x ∈ l,0 <= x/\x < k) (hl:(l.length:Int) = k):∀ d,0 <= d -> d < k -> d ∈ l:=fun d d0 d1=>by
 refine Classical.byContradiction fun hd=>?_
 have h2:((List.range k.toNat).map fun i:Nat=>(i:Int)).Nodup:=by
  unfold List.Nodup
  exact List.Pairwise.map _ (fun a b hab=>by omega) List.nodup_range
 have h3:(d :: l).length <= ((List.range k.toNat).map fun i:Nat=>(i:Int)).length:=(List.nodup_cons.2 ⟨hd,hn⟩).length_le_of_subset fun x hx=>by
  have hx2:0 <= x/\x < k:=by
   rcases List.mem_cons.1 hx with rfl | hx
   ·exact ⟨d0,d1⟩
   ·exact h x hx
  exact List.mem_map.2 ⟨x.toNat,List.mem_range.2 (by omega),by omega⟩
 rw [leC,List.length_map,List.length_range] at h3
 omega
theorem used_eq (r:Te) (p:List Int) (k:Int) (hl:p.length <= 1000):∃ y,ah (aj_l1 FU p ⟨r,k⟩) FU (0,[]) = some y/\((∃ D:List (Int × Bool),y = .inr D/\(∀ x ∈ p,0 <= x/\x < k)/\(D.map Prod.fst).Nodup/\∀ x,x ∈ D.map Prod.fst ↔ x ∈ p) ∨ y = .inl (.error ⟨220⟩)/\¬ ∀ x ∈ p,0 <= x/\x < k):=by
 have hF:=aO
 refine aj (B:=aj_l1 FU p ⟨r,k⟩) (fun s:Nat × List (Int × Bool)=>p.length - s.1) (fun s=>s.1 <= p.length/\(∀ x ∈ p.take s.1,0 <= x/\x < k)/\(s.2.map Prod.fst).Nodup/\∀ x,x ∈ s.2.map Prod.fst ↔ x ∈ p.take s.1) _ ?_ FU (0,[]) ⟨by simp,by simp,by simp,by simp⟩ (by simp only; omega)
 rintro ⟨i,D⟩ J ⟨a1,a0,a2,a3⟩ hJ
 simp only at a0 a1 a2 a3 hJ
 unfold aj_l1
 simp only
 by_cases hi:i < p.length
 ·rw [if_pos hi,geE hi,aa]
  by_cases hx:0 <= p[i]/\p[i] < k
  ·rw [if_neg (by omega),decide_eq_false (by omega),gM, aa]
   unfold exc
   simp only
   refine hJ _ ⟨hi,fun x hx2=>?_,?_,fun x=>?_⟩ (by simp only; omega)
   ·simp only at hx2
    rw [List.take_succ_eq_append_getElem hi,List.mem_append,List.mem_singleton] at hx2
    rcases hx2 with hx2 | rfl
    ·exact a0 x hx2
    ·exact hx
   ·simp only
    rw [fX]
    split
    ·exact a2
    ·rename_i h5
     rw [List.nodup_append]
     exact ⟨a2,by simp,fun a ha b hb=>by rw [List.mem_singleton.1 hb]; exact fun e=>h5 (e ▸ ha)⟩
   ·simp only
    rw [fX,<- List.take_append_getElem hi,List.mem_append,<- a3 x,List.mem_singleton]
    split
    ·rename_i h5
     constructor
     ·exact .inl
     ·rintro (h6 | rfl)
      ·exact h6
      ·exact h5
    ·rw [List.mem_append,List.mem_singleton]
  ·have hbad:¬ ∀ x ∈ p,0 <= x/\x < k:=fun h=>hx (h _ (List.getElem_mem _))
   by_cases h1:p[i] < 0
   ·rw [if_pos h1,kj,aa]
    exact ⟨_,rfl,.inr ⟨rfl,hbad⟩⟩
   ·rw [if_neg h1,decide_eq_true (by omega),kj,aa]
    exact ⟨_,rfl,.inr ⟨rfl,hbad⟩⟩
 ·rw [if_neg hi]
  rw [List.take_of_length_le (by omega)] at a0 a3
  exact ⟨_,rfl,.inl ⟨D,rfl,a0,a2,a3⟩⟩
open Classical in
theorem ni (r:Te) (p:List Int) (k:Int) (hk:1 <= k) (hl:p.length <= 1000):(thn (ah (aj_l1 FU p ⟨r,k⟩) FU (0,[])) (fun D443=>(ar_p FU (!(decide (((D443.length:Nat):Int) = k))) (220:Int)).bind fun y497=>exc y497 (fun _=>some (Except.ok ())) (fun e498=>some (.error e498)))) = some (if bT p k then .ok () else .error ⟨220⟩):=by
 obtain ⟨y,e,hy⟩:=used_eq r p k hl
 rw [e]
 rcases hy with ⟨D,rfl,h1,h2,h3⟩ | ⟨rfl,h1⟩
 ·unfold thn
  simp only
  by_cases hD:(D.length:Int) = k
  ·rw [decide_eq_true hD]
   have hp:bT p k:=⟨h1,fun d d0 d1=>(h3 d).1 (kF (by omega) h2 (fun x hx=>h1 x ((h3 x).1 hx)) (by rw [List.length_map]; exact hD) d d0 d1)⟩
   rw [if_pos hp]; rfl
  ·rw [decide_eq_false hD]
   have hp:¬ bT p k:=fun hp=>hD (by
    have:=mu (l:=D.map Prod.fst) (k:=k) (by omega) h2 fun x=>by
     rw [h3 x]; exact ⟨fun hx=>hp.1 x hx,fun hx=>hp.2 x hx.1 hx.2⟩
    rwa [List.length_map] at this)
   rw [if_neg hp]; rfl
 ·have hp:¬ bT p k:=fun hp=>h1 hp.1
  rw [if_neg hp]; rfl
open Classical in
theorem nA {r:Te} {us:List Tc} (h:Lnd r us) (hn:r.fm.length <= 1000) (p:List Int) (k:Int) (hk:1 <= k) (hl:p.length <= 1000):aj_p FU ⟨r,k⟩ p = some (if dM p us.length k then .ok () else .error ⟨220⟩):=by
 have hF:=aO
 have hle:=h.le
 have lab:=ni r p k hk hl
 have tailOk:∀ z:Int,z = us.length -> ((ar_p FU (!(decide (((p.length:Nat):Int) = z))) (220:Int)).bind fun y182=>exc y182 (fun _=>thn (ah (aj_l1 FU p ⟨r,k⟩) FU (0,([]:List (Int × Bool)))) (fun D265=>(ar_p FU (!(decide (((D265.length:Nat):Int) = k))) (220:Int)).bind fun y319=>exc y319 (fun _=>some (Except.ok ())) (fun e320=>some (.error e320)))) (fun e183=>some (.error e183))) = some (if dM p us.length k then .ok () else .error ⟨220⟩):=by
  rintro z rfl
  by_cases hz:((p.length:Nat):Int) = us.length
  ·rw [decide_eq_true hz]
   simp only [Bool.not_true]
   rw [gM, aa]
   unfold exc
   simp only
   refine lab.trans ?_
   by_cases hp:bT p k
   ·rw [if_pos hp,if_pos ⟨by omega,hp⟩]
   ·rw [if_neg hp,if_neg fun hf:dM p us.length k=>hp hf.2]
  ·rw [decide_eq_false hz,if_neg fun hf:dM p us.length k=>hz (by rw [hf.1])]
   rfl
 have hh:=aj (B:=aj_l3 FU ⟨r,k⟩ p) (fun s:Nat × Int=>r.fm.length - s.1) (fun s=>s.1 <= us.length/\s.2 = s.1) (fun y=>y = .inl (if dM p us.length k then .ok () else .error ⟨220⟩) ∨ y = .inr (us.length:Int)) ?_ FU (0,0) ⟨by simp,by simp⟩ (by simp only; omega)
 ·obtain ⟨y,e,hy⟩:=hh
  unfold aj_p
  rw [e]
  rcases hy with rfl | rfl
  ·rfl
  ·exact tailOk _ rfl
 ·rintro ⟨i,z⟩ J ⟨a1,a2⟩ hJ
  simp only at a1 a2 hJ
  subst a2
  unfold aj_l3
  simp only
  by_cases hi:i < r.fm.length
  ·rw [if_pos hi,geE hi,aa]
   rcases h.at hi with ⟨h2,_,hw⟩ | ⟨h2,hw⟩
   ·rw [if_neg (by rw [hw]; decide),aH (by omega) (by omega),aa]
    exact hJ _ ⟨by simp only; omega,by simp only; omega⟩ (by simp only; omega)
   ·rw [if_pos hw]
    refine ⟨.inl (if dM p us.length k then .ok () else .error ⟨220⟩),?_,.inl rfl⟩
    exact congrArg (Option.map _) (tailOk (i:Int) (by omega))
  ·rw [if_neg hi]
   exact ⟨_,rfl,.inr (by rw [show i = us.length by omega])⟩
open Classical in
theorem ko {r:Te} (hS:∀ u ∈ r.fm,Sm4 u) (p:List Int) (k:Int) (hk:1 <= k) (hk8:k <= 8) (hl:p.length <= 1000) (us:List Tc) (hL:RV r -> Lnd r us):cb_p FU r p k = some (if RV r then if dM p us.length k then 0 else 220 else 161):=by
 unfold cb_p cZ_p cY_p
 rw [iS r hS,aa]
 by_cases hv:RV r
 ·have hn:=hv.n
  rw [if_pos hv,if_pos hv]
  unfold cW_p
  rw [if_pos rfl,aa]
  unfold exc
  simp only
  rw [if_neg (by omega),decide_eq_false (by omega),gM, aa]
  simp only
  rw [aa]
  simp only
  rw [nA (hL hv) (by omega) p k hk hl]
  by_cases hf:dM p us.length k
  ·rw [if_pos hf,if_pos hf]; rfl
  ·rw [if_neg hf,if_neg hf]; rfl
 ·rw [if_neg hv,if_neg hv]
  rfl
open Classical in
theorem fits_eq (p:List Int) (n:Nat) (k:Int) (hk:1 <= k) (hk8:k <= 8) (hn:n <= 1000):aR_p FU p (n:Int) k = some (decide (dM p n k)):=by
 have hF:=aO
 unfold aR_p
 by_cases hl:((p.length:Nat):Int) = n
 ·rw [if_pos hl,show mk k false = some (List.replicate k.toNat false) from if_pos ⟨by omega,by omega⟩,aa]
  have hh:=aj (B:=aR_l2 FU n p k) (fun s:Int × List Bool=>n - s.1.toNat) (fun s=>0 <= s.1/\s.1 <= n/\s.2.length = k.toNat/\(∀ x ∈ p.take s.1.toNat,0 <= x/\x < k)/\∀ d (hd:d < s.2.length),s.2[d] = true ↔ (d:Int) ∈ p.take s.1.toNat)
   (fun y=>(∃ xs:List Bool,y = .inr xs/\xs.length = k.toNat/\(∀ x ∈ p,0 <= x/\x < k)/\∀ d (hd:d < xs.length),xs[d] = true ↔ (d:Int) ∈ p) ∨ y = .inl false/\¬ ∀ x ∈ p,0 <= x/\x < k) ?_ FU (0,List.replicate k.toNat false) ⟨by simp,by simp,by simp,by simp,by simp⟩ (by simp only; omega)
  ·obtain ⟨y,e,hy⟩:=hh
   rw [e]
   rcases hy with ⟨xs,rfl,x1,x2,x3⟩ | ⟨rfl,hb⟩
   ·have hh2:=aj (B:=aR_l1 FU k xs) (fun z:Int=>9 - z.toNat) (fun z=>0 <= z/\z <= k/\∀ d,0 <= d -> d < z -> d ∈ p) (fun y=>y = .inr ()/\bT p k ∨ y = .inl false/\¬ bT p k) ?_ FU 0 ⟨by omega,by omega,fun d h1 h2=>by omega⟩ (by omega)
    ·obtain ⟨y,e2,hy⟩:=hh2
     unfold thn
     simp only
     rw [e2]
     rcases hy with ⟨rfl,hp⟩ | ⟨rfl,hp⟩
     ·rw [decide_eq_true (show dM p n k from ⟨by omega,hp⟩)]
     ·rw [decide_eq_false fun hf:dM p n k=>hp hf.2]
    ·rintro z J ⟨z0,z1,z2⟩ hJ
     unfold aR_l1
     simp only
     by_cases hz:z < k
     ·have hzx:z.toNat < xs.length:=by omega
      have hiff:=x3 z.toNat hzx
      rw [show ((z.toNat:Nat):Int) = z by omega] at hiff
      rw [if_pos hz,aM z0 hzx,aa]
      by_cases hb:xs[z.toNat] = true
      ·rw [if_pos hb,aH (by omega) (by omega),aa]
       refine hJ _ ⟨by omega,by omega,fun d d0 d1=>?_⟩ (by omega)
       by_cases e:d = z
       ·rw [e]; exact hiff.1 hb
       ·exact z2 d d0 (by omega)
      ·rw [if_neg hb]
       exact ⟨_,rfl,.inr ⟨rfl,fun hp=>hb (hiff.2 (hp.2 z z0 hz))⟩⟩
     ·rw [if_neg hz]
      exact ⟨_,rfl,.inl ⟨rfl,x2,fun d d0 d1=>z2 d d0 (by omega)⟩⟩
   ·rw [decide_eq_false fun hf:dM p n k=>hb hf.2.1]; rfl
  ·rintro ⟨z,xs⟩ J ⟨z0,z1,a1,a2,a3⟩ hJ
   simp only at z0 z1 a1 a2 a3 hJ
   obtain ⟨i,rfl⟩:∃ i:Nat,z = (i:Int):=⟨z.toNat,by omega⟩
   simp only [Int.toNat_natCast] at a2 a3 hJ
   unfold aR_l2
   simp only
   by_cases hi:(i:Int) < n
   ·have hip:i < p.length:=by omega
    rw [if_pos hi,aM (by omega) (by rw [Int.toNat_natCast]; exact hip),aa]
    simp only [Int.toNat_natCast]
    by_cases hx:0 <= p[i]/\p[i] < k
    ·have hpx:p[i].toNat < xs.length:=by omega
     rw [if_neg (by omega),if_neg (by omega),aM hx.1 hpx,aa,aR _ hpx,aa,aH (by omega) (by omega),aa]
     refine hJ _ ⟨by simp only; omega,by simp only; omega,by simpa using a1,?_,?_⟩ (by simp only; omega)
     ·simp only
      rw [show ((i:Int) + 1).toNat = i + 1 by omega,List.take_succ_eq_append_getElem hip]
      intro x hx2
      rw [List.mem_append,List.mem_singleton] at hx2
      rcases hx2 with hx2 | rfl
      ·exact a2 x hx2
      ·exact hx
     ·simp only
      rw [show ((i:Int) + 1).toNat = i + 1 by omega,List.take_succ_eq_append_getElem hip]
      intro d hd
      rw [List.length_set] at hd
      rw [List.getElem_set,List.mem_append,List.mem_singleton]
      by_cases e:p[i].toNat = d
      ·rw [if_pos e]; exact ⟨fun _=>.inr (by omega),fun _=>rfl⟩
      ·rw [if_neg e,a3 d hd]
       exact ⟨.inl,fun h=>h.elim id fun h=>absurd h (by omega)⟩
    ·have hbad:¬ ∀ x ∈ p,0 <= x/\x < k:=fun h=>hx (h _ (List.getElem_mem _))
     by_cases h1:p[i] < 0
     ·rw [if_pos h1]; exact ⟨_,rfl,.inr ⟨rfl,hbad⟩⟩
     ·rw [if_neg h1,if_pos (by omega)]; exact ⟨_,rfl,.inr ⟨rfl,hbad⟩⟩
   ·rw [if_neg hi]
    rw [List.take_of_length_le (by omega)] at a2 a3
    exact ⟨_,rfl,.inl ⟨xs,rfl,a1,a2,a3⟩⟩
 ·rw [if_neg hl,decide_eq_false fun hf:dM p n k=>hl (by rw [hf.1])]
open Classical in
theorem kz {r:Te} (hS:∀ u ∈ r.fm,Sm4 u) (p:List Int) (k:Int) (hk:1 <= k) (hk8:k <= 8) (us:List Tc) (hL:RV r -> Lnd r us):cx_p FU r p k = some (if RV r then if dM p us.length k then 0 else 220 else 161):=by
 unfold cx_p cz_p
 rw [dQ r hS,aa]
 by_cases hv:RV r
 ·have hn:=hv.n
  have hle:=(hL hv).le
  rw [if_pos hv,if_pos hv,if_pos rfl,if_neg (by omega),if_neg (by omega),aa,if_pos rfl]
  unfold cU_p cT_p
  rw [dQ r hS,if_pos hv,aa,if_pos rfl,oI (hL hv) (by omega),aa,aa,aa,fits_eq p us.length k hk hk8 (by omega),aa]
  by_cases hf:dM p us.length k
  ·rw [if_pos (decide_eq_true hf),if_pos hf]
  ·rw [if_neg (by simpa using hf),if_neg hf]
 ·rw [if_neg hv,if_neg hv,if_neg (by decide),aa,if_neg (by decide)]
end Go.Proofs.YtfccehcnajelgaaGreatDoor
namespace Go.Proofs.YtfccehcnajelgaaGreatDoor
open Go
set_option maxRecDepth 8000
structure D0 (r:Te):Prop where
 n:r.fm.length <= 13
 s:∀ u ∈ r.fm,Sm4 u
 k:∀ u ∈ r.fm,u.fM.length <= 100/\u.fh.length <= 100
 q:∀ u ∈ r.fm,∀ x ∈ u.fI,0 <= x/\x <= 2
theorem oy (d:Tj) (z:Int) (h0:0 <= z) (h1:z <= 100):∃ l,ah (ac_l1 FU d z) FU (0,[]) = some l/\l.length = (d.fj % 3).toNat/\∀ x ∈ l,0 <= x/\x <= 2:=by
 have hF:=aO
 have hk:(d.fj % 3).toNat < 3:=by rw [UInt8.toNat_mod]; exact Nat.mod_lt _ (by decide)
 refine aj (B:=ac_l1 FU d z) (fun s:Nat × List Int=>3 - s.1) (fun s=>s.1 <= (d.fj % 3).toNat/\s.2.length = s.1/\∀ x ∈ s.2,0 <= x/\x <= 2) _ ?_ FU (0,[]) ⟨by simp,rfl,by simp⟩ (by simp only; omega)
 rintro ⟨i,xs⟩ J ⟨a1,a2,a3⟩ hJ
 simp only at a1 a2 a3 hJ
 unfold ac_l1
 simp only
 split
 ·rename_i hi
  obtain ⟨y,e,y0,y1⟩:=kT FU d (9 * z + 7 + i) (by omega)
  rw [aH (by omega) (by omega),aa,aH (by omega) (by omega),aa,aH (by omega) (by omega),aa,e,aa,bN (by decide),aa,bb _ _ (by simp only [leC,leN]; omega),aa]
  refine hJ _ ⟨by simp only; omega,by simp only [List.length_append,leC,leN]; omega,fun x hx=>?_⟩ (by simp only; omega)
  rcases List.mem_append.1 hx with hx | hx
  ·exact a3 x hx
  ·rw [List.mem_singleton.1 hx,Int.tmod_eq_emod_of_nonneg y0]
   have a1:=Int.emod_nonneg y (b:=(3:Int)) (by omega)
   have a2:=Int.emod_lt_of_pos y (b:=(3:Int)) (by omega)
   omega
 ·exact ⟨_,rfl,by omega,a3⟩
theorem name12 (i:Nat) (h:i < 13):(jl ⟨#[117]⟩ (iY ([ax (97 + (i:Int)),ax (97 + 0)]:List UInt8))) = some (nm i):=by
 have:ax (97 + (i:Int)) = UInt8.ofNat (97 + i):=by unfold ax; congr 1; omega
 rw [this]; rfl
theorem nm_ns {i:Nat} (h:i < 13):nm i ∈ NS:=List.mem_cons_of_mem _ (List.mem_map.2 ⟨i,List.mem_range.2 h,rfl⟩)
def Du (u:Tc):Prop:=Sm4 u/\(u.fM.length <= 100/\u.fh.length <= 100)/\∀ x ∈ u.fI,0 <= x/\x <= 2
theorem nO (d:Tj) (m:Nat) (h2:m <= 12):∃ r,ac_p FU d m = some r/\D0 r/\r.fj = ((d.fj % 3).toNat:Int):=by
 have hF:=aO
 have hG:(d.fh % 3).toNat < 3:=by rw [UInt8.toNat_mod]; exact Nat.mod_lt _ (by decide)
 have hP:(d.fe % 4).toNat < 4:=by rw [UInt8.toNat_mod]; exact Nat.mod_lt _ (by decide)
 have hL:(d.fj % 3).toNat < 3:=by rw [UInt8.toNat_mod]; exact Nat.mod_lt _ (by decide)
 have hW:(d.fv % 2).toNat < 2:=by rw [UInt8.toNat_mod]; exact Nat.mod_lt _ (by decide)
 have hh:=aj (B:=ac_l3 FU (m:Int) d) (fun s:Int × List Tc=>13 - s.1.toNat) (fun s=>0 <= s.1/\s.1 <= m/\(s.2.length:Int) = s.1/\∀ u ∈ s.2,Du u)
  (fun us=>us.length = m/\∀ u ∈ us,Du u) ?_ FU (0,[]) ⟨by simp,by simp,by simp,fun u h=>by cases h⟩ (by simp only; omega)
 ·obtain ⟨us,e,u1,u2⟩:=hh
  have hs:=aj (B:=ac_l2 FU d) (fun s:Nat × List Tc=>2 - s.1) (fun s=>s.1 <= (d.fv % 2).toNat/\s.2.length = m + s.1/\∀ u ∈ s.2,Du u)
   (fun all=>all.length <= m + 1/\∀ u ∈ all,Du u) ?_ FU (0,us) ⟨by simp,u1,u2⟩ (by simp only; omega)
  ·obtain ⟨all,e2,ha,hd⟩:=hs
   refine ⟨⟨(d.fh % 3).toNat,(d.fe % 4).toNat,(d.fj % 3).toNat,all⟩,?_,⟨by simp only; omega,fun u hu=>(hd u hu).1,fun u hu=>(hd u hu).2.1,fun u hu=>(hd u hu).2.2⟩,rfl⟩
   unfold ac_p
   rw [e,aa,e2,aa]
  ·rintro ⟨i,xs⟩ J ⟨a1,a2,a3⟩ hJ
   simp only at a1 a2 a3 hJ
   unfold ac_l2
   simp only
   split
   ·rename_i hi
    rw [cy _ _ (by omega),aa,cy _ _ (by omega),aa,cy _ _ (by omega),aa,bb _ _ (by simp only [leC,leN]; omega),aa]
    refine hJ _ ⟨by simp only; omega,by simp only [List.length_append,leC,leN]; omega,fun u hu=>?_⟩ (by simp only; omega)
    rcases List.mem_append.1 hu with hu | hu
    ·exact a3 u hu
    ·rw [List.mem_singleton.1 hu]
     refine ⟨⟨List.mem_cons_self ..,?_,?_,?_⟩,⟨?_,?_⟩,fun x hx=>?_⟩
     ·simp only [List.length_replicate]; omega
     ·simp only [List.length_replicate]; omega
     ·simp only [List.length_replicate]; omega
     ·simp only [List.length_replicate]; omega
     ·simp only [List.length_replicate]; omega
     ·rw [List.eq_of_mem_replicate hx]; omega
   ·exact ⟨_,rfl,by omega,a3⟩
 ·rintro ⟨z,xs⟩ J ⟨a1,a2,a3,a4⟩ hJ
  simp only at a1 a2 a3 a4 hJ
  unfold ac_l3
  simp only
  split
  ·rename_i hz
   obtain ⟨i,rfl⟩:∃ i:Nat,z = i:=⟨z.toNat,by omega⟩
   have t1:Int.tmod (i:Int) 26 = i:=by rw [Int.tmod_eq_emod_of_nonneg (by omega)]; omega
   have t2:Int.tdiv (i:Int) 26 = 0:=by rw [Int.tdiv_eq_ediv_of_nonneg (by omega)]; omega
   obtain ⟨y,e,y0,y1⟩:=kT FU d (9 * (i:Int)) (by omega)
   obtain ⟨g,eg,g1,g2⟩:=jU FU d ((d.fh % 3).toNat:Nat) (9 * (i:Int) + 1) y (by omega) (by omega) (by omega) (by omega) y0 (by omega)
   obtain ⟨v,ev,v1,v2⟩:=jU FU d ((d.fe % 4).toNat:Nat) (9 * (i:Int) + 3) 255 (by omega) (by omega) (by omega) (by omega) (by omega) (by omega)
   obtain ⟨q,eq,q1,q2⟩:=oy d (i:Int) (by omega) (by omega)
   rw [bN (by decide),aa,t1,aH (by omega) (by omega),aa]
   unfold cG
   rw [if_neg (by decide),t2,aH (by omega) (by omega),aa,bN (by decide),aa,show Int.tmod 0 26 = 0 from rfl,aH (by omega) (by omega),aa,aH (by omega) (by omega),aa,e,aa,name12 i (by omega)]
   simp only [aa]
   rw [aH (by omega) (by omega)]
   simp only [aa,eg]
   rw [aH (by omega) (by omega)]
   simp only [aa,ev,eq]
   rw [bb _ _ (by simp only [leC,leN]; omega)]
   simp only [aa]
   try rw [aH (by omega) (by omega),aa]
   refine hJ _ ⟨by simp only; omega,by simp only; omega,by simp only [List.length_append,leC,leN]; omega,fun u hu=>?_⟩ (by simp only; omega)
   rcases List.mem_append.1 hu with hu | hu
   ·exact a4 u hu
   ·rw [List.mem_singleton.1 hu]
    exact ⟨⟨nm_ns (by omega),by simp only; omega,by simp only; omega,by simp only; omega⟩,⟨by simp only; omega,by simp only; omega⟩,q2⟩
  ·exact ⟨_,rfl,by omega,a4⟩
theorem nG (a n:Nat) (hn:0 < n):∃ j:Nat,j < n/\bH (a:Int) (n:Int) = some (j:Int):=by
 refine ⟨a % n,Nat.mod_lt _ hn,?_⟩
 rw [bN (by omega),Int.tmod_eq_emod_of_nonneg (by omega)]
 rfl
theorem idxK {α:Type} {xs:List α} {j:Nat} (h:j < xs.length):idx xs (j:Int) = some xs[j]:=aM (i:=(j:Int)) (by omega) h
structure Dn (r:Te):Prop where
 n:r.fm.length <= 13
 s:∀ u ∈ r.fm,Sm4 u
theorem D0.dn {r:Te} (h:D0 r):Dn r:=⟨h.n,h.s⟩
theorem Dn.set {r:Te} (h:Dn r) (j:Nat) {u:Tc} (hs:Sm4 u):Dn ⟨r.fh,r.fe,r.fj,r.fm.set j u⟩:=
 ⟨by rw [List.length_set]; exact h.n,fun v hv=>(List.mem_or_eq_of_mem_set hv).elim (h.s v) fun e=>by rw [e]; exact hs⟩
theorem bend_ok (b:Tl) {r:Te} (h:D0 r):∃ r', cn_p FU b r = some r' /\Dn r' :=by
 have hn:=h.n
 unfold cn_p
 rw [bb _ _ (by simp only [leN]; omega),aa,List.nil_append]
 by_cases hz:r.fm.length = 0
 ·rw [if_pos hz]
  exact ⟨_,rfl,h.dn⟩
 obtain ⟨j,hj,e⟩:=nG b.fAt.toNat r.fm.length (by omega)
 have hm:=List.getElem_mem hj
 have hs:=h.s _ hm
 have hk:=h.k _ hm
 rw [if_neg hz,e,aa,idxK hj,aa,Int.toNat_natCast]
 by_cases c0:(b.fJ % (7:UInt8)).toNat = 0
 ·rw [if_pos c0,aR _ hj,aa]
  exact ⟨_,rfl,h.dn.set j ⟨hs.n,hs.g,hs.v,hs.q⟩⟩
 rw [if_neg c0]
 by_cases c1:(b.fJ % (7:UInt8)).toNat = 1
 ·rw [if_pos c1,bb _ _ (by simp only [leC,leN]; omega),aa,aR _ hj,aa]
  exact ⟨_,rfl,h.dn.set j ⟨hs.n,hs.g,by simp only [List.length_append,leC,leN]; omega,hs.q⟩⟩
 rw [if_neg c1]
 by_cases c2:(b.fJ % (7:UInt8)).toNat = 2
 ·rw [if_pos c2,bb _ _ (by simp only [leN]; omega),aa,List.nil_append,bb _ _ (by simp only [leC,leN]; omega),aa,aR _ hj,aa]
  exact ⟨_,rfl,h.dn.set j ⟨hs.n,by simp only [List.length_append,leC,leN]; omega,hs.v,hs.q⟩⟩
 rw [if_neg c2]
 by_cases c3:(b.fJ % (7:UInt8)).toNat = 3
 ·rw [if_pos c3,aR _ hj,aa]
  exact ⟨_,rfl,h.dn.set j ⟨hs.n,hs.g,hs.v,hs.q⟩⟩
 rw [if_neg c3]
 by_cases c4:(b.fJ % (7:UInt8)).toNat = 4
 ·have h00:0 < r.fm.length:=by omega
  rw [if_pos c4,geE h00,aa,aR _ hj,aa]
  exact ⟨_,rfl,h.dn.set j ⟨(h.s _ (List.getElem_mem h00)).n,hs.g,hs.v,hs.q⟩⟩
 rw [if_neg c4]
 by_cases c5:(b.fJ % (7:UInt8)).toNat = 5
 ·rw [if_pos c5]
  exact ⟨_,rfl,hn,h.s⟩
 rw [if_neg c5,aR _ hj,aa]
 exact ⟨_,rfl,h.dn.set j ⟨hs.n,hs.g,hs.v,by simp only [leC,leN]; omega⟩⟩
theorem bendP (b:Tl) {p:List Int} (h1:1 <= p.length) (h2:p.length <= 9):∃ q,co_p FU b p = some q/\q.length <= 10:=by
 unfold co_p
 rw [bb _ _ (by simp only [leN]; omega),aa,List.nil_append]
 by_cases c0:(b.fJ % (4:UInt8)).toNat = 0
 ·obtain ⟨j,hj,e⟩:=nG b.fAt.toNat p.length (by omega)
  rw [if_pos c0,e,aa,idxK hj,aa,Int.toNat_natCast,aR _ hj,aa]
  exact ⟨_,rfl,by rw [List.length_set]; omega⟩
 rw [if_neg c0]
 by_cases c1:(b.fJ % (4:UInt8)).toNat = 1
 ·rw [if_pos c1,bb _ _ (by simp only [leC,leN]; omega),aa]
  exact ⟨_,rfl,by simp only [List.length_append,leC,leN]; omega⟩
 rw [if_neg c1]
 by_cases c2:(b.fJ % (4:UInt8)).toNat = 2
 ·rw [if_pos c2,show ((p.length:Nat):Int) - 1 = ((p.length - 1:Nat):Int) by omega,kL (by omega),aa]
  exact ⟨_,rfl,by rw [List.length_take]; omega⟩
 rw [if_neg c2]
 exact ⟨_,rfl,by omega⟩
end Go.Proofs.YtfccehcnajelgaaGreatDoor
namespace Go.Proofs.YtfccehcnajelgaaGreatDoor
open Go
set_option maxRecDepth 8000
theorem eqBB (a:List Bool) (hl:a.length <= 1000):aK_p FU a a = some true:=by
 have hF:=aO
 unfold aK_p
 rw [if_pos rfl]
 have hh:=aj (B:=aK_l1 FU a a) (fun i:Nat=>a.length - i) (fun _=>True) (fun y=>y = .inr ()) ?_ FU 0 trivial (by omega)
 ·obtain ⟨y,e,rfl⟩:=hh
  rw [e,jx]
 ·intro i J _ hJ
  unfold aK_l1
  simp only
  by_cases hi:i < a.length
  ·rw [if_pos hi,geE hi,aa,aa,if_pos (beq_self_eq_true _)]
   exact hJ _ trivial (by omega)
  ·rw [if_neg hi]; exact ⟨_,rfl,rfl⟩
theorem eqUU (a:List UInt64) (hl:a.length <= 1000):ay_p FU a a = some true:=by
 have hF:=aO
 unfold ay_p
 rw [if_pos rfl]
 have hh:=aj (B:=ay_l1 FU a a) (fun i:Nat=>a.length - i) (fun _=>True) (fun y=>y = .inr ()) ?_ FU 0 trivial (by omega)
 ·obtain ⟨y,e,rfl⟩:=hh
  rw [e,jx]
 ·intro i J _ hJ
  unfold ay_l1
  simp only
  by_cases hi:i < a.length
  ·rw [if_pos hi,geE hi,aa,aa,if_pos rfl]
   exact hJ _ trivial (by omega)
  ·rw [if_neg hi]; exact ⟨_,rfl,rfl⟩
theorem eqSS (a:List Tb) (hl:a.length <= 1000):ae_p FU a a = some true:=by
 have hF:=aO
 unfold ae_p
 rw [if_pos rfl]
 have hh:=aj (B:=ae_l1 FU a a) (fun i:Nat=>a.length - i) (fun _=>True) (fun y=>y = .inr ()) ?_ FU 0 trivial (by omega)
 ·obtain ⟨y,e,rfl⟩:=hh
  rw [e,jx]
 ·intro i J _ hJ
  unfold ae_l1
  simp only
  by_cases hi:i < a.length
  ·rw [if_pos hi,geE hi,aa,aa,if_pos rfl]
   exact hJ _ trivial (by omega)
  ·rw [if_neg hi]; exact ⟨_,rfl,rfl⟩
structure Four (l:List Ta) (r:Te) (p:List Int) (k:Int):Prop where
 qk:∃ y,bD_p FU l r p k = some y/\bc_p FU l r p k = some y/\y.1.length <= 1000
 qp:∃ y,bs_p FU l r p k = some y/\aX_p FU l r p k = some y/\y.1.length <= 1000/\∀ x ∈ y.1,x.length <= 1000
 ql:∃ y,aO_p FU l r p k = some y/\aL_p FU l r p k = some y/\y.1.length <= 1000
 qs:∃ y,cm_p FU l r p k = some y/\aq_p FU l r p k = some y
theorem Four.good {l:List Ta} {r:Te} {p:List Int} {k:Nat} (h:VR r p k l):Four l r p (k:Int):=by
 have hn:=h.n
 refine ⟨⟨_,kept27 h.toVLs,keptR h,?_⟩,⟨_,parts27 h.toVLs,PartsR h,?_,fun x hx=>?_⟩,⟨_,iv h.toVLs,oU h,?_⟩,scoreB h⟩
 ·simp only [List.length_map]; omega
 ·simp only [List.length_map]; omega
 ·obtain ⟨c,hc,rfl⟩:=List.mem_map.1 hx
  have hk:=h.k8
  unfold prt
  refine Nat.le_trans (List.length_filter_le ..) ?_
  rw [List.length_map,List.length_range]; omega
 ·simp only [List.length_map]; omega
theorem kC {ε α β:Type} (x:ε) (f:α -> Option β) (g:ε -> Option β):exc (.error x) f g = g x:=rfl
theorem Four.bad {l:List Ta} {r:Te} {p:List Int} {k e:Int} (he:e ≠ 0) (h:cb_p FU r p k = some e ∨ cb_p FU r p k = some 0/\a9_p FU (p.length:Int) l = some e) (hr:aD_p FU l r p k = some e):Four l r p k:=by
 have kk:bD_p FU l r p k = some ([],e):=by
  unfold bD_p aC_p
  rcases h with h | ⟨h1,h2⟩
  ·rw [h,aa,if_neg he,aa,kC]
  ·rw [h1,aa,if_pos rfl,aa,cN,h2,aa,if_neg he,aa,kC]
 have pp:bs_p FU l r p k = some ([],e):=by
  unfold bs_p aC_p
  rcases h with h | ⟨h1,h2⟩
  ·rw [h,aa,if_neg he,aa,kC]
  ·rw [h1,aa,if_pos rfl,aa,cN,h2,aa,if_neg he,aa,kC]
 have ll:aO_p FU l r p k = some ([],e):=by
  unfold aO_p aC_p
  rcases h with h | ⟨h1,h2⟩
  ·rw [h,aa,if_neg he,aa,kC]
  ·rw [h1,aa,if_pos rfl,aa,cN,h2,aa,if_neg he,aa,kC]
 refine ⟨⟨_,kk,?_,Nat.zero_le _⟩,⟨([],e),pp,?_,Nat.zero_le _,fun x hx=>absurd hx (by simp)⟩,⟨_,ll,?_,Nat.zero_le _⟩,⟨(noS,e),?_,?_⟩⟩
 ·unfold bc_p; rw [hr,aa,if_neg he]
 ·unfold aX_p; rw [hr,aa,if_neg he]
 ·unfold aL_p; rw [hr,aa,if_neg he]
 ·unfold cm_p aG_p bn_p
  rw [ll,aa]
  simp only
  rw [if_neg he,aa,kC,aa,kC]
  rfl
 ·unfold aq_p; rw [hr,aa,if_neg he]; rfl
open Classical in
theorem gu {l:List Ta} {r:Te} {p:List Int} {k:Nat} (hr:Dn r) (hp:p.length <= 10) (k1:1 <= k) (k2:k <= 8) (hl:Sl 27 l):Four l r p (k:Int):=by
 have hs:∀ c ∈ l,c.ft.size <= 1000:=fun c hc=>by have:=hl.2 c hc; omega
 obtain ⟨us,hL⟩:∃ us,RV r -> Lnd r us:=by
  by_cases hv:RV r
  ·obtain ⟨us,h,_⟩:=lnd_of hv
   exact ⟨us,fun _=>h⟩
  ·exact ⟨[],fun h=>absurd h hv⟩
 have b1:=ko hr.s p (k:Int) (by omega) (by omega) (by omega) us hL
 have b2:=kz hr.s p (k:Int) (by omega) (by omega) us hL
 by_cases hv:RV r
 ·rw [if_pos hv] at b1 b2
  by_cases hf:dM p us.length (k:Int)
  ·rw [if_pos hf] at b1 b2
   have c1:=mt (p.length:Int) l hs
   have c2:=ld (p.length:Int) l hs
   have bad:∀ e:Int,e ≠ 0 -> a9_p FU (p.length:Int) l = some e -> ah_p FU (p.length:Int) l = some e -> Four l r p (k:Int):=fun e he d1 d2=>by
    refine Four.bad he (.inr ⟨b1,d1⟩) ?_
    unfold aD_p
    rw [b2,aa,if_pos rfl,d2,aa]
   by_cases d1:(p.length:Int) < 1
   ·rw [if_pos d1] at c1 c2; exact bad 2 (by decide) c1 c2
   rw [if_neg d1] at c1 c2
   by_cases d2:64 < (p.length:Int)
   ·rw [if_pos d2] at c1 c2; exact bad 2 (by decide) c1 c2
   rw [if_neg d2] at c1 c2
   by_cases d3:20 < l.length
   ·rw [if_pos d3] at c1 c2; exact bad 3 (by decide) c1 c2
   rw [if_neg d3] at c1 c2
   by_cases d4:IV (p.length:Int) l
   ·rw [if_pos d4] at c1 c2
    have hle:=(hL hv).le
    have cv:∀ c ∈ l,CV (p.length:Int) c:=fun c hc=>by
     obtain ⟨i,hi,rfl⟩:=List.getElem_of_mem hc
     exact d4.u i hi
    refine Four.good ⟨⟨b1,c1,by omega,fun c hc=>⟨k2,hf.2.1,fun i hi=>?_,by rw [hf.1]; exact hle,fun u hu=>?_,(cv c hc).2.2.2.1⟩⟩,?_,by omega,k2,fun c hc=>⟨(cv c hc).2.1,(cv c hc).2.2.1⟩⟩
    ·have h5:=(cv c hc).2.2.2.2
     have h6:c.fm.toNat < 2 ^ p.length:=Nat.lt_of_lt_of_le (fO _) (Nat.pow_le_pow_right (by decide) (by omega))
     exact nJ.1 h6 i hi
    ·obtain ⟨j,hj,rfl⟩:=List.getElem_of_mem hu
     have h7:=hv.u j hj
     refine ⟨h7.1,Int.le_trans h7.2.1 ?_⟩
     split <;> omega
    ·unfold aD_p
     rw [b2,aa,if_pos rfl,c2,aa]
   ·rw [if_neg d4] at c1 c2; exact bad 270 (by decide) c1 c2
  ·rw [if_neg hf] at b1 b2
   refine Four.bad (e:=220) (by decide) (.inl b1) ?_
   unfold aD_p
   rw [b2,aa,if_neg (by decide)]
 ·rw [if_neg hv] at b1 b2
  refine Four.bad (e:=161) (by decide) (.inl b1) ?_
  unfold aD_p
  rw [b2,aa,if_neg (by decide)]
theorem lz (y:List (List UInt64) × Int) (h1:y.1.length <= 1000) (h2:∀ x ∈ y.1,x.length <= 1000):ah (ab_l1 FU y y) FU 0 = some (.inr ()):=by
 have hF:=aO
 have hh:=aj (B:=ab_l1 FU y y) (fun i:Nat=>y.1.length - i) (fun _=>True) (fun z=>z = .inr ()) ?_ FU 0 trivial (by omega)
 ·obtain ⟨z,e,rfl⟩:=hh; exact e
 ·intro i J _ hJ
  unfold ab_l1
  simp only
  by_cases hi:i < y.1.length
  ·rw [if_pos hi,geE hi,aa,aa,eqUU _ (h2 _ (List.getElem_mem hi)),aa,if_pos rfl]
   exact hJ _ trivial (by omega)
  ·rw [if_neg hi]; exact ⟨_,rfl,rfl⟩
theorem mP (l l' : List Ta) (r r' : Te) (p p' : List Int) (k:Int) (h1:Four l r p k) (h2:Four l' r p k) (h3:Four l r' p k) (h4:Four l r p' k):ah (ab_l2 FU l r (p,k) l' r' p') FU 0 = some (.inr ()):=by
 have hF:=aO
 have hh:=aj (B:=ab_l2 FU l r (p,k) l' r' p') (fun i:Nat=>4 - i) (fun _=>True) (fun z=>z = .inr ()) ?_ FU 0 trivial (by omega)
 ·obtain ⟨z,e,rfl⟩:=hh; exact e
 ·intro i J _ hJ
  unfold ab_l2
  simp only
  by_cases hi:i < 4
  ·have key:∀ (L:List Ta) (R:Te) (P:List Int),Four L R P k -> ∃ z,((bD_p FU L R P k).bind fun y462=>(bc_p FU L R P k).bind fun y473=>(bs_p FU L R P k).bind fun y485=>(aX_p FU L R P k).bind fun y496=>(aK_p FU y462.1 y473.1).bind fun y508=>(if y508 = true then (if y462.2 = y473.2 then (if y485.2 = y496.2 then (if y485.1.length = y496.1.length then thn (ah (ab_l1 FU y485 y496) FU 0) (fun _=>(aO_p FU L R P k).bind fun y586=>(aL_p FU L R P k).bind fun y598=>(cm_p FU L R P k).bind fun y609=>(aq_p FU L R P k).bind fun y622=>(ae_p FU y586.1 y598.1).bind fun y635=>(if y635 = true then (if y586.2 = y598.2 then (if y609.1 = y622.1 then (if y609.2 = y622.2 then J (i + 1) else some (.inl false)) else some (.inl false)) else some (.inl false)) else some (.inl false))) else some (.inl false)) else some (.inl false)) else some (.inl false)) else some (.inl false))) = some z/\z = .inr ():=fun L R P h=>by
    obtain ⟨y1,a1,a2,a3⟩:=h.qk
    obtain ⟨y2,b1,b2,b3,b4⟩:=h.qp
    obtain ⟨y3,c1,c2,c3⟩:=h.ql
    obtain ⟨y4,d1,d2⟩:=h.qs
    rw [a1,aa,a2,aa,b1,aa,b2,aa,eqBB _ a3,aa,if_pos rfl,if_pos rfl,if_pos rfl,if_pos rfl,lz y2 b3 b4,jx,c1,aa,c2,aa,d1,aa,d2,aa,eqSS _ c3,aa,if_pos rfl,if_pos rfl,if_pos rfl,if_pos rfl]
    exact hJ _ trivial (by omega)
   rw [if_pos hi]
   match i,hi with
   | 0,_=>exact key _ _ _ h1
   | 1,_=>exact key _ _ _ h2
   | 2,_=>exact key _ _ _ h3
   | 3,_=>exact key _ _ _ h4
  ·rw [if_neg hi]; exact ⟨_,rfl,rfl⟩
theorem eX (a0:Tk) (a1:Tj) (a2:Tp) (a3:TBend) (a4:Tl) (a5:Tl):ab_p FU a0 a1 a2 a3 a4 a5 = some true:=by
 have hF:=aO
 obtain ⟨p,k,e0,p1,p2,hp,k1,k2⟩:=nF FU a0 (by omega)
 obtain ⟨r,e1,hr,_⟩:=nO a1 p.length (by omega)
 obtain ⟨l,e2,hl⟩:=list_ok a2 p.length (by omega)
 obtain ⟨l', e3,hl'⟩:=mO a3 hl (by decide)
 obtain ⟨r', e4,hr'⟩:=bend_ok a4 hr
 obtain ⟨p', e5,hp'⟩:=bendP a5 p1 p2
 obtain ⟨k,rfl⟩:∃ n:Nat,k = (n:Int):=⟨k.toNat,by omega⟩
 have hl2:Sl 27 l:=⟨by have:=hl.1; omega,hl.2⟩
 unfold ab_p
 rw [works27,aa,if_pos rfl,e0,aa]
 simp only
 rw [e1,aa,e2,aa,e3,aa,e4,aa,e5,aa,mP l l' r r' p p' (k:Int) (gu hr.dn (by omega) (by omega) (by omega) hl2) (gu hr.dn (by omega) (by omega) (by omega) hl') (gu hr' (by omega) (by omega) (by omega) hl2) (gu hr.dn hp' (by omega) (by omega) hl2)]
 rfl
theorem eO (a0:Tk) (a1:Tj) (a2:Tp) (a3:TBend) (a4:Tl) (a5:Tl):∃ n,ab_p n a0 a1 a2 a3 a4 a5 = some true:=⟨FU,eX a0 a1 a2 a3 a4 a5⟩
end Go.Proofs.YtfccehcnajelgaaGreatDoor
