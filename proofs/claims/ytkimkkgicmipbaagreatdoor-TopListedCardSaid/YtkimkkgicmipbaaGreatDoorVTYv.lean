/- Plain laws: the table of districts that fit. No program in sight but the printed functions. -/
import Derived.Test.YtkimkkgicmipbaaGreatDoorVTYj
import Derived.Test.YtkimkkgicmipbaaGreatDoorVTYg
import Derived.Test.YtkimkkgicmipbaaGreatDoorVTYf
namespace Go.Proofs.YtkimkkgicmipbaaGreatDoor
open Go
open Classical in
noncomputable def fitsG (g:Tc) (b:Td) (m:Nat):Bool:=decide (kz g b (UInt64.ofNat m))
theorem fG {g:Tc} {b:Td} {m:Nat}:fitsG g b m=true↔kz g b (UInt64.ofNat m):=@decide_eq_true_iff _ (Classical.propDecidable _)
theorem rA {g:Tc} {N:Nat} (hN:g.fN=(N:Int)) (_hN9:N<=9) {xs:Lb Ua} (hl:xs.length=N) (hadj:∀ (a:Nat) u,xs[a]? = some u->∀ b,bit u b=true↔Adj g a b) {zi:Int} {s:Ua} (hz:ac zi=s) (h0:s≠0) (hs:cS g.fN s) :
  ∃ v,ah (au_l1 FU xs zi) FU (shlU 1 (low s),shlU 1 (low s))=some v/\∀ b,bit v b=true↔∃ m,Way g s (low s) m b:=by
 have hlow:=bF h0
 have hl64:=dI hlow
 refine am (B:=au_l1 FU xs zi) (fun t=>(64-(ao t.1).length)*65+(ao t.2).length) (fun t=>bit t.1 (low s)=true/\(∀ k,bit t.1 k=true->∃ m,Way g s (low s) m k)/\(∀ k,bit t.2 k=true->bit t.1 k=true)/\∀ a,bit t.1 a=true->bit t.2 a=false->∀ c,Adj g a c->bit s c=true->bit t.1 c=true) (fun v=>∀ b,bit v b=true↔∃ m,Way g s (low s) m b) (fun ⟨u,f⟩ J ⟨q1,q2,q3,q4⟩ hJ=>?_) FU _ ⟨by rw [aS hl64]; simp,fun k hk=>?_,fun k hk=>hk,fun a ha hb=>by rw [ha] at hb; cases hb⟩ ?_
 ·simp only at q1 q2 q3 q4 hJ
  unfold au_l1
  simp only
  by_cases hf:f=0
  ·rw [if_pos hf]
   refine ⟨u,I,fun b=>⟨q2 b,?_⟩⟩
   rintro ⟨m,hm⟩
   induction hm with
   | here=>exact q1
   | on hw k hb ih=>exact q4 _ ih (by rw [hf,bt]) _ k hb
  ·rw [if_neg hf,nb FU hf]
   have hfl:=bF hf
   have htu:=q3 _ hfl
   have hts:bit s (low f)=true:=by obtain ⟨m,hm⟩:=q2 _ htu; exact hm.inside hlow
   have htN:low f<N:=by have:=hs _ hts; omega
   simp only [aa]
   rw [aF,geE (by omega)]
   simp only [aa]
   rw [hz]
   have hx:=hadj (low f) _ (geE (by omega))
   generalize xs[low f]=x at hx
   have hnew:∀ k,bit ((x&&&s)&&&~~~u) k=true↔Adj g (low f) k/\bit s k=true/\bit u k=false:=fun k=>by
    rw [aZ,Bool.and_eq_true,eZ,Bool.and_eq_true,hx,Bool.not_eq_true', and_assoc]
   generalize (x&&&s)&&&~~~u=w at hnew
   refine hJ _ ⟨?_,fun k hk=>?_,fun k hk=>?_,fun a ha hb c hc hsc=>?_⟩ ?_
   ·simp only [aR,q1,Bool.true_or]
   ·simp only [aR,Bool.or_eq_true] at hk
    rcases hk with hk | hk
    ·exact q2 k hk
    ·obtain ⟨k1,k2,_⟩:=(hnew k).1 hk
     obtain ⟨m,hm⟩:=q2 _ htu
     exact ⟨m+1,.on hm k1 k2⟩
   ·simp only [aR,Bool.or_eq_true,im hf,Bool.and_eq_true] at hk ⊢
    exact hk.imp (fun h=>q3 k h.1) id
   ·simp only [aR,Bool.or_eq_true,Bool.or_eq_false_iff,im hf] at ha hb ⊢
    rcases ha with ha | ha
    ·by_cases hat:a=low f
     ·subst hat
      cases hu:bit u c with
      | true=>exact .inl I
      | false=>exact .inr ((hnew c).2 ⟨hc,hsc,hu⟩)
     ·have:bit f a=false:=by
       have:=hb.1
       rw [decide_eq_true hat,Bool.and_true] at this
       exact this
      exact .inl (q4 a ha this c hc hsc)
    ·rw [ha] at hb; cases hb.2
   ·simp only
    by_cases hw:w=0
    ·subst hw
     rw [UInt64.or_zero,UInt64.or_zero]
     have:=cH hf
     have:=congrArg List.length this
     rw [leC] at this
     omega
    ·obtain ⟨k,hk⟩:=iJ hw
     have h1:(ao u).length<(ao (u|||w)).length:=fK (fun k hk=>by rw [aR,hk]; rfl) ⟨k,by rw [aR,hk,Bool.or_true],((hnew k).1 hk).2.2⟩
     have h2:=bG (u|||w)
     have h3:=bG ((f&&&(f-1))|||w)
     have h4:64-(ao u).length=(64-(ao (u|||w)).length)+((ao (u|||w)).length-(ao u).length):=by omega
     rw [h4,Nat.add_mul]
     have:1*65<=((ao (u|||w)).length-(ao u).length)*65:=Nat.mul_le_mul_right _ (by omega)
     omega
 ·simp only [aS hl64,decide_eq_true_eq] at hk
  subst hk
  exact ⟨0,.here⟩
 ·have:=bG (shlU 1 (low s))
  exact av (by simp only; omega)
theorem rI:∀ m:Nat,m<512->0<m->andI (m:Int) ((m:Int)-1)=((m&&&(m-1):Nat):Int):=by decide +kernel
theorem pB:∀ k:Nat,k<=9->shlS 1 k=((2^k:Nat):Int):=by decide +kernel
theorem pX (W:Lb Int) {u:Ua} (h:u≠0):dm W u=dm W (u&&&(u-1))+W[low u]?.getD 0:=by
 unfold dm
 rw [cH h,List.map_cons,List.sum_cons,Int.add_comm]
theorem ob {N m:Nat} (hN:N<=9) (h:m<2^N):cS (N:Int) (UInt64.ofNat m):=fun k hk=>by
 have hp:=oH hN
 have:=(kk (u:=UInt64.ofNat m) (N:=N)).1 (by rw [UInt64.toNat_ofNat', Nat.mod_eq_of_lt (by omega)]; exact h) k hk
 omega
theorem jz {g:Tc} {b:Td} {N k:Nat} (F:Fld g b N k):∃ ft,au_p FU g b=some ((N:Int),ft)/\Tab (fitsG g b) N ft:=by
 have h1:=F.n; have h2:=F.n9
 have hp:=oH h2
 unfold au_p
 rw [checkE F]
 simp only [aa]
 rw [ifT,h1,show bb (N:Int)=some N from I]
 simp only [aa]
 rw [pB N h2,cF _ _ (by omega)]
 simp only [aa]
 rw [cF _ _ (by omega),cF _ _ (by omega)]
 simp only [aa]
 obtain ⟨l,a1,a2,a3⟩:=kR FU g F.val (av (by omega))
 have a4:ah (au_l3 FU g) FU (0,List.replicate N 0)=some l:=by
  unfold bs_p at a1
  rw [h1,cF _ _ (by omega)] at a1
  simp only [aa] at a1
  have e:au_l3 FU g=bs_l1 FU g:=rfl
  rw [e]
  cases hq:ah (bs_l1 FU g) FU (0,List.replicate N 0) with
  | none=>rw [hq] at a1; cases a1
  | some x=>rw [hq] at a1; exact a1
 rw [a4]
 simp only [aa]
 have hl:l.length=N:=by omega
 obtain ⟨ft,e,hft⟩:=am (B:=au_l2 FU g b l) (fun t:Int×Lb Int×Lb Bool=>2^N-t.1.toNat) (fun t=>∃ m:Nat,t.1=(m:Int)/\1<=m/\m<=2^N/\t.2.1.length=2^N/\t.2.2.length=2^N/\(∀ i,i<m->t.2.1[i]? = some (dm b.fu (UInt64.ofNat i)))/\(∀ i,i<m->t.2.2[i]? = some (fitsG g b i))/\∀ i,m<=i->i<2^N->t.2.2[i]? = some false)
  (fun ft=>Tab (fitsG g b) N ft) (fun ⟨z,ws,ft⟩ J ⟨m,q0,q1,q2,q3,q4,q5,q6,q7⟩ hJ=>by
   simp only at q0 q2 q3 q4 q5 q6 q7 hJ
   subst q0
   unfold au_l2
   simp only
   rw [h1,show bb (N:Int)=some N from I]
   simp only [aa]
   rw [pB N h2]
   by_cases hm:m<2^N
   ·rw [if_pos (by omega)]
    have hu:ac (m:Int)=UInt64.ofNat m:=cI m
    have hun:(UInt64.ofNat m).toNat=m:=by rw [UInt64.toNat_ofNat', Nat.mod_eq_of_lt (by omega)]
    have hu0:UInt64.ofNat m≠0:=fun e=>by rw [e] at hun; simp at hun; omega
    have hfit:=ob h2 hm
    have hlow:low (UInt64.ofNat m)<N:=by have:=hfit _ (bF hu0); omega
    unfold bA_p
    rw [hu,nb FU hu0]
    simp only [aa]
    rw [aQ (by omega) (by omega)]
    simp only [aa]
    rw [rI m (by omega) (by omega),aF,q5 _ (Nat.lt_of_le_of_lt Nat.and_le_right (by omega))]
    simp only [aa]
    have hw:b.fu[low (UInt64.ofNat m)]? = some (b.fu[low (UInt64.ofNat m)]'(by rw [F.wl]; exact hlow)):=geE (by rw [F.wl]; exact hlow)
    rw [aF,hw]
    simp only [aa]
    have hsum:dm b.fu (UInt64.ofNat (m&&&(m-1)))+b.fu[low (UInt64.ofNat m)]'(by rw [F.wl]; exact hlow)=dm b.fu (UInt64.ofNat m):=by
     rw [pX _ hu0,hw,show UInt64.ofNat m&&&(UInt64.ofNat m-1)=UInt64.ofNat (m&&&(m-1)) from ?_]
     ·rfl
     ·refine UInt64.toNat_inj.1 ?_
      rw [UInt64.toNat_and,UInt64.toNat_sub_of_le _ _ (by rw [UInt64.le_iff_toNat_le,hun]; exact q1),hun,UInt64.toNat_ofNat', Nat.mod_eq_of_lt (Nat.lt_of_le_of_lt Nat.and_le_left (by omega))]
      rfl
    have hwl:=wsum_le F (s:=UInt64.ofNat m) (by rw [h1]; exact hfit)
    rw [hsum,aQ (by omega) (by omega)]
    simp only [aa]
    rw [aF,geE (by omega)]
    simp only [aa]
    rw [show (((m:Nat):Int).toNat)=m from Int.toNat_natCast _,bc _ (by omega)]
    simp only [aa]
    rw [aF,List.getElem?_set_self (by omega)]
    simp only [aa]
    rw [aQ (by omega) (by omega)]
    have hws:∀ i,i<m+1->(ws.set m (dm b.fu (UInt64.ofNat m)))[i]? = some (dm b.fu (UInt64.ofNat i)):=fun i hi=>by
     rw [List.getElem?_set]
     by_cases e:m=i
     ·subst e; rw [if_pos rfl,if_pos (by omega)]
     ·rw [if_neg e]; exact q5 i (by omega)
    have hno:¬ kz g b (UInt64.ofNat m)->∃ r,J ((m:Int)+1,ws.set m (dm b.fu (UInt64.ofNat m)),ft)=some r/\Tab (fitsG g b) N r:=fun hng=>by
     refine hJ _ ⟨m+1,by simp,by omega,hm,by simpa using q3,q4,hws,fun i hi=>?_,fun i hi hi2=>q7 i (by omega) hi2⟩ (by simp only; omega)
     by_cases e:i=m
     ·subst e
      rw [show fitsG g b i=false from by cases hh:fitsG g b i with
       | false=>rfl
       | true=>exact absurd (fG.1 hh) hng]
      exact q7 i (Nat.le_refl _) hm
     ·exact q6 i (by omega)
    by_cases hlo:dm b.fu (UInt64.ofNat m)<b.fm
    ·rw [if_pos hlo]
     simp only [aa]
     exact hno fun h=>by have:=h.2.1; omega
    ·rw [if_neg hlo]
     by_cases hhi:b.fh<dm b.fu (UInt64.ofNat m)
     ·rw [if_pos hhi]
      simp only [aa]
      exact hno fun h=>by have:=h.2.2; omega
     ·rw [if_neg hhi,show bb ((low (UInt64.ofNat m):Nat):Int)=some (low (UInt64.ofNat m)) from I]
      simp only [aa]
      obtain ⟨v,v1,v2⟩:=rA h1 h2 hl a3 hu hu0 (by rw [h1]; exact hfit)
      rw [v1]
      simp only [aa]
      rw [aF,q7 m (Nat.le_refl _) hm]
      simp only [aa]
      rw [bc _ (by omega)]
      simp only [aa]
      have hv:decide (v=UInt64.ofNat m)=fitsG g b m:=by
       refine Bool.eq_iff_iff.2 ?_
       rw [decide_eq_true_eq,fG]
       constructor
       ·intro e
        refine ⟨⟨hu0,fun c hc=>?_⟩,by omega,by omega⟩
        rw [<- e] at hc
        exact (v2 c).1 hc
       ·intro hg
        refine bq fun c=>Bool.eq_iff_iff.2 ?_
        rw [v2]
        exact ⟨fun ⟨m,hm⟩=>hm.inside (bF hu0),fun hc=>hg.1.2 c hc⟩
      refine hJ _ ⟨m+1,by simp,by omega,hm,by simpa using q3,by simpa using q4,hws,fun i hi=>?_,fun i hi hi2=>?_⟩ (by simp only; omega)
      ·simp only
       rw [List.getElem?_set]
       by_cases e:m=i
       ·subst e; rw [if_pos rfl,if_pos (by omega),hv]
       ·rw [if_neg e]; exact q6 i (by omega)
      ·simp only
       rw [List.getElem?_set,if_neg (by omega)]
       exact q7 i (by omega) hi2
   ·rw [if_neg (by omega)]
    exact ⟨_,rfl,fun i hi=>q6 i (by omega)⟩) FU (1,List.replicate (2^N) 0,List.replicate (2^N) false) ⟨1,rfl,Nat.le_refl _,Nat.one_le_two_pow,by simp,by simp,fun i hi=>by
    obtain rfl:i=0:=by omega
    simp only
    rw [List.getElem?_replicate,if_pos (Nat.two_pow_pos N)]
    refine congrArg some ?_
    show _=dm _ 0
    unfold dm
    rw [cj]; rfl,fun i hi=>by
    obtain rfl:i=0:=by omega
    simp only
    rw [List.getElem?_replicate,if_pos (Nat.two_pow_pos N)]
    refine congrArg some ?_
    cases hh:fitsG g b 0 with
    | false=>rfl
    | true=>exact absurd I (fG.1 hh).1.1,fun i hi hi2=>by
    simp only
    rw [List.getElem?_replicate,if_pos hi2]⟩ (av (by simp only; omega))
 rw [e]
 exact ⟨ft,I,hft⟩
section
structure Pl (g:Tc) (b:Td) (N k:Nat) (q:List Nat):Prop where
 len:q.length=N
 rgs:Rgs 0 q
 lt:∀ x∈q,x<k
 all:∀ d,d<k->d∈q
 good:∀ d,d<k->kz g b (cls q d)
theorem sd {g:Tc} {b:Td} {N k:Nat} {q:Lb Nat} (h64:N<=64) (hl:q.length=N) (hlt:∀ x∈q,x<k) (hg:∀ d,d<k->kz g b (cls q d)):Pl g b N k (bv [] q):=by
 have hall:∀ d,d<k->d∈q:=fun d hd=>(jQ (by omega) d).1 (hg d hd).1.1
 have hm:∀ x,x∈bZ [] q↔x<k:=fun x=>by
  rw [mN]
  exact ⟨fun h=>h.elim (fun h=>by simp at h) (hlt x),fun h=>.inr (hall x h)⟩
 have hnd:(bZ [] q).Nodup:=gn q [] List.nodup_nil
 have hp:(bZ [] q).Perm (List.range k):=(List.perm_ext_iff_of_nodup hnd List.nodup_range).2 fun x=>by rw [hm,List.mem_range]
 have hlen:(bZ [] q).length=k:=by rw [hp.length_eq,List.length_range]
 have hget:∀ i d,d<k->((bv [] q)[i]? = some d↔q[i]? = (bZ [] q)[d]?):=fun i d hd=>by
  have hs:(bZ [] q)[d]? = some ((bZ [] q)[d]'(by omega)):=geE (by omega)
  rw [iz,List.getElem?_map,hs]
  cases hq:q[i]? with
  | none=>simp
  | some x=>
   simp only [Option.map_some,Option.some.injEq]
   constructor
   ·intro e
    have hx:(bZ [] q).idxOf x<(bZ [] q).length:=List.idxOf_lt_length_of_mem ((hm x).2 (hlt x (List.mem_of_getElem? hq)))
    have:=List.getElem_idxOf hx
    subst e
    exact this.symm
   ·rintro rfl
    exact List.Nodup.idxOf_getElem hnd _ _
 have hc:∀ d (hd:d<k),cls (bv [] q) d=cls q ((bZ [] q)[d]'(by omega)):=fun d hd=>by
  refine bq fun i=>Bool.eq_iff_iff.2 ?_
  rw [br (by rw [dZ]; omega),br (by omega),hget i d hd,show (bZ [] q)[d]? = some ((bZ [] q)[d]'(by omega)) from geE (by omega)]
 have hg' : ∀ d,d<k->kz g b (cls (bv [] q) d):=fun d hd=>by
  rw [hc d hd]
  exact hg _ ((hm _).1 (List.getElem_mem _))
 refine ⟨by rw [dZ,hl],jJ q [],fun x hx=>?_,fun d hd=>(jQ (by rw [dZ]; omega) d).1 (hg' d hd).1.1,hg'⟩
 rw [iz] at hx
 obtain ⟨y,hy,rfl⟩:=List.mem_map.1 hx
 rw [<- hlen]
 exact List.idxOf_lt_length_of_mem ((hm y).2 (hlt y hy))
def eD (q:Lb Nat) (a c:Nat) (s:Ua):Lb Nat:=q.mapIdx fun i x=>if x=a∨x=c then (if bit s i then a else c) else x
theorem si (q:Lb Nat) (a c:Nat) (s:Ua) (h:q.length<=64) (h1:1<=q.length) (hq:∀ x∈q,x<8) (ha:a<8) (hc:c<8):bU_p FU (ak q) (a:Int) (c:Int) s=some (ak (bv [] (eD q a c s))):=by
 unfold bU_p
 have hcl:aX_p FU (ak q)=some (ak q):=by
  unfold aX_p ce
  rw [dV [] _ (by simp [aq]; omega)]
  simp only [aa,List.nil_append]
  cases ak q<;>simp
 rw [hcl]
 simp only [aa]
 have hlr:(eD q a c s).length=q.length:=List.length_mapIdx
 obtain ⟨r,e,rfl⟩:=am (B:=bU_l1 FU (ak q) (a:Int) (c:Int) s) (fun t:Nat×Lb Int=>q.length-t.1) (fun t=>t.1<=q.length/\t.2=(ak (eD q a c s)).take t.1++(ak q).drop t.1) (fun r=>r=ak (eD q a c s)) (fun ⟨i,xs⟩ J ⟨a1,a2⟩ hJ=>by
  simp only at a1 a2 hJ
  unfold bU_l1
  simp only [aq]
  have hxl:xs.length=q.length:=by rw [a2,List.length_append,List.length_take,List.length_drop,aq,aq,hlr]; omega
  by_cases hi:i<q.length
  ·rw [if_pos hi,ca,geE hi]
   simp only [Option.map_some,aa]
   have hxi:xs[i]? = some (xs[i]'(by omega)):=geE (by omega)
   have hri:(ak (eD q a c s))[i]? = some (((if q[i]=a∨q[i]=c then (if bit s i then a else c) else q[i]:Nat)):Int):=by
    rw [ca,eD,List.getElem?_mapIdx,geE hi]; rfl
   have fin:∀ ys,ys=xs.set i (((if q[i]=a∨q[i]=c then (if bit s i then a else c) else q[i]:Nat)):Int)->ys=(ak (eD q a c s)).take (i+1)++(ak q).drop (i+1):=fun ys e=>by
    rw [e,a2,List.take_add_one,hri]
    have hlt:((ak (eD q a c s)).take i).length=i:=by rw [List.length_take,aq,hlr]; omega
    rw [List.set_append_right _ _ (by omega),hlt,Nat.sub_self,List.drop_eq_getElem_cons (by rw [aq]; omega),List.set_cons_zero,List.append_assoc]
    rfl
   have key:∀ ys,ys=xs.set i (((if q[i]=a∨q[i]=c then (if bit s i then a else c) else q[i]:Nat)):Int)->∃ r,J (i+1,ys)=some r/\r=ak (eD q a c s):=fun ys e=>hJ (i+1,ys) ⟨hi,fin ys e⟩ (by simp only; omega)
   have hself:xs=xs.set i ((q[i]:Nat):Int):=by
    have:xs[i]'(by omega)=((q[i]:Nat):Int):=by
     have h2:xs[i]? = (ak q)[i]?:=by
      rw [a2,List.getElem?_append_right (by rw [List.length_take]; omega),List.getElem?_drop,List.length_take,aq,hlr,Nat.min_eq_left a1,Nat.sub_self,Nat.add_zero]
     rw [hxi,ca,geE hi] at h2
     simpa using h2
    rw [<- this,List.set_getElem_self]
   unfold jn
   simp only
   by_cases hxa:q[i]=a
   ·rw [if_pos (by omega),hxi]
    simp only [aa]
    rw [bc _ (by omega)]
    simp only [aa]
    rw [if_pos (.inl hxa)] at key
    by_cases hb:bit s i=true
    ·rw [if_pos ((cg s i).2 hb),geE (by rw [List.length_set]; omega)]
     simp only [aa]
     rw [bc _ (by rw [List.length_set]; omega)]
     simp only [aa]
     exact key _ (by rw [if_pos hb,List.set_set])
    ·rw [if_neg (fun h=>hb ((cg s i).1 h))]
     exact key _ (by rw [if_neg hb])
   ·rw [if_neg (by omega)]
    by_cases hxc:q[i]=c
    ·rw [if_pos (by omega),hxi]
     simp only [aa]
     rw [bc _ (by omega)]
     simp only [aa]
     rw [if_pos (.inr hxc)] at key
     by_cases hb:bit s i=true
     ·rw [if_pos ((cg s i).2 hb),geE (by rw [List.length_set]; omega)]
      simp only [aa]
      rw [bc _ (by rw [List.length_set]; omega)]
      simp only [aa]
      exact key _ (by rw [if_pos hb,List.set_set])
     ·rw [if_neg (fun h=>hb ((cg s i).1 h))]
      exact key _ (by rw [if_neg hb])
    ·rw [if_neg (by omega)]
     rw [if_neg (fun h=>h.elim hxa hxc)] at key
     exact key _ hself
  ·rw [if_neg hi]
   refine ⟨_,I,?_⟩
   rw [a2,List.drop_eq_nil_of_le (by rw [aq]; omega),List.take_of_length_le (by rw [aq,hlr]; omega),List.append_nil]) FU (0,ak q) ⟨by simp,by simp⟩ (av (by simp only; omega))
 rw [e]
 simp only [aa]
 rw [iA _ (by omega) (by omega) (fun x hx=>?_)]
 ·rfl
 ·obtain ⟨i,hi⟩:=List.getElem?_of_mem hx
  rw [show (eD q a c s)[i]? = q[i]?.map fun x=>if x=a∨x=c then (if bit s i then a else c) else x from List.getElem?_mapIdx] at hi
  cases hy:q[i]? with
  | none=>rw [hy] at hi; cases hi
  | some y=>
   rw [hy] at hi
   have:=hq y (List.mem_of_getElem? hy)
   simp only [Option.map_some,Option.some.injEq] at hi
   subst hi
   split
   ·split<;>assumption
   ·exact this
theorem rU {g:Tc} {b:Td} {N k:Nat} {q:Lb Nat} (h64:N<=64) (P:Pl g b N k q) {a c:Nat} (ha:a<k) (hc:c<k) (hac:a≠c) {s:Ua} (hs:∀ i,bit s i=true->bit (cls q a|||cls q c) i=true) (h1:kz g b s) (h2:kz g b ((cls q a|||cls q c)&&&~~~s)):Pl g b N k (bv [] (eD q a c s)):=by
 have hql:=P.len
 have hlr:(eD q a c s).length=q.length:=List.length_mapIdx
 have hget:∀ i,(eD q a c s)[i]? = q[i]?.map fun x=>if x=a∨x=c then (if bit s i then a else c) else x:=fun i=>List.getElem?_mapIdx
 refine sd h64 (by omega) (fun x hx=>?_) (fun d hd=>?_)
 ·obtain ⟨i,hi⟩:=List.getElem?_of_mem hx
  rw [hget] at hi
  cases hq:q[i]? with
  | none=>rw [hq] at hi; cases hi
  | some y=>
   rw [hq] at hi
   have hy:=P.lt y (List.mem_of_getElem? hq)
   simp only [Option.map_some,Option.some.injEq] at hi
   subst hi
   split
   ·split<;>assumption
   ·exact hy
 ·have hb:∀ i d,bit (cls q d) i=true↔q[i]? = some d:=fun i d=>br (by omega) d i
  by_cases hda:d=a
  ·subst hda
   rw [show cls (eD q d c s) d=s from bq fun i=>Bool.eq_iff_iff.2 ?_]
   ·exact h1
   ·rw [br (by omega),hget]
    have:=hs i
    rw [aR,Bool.or_eq_true,hb,hb] at this
    cases hq:q[i]? with
    | none=>rw [hq] at this; simp at this; simp [this]
    | some y=>
     rw [hq] at this
     simp only [Option.map_some,Option.some.injEq] at this ⊢
     by_cases hbt:bit s i=true
     ·rw [hbt] at this ⊢
      simp only [forall_const] at this
      simp [this]
     ·simp only [hbt]
      by_cases hy:y=d∨y=c
      ·simp [hy,hac.symm]
      ·simp only [hy,if_false,Bool.false_eq_true,iff_false]
       exact fun e=>hy (.inl e)
  ·by_cases hdc:d=c
   ·subst hdc
    rw [show cls (eD q a d s) d=(cls q a|||cls q d)&&&~~~s from bq fun i=>Bool.eq_iff_iff.2 ?_]
    ·exact h2
    ·rw [br (by omega),hget,aZ,Bool.and_eq_true,aR,Bool.or_eq_true,hb,hb]
     cases hq:q[i]? with
     | none=>simp
     | some y=>
      simp only [Option.map_some,Option.some.injEq]
      by_cases hbt:bit s i=true
      ·simp only [hbt,if_true,Bool.not_true,Bool.false_eq_true,and_false,iff_false]
       by_cases hy:y=a∨y=d
       ·simp [hy,hac]
       ·simp only [hy,if_false]; exact fun e=>hy (.inr e)
      ·simp only [hbt]
       by_cases hy:y=a∨y=d
       ·simp [hy]
       ·simp only [hy,if_false,false_and,iff_false]; exact fun e=>hy (.inr e)
   ·rw [show cls (eD q a c s) d=cls q d from bq fun i=>Bool.eq_iff_iff.2 ?_]
    ·exact P.good d hd
    ·rw [br (by omega),hget,hb]
     cases hq:q[i]? with
     | none=>simp
     | some y=>
      simp only [Option.map_some,Option.some.injEq]
      by_cases hy:y=a∨y=c
      ·simp only [hy,if_true]
       constructor
       ·intro e; split at e
        ·exact absurd e.symm hda
        ·exact absurd e.symm hdc
       ·intro e; subst e; exact hy.elim (fun h=>absurd h hda) (fun h=>absurd h hdc)
      ·simp [hy]
section
variable {g:Tc} {b:Td} {N k:Nat} {q:Lb Nat}
theorem fits_ok (F:Fld g b N k) (P:Pl g b N k q):aY_p FU ⟨b,g⟩ (ak q)=some true:=by
 have h1:=F.n; have h2:=F.n9; have h3:=F.k1; have h4:=F.k4; have h5:=P.len; have h6:=F.n1
 unfold aY_p
 simp only
 rw [F.d,sy F.val (by rw [h1,h5]) (by omega) (by omega) h3 (by omega) P.lt P.all]
 simp only [aa]
 obtain ⟨ms,e1,e2,e3⟩:=nI (q:=q) (k:=k) (by omega) (by omega) h3 (by omega) P.lt P.all
 rw [ifT,e1]
 simp only [aa]
 obtain ⟨y,e,rfl⟩:=am (B:=aY_l1 FU (ms,0) ⟨b,g⟩) (fun i:Nat=>ms.length-i) (fun _=>True) (fun y=>y=.inr ()) (fun i J _ hJ=>by
  unfold aY_l1
  simp only
  by_cases hi:i<ms.length
  ·rw [if_pos hi,e3 i (by omega)]
   simp only [aa]
   unfold bW_p
   obtain ⟨y,y1,y2⟩:=gt F (s:=cls q i) (by rw [h1,<- h5]; exact jY (by omega) i)
   rw [y1,y2.2 (P.good i (by omega))]
   simp only [aa,Bool.not_true]
   rw [if_neg (by decide)]
   exact hJ _ trivial (by omega)
  ·rw [if_neg hi]; exact ⟨_,rfl,rfl⟩) FU 0 trivial (av (by omega))
 rw [e]
 rfl
theorem ry (F:Fld g b N k) (P:Pl g b N k q):bT_p FU g b [ak q]=some 0:=by
 have h1:=F.n; have h2:=F.n9
 unfold bT_p
 rw [checkB F]
 simp only [aa]
 rw [ifT,if_neg (by omega)]
 obtain ⟨y,e,rfl⟩:=am (B:=bT_l1 FU [ak q] b g) (fun i:Nat=>1-i) (fun _=>True) (fun y=>y=.inr ()) (fun i J _ hJ=>by
  unfold bT_l1
  by_cases hi:i<[ak q].length
  ·have:i=0:=by simpa using hi
   subst this
   rw [if_pos hi,List.getElem?_cons_zero]
   simp only [aa]
   rw [fits_ok F P]
   simp only [aa]
   rw [if_pos trivial]
   exact hJ _ trivial (by omega)
  ·rw [if_neg hi]; exact ⟨_,rfl,rfl⟩) FU 0 trivial (av (by omega))
 rw [e]
 rfl
theorem Pl.canon (_h9:N<=9) (P:Pl g b N k q):bv [] q=q:=gr q 0 P.rgs
end
abbrev Key:=Int×Int×Int×Int×Int×Int×Int×Int×Int×Int×Int×Int
def jv (p:Lb Int):Key:=(aw p 0 0,aw p 1 0,aw p 2 0,aw p 3 0,aw p 4 0,aw p 5 0,aw p 6 0,aw p 7 0,aw p 8 0,aw p 9 0,aw p 10 0,aw p 11 0)
def dB (e:Key):Lb Int:=[e.1,e.2.1,e.2.2.1,e.2.2.2.1,e.2.2.2.2.1,e.2.2.2.2.2.1,e.2.2.2.2.2.2.1,e.2.2.2.2.2.2.2.1,e.2.2.2.2.2.2.2.2.1,e.2.2.2.2.2.2.2.2.2.1,e.2.2.2.2.2.2.2.2.2.2.1,e.2.2.2.2.2.2.2.2.2.2.2]
theorem gW (p:Lb Int):bI_p FU p=some (jv p):=rfl
theorem pY (p:Lb Int) (h:p.length<=12):(dB (jv p)).take p.length=p:=by
 have e:dB (jv p)=(List.range 12).map fun i=>aw p i 0:=rfl
 rw [e]
 refine List.ext_getElem? fun i=>?_
 rw [List.getElem?_take]
 by_cases hi:i<p.length
 ·rw [if_pos hi,List.getElem?_map,List.getElem?_range (by omega),geE hi]
  simp [aw,hi]
 ·rw [if_neg hi,List.getElem?_eq_none (by omega)]
end
section
theorem nj:∀ (cs:Lb Nat) (x j d y:Nat),j<=cs.length->(((bB cs x j)[d]?.getD 0).testBit y=true↔(cs[d]?.getD 0).testBit y=true∨d=j/\y=x)
 | [],x,j,d,y,h=>by
  obtain rfl:j=0:=by simpa using h
  rw [bB]
  cases d with
  | zero=>simp [Nat.testBit_two_pow,eq_comm]
  | succ d=>simp
 | c::cs,x,0,d,y,_=>by
  rw [bB]
  cases d with
  | zero=>simp only [List.getElem?_cons_zero,Option.getD_some,Nat.testBit_or,Bool.or_eq_true,Nat.testBit_two_pow,decide_eq_true_eq,true_and,@eq_comm _ x y]
  | succ d=>simp
 | c::cs,x,j+1,d,y,h=>by
  rw [bB]
  cases d with
  | zero=>simp
  | succ d=>
   have:=nj cs x j d y (by simpa using h)
   simpa using this
theorem mX:∀ (l p cs:Lb Nat),l.length=p.length->Rgs cs.length p->∀ d y,(((da cs l p)[d]?.getD 0).testBit y=true↔(cs[d]?.getD 0).testBit y=true∨∃ i:Nat,l[i]? = some y/\p[i]? = some d)
 | [],[],cs,_,_,d,y=>by simp [da]
 | x::l,c::p,cs,hl,⟨h1,h2⟩,d,y=>by
  rw [da,mX l p _ (by simpa using hl) (by rw [cP cs x c h1]; exact h2) d y,nj _ _ _ _ _ h1,or_assoc]
  refine or_congr Iff.rfl ?_
  constructor
  ·rintro (⟨rfl,rfl⟩ | ⟨i,i1,i2⟩)
   ·exact ⟨0,I,I⟩
   ·exact ⟨i+1,by simpa using i1,by simpa using i2⟩
  ·rintro ⟨i,i1,i2⟩
   cases i with
   | zero=>left; simp only [List.getElem?_cons_zero,Option.some.injEq] at i1 i2; exact ⟨i2.symm,i1.symm⟩
   | succ i=>right; exact ⟨i,by simpa using i1,by simpa using i2⟩
theorem ns:∀ (l p cs:Lb Nat),l.length=p.length->Rgs cs.length p->∀ d,(d<(da cs l p).length↔d<cs.length∨d∈p)
 | [],[],cs,_,_,d=>by simp [da]
 | x::l,c::p,cs,hl,⟨h1,h2⟩,d=>by
  have e:=cP cs x c h1
  rw [da,ns l p _ (by simpa using hl) (by rw [e]; exact h2) d,e,List.mem_cons,<- or_assoc]
  refine or_congr ?_ Iff.rfl
  split<;>omega
theorem lq (fits:Nat->Bool):∀ (cs:Lb Nat) (k:Nat),(∀ c∈cs,fits c=true)->cs.length=k->aK fits cs [] k=1
 | [],k,_,h=>by subst h; rfl
 | c::cs,k,h1,h2=>by
  rw [leC] at h2
  rw [bA,if_pos (by omega)]
  show (if fits c=true then aK fits cs [] (k-1) else 0)+0=1
  rw [if_pos (h1 c (List.mem_cons_self ..)),lq fits cs (k-1) (fun d hd=>h1 d (List.mem_cons_of_mem _ hd)) (by omega)]
theorem Pl.end1 {g:Tc} {b:Td} {N k:Nat} {q:Lb Nat} (hN:N<=9) (P:Pl g b N k q):aK (fitsG g b) (da [] (List.range N) q) [] k=1:=by
 have hl:(List.range N).length=q.length:=by rw [List.length_range,P.len]
 have hql:=P.len
 have hlen:(da [] (List.range N) q).length=k:=by
  have h:=ns (List.range N) q [] hl P.rgs
  have h1:∀ d,d<(da [] (List.range N) q).length↔d<k:=fun d=>by
   rw [h d]
   exact ⟨fun h=>h.elim (fun h=>by simp at h) (P.lt d),fun h=>.inr (P.all d h)⟩
  have h2:=h1 k
  have h3:=h1 (da [] (List.range N) q).length
  omega
 refine lq _ _ _ (fun c hc=>?_) hlen
 obtain ⟨d,hd,rfl⟩:=List.getElem_of_mem hc
 rw [fG]
 have hb:∀ y,((da [] (List.range N) q)[d]).testBit y=true↔q[y]? = some d:=fun y=>by
  have h:=mX (List.range N) q [] hl P.rgs d y
  rw [geE hd] at h
  simp only [Option.getD_some] at h
  rw [h]
  constructor
  ·rintro (h | ⟨i,i1,i2⟩)
   ·simp at h
   ·have hi:=(List.getElem?_eq_some_iff.1 i1).1
    rw [List.length_range] at hi
    rw [List.getElem?_range hi] at i1
    cases i1
    exact i2
  ·intro h
   have:=(List.getElem?_eq_some_iff.1 h).1
   exact .inr ⟨y,List.getElem?_range (by omega),h⟩
 have hlt:(da [] (List.range N) q)[d]<2^64:=Nat.lt_pow_two_of_testBit _ fun i hi=>by
  cases hh:((da [] (List.range N) q)[d]).testBit i with
  | false=>rfl
  | true=>
   have:=(List.getElem?_eq_some_iff.1 ((hb i).1 hh)).1
   omega
 have e:UInt64.ofNat ((da [] (List.range N) q)[d])=cls q d:=bq fun y=>Bool.eq_iff_iff.2 (by
  rw [br (by omega)]
  unfold bit
  rw [UInt64.toNat_ofNat', Nat.mod_eq_of_lt hlt]
  exact hb y)
 rw [e]
 exact P.good d (by omega)
def gi:Lb Ua->Nat->Nat->Lb Ua
 | [],x,_=>[shlU 1 x]
 | c::cs,x,0=>(c|||shlU 1 x)::cs
 | c::cs,x,j+1=>c::gi cs x j
theorem nK:∀ (cs:Lb Ua) (x j:Nat) (h:j<cs.length),cs.set j (cs[j]|||shlU 1 x)=gi cs x j
 | c::cs,x,0,_=>rfl
 | c::cs,x,j+1,h=>congrArg (c::·) (nK cs x j (by simpa using h))
theorem nv:∀ (cs:Lb Ua) (x:Nat),(cs++[0]).set cs.length (0|||shlU 1 x)=gi cs x cs.length
 | [],x=>by simp [gi]
 | c::cs,x=>congrArg (c::·) (nv cs x)
theorem cy:∀ (cs:Lb Ua) (x j:Nat),x<64->(gi cs x j).map UInt64.toNat=bB (cs.map UInt64.toNat) x j
 | [],x,j,h=>by rw [gi,List.map_cons,df h]; rfl
 | c::cs,x,0,h=>by rw [gi,List.map_cons,UInt64.toNat_or,df h]; rfl
 | c::cs,x,j+1,h=>by rw [gi,List.map_cons,cy cs x j h]; rfl
theorem gZ {N:Nat} (hN:N<=9):∀ (cs:Lb Ua) (x j:Nat),x<N->(∀ c∈cs,c.toNat<2^N)->∀ c∈gi cs x j,c.toNat<2^N
 | [],x,j,h,_,c,hc=>by
  rw [gi,List.mem_singleton] at hc
  subst hc
  rw [df (by omega)]
  exact Nat.pow_lt_pow_right (by decide) h
 | a::cs,x,0,h,h1,c,hc=>by
  rw [gi] at hc
  rcases List.mem_cons.1 hc with rfl | hc
  ·rw [UInt64.toNat_or,df (by omega)]
   exact Nat.or_lt_two_pow (h1 a (List.mem_cons_self ..)) (Nat.pow_lt_pow_right (by decide) h)
  ·exact h1 c (List.mem_cons_of_mem _ hc)
 | a::cs,x,j+1,h,h1,c,hc=>by
  rw [gi] at hc
  rcases List.mem_cons.1 hc with rfl | hc
  ·exact h1 c (List.mem_cons_self ..)
  ·exact gZ hN cs x j h (fun d hd=>h1 d (List.mem_cons_of_mem _ hd)) c hc
theorem eG (cs:Lb Ua) (x j:Nat) (hl:cs.length<=1000) (hj:j<=cs.length):aV_p FU cs (x:Int) (j:Int)=some (gi cs x j):=by
 unfold aV_p
 have hcl:aU_p FU cs=some cs:=by
  unfold aU_p ce
  rw [dV [] _ (by simpa using (by omega:cs.length<=1000000))]
  simp only [aa,List.nil_append]
  cases cs<;>simp
 rw [hcl]
 simp only [aa]
 unfold jn
 simp only
 by_cases e:j=cs.length
 ·subst e
  rw [if_pos rfl,dV _ _ (by simp only [leC,leN]; omega)]
  simp only [aa]
  rw [aF,List.getElem?_append_right (Nat.le_refl _),Nat.sub_self,List.getElem?_cons_zero]
  simp only [aa]
  rw [show bb (x:Int)=some x from I]
  simp only [aa]
  rw [Int.toNat_natCast,bc _ (by simp)]
  simp only [aa]
  rw [nv]
 ·rw [if_neg (by omega),aF,geE (by omega)]
  simp only [aa]
  rw [show bb (x:Int)=some x from I]
  simp only [aa]
  rw [Int.toNat_natCast,bc _ (by omega)]
  simp only [aa]
  rw [nK]
theorem iI:∀ N:Nat,N<10->∀ i:Nat,i<N+1->ao (shlU 1 N-shlU 1 i)=(List.range N).drop i:=by decide +kernel
theorem qG {N i:Nat} (hN:N<=9) (hi:i<=N):cS (N:Int) (shlU 1 N-shlU 1 i):=fun j hj=>by
 rw [<- aT,iI N (by omega) i (by omega)] at hj
 have:=List.mem_range.1 (List.mem_of_mem_drop hj)
 omega
section
variable {g:Tc} {b:Td} {N k:Nat} {q:Lb Nat}
theorem gD (F:Fld g b N k) {ft:Lb Bool} (hft:Tab (fitsG g b) N ft) {D:gE} (hD:cu (fitsG g b) D) {cs:Lb Ua} (hc:∀ c∈cs,c.toNat<2^N) (hl:cs.length<=1000) {i:Nat} (hi:i<=N) :
  ∃ D', ay_p FU ft D cs (shlU 1 N-shlU 1 i) b.fc=some (D', ((aK (fitsG g b) (cs.map UInt64.toNat) ((List.range N).drop i) k:Nat):Int))/\cu (fitsG g b) D' :=by
 have h2:=F.n9
 obtain ⟨D', e,h⟩:=eT (fits:=fitsG g b) F.n9 hft FU D cs (shlU 1 N-shlU 1 i) k hD hc (qG F.n9 hi) F.k4 (av (by omega))
 unfold ay_p
 rw [F.d,e,iI N (by omega) i (by omega)]
 exact ⟨D', rfl,h⟩
theorem eJ (F:Fld g b N k) (cs:Lb Nat) (i:Nat):aK (fitsG g b) cs ((List.range N).drop i) k<=68719476736:=by
 have h2:=F.n9
 exact Nat.le_trans (ki _ _ _ _ (by rw [List.length_drop,List.length_range]; omega)) (pow4 F.k4)
theorem dY {N i:Nat} (h:i<N):(List.range N).drop i=i::(List.range N).drop (i+1):=by
 rw [List.drop_eq_getElem_cons (by rw [List.length_range]; exact h),List.getElem_range]
theorem lU {cs:Lb Ua} {x j:Nat} (hx:x<64) (hj:j<=cs.length):(gi cs x j).length=if j<cs.length then cs.length else cs.length+1:=by
 have:=congrArg List.length (cy cs x j hx)
 rw [List.length_map,cP _ _ _ (by rw [List.length_map]; exact hj),List.length_map] at this
 exact this
theorem sY (F:Fld g b N k) (P:Pl g b N k q):aJ_p FU g b (ak q)=some (W8 ((dJ (fitsG g b) k [] (List.range N) q:Nat):Int),0):=by
 have h2:=F.n9
 have hql:=P.len
 obtain ⟨ft,o1,hft⟩:=jz F
 unfold aJ_p
 rw [o1]
 simp only [aa]
 rw [if_pos (by rw [aq,hql])]
 have hlt:=fR (fitsG g b) (k:=k) (l:=List.range N) (p:=q) (cs:=[]) (by rw [List.length_range,hql]) P.rgs (P.end1 h2)
 have hT:=Nat.lt_of_lt_of_le hlt (by have:=eJ F [] 0; rwa [List.drop_zero] at this)
 generalize hTT:dJ (fitsG g b) k [] (List.range N) q=T at hT hlt ⊢
 obtain ⟨y,e,cs,D,rfl,hcs,hc,hl,hD⟩:=am (B:=aJ_l2 FU (ak q) ((N:Int),ft) b) (fun t:Int×Lb Ua×Nat×gE=>N-t.2.2.1) (fun t=>t.2.2.1<=N/\t.2.1.length<=t.2.2.1/\(∀ c∈t.2.1,c.toNat<2^N)/\cu (fitsG g b) t.2.2.2/\Rgs t.2.1.length (q.drop t.2.2.1)/\(∃ z:Nat,t.1=(z:Int)/\z+dJ (fitsG g b) k (t.2.1.map UInt64.toNat) ((List.range N).drop t.2.2.1) (q.drop t.2.2.1)=T)/\da (t.2.1.map UInt64.toNat) ((List.range N).drop t.2.2.1) (q.drop t.2.2.1)=da [] (List.range N) q)
  (fun y=>∃ cs D,y=.inr (D,cs,(T:Int))/\cs.map UInt64.toNat=da [] (List.range N) q/\(∀ c∈cs,c.toNat<2^N)/\cs.length<=1000/\cu (fitsG g b) D) (fun ⟨zi,cs,i,D⟩ J ⟨a1,a2,a3,a4,a5,⟨z,a6,a7⟩,a8⟩ hJ=>by
   simp only at a1 a2 a3 a4 a5 a6 a7 a8 hJ
   subst a6
   unfold aJ_l2
   simp only [aq]
   by_cases hi:i<q.length
   ·have hiN:i<N:=by omega
    rw [List.drop_eq_getElem_cons hi] at a5 a7 a8
    rw [dY hiN] at a7 a8
    obtain ⟨r1,r2⟩:=a5
    rw [if_pos hi,ca,geE hi]
    simp only [Option.map_some,aa]
    rw [if_neg (by omega),if_neg (by omega),show bb (N:Int)=some N from I]
    simp only [aa]
    have e7:z+(aG (fun j=>aK (fitsG g b) (bB (cs.map UInt64.toNat) i j) ((List.range N).drop (i+1)) k) (List.range q[i])+dJ (fitsG g b) k (bB (cs.map UInt64.toNat) i q[i]) ((List.range N).drop (i+1)) (q.drop (i+1)))=T:=a7
    obtain ⟨y,e,D', rfl,hD'⟩:=am (B:=aJ_l1 FU ((q[i]:Nat):Int) cs i ((N:Int),ft) N b) (fun t:Int×Int×gE=>q[i]-t.2.1.toNat) (fun t=>∃ j:Nat,t.2.1=(j:Int)/\j<=q[i]/\t.1=((z+aG (fun j=>aK (fitsG g b) (bB (cs.map UInt64.toNat) i j) ((List.range N).drop (i+1)) k) (List.range j):Nat):Int)/\cu (fitsG g b) t.2.2)
     (fun y=>∃ D', y=(((z+aG (fun j=>aK (fitsG g b) (bB (cs.map UInt64.toNat) i j) ((List.range N).drop (i+1)) k) (List.range q[i]):Nat):Int),D')/\cu (fitsG g b) D') (fun ⟨t1,t2,t3⟩ J ⟨j,b1,b2,b3,b4⟩ hJ=>by
      simp only at b1 b3 b4 hJ
      subst b1 b3
      unfold aJ_l1
      simp only
      by_cases hj:j<q[i]
      ·rw [if_pos (by omega),eG cs i j (by omega) (by omega)]
       simp only [aa]
       obtain ⟨D', e1,e2⟩:=gD F hft b4 (gZ h2 cs i j hiN a3) (by rw [lU (by omega) (by omega)]; split<;>omega) (i:=i+1) hiN
       rw [e1,cy _ _ _ (by omega)]
       simp only [aa]
       have hmono:=cw (f:=fun j=>aK (fitsG g b) (bB (cs.map UInt64.toNat) i j) ((List.range N).drop (i+1)) k) (show j+1<=q[i] by omega)
       have hs:aG (fun j=>aK (fitsG g b) (bB (cs.map UInt64.toNat) i j) ((List.range N).drop (i+1)) k) (List.range (j+1))=aG (fun j=>aK (fitsG g b) (bB (cs.map UInt64.toNat) i j) ((List.range N).drop (i+1)) k) (List.range j)+aK (fitsG g b) (bB (cs.map UInt64.toNat) i j) ((List.range N).drop (i+1)) k:=by
        rw [List.range_succ,dz]; rfl
       rw [hs] at hmono
       rw [aQ (by omega) (by omega)]
       simp only [aa]
       rw [aQ (by omega) (by have:=P.lt _ (List.getElem_mem hi); have:=F.k4; omega)]
       simp only [aa]
       exact hJ _ ⟨j+1,by simp,hj,by simp only; rw [hs]; omega,e2⟩ (by simp only; omega)
      ·rw [if_neg (by omega)]
       obtain rfl:j=q[i]:=by omega
       exact ⟨_,rfl,_,rfl,b4⟩) FU (((z:Nat):Int),0,D) ⟨0,rfl,Nat.zero_le _,by simp [aG],a4⟩ (av (by have:=P.lt _ (List.getElem_mem hi); have:=F.k4; simp only; omega))
    rw [e]
    simp only [aa]
    rw [eG cs i q[i] (by omega) r1]
    simp only [aa]
    have hll:=lU (cs:=cs) (x:=i) (j:=q[i]) (by omega) r1
    refine hJ _ ⟨hiN,by simp only; rw [hll]; split<;>omega,gZ h2 cs i _ hiN a3,hD', ?_,⟨_,rfl,?_⟩,?_⟩ (by simp only; omega)
    ·simp only
     rw [hll]; exact r2
    ·simp only
     rw [cy _ _ _ (by omega)]
     omega
    ·simp only
     rw [cy _ _ _ (by omega)]
     exact a8
   ·rw [if_neg hi]
    have hi' : i=N:=by omega
    rw [List.drop_eq_nil_of_le (by rw [List.length_range]; omega)] at a7 a8
    rw [List.drop_eq_nil_of_le (show q.length<=i by omega)] at a7 a8
    have e1:z+0=T:=a7
    exact ⟨_,rfl,cs,D,by rw [<- e1,Nat.add_zero],a8,a3,by omega,a4⟩) FU (0,[],0,[]) ⟨Nat.zero_le _,Nat.le_refl _,by simp,jZ _,by simpa using P.rgs,⟨0,rfl,by simpa using hTT⟩,by simp⟩ (av (by simp only; omega))
 rw [e]
 unfold thn
 simp only
 obtain ⟨D', c1,c2⟩:=eT (fits:=fitsG g b) F.n9 hft FU D cs 0 k hD hc (fun j hj=>by rw [bt] at hj; cases hj) F.k4 (av (by omega))
 unfold ay_p
 rw [F.d,c1,cj,hcs,P.end1 h2]
 simp only [aa]
 rw [if_pos (by rfl),iN FU _ (av (by omega))]
 rfl
theorem shl0:shlU 1 0=1:=by decide
theorem te (F:Fld g b N k):bV_p FU g b=some (W8 ((aK (fitsG g b) [] (List.range N) k:Nat):Int),0):=by
 obtain ⟨ft,o1,hft⟩:=jz F
 obtain ⟨D', e1,e2⟩:=gD F hft (jZ _) (cs:=[]) (by simp) (by simp) (i:=0) (Nat.zero_le _)
 unfold bV_p
 rw [o1]
 simp only [aa]
 rw [show bb (N:Int)=some N from I]
 simp only [aa]
 rw [shl0] at e1
 rw [e1]
 simp only [aa]
 rw [iN FU _ (av (by omega))]
 rfl
theorem int_ok {T:Nat} (h:T<=68719476736):cy_p FU (W8 (T:Int))=some ((T:Int),0):=by
 have e1:(W8 (T:Int)).1=ac (T:Int):=by unfold W8; split<;>rfl
 have e2:jX (ac (T:Int))=(T:Int):=by unfold jX; rw [qD (by omega),if_pos (by omega)]
 unfold cy_p
 rw [e1,e2,iN FU _ (av (by omega))]
 simp only [aa]
 rw [ifT]
theorem kth_ok (F:Fld g b N k) (P:Pl g b N k q):aR_p FU g b (W8 ((dJ (fitsG g b) k [] (List.range N) q:Nat):Int))=some (ak q,0):=by
 have h2:=F.n9
 have hql:=P.len
 obtain ⟨ft,o1,hft⟩:=jz F
 unfold aR_p
 rw [o1]
 simp only [aa]
 have hlt:=fR (fitsG g b) (k:=k) (l:=List.range N) (p:=q) (cs:=[]) (by rw [List.length_range,hql]) P.rgs (P.end1 h2)
 have hcl:=eJ F [] 0
 rw [List.drop_zero] at hcl
 generalize hTT:dJ (fitsG g b) k [] (List.range N) q=T at hlt ⊢
 rw [int_ok (by omega)]
 simp only [aa]
 rw [ifT,if_neg (by omega),show bb (N:Int)=some N from I]
 simp only [aa]
 obtain ⟨D0,e1,hD0⟩:=gD F hft (jZ _) (cs:=[]) (by simp) (by simp) (i:=0) (Nat.zero_le _)
 rw [shl0] at e1
 rw [e1]
 simp only [aa,List.map_nil,List.drop_zero]
 rw [if_neg (by omega)]
 obtain ⟨y,e,rfl⟩:=am (B:=aR_l2 FU ((N:Int),ft) b) (fun t:Int×Lb Ua×Int×Lb Int×gE=>N-t.2.2.1.toNat) (fun t=>∃ i:Nat,t.2.2.1=(i:Int)/\i<=N/\t.2.1.length<=i/\(∀ c∈t.2.1,c.toNat<2^N)/\cu (fitsG g b) t.2.2.2.2/\Rgs t.2.1.length (q.drop i)/\t.1=((dJ (fitsG g b) k (t.2.1.map UInt64.toNat) ((List.range N).drop i) (q.drop i):Nat):Int)/\da (t.2.1.map UInt64.toNat) ((List.range N).drop i) (q.drop i)=da [] (List.range N) q/\t.2.2.2.1=ak (q.take i))
  (fun y=>y=ak q) (fun ⟨zi,cs,ii,xs,D⟩ J ⟨i,a0,a1,a2,a3,a4,a5,a6,a7,a8⟩ hJ=>by
   simp only at a0 a1 a2 a3 a4 a5 a6 a7 a8 hJ
   subst a0 a6 a8
   unfold aR_l2
   simp only
   by_cases hi:i<N
   ·rw [if_pos (by omega),show bb (N:Int)=some N from I]
    have hiq:i<q.length:=by omega
    rw [List.drop_eq_getElem_cons hiq] at a5 a7
    rw [dY hi] at a7
    obtain ⟨r1,r2⟩:=a5
    have hll:=fun j (hj:j<=cs.length)=>lU (cs:=cs) (x:=i) (j:=j) (by omega) hj
    have hidx:dJ (fitsG g b) k (cs.map UInt64.toNat) ((List.range N).drop i) (q.drop i)=aG (fun j=>aK (fitsG g b) (bB (cs.map UInt64.toNat) i j) ((List.range N).drop (i+1)) k) (List.range q[i])+dJ (fitsG g b) k (bB (cs.map UInt64.toNat) i q[i]) ((List.range N).drop (i+1)) (q.drop (i+1)):=by
     rw [List.drop_eq_getElem_cons hiq,dY hi]; rfl
    have hlast:dJ (fitsG g b) k (bB (cs.map UInt64.toNat) i q[i]) ((List.range N).drop (i+1)) (q.drop (i+1))<aK (fitsG g b) (bB (cs.map UInt64.toNat) i q[i]) ((List.range N).drop (i+1)) k:=by
     refine fR _ (by rw [List.length_drop,List.length_drop,List.length_range,hql]) ?_ ?_
     ·rw [<- cy _ _ _ (by omega),List.length_map,hll _ r1]; exact r2
     ·have:da (bB (cs.map UInt64.toNat) i q[i]) ((List.range N).drop (i+1)) (q.drop (i+1))=da [] (List.range N) q:=a7
      rw [this]; exact P.end1 h2
    have hcle:=fun c=>eJ F c (i+1)
    rw [hidx]
    generalize hS:(fun j=>aK (fitsG g b) (bB (cs.map UInt64.toNat) i j) ((List.range N).drop (i+1)) k)=S at *
    have hSv:∀ j,aK (fitsG g b) (bB (cs.map UInt64.toNat) i j) ((List.range N).drop (i+1)) k=S j:=fun j=>congrFun hS j
    generalize hR:dJ (fitsG g b) k (bB (cs.map UInt64.toNat) i q[i]) ((List.range N).drop (i+1)) (q.drop (i+1))=R at *
    rw [hSv] at hlast
    have hbig:aG S (List.range q[i])<=68719476736:=by
     have h3:=gm (fitsG g b) i (cs.map UInt64.toNat) ((List.range N).drop (i+1)) k
     rw [<- dY hi,hS] at h3
     have h4:=eJ F (cs.map UInt64.toNat) i
     have h5:=cw (f:=S) (show q[i]<=(cs.map UInt64.toNat).length+1 by rw [List.length_map]; omega)
     omega
    have hS1:∀ j,S j<=68719476736:=fun j=>by rw [<- hSv]; exact hcle _
    simp only [aa]
    rw [aQ (by omega) (by omega)]
    simp only [aa]
    rw [show bb ((i:Int)+1)=some (i+1) from I]
    simp only [aa]
    obtain ⟨y,e,D', rfl,hD'⟩:=am (B:=aR_l1 FU (i:Int) ((N:Int),ft) N (i+1) b (ak (q.take i))) (fun t:Int×Lb Ua×Int×gE=>q[i]-t.2.2.1.toNat) (fun t=>t.2.1=cs/\∃ j:Nat,t.2.2.1=(j:Int)/\j<=q[i]/\t.1=((aG S (List.range q[i])+R:Nat):Int)-((aG S (List.range j):Nat):Int)/\cu (fitsG g b) t.2.2.2)
     (fun y=>∃ D', y=(((R:Nat):Int),gi cs i q[i],ak (q.take (i+1)),(D', ((S q[i]:Nat):Int)))/\cu (fitsG g b) D') (fun ⟨t1,t2,t3,t4⟩ J ⟨b0,j,b1,b2,b3,b4⟩ hJ=>by
      simp only at b0 b1 b3 b4 hJ
      subst b0 b1 b3
      unfold aR_l1
      simp only
      rw [eG t2 i j (by omega) (by omega)]
      simp only [aa]
      obtain ⟨D', e1,e2⟩:=gD F hft b4 (gZ h2 t2 i j hi a3) (by rw [hll _ (by omega)]; split<;>omega) (i:=i+1) hi
      rw [e1,cy _ _ _ (by omega),hSv]
      simp only [aa]
      have hs:aG S (List.range (j+1))=aG S (List.range j)+S j:=by rw [List.range_succ,dz]; rfl
      by_cases hj:j<q[i]
      ·have hmono:=cw (f:=S) (show j+1<=q[i] by omega)
       have:=hS1 q[i]
       have:=hS1 j
       rw [if_neg (by omega),aQ (by omega) (by omega)]
       simp only [aa]
       rw [aQ (by omega) (by omega)]
       simp only [aa]
       exact hJ _ ⟨rfl,j+1,by simp,hj,by simp only; omega,e2⟩ (by simp only; omega)
      ·obtain rfl:j=q[i]:=by omega
       rw [if_pos (by omega),dV _ _ (by simp [aq]; omega)]
       simp only [aa]
       refine ⟨_,I,D', ?_,e2⟩
       rw [show (((aG S (List.range q[i])+R:Nat):Int)-((aG S (List.range q[i]):Nat):Int))=(R:Int) by omega,show ak (q.take (i+1))=ak (q.take i)++[((q[i]:Nat):Int)] by
        rw [List.take_succ_eq_append_getElem hiq]; unfold ak; rw [List.map_append]; rfl]) FU (((aG S (List.range q[i])+R:Nat):Int),cs,0,D) ⟨rfl,0,rfl,Nat.zero_le _,by simp [aG],a4⟩ (av (by have:=P.lt _ (List.getElem_mem hiq); have:=F.k4; simp only; omega))
    rw [e]
    simp only [aa]
    refine hJ _ ⟨i+1,by simp,hi,by simp only; rw [hll _ r1]; split<;>omega,gZ h2 cs i _ hi a3,hD', ?_,?_,?_,rfl⟩ (by simp only; omega)
    ·simp only
     rw [hll _ r1]; exact r2
    ·simp only
     rw [cy _ _ _ (by omega),hR]
    ·simp only
     rw [cy _ _ _ (by omega)]
     exact a7
   ·rw [if_neg (by omega)]
    exact ⟨_,rfl,by rw [List.take_of_length_le (by omega)]⟩) FU ((T:Int),[],0,[],D0) ⟨0,rfl,Nat.zero_le _,Nat.le_refl _,by simp,hD0,by simpa using P.rgs,by simp [hTT],by simp,by simp [ak]⟩ (av (by simp only; omega))
 rw [e]
 rfl
end
end
section
def eg (g:Tc) (i:Nat):Nat×Nat:=((g.fo[i]?.getD (0,0)).1.toNat,(g.fo[i]?.getD (0,0)).2.toNat)
def egs (g:Tc) (t:Lb Nat):Lb (Nat×Nat):=t.map (eg g)
section
variable {g:Tc} {N:Nat}
theorem iw (h:Valid g) {i:Nat} (hi:i<g.fo.length):g.fo[i]? = some (((eg g i).1:Int),((eg g i).2:Int))/\(eg g i).1<(eg g i).2/\((eg g i).2:Int)<g.fN:=by
 have h1:=h.ok _ (List.getElem_mem hi)
 unfold eg
 rw [geE hi]
 simp only [Option.getD_some]
 refine ⟨?_,by omega,by omega⟩
 rw [show ((g.fo[i].1.toNat:Nat):Int)=g.fo[i].1 by omega,show ((g.fo[i].2.toNat:Nat):Int)=g.fo[i].2 by omega]
theorem qS (h:Valid g) (hN:g.fN=(N:Int)) {t:Lb Nat} (ht:∀ i∈t,i<g.fo.length):∀ e∈egs g t,e.1<N/\e.2<N:=fun e he=>by
 obtain ⟨i,hi,rfl⟩:=List.mem_map.1 he
 have:=(iw h (ht i hi)).2
 omega
def Shut (E:Lb (Nat×Nat)) (u:Ua):Prop:=∀ e∈E,bit u e.1=bit u e.2
theorem Shut.cn {E:Lb (Nat×Nat)} {u:Ua} (h:Shut E u) {x y:Nat} (hc:Cn E x y):bit u x=bit u y:=by
 induction hc with
 | refl=>rfl
 | @step b c _ e ih=>
  rcases e with e | e
  ·exact ih.trans (h _ e)
  ·exact ih.trans (h _ e).symm
theorem mI (h:Valid g) (hN:g.fN=(N:Int)) (hN9:N<=9) {t:Lb Nat} (ht:∀ i∈t,i<g.fo.length) (hl:t.length<=1000) {x:Nat} {u:Ua} (hu:∀ y,bit u y=true->Cn (egs g t) x y) :
  ∃ v,ah (ak_l1 FU (ak t) g) FU (u,0)=some v/\(∀ y,bit u y=true->bit v y=true)/\(∀ y,bit v y=true->Cn (egs g t) x y)/\(v=u->Shut (egs g t) u):=by
 obtain ⟨v,e,v1,v2,v3⟩:=am (B:=ak_l1 FU (ak t) g) (fun s:Ua×Nat=>t.length-s.2) (fun s=>s.2<=t.length/\(∀ y,bit u y=true->bit s.1 y=true)/\(∀ y,bit s.1 y=true->Cn (egs g t) x y)/\∀ e∈(egs g t).take s.2,bit u e.1=true∨bit u e.2=true->bit s.1 e.1=true/\bit s.1 e.2=true)
  (fun v=>(∀ y,bit u y=true->bit v y=true)/\(∀ y,bit v y=true->Cn (egs g t) x y)/\∀ e∈egs g t,bit u e.1=true∨bit u e.2=true->bit v e.1=true/\bit v e.2=true) (fun ⟨w,i⟩ J ⟨a1,a2,a3,a4⟩ hJ=>by
  simp only at a1 a2 a3 a4 hJ
  unfold ak_l1
  simp only [aq]
  by_cases hi:i<t.length
  ·have hti:=ht _ (List.getElem_mem hi)
   obtain ⟨g1,g2,g3⟩:=iw h hti
   have hmem:eg g t[i]∈egs g t:=List.mem_map.2 ⟨_,List.getElem_mem hi,I⟩
   have htk:(egs g t).take (i+1)=(egs g t).take i++[eg g t[i]]:=by
    unfold egs
    rw [List.take_succ_eq_append_getElem (by rw [List.length_map]; exact hi),List.getElem_map]
   rw [if_pos hi,ca,geE hi]
   simp only [Option.map_some,aa]
   rw [aF,g1]
   simp only [aa]
   generalize eg g t[i]=e at *
   rw [iV FU w (by omega),iV FU w (by omega),ol FU (by omega),ol FU (by omega)]
   simp only [aa,jn]
   have bone:∀ k:Nat,k<64->∀ y,bit (shlU 1 k) y=true↔y=k:=fun k hk y=>by rw [aS hk,decide_eq_true_eq]
   have add:(bit w e.1=true∨bit w e.2=true)->∃ r,J ((w|||shlU 1 e.1)|||shlU 1 e.2,i+1)=some r/\_:=fun hor=>hJ _ ⟨hi,fun y hy=>by simp only [aR,a2 y hy,Bool.true_or],fun y hy=>by
     simp only [aR,Bool.or_eq_true] at hy
     rw [bone _ (by omega),bone _ (by omega)] at hy
     have c1:Cn (egs g t) x e.1:=hor.elim (a3 _) fun h=>(a3 _ h).trans (Cn.edge hmem).symm
     have c2:Cn (egs g t) x e.2:=c1.trans (Cn.edge hmem)
     rcases hy with (hy | rfl) | rfl
     ·exact a3 y hy
     ·exact c1
     ·exact c2,fun e' he' hor' =>by
     rw [htk] at he'
     simp only [aR,Bool.or_eq_true]
     rcases List.mem_append.1 he' with he' | he'
     ·obtain ⟨k1,k2⟩:=a4 e' he' hor'
      exact ⟨.inl (.inl k1),.inl (.inl k2)⟩
     ·rw [List.mem_singleton.1 he', bone _ (by omega),bone _ (by omega),bone _ (by omega),bone _ (by omega)]
      exact ⟨.inl (.inr rfl),.inr rfl⟩⟩ (by simp only; omega)
   have skip:¬ (bit w e.1=true∨bit w e.2=true)->∃ r,J (w,i+1)=some r/\_:=fun hor=>hJ _ ⟨hi,a2,a3,fun e' he' hor' =>by
     rw [htk] at he'
     rcases List.mem_append.1 he' with he' | he'
     ·exact a4 e' he' hor'
     ·rw [List.mem_singleton.1 he'] at hor'
      exact absurd (hor'.imp (a2 _) (a2 _)) hor⟩ (by simp only; omega)
   by_cases b1:bit w e.1=true
   ·rw [if_pos b1]
    exact add (.inl b1)
   ·rw [if_neg b1]
    by_cases b2:bit w e.2=true
    ·rw [if_pos b2]
     exact add (.inr b2)
    ·rw [if_neg b2]
     exact skip fun h=>h.elim b1 b2
  ·rw [if_neg hi]
   refine ⟨_,I,a2,a3,?_⟩
   rwa [List.take_of_length_le (by unfold egs; rw [List.length_map]; omega)] at a4) FU (u,0) ⟨Nat.zero_le _,fun y hy=>hy,hu,by simp⟩ (av (by simp only; omega))
 refine ⟨v,e,v1,v2,fun hv d hd=>?_⟩
 subst hv
 have:=v3 d hd
 cases h1:bit v d.1 with
 | true=>rw [(this (.inl h1)).2]
 | false=>
  cases h2:bit v d.2 with
  | false=>rfl
  | true=>rw [(this (.inr h2)).1] at h1; cases h1
theorem oo (h:Valid g) (hN:g.fN=(N:Int)) (hN9:N<=9) {t:Lb Nat} (ht:∀ i∈t,i<g.fo.length) (hl:t.length<=1000) {x:Nat} (hx:x<N) :
  ∃ v,ak_p FU g (ak t) (x:Int)=some v/\∀ y,bit v y=true↔Cn (egs g t) x y:=by
 unfold ak_p
 rw [ol FU (by omega)]
 simp only [aa]
 have h0:∀ y,bit (shlU 1 x) y=true↔y=x:=fun y=>by rw [aS (by omega),decide_eq_true_eq]
 obtain ⟨v,e,v1,v2,v3⟩:=am (B:=ak_l2 FU (ak t) g) (fun s:Ua×Nat=>64-s.2) (fun s=>s.2<=64/\bit s.1 x=true/\(∀ y,bit s.1 y=true->Cn (egs g t) x y)/\(s.2<(ao s.1).length∨Shut (egs g t) s.1))
  (fun v=>bit v x=true/\(∀ y,bit v y=true->Cn (egs g t) x y)/\Shut (egs g t) v) (fun ⟨u,i⟩ J ⟨a1,a2,a3,a4⟩ hJ=>by
  simp only at a1 a2 a3 a4 hJ
  unfold ak_l2
  simp only
  by_cases hi:i<64
  ·rw [if_pos hi]
   obtain ⟨w,w0,w1,w2,w3⟩:=mI h hN hN9 ht hl a3
   rw [w0]
   simp only [aa]
   refine hJ _ ⟨hi,w1 x a2,w2,?_⟩ (by simp only; omega)
   simp only
   by_cases hc:Shut (egs g t) u
   ·right
    have:w=u:=bq fun y=>Bool.eq_iff_iff.2 ⟨fun hy=>by rw [<- hc.cn (w2 y hy)]; exact a2,w1 y⟩
    rw [this]; exact hc
   ·left
    have hne:∃ k,bit w k=true/\bit u k=false:=Classical.byContradiction fun hno=>hc (w3 (bq fun k=>by
     cases hq:bit w k with
     | false=>
      cases hp:bit u k with
      | false=>rfl
      | true=>rw [w1 k hp] at hq; cases hq
     | true=>
      cases hp:bit u k with
      | true=>rfl
      | false=>exact absurd ⟨k,hq,hp⟩ hno))
    have:=fK w1 hne
    have:=a4.resolve_right hc
    omega
  ·rw [if_neg hi]
   refine ⟨_,I,a2,a3,a4.resolve_left fun h=>?_⟩
   have:=bG u
   omega) FU (shlU 1 x,0) ⟨Nat.zero_le _,(h0 x).2 I,fun y hy=>by rw [(h0 y).1 hy]; exact .refl _,.inl (by
    simp only
    exact List.length_pos_of_mem (aT.2 ((h0 x).2 rfl)))⟩ (av (by simp only; omega))
 rw [e]
 exact ⟨v,rfl,fun y=>⟨v2 y,fun hc=>by rw [<- v3.cn hc]; exact v1⟩⟩
def ch:Nat->Nat->Nat
 | _,0=>1
 | 0,_+1=>0
 | r+1,m+1=>ch r m+ch r (m+1)
theorem ch_mono:∀ r m,ch r m<=ch (r+1) m
 | r,0=>by cases r<;>exact Nat.le_refl _
 | r,m+1=>Nat.le_add_left ..
theorem sN {m:Nat}:∀ {a b:Nat},a<=b->ch a m<=ch b m:=fun {a b} h=>by
 induction b with
 | zero=>
  obtain rfl:a=0:=by omega
  exact Nat.le_refl _
 | succ b ih=>
  rcases Nat.lt_or_ge a (b+1) with h1 | h1
  ·exact Nat.le_trans (ih (by omega)) (ch_mono b m)
  ·obtain rfl:a=b+1:=by omega
   exact Nat.le_refl _
theorem qR:∀ r m,ch r m*3^r<=4^r*3^m
 | r,0=>by
  have:ch r 0=1:=by cases r<;>rfl
  rw [this,Nat.one_mul,Nat.pow_zero,Nat.mul_one]
  exact Nat.pow_le_pow_left (by decide) r
 | 0,m+1=>by rw [ch,Nat.zero_mul]; exact Nat.zero_le _
 | r+1,m+1=>by
  have h1:=qR r m
  have h2:=qR r (m+1)
  rw [ch,Nat.pow_succ 3 r,Nat.pow_succ 4 r]
  rw [Nat.pow_succ 3 m] at h2 ⊢
  rw [<- Nat.mul_assoc] at h2
  have e1:(ch r m+ch r (m+1))*(3^r*3)=(ch r m*3^r+ch r (m+1)*3^r)*3:=by
   rw [<- Nat.mul_assoc,Nat.add_mul]
  have e2:4^r*4*(3^m*3)=(4^r*3^m)*12:=by
   rw [Nat.mul_assoc (4^r),<- Nat.mul_assoc 4,Nat.mul_comm 4 (3^m),Nat.mul_assoc (3^m),Nat.mul_assoc (4^r)]
  rw [e1,e2]
  generalize 4^r*3^m=A at *
  generalize ch r m*3^r=B at *
  generalize ch r (m+1)*3^r=C at *
  omega
theorem nC {r m:Nat} (hr:r<=36) (hm:m<=8):ch r m<=4294967296:=by
 have h1:=sN (m:=m) hr
 have h2:=qR 36 m
 have h3:(3:Nat)^m<=3^8:=Nat.pow_le_pow_right (by decide) hm
 have h4:4^36*3^m<=4^36*3^8:=Nat.mul_le_mul_left _ h3
 refine Nat.le_trans h1 (Classical.byContradiction fun hc=>?_)
 have h5:4294967296*3^36<=ch 36 m*3^36:=Nat.mul_le_mul_right _ (by omega)
 have h6:(4:Nat)^36*3^8<4294967296*3^36:=by decide
 omega
def cO (N:Nat):Ua:=shlU 1 N-1
theorem kM {N:Nat} (h:N<=9):ao (cO N)=List.range N:=by
 have:=iI N (by omega) 0 (by omega)
 rw [List.drop_zero,shl0] at this
 exact this
theorem eS {N:Nat} (h:N<=9) (i:Nat):bit (cO N) i=true↔i<N:=by rw [<- aT,kM h,List.mem_range]
theorem kD {N:Nat} (h:N<=9):cS (N:Int) (cO N):=fun i hi=>by rw [eS h] at hi; omega
theorem size_ok {N:Nat} (h:N<=9):aN_p FU (cO N)=some (N:Int):=by
 unfold aN_p
 obtain ⟨r,e,rfl⟩:=am (B:=aN_l1 FU (cO N)) (fun s:Int×Nat=>64-s.2) (fun s=>s.2<=64/\s.1=(((List.range s.2).filter (bit (cO N) ·)).length:Int)) (fun r=>r=((ao (cO N)).length:Int)) (fun ⟨z,i⟩ J ⟨a1,a2⟩ hJ=>by
  simp only at a1 a2 hJ
  subst a2
  unfold aN_l1
  simp only
  by_cases hi:i<64
  ·rw [if_pos hi,iV FU _ (by omega)]
   simp only [aa]
   have hle:=List.length_filter_le (bit (cO N) ·) (List.range i)
   rw [List.length_range] at hle
   by_cases hb:bit (cO N) i=true
   ·rw [if_pos hb,aQ (by omega) (by omega)]
    simp only [aa]
    refine hJ _ ⟨hi,?_⟩ (by simp only; omega)
    simp only
    rw [List.range_succ,List.filter_append,List.filter_cons,if_pos hb,List.length_append]
    simp
   ·rw [if_neg hb]
    refine hJ _ ⟨hi,?_⟩ (by simp only; omega)
    simp only
    rw [List.range_succ,List.filter_append,List.filter_cons,if_neg hb]
    simp
  ·rw [if_neg hi]
   obtain rfl:i=64:=by omega
   exact ⟨_,rfl,rfl⟩) FU (0,0) ⟨Nat.zero_le _,rfl⟩ (av (by simp only; omega))
 rw [e,kM h,List.length_range]
 rfl
def st (t:Lb Nat):Nat:=match t.getLast? with | none=>0 | some i=>i+1
theorem lO (t:Lb Nat) (z:Nat):st (t++[z])=z+1:=by unfold st; rw [List.getLast?_append]; rfl
structure TreeOk (g:Tc) (N:Nat) (t:List Nat):Prop where
 len:t.length+1=N
 lt:∀ i∈t,i<g.fo.length
 acyc:Acyc (egs g t)
def ju (g:Tc) (t:Lb Nat) (z:Nat):Prop:=∀ i,i<z->Cn (egs g t) (eg g i).1 (eg g i).2
theorem way_cn (h:Valid g) {t:Lb Nat} (hg:ju g t g.fo.length) {s:Ua} {x m y:Nat} (hw:Way g s x m y):Cn (egs g t) x y:=by
 induction hw with
 | here=>exact .refl _
 | @on k a b hw ha hb ih=>
  refine ih.trans ?_
  have key:∀ a b:Nat,((a:Int),(b:Int))∈g.fo->Cn (egs g t) a b:=fun a b hm=>by
   obtain ⟨i,hi,e⟩:=List.getElem_of_mem hm
   have h1:=(iw h hi).1
   rw [geE hi,e,Option.some.injEq,Prod.mk.injEq] at h1
   have h2:=hg i hi
   rwa [show (eg g i).1=a by omega,show (eg g i).2=b by omega] at h2
  rcases ha with ha | ha
  ·exact key _ _ ha
  ·exact (key _ _ ha).symm
theorem ph {E:Lb (Nat×Nat)}:∀ {n:Nat},(∀ x,x<n->Cn E x 0)->cntR E n<=1
 | 0,_=>Nat.zero_le _
 | n+1,h=>by
  have ih:=ph (E:=E) (n:=n) fun x hx=>h x (by omega)
  simp only [cntR]
  cases n with
  | zero=>simp only [cntR]; split<;>omega
  | succ n=>
   rw [if_neg fun hr=>hr 0 (by omega) (h (n+1) (by omega))]
   exact ih
theorem oU (h:Valid g) (hN:g.fN=(N:Int)) (hN1:1<=N) (hN9:N<=9) (hE:g.fo.length<=36) (hj:Joined g (cO N)):∀ (f:Nat) (t:Lb Nat),t.length+1<=N->N<=t.length+f->(∀ i∈t,i<g.fo.length)->Acyc (egs g t)->st t<=g.fo.length ->
  ∃ R:Lb (Lb Nat),aN FU f g (cO N) (ak t)=some (R.map ak)/\R.length<=ch (g.fo.length-st t) (N-1-t.length)/\(∀ T∈R,TreeOk g N T)/\(ju g t (st t)->R≠[])
 | 0,t,h1,h2,_,_,_=>by omega
 | f+1,t,h1,h2,h3,h4,h5=>by
  show ∃ R:Lb (Lb Nat),bg FU (aN FU f) g (cO N) (ak t)=_/\_
  unfold bg
  rw [size_ok hN9]
  simp only [aa]
  rw [aQ (by omega) (by omega)]
  simp only [aa]
  by_cases hlen:t.length+1=N
  ·rw [if_pos (by rw [aq]; omega),dV [] _ (by simp only [leN,aq]; omega)]
   simp only [aa,List.nil_append]
   refine ⟨[t],rfl,?_,fun T hT=>?_,by simp⟩
   ·rw [show N-1-t.length=0 by omega]
    cases g.fo.length-st t<;>exact Nat.le_refl _
   ·rw [List.mem_singleton.1 hT]
    exact ⟨hlen,h3,h4⟩
  ·rw [if_neg (by rw [aq]; omega)]
   obtain ⟨m,hm⟩:∃ m,N-1-t.length=m+1:=⟨N-2-t.length,by omega⟩
   rw [hm]
   obtain ⟨xs,e,R,rfl,r1,r2,r3⟩:=am (B:=bf_l1 (aN FU f) FU g (cO N) (ak t)) (fun s:Int×Lb (Lb Int)=>g.fo.length-s.1.toNat) (fun s=>∃ (z:Nat) (R:Lb (Lb Nat)),s.1=(z:Int)/\s.2=R.map ak/\st t<=z/\z<=g.fo.length/\R.length+ch (g.fo.length-z) (m+1)<=ch (g.fo.length-st t) (m+1)/\(∀ T∈R,TreeOk g N T)/\(ju g t (st t)->R≠[]∨ju g t z))
    (fun y=>∃ R:Lb (Lb Nat),y=R.map ak/\R.length<=ch (g.fo.length-st t) (m+1)/\(∀ T∈R,TreeOk g N T)/\(ju g t (st t)->R≠[])) (fun ⟨zi,xs⟩ J ⟨z,R,a0,a1,a2,a3,a4,a5,a6⟩ hJ=>by
    simp only at a0 a1 hJ
    subst a0 a1
    unfold bf_l1
    simp only
    by_cases hz:z<g.fo.length
    ·obtain ⟨g1,g2,g3⟩:=iw h hz
     rw [if_pos (by omega)]
     have hin:bG_p FU g (cO N) (z:Int)=some true:=by
      unfold bG_p
      rw [if_pos (by omega),if_pos (by omega),aF,g1]
      simp only [aa]
      rw [iV FU _ (by omega),(eS hN9 _).2 (by omega)]
      simp only [aa]
      rw [if_pos trivial,iV FU _ (by omega),(eS hN9 _).2 (by omega)]
      rfl
     rw [hin]
     simp only [aa]
     rw [if_pos trivial,aF,g1]
     simp only [aa]
     obtain ⟨v,v1,v2⟩:=oo h hN hN9 h3 (by omega) (x:=(eg g z).1) (by omega)
     rw [v1]
     simp only [aa]
     rw [iV FU _ (by omega)]
     simp only [aa]
     obtain ⟨d,hd⟩:∃ d,g.fo.length-z=d+1:=⟨g.fo.length-z-1,by omega⟩
     have hd' : g.fo.length-(z+1)=d:=by omega
     rw [hd,ch] at a4
     by_cases hb:bit v (eg g z).2=true
     ·rw [if_pos hb,aQ (by omega) (by omega)]
      simp only [aa]
      refine hJ _ ⟨z+1,R,by simp,rfl,by omega,hz,by rw [hd']; omega,a5,fun hg=>(a6 hg).imp id fun hg2 i hi=>?_⟩ (by simp only; omega)
      by_cases e:i=z
      ·subst e; exact (v2 _).1 hb
      ·exact hg2 i (by omega)
     ·rw [if_neg hb,dV [] _ (by simp only [leN,aq]; omega)]
      simp only [aa,List.nil_append]
      rw [dV _ _ (by simp only [List.length_singleton,aq]; omega)]
      simp only [aa]
      have e1:ak t++[((z:Nat):Int)]=ak (t++[z]):=by unfold ak; rw [List.map_append]; rfl
      have e2:egs g (t++[z])=egs g t++[eg g z]:=by unfold egs; rw [List.map_append]; rfl
      rw [e1]
      obtain ⟨R', k1,k2,k3,k4⟩:=oU h hN hN1 hN9 hE hj f (t++[z]) (by rw [List.length_append,List.length_singleton]; omega) (by rw [List.length_append,List.length_singleton]; omega) (fun i hi=>(List.mem_append.1 hi).elim (h3 i) fun hi=>by rw [List.mem_singleton.1 hi]; exact hz) (by rw [e2]; exact .snoc h4 fun hc=>hb ((v2 _).2 hc)) (by rw [lO]; exact hz)
      rw [k1]
      simp only [aa]
      rw [lO,hd', List.length_append,List.length_singleton,show N-1-(t.length+1)=m by omega] at k2
      have hsm:=nC (r:=g.fo.length-st t) (m:=m+1) (by omega) (by omega)
      rw [nW (by rw [List.length_map,List.length_map]; omega)]
      simp only [aa]
      rw [aQ (by omega) (by omega)]
      simp only [aa]
      refine hJ _ ⟨z+1,R++R', by simp,by simp,by omega,hz,by rw [hd', List.length_append]; omega,fun T hT=>(List.mem_append.1 hT).elim (a5 T) (k3 T),fun hg=>.inl ?_⟩ (by simp only; omega)
      rcases a6 hg with h6 | h6
      ·simp [h6]
      ·have:R'≠[]:=k4 fun i hi=>by
        rw [lO] at hi
        rw [e2]
        by_cases e:i=z
        ·subst e; exact Cn.edge (List.mem_append_right _ (List.mem_singleton.2 rfl))
        ·exact (h6 i (by omega)).mono fun x hx=>List.mem_append_left _ hx
       simp [this]
    ·rw [if_neg (by omega)]
     refine ⟨_,I,R,I,by omega,a5,fun hg=>(a6 hg).elim id fun hg2=>?_⟩
     exfalso
     have hze:z=g.fo.length:=by omega
     rw [hze] at hg2
     have hall:∀ x,x<N->Cn (egs g t) x 0:=fun x hx=>by
      obtain ⟨k,hk⟩:=hj.way ((eS hN9 x).2 hx) ((eS hN9 0).2 (by omega))
      exact way_cn h hg2 hk
     have c1:=ph hall
     have c2:=kc h4 (qS h hN h3)
     have c3:(egs g t).length=t.length:=List.length_map ..
     omega) FU ((st t:Int),[]) ⟨st t,[],rfl,rfl,Nat.le_refl _,h5,by simp,by simp,fun hg=>.inr hg⟩ (av (by simp only; omega))
   unfold jn
   simp only [aq]
   by_cases ht:0<t.length
   ·have hlast:t[t.length-1]? = t.getLast?:=by rw [List.getLast?_eq_getElem?]
    have hst:st t=t[t.length-1]+1:=by
     unfold st
     rw [<- hlast,geE (by omega)]
    rw [if_pos ht,ca,geE (by omega)]
    simp only [Option.map_some,aa]
    have:=h3 _ (List.getElem_mem (show t.length-1<t.length by omega))
    rw [aQ (by omega) (by omega)]
    simp only [aa]
    rw [show (((t[t.length-1]:Nat):Int)+1)=(st t:Int) by rw [hst]; simp,e]
    exact ⟨R,I,r1,r2,r3⟩
   ·have ht0:t=[]:=List.length_eq_zero_iff.1 (by omega)
    have hst:st t=0:=by rw [ht0]; rfl
    rw [if_neg ht]
    rw [hst] at e
    rw [show (0:Int)=((0:Nat):Int) from I,e]
    exact ⟨R,I,r1,r2,r3⟩
theorem pT (h:Valid g) (hN:g.fN=(N:Int)) (hN1:1<=N) (hN9:N<=9) (hE:g.fo.length<=36) (hj:Joined g (cO N)):∃ R:Lb (Lb Nat),bz_p FU g (cO N)=some (R.map ak)/\R≠[]/\R.length<=4294967296/\∀ T∈R,TreeOk g N T:=by
 obtain ⟨R,r1,r2,r3,r4⟩:=oU h hN hN1 hN9 hE hj FU [] (by simpa using hN1) (by have:=gd; simp only [leN]; omega) (by simp) .nil (Nat.zero_le _)
 unfold bz_p bf_p
 rw [show ([]:Lb Int)=ak [] from I,r1]
 exact ⟨R,rfl,r4 (fun i hi=>by simp [st] at hi),Nat.le_trans r2 (nC (by omega) (by simp only [leN]; omega)),r3⟩
end
end
section
section
variable {E:Lb (Nat×Nat)}
theorem qf:∀ {a b:Nat},a<=b->cntR E a<=cntR E b:=fun {a b} h=>by
 induction b with
 | zero=>
  obtain rfl:a=0:=by omega
  exact Nat.le_refl _
 | succ b ih=>
  rcases Nat.lt_or_ge a (b+1) with h1 | h1
  ·exact Nat.le_trans (ih (by omega)) (by simp only [cntR]; exact Nat.le_add_right ..)
  ·obtain rfl:a=b+1:=by omega
   exact Nat.le_refl _
theorem ic {r v:Nat} (h:cv E r) (hr:r<v):cntR E r<cntR E v:=by
 have h1:=qf (E:=E) (show r+1<=v by omega)
 simp only [cntR] at h1
 rw [if_pos h] at h1
 omega
theorem sR {r s:Nat} (h:cv E r) (h' : cv E s) (e:cntR E r=cntR E s):r=s:=by
 rcases Nat.lt_trichotomy r s with h1 | h1 | h1
 ·have:=ic h h1; omega
 ·exact h1
 ·have:=ic h' h1; omega
theorem mr:∀ {n d:Nat},d<cntR E n->∃ r,r<n/\cv E r/\cntR E r=d
 | 0,d,h=>by simp [cntR] at h
 | n+1,d,h=>by
  by_cases h1:d<cntR E n
  ·obtain ⟨r,r1,r2,r3⟩:=mr h1
   exact ⟨r,by omega,r2,r3⟩
  ·simp only [cntR] at h
   by_cases hr:cv E n
   ·rw [if_pos hr] at h
    exact ⟨n,by omega,hr,by omega⟩
   ·rw [if_neg hr] at h; omega
end
def dQ (u:Ua) (e:Nat×Nat):Bool:=bit u e.1&&bit u e.2
theorem insN_lt (l:Lb (Nat×Nat)) (u v:Ua) (h:∀ b,bit u b=true->bit v b=true) (e:Nat×Nat) (he:e∈l) (h1:dQ u e=false) (h2:dQ v e=true):(l.filter (dQ u)).length<(l.filter (dQ v)).length:=by
 have e1:l.filter (dQ u)=(l.filter (dQ v)).filter (dQ u):=by
  rw [List.filter_filter]
  apply List.filter_congr
  intro k _
  cases hu:dQ u k with
  | false=>simp
  | true=>
   unfold dQ at hu ⊢
   rw [Bool.and_eq_true] at hu
   rw [h _ hu.1,h _ hu.2]; rfl
 rw [e1]
 apply List.length_filter_lt_length_iff_exists.2
 exact ⟨e,List.mem_filter.2 ⟨he,h2⟩,by rw [h1]; simp⟩
theorem jl {u:Ua} {y:Nat} (hy:y<64) (hu:bit u y=false):(ao (u|||shlU 1 y)).length=(ao u).length+1:=by
 have hp:(ao (u|||shlU 1 y)).Perm (y::ao u):=by
  refine (List.perm_ext_iff_of_nodup ((aY _).imp fun h=>by omega) (List.nodup_cons.2 ⟨fun h=>(by rw [aT,hu] at h; cases h),(aY _).imp fun h=>by omega⟩)).2 fun i=>?_
  rw [aT,List.mem_cons,aT,aR,Bool.or_eq_true,aS hy,decide_eq_true_eq]
  exact Or.comm
 rw [hp.length_eq,leC]
section
variable {g:Tc} {N:Nat}
def LabU (N:Nat) (xs0:Lb Int) (c:Int) (u:Ua) (xs:Lb Int):Prop:=xs.length=N/\∀ i,i<N->xs[i]? = if bit u i=true then some c else xs0[i]?
theorem LabU.put {xs0 xs:Lb Int} {c:Int} {u:Ua} (h:LabU N xs0 c u xs) {y:Nat} (hy:y<N) (hN:N<=64):LabU N xs0 c (u|||shlU 1 y) (xs.set y c):=by
 refine ⟨by rw [List.length_set]; exact h.1,fun i hi=>?_⟩
 rw [List.getElem?_set,h.1,aR,aS (by omega)]
 by_cases e:y=i
 ·subst e; rw [if_pos rfl,if_pos hy,decide_eq_true rfl,Bool.or_true,if_pos rfl]
 ·rw [if_neg e,decide_eq_false (fun h=>e h.symm),Bool.or_false,h.2 i hi]
theorem qu (h:Valid g) (hN:g.fN=(N:Int)) (hN9:N<=9) {t:Lb Nat} (ht:∀ i∈t,i<g.fo.length) (hl:t.length<=1000) {xs0:Lb Int} (hx0:xs0.length=N) {c:Nat} (hc:∀ i,i<N->xs0[i]? ≠ some (c:Int)) {v:Nat} (hv:v<N) :
  ∃ xs u,ah (ac_l1 FU (ak t) g (c:Int)) FU (0,xs0.set v (c:Int))=some xs/\LabU N xs0 (c:Int) u xs/\∀ y,y<N->(bit u y=true↔Cn (egs g t) v y):=by
 have hEl:(egs g t).length=t.length:=List.length_map ..
 obtain ⟨xs,e,u,u1,u2,u3,u4⟩:=am (B:=ac_l1 FU (ak t) g (c:Int)) (fun s:Int×Lb Int=>t.length*t.length-s.1.toNat) (fun s=>∃ (z:Nat) (u:Ua),s.1=(z:Int)/\LabU N xs0 (c:Int) u s.2/\bit u v=true/\(∀ y,bit u y=true->Cn (egs g t) v y)/\(ao u).length<=((egs g t).filter (dQ u)).length+1/\z<=t.length*t.length/\(t.length=0∨∃ r p,z=r*t.length+p/\p<t.length/\(Shut (egs g t) u∨r+1<=(ao u).length/\(r+2<=(ao u).length∨∀ e∈(egs g t).take p,bit u e.1=bit u e.2))))
  (fun xs=>∃ u,LabU N xs0 (c:Int) u xs/\bit u v=true/\(∀ y,bit u y=true->Cn (egs g t) v y)/\Shut (egs g t) u) (fun ⟨zi,xs⟩ J ⟨z,u,a0,a1,a2,a3,a4,a5,a6⟩ hJ=>by
  simp only at a0 a1 hJ
  subst a0
  unfold ac_l1
  simp only [aq]
  have hsq:t.length*t.length<=1000*1000:=Nat.mul_le_mul hl hl
  rw [<- Int.natCast_mul,aQ (by omega) (by omega)]
  simp only [aa]
  by_cases hz:z<t.length*t.length
  ·rw [if_pos (by omega)]
   have htl:0<t.length:=by
    rcases Nat.eq_zero_or_pos t.length with h0 | h0
    ·rw [h0] at hz; omega
    ·exact h0
   obtain ⟨r,p,rfl,hp,a7⟩:=a6.resolve_left (by omega)
   have hmod:(r*t.length+p)%t.length=p:=by rw [Nat.mul_comm,Nat.mul_add_mod,Nat.mod_eq_of_lt hp]
   rw [cC (by omega),show (((r*t.length+p:Nat):Int).tmod ((t.length:Nat):Int))=((p:Nat):Int) by rw [<- Int.ofNat_tmod,hmod]]
   simp only [aa]
   rw [aF,ca,geE hp]
   simp only [Option.map_some,aa]
   obtain ⟨g1,g2,g3⟩:=iw h (ht _ (List.getElem_mem hp))
   rw [aF,g1]
   simp only [aa]
   have hmem:eg g t[p]∈egs g t:=List.mem_map.2 ⟨_,List.getElem_mem hp,I⟩
   have htk:(egs g t).take (p+1)=(egs g t).take p++[eg g t[p]]:=by
    unfold egs
    rw [List.take_succ_eq_append_getElem (by rw [List.length_map]; exact hp),List.getElem_map]
   generalize eg g t[p]=e at *
   obtain ⟨e1,e2⟩:=e
   simp only at g2 g3 ⊢
   have i1:e1<xs.length:=by rw [a1.1]; omega
   have i2:e2<xs.length:=by rw [a1.1]; omega
   have val:∀ y,y<N->∀ (hy:y<xs.length),(xs[y]=(c:Int)↔bit u y=true):=fun y hy hy' =>by
    have h1:=a1.2 y hy
    rw [geE hy'] at h1
    by_cases hb:bit u y=true
    ·rw [if_pos hb,Option.some.injEq] at h1
     exact ⟨fun _=>hb,fun _=>h1⟩
    ·rw [if_neg hb] at h1
     exact ⟨fun hh=>absurd (by rw [<- h1,hh]) (hc y hy),fun hh=>absurd hh hb⟩
   have nextz:((r*t.length+p:Nat):Int)+1=((r*t.length+p+1:Nat):Int):=rfl
   -- the next state
   have same:bit u e1=bit u e2->∀ xs', LabU N xs0 (c:Int) u xs'->∃ r', J (((r*t.length+p+1:Nat):Int),xs')=some r' /\_:=fun hres xs' hx' =>hJ _ ⟨_,u,I,hx', a2,a3,a4,hz,.inr (by
     by_cases hq:p+1<t.length
     ·refine ⟨r,p+1,by omega,hq,a7.imp id fun ⟨b1,b2⟩=>⟨b1,b2.imp id fun b3 d hd=>?_⟩⟩
      rw [htk] at hd
      rcases List.mem_append.1 hd with hd | hd
      ·exact b3 d hd
      ·rw [List.mem_singleton.1 hd]; exact hres
     ·refine ⟨r+1,0,by rw [Nat.succ_mul]; omega,htl,?_⟩
      rcases a7 with b1 | ⟨b1,b2 | b3⟩
      ·exact .inl b1
      ·exact .inr ⟨b2,.inr (by simp)⟩
      ·refine .inl fun d hd=>?_
       have hall:(egs g t).take (p+1)=egs g t:=List.take_of_length_le (by omega)
       rw [<- hall,htk] at hd
       rcases List.mem_append.1 hd with hd | hd
       ·exact b3 d hd
       ·rw [List.mem_singleton.1 hd]; exact hres)⟩ (by simp only [Int.toNat_natCast]; omega)
   have diff:∀ y,y<N->bit u y=false->Cn (egs g t) v y->(∀ w,bit (u|||shlU 1 y) w=true->True)->dQ u (e1,e2)=false->dQ (u|||shlU 1 y) (e1,e2)=true->∃ r', J (((r*t.length+p+1:Nat):Int),xs.set y (c:Int))=some r' /\_:=fun y hy hyu hcn _ n1 n2=>hJ _ ⟨_,u|||shlU 1 y,rfl,a1.put hy (by omega),by simp only [aR,a2,Bool.true_or],fun w hw=>by
     rw [aR,Bool.or_eq_true,aS (by omega),decide_eq_true_eq] at hw
     rcases hw with hw | rfl
     ·exact a3 w hw
     ·exact hcn,by
     have k1:=jl (u:=u) (y:=y) (by omega) hyu
     have k2:=insN_lt (egs g t) u (u|||shlU 1 y) (fun w hw=>by rw [aR,hw]; rfl) (e1,e2) hmem n1 n2
     omega,hz,.inr (by
     have k1:=jl (u:=u) (y:=y) (by omega) hyu
     have nsh:¬ Shut (egs g t) u:=fun hs=>by
      have:=hs _ hmem
      unfold dQ at n1 n2
      simp only at this n1 n2
      cases hb1:bit u e1 with
      | true=>rw [hb1] at this; rw [hb1,<- this] at n1; cases n1
      | false=>
       rw [hb1] at this
       rw [aR,aR,hb1,<- this,aS (by omega),aS (by omega),Bool.false_or,Bool.false_or,Bool.and_eq_true,decide_eq_true_eq,decide_eq_true_eq] at n2
       omega
     have a7' :=a7.resolve_left nsh
     by_cases hq:p+1<t.length
     ·exact ⟨r,p+1,by omega,hq,.inr ⟨by omega,.inl (by omega)⟩⟩
     ·exact ⟨r+1,0,by rw [Nat.succ_mul]; omega,htl,.inr ⟨by omega,.inr (by simp)⟩⟩)⟩ (by simp only [Int.toNat_natCast]; omega)
   rw [aF,geE i1]
   simp only [aa,Int.toNat_natCast]
   by_cases b1:bit u e1=true
   ·rw [if_pos ((val e1 (by omega) i1).2 b1),bc _ i1]
    simp only [aa]
    have hset:xs.set e1 (c:Int)=xs:=by
     rw [<- (val e1 (by omega) i1).2 b1,List.set_getElem_self]
    rw [hset,aF,geE i2]
    simp only [aa]
    rw [bc _ i2]
    simp only [aa]
    rw [aQ (by omega) (by omega)]
    simp only [aa]
    rw [nextz]
    by_cases b2:bit u e2=true
    ·refine same (by rw [b1,b2]) _ ?_
     rw [<- (val e2 (by omega) i2).2 b2,List.set_getElem_self]
     rw [(val e2 (by omega) i2).2 b2]
     exact a1
    ·refine diff e2 (by omega) (by simpa using b2) ((a3 _ b1).trans (Cn.edge hmem)) (fun _ _=>trivial) (by unfold dQ; simp only; rw [b1]; simpa using b2) ?_
     unfold dQ
     simp only
     rw [aR,aR,b1,show bit (shlU 1 e2) e2=true by rw [aS (by omega)]; simp]
     simp
   ·rw [if_neg (fun hh=>b1 ((val e1 (by omega) i1).1 hh)),aF,geE i2]
    simp only [aa,jn]
    by_cases b2:bit u e2=true
    ·rw [if_pos ((val e2 (by omega) i2).2 b2),bc _ i1]
     simp only [aa]
     rw [aF,geE (by rw [List.length_set]; exact i2)]
     simp only [aa]
     rw [bc _ (by rw [List.length_set]; exact i2)]
     simp only [aa]
     rw [aQ (by omega) (by omega)]
     simp only [aa]
     have hset:(xs.set e1 (c:Int)).set e2 (c:Int)=xs.set e1 (c:Int):=by
      rw [List.set_comm _ _ (by omega)]
      congr 1
      have h9:=(val e2 (by omega) i2).2 b2
      rw [<- h9,List.set_getElem_self]
     rw [hset,nextz]
     refine diff e1 (by omega) (by simpa using b1) ((a3 _ b2).trans (Cn.edge hmem).symm) (fun _ _=>trivial) (by unfold dQ; simp only; rw [b2]; simpa using b1) ?_
     unfold dQ
     simp only
     rw [aR,aR,b2,show bit (shlU 1 e1) e1=true by rw [aS (by omega)]; simp]
     simp
    ·rw [if_neg (fun hh=>b2 ((val e2 (by omega) i2).1 hh)),aQ (by omega) (by omega)]
     simp only [aa]
     rw [nextz]
     exact same (by simp only [Bool.not_eq_true] at b1 b2; rw [b1,b2]) _ a1
  ·rw [if_neg (by omega)]
   refine ⟨_,I,u,a1,a2,a3,?_⟩
   rcases a6 with h0 | ⟨r,p,hrp,hp,b1⟩
   ·intro e he
    have:egs g t=[]:=List.length_eq_zero_iff.1 (by omega)
    rw [this] at he; cases he
   ·rcases b1 with b1 | ⟨b1,_⟩
    ·exact b1
    ·have hr:t.length<=r:=Classical.byContradiction fun hh=>by
      have:=Nat.mul_le_mul_right t.length (show r+1<=t.length by omega)
      rw [Nat.succ_mul] at this
      omega
     have hfl:((egs g t).filter (dQ u)).length=(egs g t).length:=by
      have:=List.length_filter_le (dQ u) (egs g t)
      omega
     have hall:=List.length_filter_eq_length_iff.1 hfl
     intro e he
     have:=hall e he
     unfold dQ at this
     rw [Bool.and_eq_true] at this
     rw [this.1,this.2]) FU (0,xs0.set v (c:Int)) ⟨0,shlU 1 v,rfl,⟨by simp [hx0],fun i hi=>by
      rw [aS (by omega),List.getElem?_set,hx0]
      by_cases e:v=i
      ·subst e; rw [if_pos rfl,if_pos hv,decide_eq_true rfl,if_pos rfl]
      ·rw [if_neg e,decide_eq_false (fun h=>e h.symm),if_neg (by decide)]⟩,by rw [aS (by omega)]; simp,fun y hy=>by
      rw [aS (by omega),decide_eq_true_eq] at hy
      subst hy; exact .refl _,by
      have h1:=jl (u:=0) (y:=v) (by omega) (bt v)
      rw [UInt64.zero_or,cj] at h1
      rw [h1]; simp,Nat.zero_le _,by
      rcases Nat.eq_zero_or_pos t.length with h0 | h0
      ·exact .inl h0
      ·refine .inr ⟨0,0,by simp,h0,.inr ⟨List.length_pos_of_mem (show v∈ao (shlU 1 v) from aT.2 (by rw [aS (show v<64 by omega)]; simp)),.inr (by simp)⟩⟩⟩ (av (by
      have hsq:t.length*t.length<=1000*1000:=Nat.mul_le_mul hl hl
      simp only; omega))
 exact ⟨xs,u,e,u1,fun y _=>⟨u3 y,fun hcn=>by rw [<- u4.cn hcn]; exact u2⟩⟩
theorem ou (h:Valid g) (hN:g.fN=(N:Int)) (hN9:N<=9) {t:Lb Nat} (ht:∀ i∈t,i<g.fo.length) (hl:t.length<=1000) :
  ∃ q:Lb Nat,ac_p FU g (ak t)=some (ak q)/\q.length=N/\∀ i,i<N->∃ r,r<=i/\cv (egs g t) r/\Cn (egs g t) r i/\q[i]? = some (cntR (egs g t) r):=by
 generalize hE:egs g t=E
 unfold ac_p
 rw [hN,cF _ _ (by omega)]
 simp only [aa]
 obtain ⟨xs1,e1,rfl⟩:=am (B:=ac_l3 FU g) (fun s:Int×Lb Int=>N-s.1.toNat) (fun s=>∃ z:Nat,s.1=(z:Int)/\z<=N/\s.2.length=N/\s.2.take z=List.replicate z (-1)) (fun xs=>xs=List.replicate N (-1)) (fun ⟨zi,xs⟩ J ⟨z,a0,a1,a2,a3⟩ hJ=>by
  simp only at a0 a2 a3 hJ
  subst a0
  unfold ac_l3
  simp only
  rw [hN]
  by_cases hz:z<N
  ·rw [if_pos (by omega),aF,geE (by omega)]
   simp only [aa,Int.toNat_natCast]
   rw [bc _ (by omega)]
   simp only [aa]
   rw [aQ (by omega) (by omega)]
   simp only [aa]
   exact hJ _ ⟨z+1,by simp,hz,by simpa using a2,by simp only; rw [iF _ (by omega),a3,List.replicate_succ']⟩ (by simp only; omega)
  ·rw [if_neg (by omega)]
   obtain rfl:z=N:=by omega
   refine ⟨_,I,?_⟩
   rwa [List.take_of_length_le (by omega)] at a3) FU (0,List.replicate N 0) ⟨0,rfl,Nat.zero_le _,by simp,by simp⟩ (av (by simp only; omega))
 rw [e1]
 simp only [aa]
 obtain ⟨xs,e2,x1,x2⟩:=am (B:=ac_l2 FU g (ak t)) (fun s:Int×Int×Lb Int=>N-s.2.1.toNat) (fun s=>∃ v:Nat,s.2.1=(v:Int)/\v<=N/\s.1=(cntR E v:Int)/\s.2.2.length=N/\∀ i,i<N->(∃ r,r<v/\cv E r/\Cn E r i/\s.2.2[i]? = some (cntR E r:Int))∨s.2.2[i]? = some (-1)/\∀ r,r<v->¬ Cn E r i)
  (fun xs=>xs.length=N/\∀ i,i<N->∃ r,cv E r/\Cn E r i/\xs[i]? = some (cntR E r:Int)) (fun ⟨ci,vi,xs⟩ J ⟨v,a0,a1,a2,a3,a4⟩ hJ=>by
  simp only at a0 a2 a3 a4 hJ
  subst a0 a2
  unfold ac_l2
  simp only
  rw [hN]
  by_cases hv:v<N
  ·have hcv:cntR E v<=v:=by
    have:∀ n,cntR E n<=n:=fun n=>by
     induction n with
     | zero=>exact Nat.le_refl _
     | succ n ih=>simp only [cntR]; split<;>omega
    exact this v
   rw [if_pos (by omega),aF,geE (by omega)]
   simp only [aa,Int.toNat_natCast]
   have hxv:xs[v]? = some (xs[v]'(by omega)):=geE (by omega)
   by_cases h0:0<=xs[v]'(by omega)
   ·rw [if_pos h0,aQ (by omega) (by omega)]
    simp only [aa]
    obtain ⟨r0,r1,r2,r3,r4⟩:∃ r,r<v/\cv E r/\Cn E r v/\xs[v]? = some (cntR E r:Int):=(a4 v hv).resolve_right fun hh=>by
     rw [hxv,Option.some.injEq] at hh; omega
    have hnr:¬ cv E v:=fun hr=>hr r0 r1 r3.symm
    refine hJ _ ⟨v+1,by simp,hv,?_,a3,fun i hi=>?_⟩ (by simp only; omega)
    ·simp only [cntR]
     rw [if_neg hnr]; rfl
    ·rcases a4 i hi with ⟨r,s1,s2,s3,s4⟩ | ⟨s1,s2⟩
     ·exact .inl ⟨r,by omega,s2,s3,s4⟩
     ·refine .inr ⟨s1,fun r hr hc=>?_⟩
      by_cases e:r=v
      ·subst e; exact s2 r0 r1 (r3.trans hc)
      ·exact s2 r (by omega) hc
   ·rw [if_neg h0,bc _ (by omega)]
    simp only [aa]
    have hun:∀ r,r<v->¬ Cn E r v:=by
     rcases a4 v hv with ⟨r,s1,s2,s3,s4⟩ | ⟨s1,s2⟩
     ·rw [hxv,Option.some.injEq] at s4; omega
     ·exact s2
    have hrep:cv E v:=fun y hy hc=>hun y hy hc.symm
    have hcn:∀ i,i<N->xs[i]? ≠ some (cntR E v:Int):=fun i hi he=>by
     rcases a4 i hi with ⟨r,s1,s2,s3,s4⟩ | ⟨s1,s2⟩
     ·rw [s4,Option.some.injEq] at he
      have:=ic s2 s1
      omega
     ·rw [s1,Option.some.injEq] at he; omega
    obtain ⟨ys,u,f1,f2,f3⟩:=qu h hN hN9 ht hl a3 hcn hv
    rw [f1]
    simp only [aa]
    rw [aQ (by omega) (by omega)]
    simp only [aa]
    rw [aQ (by omega) (by omega)]
    simp only [aa]
    refine hJ _ ⟨v+1,by simp,hv,?_,f2.1,fun i hi=>?_⟩ (by simp only; omega)
    ·simp only [cntR]
     rw [if_pos hrep]; rfl
    ·simp only
     rw [f2.2 i hi]
     by_cases hb:bit u i=true
     ·rw [if_pos hb]
      have hcn:=(f3 i hi).1 hb
      rw [hE] at hcn
      exact .inl ⟨v,by omega,hrep,hcn,I⟩
     ·rw [if_neg hb]
      rcases a4 i hi with ⟨r,s1,s2,s3,s4⟩ | ⟨s1,s2⟩
      ·exact .inl ⟨r,by omega,s2,s3,s4⟩
      ·refine .inr ⟨s1,fun r hr hc=>?_⟩
       by_cases e:r=v
       ·subst e; exact hb ((f3 i hi).2 (by rw [hE]; exact hc))
       ·exact s2 r (by omega) hc
  ·rw [if_neg (by omega)]
   obtain rfl:v=N:=by omega
   refine ⟨_,I,a3,fun i hi=>?_⟩
   rcases a4 i hi with ⟨r,s1,s2,s3,s4⟩ | ⟨s1,s2⟩
   ·exact ⟨r,s2,s3,s4⟩
   ·exact absurd (.refl i) (s2 i hi)) FU (0,0,List.replicate N (-1)) ⟨0,rfl,Nat.zero_le _,rfl,by simp,fun i hi=>.inr ⟨by simp only; rw [List.getElem?_replicate,if_pos hi],fun r hr=>by omega⟩⟩ (av (by simp only; omega))
 rw [e2]
 refine ⟨xs.map Int.toNat,?_,by rw [List.length_map,x1],fun i hi=>?_⟩
 ·simp only [aa]
  congr 1
  unfold ak
  rw [List.map_map]
  refine List.ext_getElem? fun i=>?_
  rw [List.getElem?_map]
  by_cases hi:i<N
  ·obtain ⟨r,_,_,r3⟩:=x2 i hi
   rw [r3]
   simp
  ·rw [List.getElem?_eq_none (by omega)]; rfl
 ·obtain ⟨r,r1,r2,r3⟩:=x2 i hi
  refine ⟨r,gO r1 r2,r1,r2,?_⟩
  rw [List.getElem?_map,r3]
  simp
theorem rd:∀ (p:Lb Nat) (m:Nat),(∀ (i x:Nat),p[i]? = some x->∀ a,a<x->a<m∨∃ j,j<i/\p[j]? = some a)->Rgs m p
 | [],_,_=>trivial
 | c::p,m,h=>by
  have hc:c<=m:=Classical.byContradiction fun hh=>by
   rcases h 0 c rfl m (by omega) with h1 | ⟨j,hj,_⟩
   ·omega
   ·omega
  refine ⟨hc,rd p _ fun i x hx a ha=>?_⟩
  rcases h (i+1) x (by simpa using hx) a ha with h1 | ⟨j,hj,h2⟩
  ·left; split<;>omega
  ·cases j with
   | zero=>
    left
    simp only [List.getElem?_cons_zero,Option.some.injEq] at h2
    split<;>omega
   | succ j=>exact .inr ⟨j,by omega,by simpa using h2⟩
theorem qE (h:Valid g) (hN:g.fN=(N:Int)) (hN9:N<=9) {t:Lb Nat} (ht:∀ i∈t,i<g.fo.length) (ha:Acyc (egs g t)) {k:Nat} (hk:k+t.length=N) {q:Lb Nat} (hq:q.length=N) (hr:∀ i,i<N->∃ r,r<=i/\cv (egs g t) r/\Cn (egs g t) r i/\q[i]? = some (cntR (egs g t) r)) :
  Rgs 0 q/\(∀ x∈q,x<k)/\(∀ d,d<k->d∈q)/\∀ d,d<k->Joined g (cls q d):=by
 have hE:=qS h hN ht
 have hcnt:=kc ha hE
 have hel:(egs g t).length=t.length:=List.length_map ..
 have hadj:∀ a b:Nat,(a,b)∈egs g t->Adj g a b:=fun a b hm=>by
  obtain ⟨i,hi,e⟩:=List.mem_map.1 hm
  have h1:=(iw h (ht i hi)).1
  rw [e] at h1
  exact .inl (List.mem_of_getElem? h1)
 generalize egs g t=E at *
 have hkE:cntR E N=k:=by omega
 have hrep:∀ r,r<N->cv E r->q[r]? = some (cntR E r):=fun r hrN hr1=>by
  obtain ⟨r', _,k2,k3,k4⟩:=hr r hrN
  rw [k4,lZ k2 hr1 k3]
 have hsame:∀ i j,i<N->j<N->(Cn E i j↔q[i]? = q[j]?):=fun i j hi hj=>by
  obtain ⟨r,_,a2,a3,a4⟩:=hr i hi
  obtain ⟨s,_,b2,b3,b4⟩:=hr j hj
  rw [a4,b4,Option.some.injEq]
  constructor
  ·intro hc
   rw [lZ a2 b2 ((a3.trans hc).trans b3.symm)]
  ·intro he
   rw [sR a2 b2 he] at a3
   exact a3.symm.trans b3
 have hlt:∀ x∈q,x<k:=fun x hx=>by
  obtain ⟨i,hi,rfl⟩:=List.getElem_of_mem hx
  obtain ⟨r,a1,a2,_,a4⟩:=hr i (by omega)
  rw [geE hi,Option.some.injEq] at a4
  rw [a4,<- hkE]
  exact ic a2 (by omega)
 have hall:∀ d,d<k->d∈q:=fun d hd=>by
  rw [<- hkE] at hd
  obtain ⟨r,r1,r2,rfl⟩:=mr hd
  exact List.mem_of_getElem? (hrep r r1 r2)
 refine ⟨rd q 0 fun i x hx a hax=>.inr ?_,hlt,hall,fun d hd=>?_⟩
 ·have hi:=(List.getElem?_eq_some_iff.1 hx).1
  obtain ⟨r,a1,a2,_,a4⟩:=hr i (by omega)
  rw [hx,Option.some.injEq] at a4
  subst a4
  obtain ⟨s,s1,s2,s3⟩:=mr hax
  exact ⟨s,by omega,by rw [hrep s (by omega) s2,s3]⟩
 ·have hb:∀ i,bit (cls q d) i=true↔q[i]? = some d:=fun i=>br (by omega) d i
  have h0:cls q d≠0:=(jQ (by omega) d).2 (hall d hd)
  refine ⟨h0,fun y hy=>?_⟩
  have hlow:=bF h0
  have hl1:=(hb _).1 hlow
  have hy1:=(hb _).1 hy
  have hl2:=(List.getElem?_eq_some_iff.1 hl1).1
  have hy2:=(List.getElem?_eq_some_iff.1 hy1).1
  have hc:Cn E (low (cls q d)) y:=(hsame _ _ (by omega) (by omega)).2 (by rw [hl1,hy1])
  have key:∀ a b,Cn E a b->bit (cls q d) a=true->(∃ m,Way g (cls q d) a m b)/\bit (cls q d) b=true:=fun a b hc ha=>by
   induction hc with
   | refl=>exact ⟨⟨0,.here⟩,ha⟩
   | @step b c hab e ih=>
    obtain ⟨⟨m,hm⟩,hb2⟩:=ih
    have hbN:=(List.getElem?_eq_some_iff.1 ((hb _).1 hb2)).1
    have hcN:c<N:=e.elim (fun e=>(hE _ e).2) (fun e=>(hE _ e).1)
    have hcq:q[b]? = q[c]?:=(hsame b c (by omega) hcN).1 (.step (.refl b) e)
    have hcb:bit (cls q d) c=true:=(hb c).2 (by rw [<- hcq]; exact (hb b).1 hb2)
    exact ⟨⟨m+1,.on hm (e.elim (fun e=>hadj _ _ e) fun e=>(hadj _ _ e).symm) hcb⟩,hcb⟩
  exact (key _ _ hc hlow).1
end
end
section
def bJ:Lb Int->Lb Int->Int
 | [],[]=>0
 | [],_::_=>-1
 | _::_,[]=>1
 | a::x,b::y=>if a<b then -1 else if b<a then 1 else bJ x y
theorem iT (n:Nat) (x y:Lb Int) (h:x.length<n):aq_p n x y=some (bJ x y):=by
 have key:∀ m i,x.length-i<m->i<=x.length->i<=y.length->thn (ah (aq_l1 n x y) m i) (fun _=>(if x.length<y.length then some (-1:Int) else some (0:Int)))=some (bJ (x.drop i) (y.drop i)):=by
  intro m
  induction m with
  | zero=>intro i h; omega
  | succ m ih=>
   intro i h1 h2 h3
   rw [bn]
   unfold aq_l1
   by_cases hi:i<x.length
   ·rw [if_pos hi,geE hi,List.drop_eq_getElem_cons hi]
    simp only [aa]
    by_cases hy:y.length<=i
    ·rw [if_pos hy,List.drop_eq_nil_of_le hy]
     rfl
    ·rw [if_neg hy,geE (by omega),List.drop_eq_getElem_cons (show i<y.length by omega)]
     simp only [aa]
     rw [mB]
     simp only [aa]
     rw [bJ]
     by_cases c1:x[i]<y[i]
     ·rw [if_pos c1,if_pos c1,if_neg (by decide)]
      rfl
     ·rw [if_neg c1,if_neg c1]
      by_cases c2:y[i]<x[i]
      ·rw [if_pos c2,if_pos c2,if_neg (by decide)]
       rfl
      ·rw [if_neg c2,if_neg c2,if_pos I]
       exact ih (i+1) (by omega) hi (by omega)
   ·rw [if_neg hi,List.drop_eq_nil_of_le (by omega)]
    unfold thn
    simp only
    by_cases hy:x.length<y.length
    ·rw [if_pos hy,List.drop_eq_getElem_cons (show i<y.length by omega)]
     rfl
    ·rw [if_neg hy,List.drop_eq_nil_of_le (by omega)]
     rfl
 exact key n 0 (by omega) (by omega) (by omega)
theorem kV:∀ x:Lb Int,bJ x x=0
 | []=>rfl
 | a::x=>by rw [bJ,if_neg (by omega),if_neg (by omega),kV x]
theorem fS:∀ {x y:Lb Int},bJ x y=0->x=y
 | [],[],_=>rfl
 | [],_::_,h=>by cases h
 | _::_,[],h=>by cases h
 | a::x,b::y,h=>by
  rw [bJ] at h
  split at h
  ·cases h
  ·split at h
   ·cases h
   ·rw [fS h,show a=b by omega]
theorem il:∀ x y:Lb Int,bJ y x = -bJ x y
 | [],[]=>rfl
 | [],_::_=>rfl
 | _::_,[]=>rfl
 | a::x,b::y=>by
  rw [bJ,bJ]
  by_cases h1:a<b
  ·rw [if_neg (by omega),if_pos h1,if_pos h1]; rfl
  ·by_cases h2:b<a
   ·rw [if_pos h2,if_neg h1,if_pos h2]
   ·rw [if_neg h2,if_neg h1,if_neg h1,if_neg h2,il x y]
theorem jM:∀ {x y z:Lb Int},bJ x y<0->bJ y z<0->bJ x z<0
 | [],[],_,h,_=>by cases h
 | [],_::_,[],_,h=>by simp [bJ] at h
 | [],_::_,_::_,_,_=>by simp [bJ]
 | _::_,[],_,h,_=>by simp [bJ] at h
 | _::_,_::_,[],_,h=>by simp [bJ] at h
 | a::x,b::y,c::z,h1,h2=>by
  rw [bJ] at h1 h2 ⊢
  by_cases c1:a<b
  ·by_cases c2:b<c
   ·rw [if_pos (by omega)]; decide
   ·rw [if_neg c2] at h2
    by_cases c3:c<b
    ·rw [if_pos c3] at h2; cases h2
    ·rw [if_pos (by omega)]; decide
  ·rw [if_neg c1] at h1
   by_cases c2:b<a
   ·rw [if_pos c2] at h1; cases h1
   ·rw [if_neg c2] at h1
    by_cases c3:b<c
    ·rw [if_pos (by omega)]; decide
    ·rw [if_neg c3] at h2
     by_cases c4:c<b
     ·rw [if_pos c4] at h2; cases h2
     ·rw [if_neg c4] at h2
      rw [if_neg (by omega),if_neg (by omega)]
      exact jM h1 h2
theorem mT:∀ {p q:Lb Nat},p.length=q.length->bJ (ak p) (ak q)<0->LexL p q
 | [],[],_,h=>by cases h
 | a::p,c::q,hl,h=>by
  have e:bJ (ak (a::p)) (ak (c::q))=if (a:Int)<(c:Int) then -1 else if (c:Int)<(a:Int) then 1 else bJ (ak p) (ak q):=rfl
  rw [e] at h
  by_cases h1:(a:Int)<(c:Int)
  ·exact .inl (by omega)
  ·rw [if_neg h1] at h
   by_cases h2:(c:Int)<(a:Int)
   ·rw [if_pos h2] at h; cases h
   ·rw [if_neg h2] at h
    exact .inr ⟨by omega,mT (by simpa using hl) h⟩
section
variable {c:Lb Int->Lb Int->Oa Int}
theorem ew {x y:Lb Int} (h:c x y=some (bJ x y)):ltQ c x y=true↔bJ x y<0:=by
 unfold ltQ
 rw [h,decide_eq_true_eq]
 rfl
theorem sB {xs:Lb (Lb Int)} (hc:∀ x∈xs,∀ y∈xs,c x y=some (bJ x y)):SortOk c xs where
 irr x hx:=by
  cases h:ltQ c x x with
  | false=>rfl
  | true=>rw [ew (hc x hx x hx),kV] at h; omega
 some x hx y hy:=⟨_,hc x hx y hy⟩
 tot x hx y hy h1 h2:=by
  have h3:¬ bJ x y<0:=fun h=>by rw [(ew (hc x hx y hy)).2 h] at h1; cases h1
  have h4:¬ bJ y x<0:=fun h=>by rw [(ew (hc y hy x hx)).2 h] at h2; cases h2
  rw [il] at h4
  exact fS (by omega)
 trans x hx y hy z hz h1 h2:=by
  rw [ew (hc x hx y hy)] at h1
  rw [ew (hc y hy z hz)] at h2
  rw [ew (hc x hx z hz)]
  exact jM h1 h2
theorem jW {xs:Lb (Lb Int)} (_hl:xs.length<=1000000) (hc:∀ x∈xs,∀ y∈xs,c x y=some (bJ x y)):∃ ys,(∀ {β:Type} (K:Lb (Lb Int)->Oa β),((bO_p FU (ac ((xs.length:Nat):Int))).bind fun y=>(jU c y xs).bind K)=K ys)/\ys.Perm xs/\ys.Pairwise fun a b=>bJ a b<=0:=by
 have hs:=sB hc
 refine ⟨dN (ltQ c) xs,fun K=>?_,ck _ _,?_⟩
 ·unfold bO_p
  rw [rE]
  simp only [aa]
  have hb:dX (ac ((xs.length:Nat):Int)).toNat<=64:=dE.2 (UInt64.toNat_lt _)
  unfold jU sw
  rw [if_pos ⟨by omega,by omega⟩,if_pos (lu.2 hs)]
  rfl
 ·refine (en hs xs fun y hy=>hy).imp_of_mem fun {a d} ha hd h=>?_
  have ha' :=(ck (ltQ c) xs).mem_iff.1 ha
  have hd' :=(ck (ltQ c) xs).mem_iff.1 hd
  have h3:¬ bJ d a<0:=fun h' =>by rw [(ew (hc d hd' a ha')).2 h'] at h; cases h
  rw [il] at h3
  omega
theorem kx {ys zs:Lb (Lb Int)} (hp:ys.Perm zs) (h1:ys.Pairwise fun a b=>bJ a b<=0) (h2:zs.Pairwise fun a b=>bJ a b<=0):ys=zs:=
 List.Perm.eq_of_pairwise (fun a b _ _ h3 h4=>by rw [il] at h4; exact fS (by omega)) h1 h2 hp
end
end
section
section
variable {κ ν:Type} [DecidableEq κ]
theorem jm {e:κ×ν} {k:κ} {v:ν}:∀ {D:Lb (κ×ν)},e∈aH D k v->e=(k,v)∨e∈D
 | [],h=>by unfold aH at h; exact .inl (List.mem_singleton.1 h)
 | d::D,h=>by
  unfold aH at h
  split at h
  ·rcases List.mem_cons.1 h with h | h
   ·exact .inl h
   ·exact .inr (List.mem_cons_of_mem _ h)
  ·rcases List.mem_cons.1 h with h | h
   ·exact .inr (h ▸ List.mem_cons_self ..)
   ·exact (jm h).imp id (List.mem_cons_of_mem _)
theorem iC (k:κ) (v:ν):∀ D:Lb (κ×ν),(aH D k v).length<=D.length+1
 | []=>Nat.le_refl _
 | d::D=>by
  unfold aH
  split
  ·simp
  ·simp only [leC]
   have:=iC k v D
   omega
theorem nc {k:κ} {v:ν}:∀ {D:Lb (κ×ν)},aP D k=some v->(k,v)∈D
 | [],h=>by cases h
 | d::D,h=>by
  unfold aP at h
  split at h
  ·rename_i e
   cases h
   rw [e]; exact List.mem_cons_self ..
  ·exact List.mem_cons_of_mem _ (nc h)
theorem oZ {e:κ×ν}:∀ {D:Lb (κ×ν)},e∈D->∃ v,aP D e.1=some v
 | d::D,h=>by
  unfold aP
  by_cases c:e.1=d.1
  ·rw [if_pos c]; exact ⟨_,rfl⟩
  ·rw [if_neg c]
   rcases List.mem_cons.1 h with h | h
   ·exact absurd (by rw [h]) c
   ·exact oZ h
end
theorem qO {p q:Rat} (h:Rt p=Rt q):p=q:=by
 have Linj:∀ a b:Int,L a=L b->a=b:=fun a b e=>by
  have e1:decide (a<0)=decide (b<0):=congrArg Tb.fe e
  have e2:=dg_inj (congrArg Tb.fk e)
  have e3:=decide_eq_decide.1 e1
  omega
 have e1:=Linj _ _ (congrArg Te.fp h)
 have e2:=Linj _ _ (congrArg Te.fl h)
 exact Rat.ext e1 (by omega)
noncomputable def val? (x:Te):Rat:=open Classical in if h:∃ q,x=Rt q then Classical.choose h else 0
theorem val_Rt (q:Rat):val? (Rt q)=q:=by
 unfold val?
 rw [dif_pos ⟨q,rfl⟩]
 exact (qO (Classical.choose_spec (⟨q,I⟩:∃ r,Rt q=Rt r))).symm
theorem sG {v:Rat} {m:Int} {U:Nat} (hU:0<U) (h:v*(U:Rat)=(m:Rat)):v=Rat.divInt m U:=by
 have hU' : (U:Rat)≠0:=by
  intro e
  have:U=0:=by exact_mod_cast e
  omega
 rw [Rat.divInt_eq_div]
 have e:((U:Int):Rat)=(U:Rat):=rfl
 rw [e,<- h,Rat.div_def,Rat.mul_assoc,Rat.mul_inv_cancel _ hU', Rat.mul_one]
def bl5:Nat:=500
theorem oy {v:Rat} {m:Int} {U:Nat} (hU:0<U) (h:v*(U:Rat)=(m:Rat)) (h1:m.natAbs<2^bl5) (h2:U<2^bl5):FQ v:=by
 rw [sG hU h]
 exact (Bt.of (i:=bl5) (j:=bl5) (by omega) h1 (by rw [Int.natAbs_natCast]; exact h2)).fq (by decide) (by decide)
theorem eH {m:Int} (h:m.natAbs<2^60):FQ ((m:Int):Rat):=by
 refine oy (U:=1) (m:=m) (by decide) (by simp) (Nat.lt_of_lt_of_le h (Nat.pow_le_pow_right (by decide) (show 60<=bl5 by decide))) ?_
 exact Nat.one_lt_two_pow (by decide)
theorem gS {z:Int} (h:Sm z):ce_p FU z=some (Rt (z:Rat)):=by
 unfold ce_p
 rw [fF FU z h (av (by omega))]
 simp only [aa]
 unfold cj_p
 rw [fF FU 1 sm1 (av (by omega))]
 rfl
theorem pairs1:bw_p FU 1=some []:=by kernel_rfl
theorem pairs2:bw_p FU 2=some [(0,1)]:=by kernel_rfl
theorem pairs3:bw_p FU 3=some [(0,1),(0,2),(1,2)]:=by kernel_rfl
theorem pairs4:bw_p FU 4=some [(0,1),(0,2),(0,3),(1,2),(1,3),(2,3)]:=by kernel_rfl
theorem sq {k:Nat} (h1:1<=k) (h4:k<=4):∃ l:Lb (Nat×Nat),bw_p FU (k:Int)=some (l.map fun p=>((p.1:Int),(p.2:Int)))/\l.length<=6/\∀ p∈l,p.1<p.2/\p.2<k:=by
 have h:k=1∨k=2∨k=3∨k=4:=by omega
 rcases h with rfl | rfl | rfl | rfl
 ·exact ⟨[],pairs1,by decide,by decide⟩
 ·exact ⟨[(0,1)],pairs2,by decide,by decide⟩
 ·exact ⟨[(0,1),(0,2),(1,2)],pairs3,by decide,by decide⟩
 ·exact ⟨[(0,1),(0,2),(0,3),(1,2),(1,3),(2,3)],pairs4,by decide,by decide⟩
end
section
abbrev lK:=Lb (Key×Te)
section
variable {g:Tc} {b:Td} {N k:Nat}
def px (g:Tc) (b:Td) (N k:Nat) (e:Key×Te):Prop:=∃ p,Pl g b N k p/\e.1=jv (ak p)
def ShareOk (U:Nat) (x:Te):Prop:=∃ (v:Rat) (z:Nat),x=Rt v/\v*(U:Rat)=((z:Int):Rat)/\z<=2^84*U
def DOk (g:Tc) (b:Td) (N k U:Nat) (D:lK):Prop:=∀ e∈D,px g b N k e/\ShareOk U e.2
theorem DOk.mul {U:Nat} {D:lK} (h:DOk g b N k U D) (u:Nat):DOk g b N k (U*u) D:=fun e he=>by
 obtain ⟨h1,v,z,v1,v2,v3⟩:=h e he
 refine ⟨h1,v,z*u,v1,?_,?_⟩
 ·rw [show ((U*u:Nat):Rat)=(U:Rat)*(u:Rat) from by push_cast; rfl,<- Rat.mul_assoc,v2]
  push_cast
  rfl
 ·rw [<- Nat.mul_assoc]
  exact Nat.mul_le_mul_right _ v3
theorem pD {q:Lb Nat} {a c:Nat} (h:q.length<=64) (ha:a∈q):(cls q a|||cls q c)≠0:=fun e=>(jQ h a).2 ha (UInt64.or_eq_zero_iff.1 e).1
theorem kT {q:Lb Nat} {a c:Nat} (h:q.length<=64):cS (q.length:Int) (cls q a|||cls q c):=fun i hi=>by
 rw [aR,Bool.or_eq_true] at hi
 exact hi.elim (jY h a i) (jY h c i)
theorem qy {i:Nat} (h:i<=6):(281474976710656:Nat)^i<=281474976710656^6:=Nat.pow_le_pow_right (by decide) h
theorem pair_ok (F:Fld g b N k) {q:Lb Nat} (P:Pl g b N k q) {a c:Nat} (ha:a<c) (hc:c<k) {t:Nat} (_ht:t<=6) (_h1:1<=t) {U:Nat} (_hU:0<U) {D:lK} (hD:DOk g b N k U D) {under:Rat} {u:Nat} (hu:0<u) (hund:under=((u:Int):Rat)) (hul:u<=281474976710656) {L0:Nat} (hL:D.length<=L0) (_hL0:L0<=4000) :
  ∃ D', ah (aK_l1 FU (cls q a) (cls q c) (ak q,0) ((a:Int),(c:Int)) b g (Rt under)) FU ((cls q a|||cls q c)&&&~~~((cls q a|||cls q c)&&&(-(cls q a|||cls q c))),D)=some D' /\DOk g b N k (U*u) D' /\D'.length<=L0+512:=by
 have h2:=F.n9; have hq:=P.len; have hk4:=F.k4; have hN:=F.n
 have hbn:(cls q a|||cls q c)≠0:=pD (c:=c) (by omega) (P.all a (by omega))
 have hbf:cS g.fN (cls q a|||cls q c):=by have h:=kT (q:=q) (a:=a) (c:=c) (by omega); rwa [hq,<- hN] at h
 generalize hbt:(cls q a|||cls q c)=B at hbn hbf
 have hrn:∀ u:Ua,(u&&&(B&&&~~~(B &&& -B))).toNat<512:=fun u=>by
  have h3:(u&&&(B&&&~~~(B &&& -B))).toNat<2^N:=kk.2 fun j hj=>by
   rw [eZ,Bool.and_eq_true,aZ,Bool.and_eq_true] at hj
   have:=hbf j hj.2.1
   omega
  have:=oH h2
  omega
 have hunder0:under≠0:=by
  rw [hund]
  intro e
  have:(u:Int)=0:=by exact_mod_cast e
  omega
 refine am (B:=aK_l1 FU (cls q a) (cls q c) (ak q,0) ((a:Int),(c:Int)) b g (Rt under)) (fun s:Ua×lK=>s.1.toNat) (fun s=>s.1.toNat<512/\DOk g b N k (U*u) s.2/\s.2.length+s.1.toNat<=L0+512) (fun D' =>DOk g b N k (U*u) D' /\D'.length<=L0+512) (fun ⟨w,D⟩ J ⟨q1,q2,q3⟩ hJ=>?_) FU _ ⟨?_,hD.mul u,?_⟩ (av ?_)
 ·simp only at q1 q2 q3 hJ
  unfold aK_l1
  simp only [hbt]
  by_cases hw:w=0
  ·rw [if_pos hw]
   exact ⟨_,I,q2,by omega⟩
  ·rw [if_neg hw]
   simp only [aa]
   have hw0:w.toNat≠0:=fun e=>hw (UInt64.toNat_inj.1 e)
   have hlt:((w-1)&&&(B&&&~~~(B &&& -B))).toNat<w.toNat:=by
    rw [UInt64.toNat_and]
    refine Nat.lt_of_le_of_lt Nat.and_le_left ?_
    rw [UInt64.toNat_sub_of_le _ _ (by rw [UInt64.le_iff_toNat_le]; show 1<=_; omega)]
    show w.toNat-1<_
    omega
   have hlt2:=hrn (w-1)
   have hsub:∀ i,bit (((w-1)&&&(B&&&~~~(B &&& -B)))|||(B &&& -B)) i=true->bit B i=true:=fun i hi=>by
    simp only [aR,eZ,Bool.or_eq_true,Bool.and_eq_true] at hi
    exact hi.elim (fun h=>h.2.1) (fun h=>h.1)
   generalize hs:(((w-1)&&&(B&&&~~~(B &&& -B)))|||(B &&& -B))=s at hsub
   generalize (w-1)&&&(B&&&~~~(B &&& -B))=w' at hlt hlt2
   have nx:∀ D', DOk g b N k (U*u) D'->D'.length<=D.length+1->∃ r,J (w', D')=some r/\DOk g b N k (U*u) r/\r.length<=L0+512:=fun D' h3 h4=>hJ _ ⟨hlt2,h3,by simp only; omega⟩ (by simp only; exact hlt)
   rw [si q a c s (by omega) (by have:=F.n1; omega) (fun x hx=>by have:=P.lt x hx; omega) (by omega) (by omega)]
   simp only [aa]
   have hsf:cS g.fN s:=fun i hi=>hbf i (hsub i hi)
   have hof:cS g.fN (B&&&~~~s):=fun i hi=>by
    rw [aZ,Bool.and_eq_true] at hi
    exact hbf i hi.1
   obtain ⟨r1,e1,g1⟩:=gt F hsf
   rw [e1]
   simp only [aa]
   by_cases hr1:r1=true
   ·rw [if_pos hr1]
    obtain ⟨r2,e2,g2⟩:=gt F hof
    rw [e2]
    simp only [aa]
    by_cases hr2:r2=true
    ·rw [if_pos hr2,gW,gW]
     simp only [aa]
     have G1:=g1.1 hr1
     have G2:=g2.1 hr2
     have hpl:=rU (by omega) P (show a<k by omega) hc (by omega) (s:=s) (by rw [hbt]; exact hsub) G1 (by rw [hbt]; exact G2)
     by_cases hkey:jv (ak q)=jv (ak (bv [] (eD q a c s)))
     ·rw [if_pos hkey]
      exact nx D q2 (by omega)
     ·rw [if_neg hkey]
      obtain ⟨d1,l1,c1⟩:=eM b F.val hN h2 F.ed G1.1.1 hsf
      obtain ⟨d2,l2,c2⟩:=eM b F.val hN h2 F.ed G2.1.1 hof
      rw [c1]
      simp only [aa]
      rw [c2]
      simp only [aa]
      have f1:FQ ((d1:Int):Rat):=eH (Nat.lt_of_le_of_lt (by simpa using l1) (by decide))
      have f2:FQ ((d2:Int):Rat):=eH (Nat.lt_of_le_of_lt (by simpa using l2) (by decide))
      have f3:FQ under:=by rw [hund]; exact eH (Nat.lt_of_le_of_lt (by simpa using hul) (by decide))
      obtain ⟨t1,t2⟩:=sV FU 8 _ _ f1.rf f2.rf (by decide) gd
      rw [t1]
      simp only [aa]
      obtain ⟨o1,o2⟩:=overG FU 16 _ _ t2 ⟨f3.rf.n.mono (by decide),f3.rf.d.mono (by decide)⟩ hunder0 (by decide) gd
      rw [o1]
      simp only [aa]
      refine nx _ (fun e he=>?_) (iC _ _ _)
      rcases jm he with rfl | he
      ·refine ⟨⟨_,hpl,I⟩,_,d1*d2*U,I,?_,?_⟩
       ·rw [hund] at hunder0 ⊢
        have e:((U*u:Nat):Rat)=(U:Rat)*((u:Int):Rat):=by push_cast; rfl
        rw [e]
        have e2:(((d1*d2*U:Nat):Int):Rat)=((d1:Int):Rat)*((d2:Int):Rat)*(U:Rat):=by push_cast; rfl
        rw [e2]
        generalize ((d1:Int):Rat)*((d2:Int):Rat)=x
        generalize ((u:Int):Rat)=y at hunder0
        rw [Rat.div_def,Rat.mul_comm (U:Rat) y,<- Rat.mul_assoc,Rat.mul_assoc x,Rat.inv_mul_cancel _ hunder0,Rat.mul_one]
       ·have m1:d1*d2<=2821109907456*2821109907456:=Nat.mul_le_mul l1 l2
        have m2:d1*d2*U<=2^84*U:=Nat.mul_le_mul_right _ (Nat.le_trans m1 (by decide))
        refine Nat.le_trans m2 ?_
        rw [<- Nat.mul_assoc]
        exact Nat.le_mul_of_pos_right _ hu
      ·exact q2 e he
    ·rw [if_neg hr2]
     exact nx D q2 (by omega)
   ·rw [if_neg hr1]
    exact nx D q2 (by omega)
 ·have:=hrn (B&&&~~~(B &&& -B))
  rw [show (B&&&~~~(B &&& -B))&&&(B&&&~~~(B &&& -B))=(B&&&~~~(B &&& -B)) from UInt64.and_self] at this
  exact this
 ·have:=hrn (B&&&~~~(B &&& -B))
  rw [show (B&&&~~~(B &&& -B))&&&(B&&&~~~(B &&& -B))=(B&&&~~~(B &&& -B)) from UInt64.and_self] at this
  simp only
  omega
 ·have:=hrn (B&&&~~~(B &&& -B))
  rw [show (B&&&~~~(B &&& -B))&&&(B&&&~~~(B &&& -B))=(B&&&~~~(B &&& -B)) from UInt64.and_self] at this
  simp only
  omega
theorem pL (F:Fld g b N k) {q:Lb Nat} (P:Pl g b N k q) {l:Lb (Nat×Nat)} (hl6:l.length<=6) (hl:∀ p∈l,p.1<p.2/\p.2<k) {ms:Lb Ua} (hm:∀ d,d<k->ms[d]? = some (cls q d)) :
  ∃ D,ah (aK_l3 FU (l.map fun p=>((p.1:Int),(p.2:Int))) (ms,0) b g (ak q,0)) FU (0,[])=some D/\∃ U,0<U/\U<=281474976710656^6/\DOk g b N k U D/\D.length<=3072:=by
 have h2:=F.n9; have hq:=P.len; have hk4:=F.k4; have hN:=F.n
 obtain ⟨D,e,U,u1,u2,u3,u4⟩:=am (B:=aK_l3 FU (l.map fun p=>((p.1:Int),(p.2:Int))) (ms,0) b g (ak q,0)) (fun s:Nat×lK=>l.length-s.1) (fun s=>s.1<=l.length/\∃ U,0<U/\U<=281474976710656^s.1/\DOk g b N k U s.2/\s.2.length<=512*s.1) (fun D=>∃ U,0<U/\U<=281474976710656^6/\DOk g b N k U D/\D.length<=3072) (fun ⟨i,D⟩ J ⟨a1,U,u1,u2,u3,u4⟩ hJ=>by
  simp only at a1 u2 u3 u4 hJ
  unfold aK_l3
  simp only [List.length_map]
  by_cases hi:i<l.length
  ·rw [if_pos hi,List.getElem?_map,geE hi]
   simp only [Option.map_some,aa]
   obtain ⟨p1,p2⟩:=hl l[i] (List.getElem_mem hi)
   generalize l[i]=pr at p1 p2
   obtain ⟨a,c⟩:=pr
   simp only at p1 p2 ⊢
   rw [aF,hm a (by omega)]
   simp only [aa]
   rw [aF,hm c p2]
   simp only [aa]
   obtain ⟨d,d1,d2⟩:=eM b F.val hN h2 F.ed (pD (q:=q) (a:=a) (c:=c) (by omega) (P.all a (by omega))) (by have h:=kT (q:=q) (a:=a) (c:=c) (by omega); rwa [hq,<- hN] at h)
   rw [d2]
   simp only [aa]
   have e1:(Rt (((d:Int):Rat))).fp=L (d:Int):=by show L (((d:Int):Rat)).num=_; rw [Rat.num_intCast]
   rw [e1,mq]
   simp only [aa]
   have hpow:281474976710656^i<=281474976710656^(i+1):=Nat.pow_le_pow_right (by decide) (by omega)
   by_cases hd0:d=0
   ·subst hd0
    rw [if_pos (by rfl)]
    exact hJ _ ⟨hi,U,u1,Nat.le_trans u2 hpow,u3,by simp only; omega⟩ (by simp only; omega)
   ·have hN2:2<=N:=by
     have h0:=P.all 0 (by omega)
     have h1:=P.all 1 (by omega)
     obtain ⟨i0,j0,e0⟩:=List.getElem_of_mem h0
     obtain ⟨i1,j1,e1⟩:=List.getElem_of_mem h1
     have:i0≠i1:=fun e=>by subst e; omega
     omega
    rw [if_neg (fun e=>hd0 (by have:=Int.sign_eq_zero_iff_zero.1 e; omega)),hN,aQ (by omega) (by omega)]
    simp only [aa]
    have hnl:((N:Int)-1)*((l.length:Nat):Int)=(((N-1)*l.length:Nat):Int):=by
     rw [show ((N:Int)-1)=((N-1:Nat):Int) by omega,<- Int.natCast_mul]
    have hnl2:(N-1)*l.length<=8*6:=Nat.mul_le_mul (by omega) hl6
    have hnl3:0<(N-1)*l.length:=Nat.mul_pos (by omega) (by omega)
    rw [hnl,aQ (by omega) (by omega)]
    simp only [aa]
    rw [gS (by unfold Sm; omega)]
    simp only [aa]
    have f1:FQ ((d:Int):Rat):=eH (Nat.lt_of_le_of_lt (by simpa using d1) (by decide))
    have f2:FQ ((((N-1)*l.length:Nat):Int):Rat):=eH (Nat.lt_of_le_of_lt (by rw [Int.natAbs_natCast]; exact hnl2) (by decide))
    obtain ⟨t1,t2⟩:=sV FU 8 _ _ f1.rf f2.rf (by decide) gd
    rw [t1]
    simp only [aa]
    have hund:((d:Int):Rat)*((((N-1)*l.length:Nat):Int):Rat)=(((d*((N-1)*l.length):Nat):Int):Rat):=by push_cast; rfl
    have hul:d*((N-1)*l.length)<=2821109907456*48:=Nat.mul_le_mul d1 hnl2
    obtain ⟨D', e2,v1,v2⟩:=pair_ok F P (a:=a) (c:=c) p1 p2 (t:=i+1) (by omega) (by omega) u1 u3 (under:=((d:Int):Rat)*((((N-1)*l.length:Nat):Int):Rat)) (u:=d*((N-1)*l.length)) (Nat.mul_pos (by omega) hnl3) hund (Nat.le_trans hul (by decide)) (L0:=512*i) u4 (by omega)
    rw [e2]
    simp only [aa]
    refine hJ _ ⟨hi,_,Nat.mul_pos u1 (Nat.mul_pos (by omega) hnl3),?_,v1,by simp only; omega⟩ (by simp only; omega)
    simp only
    rw [Nat.pow_succ]
    exact Nat.mul_le_mul u2 (Nat.le_trans hul (by decide))
  ·rw [if_neg hi]
   exact ⟨_,rfl,U,u1,Nat.le_trans u2 (qy (by omega)),u3,by omega⟩) FU ((0:Nat),([]:lK)) ⟨Nat.zero_le _,1,by decide,by simp,(show DOk g b N k 1 [] from fun e he=>by cases he),by simp⟩ (av (by simp only; omega))
 exact ⟨D,e,U,u1,u2,u3,u4⟩
end
end
theorem kn {ε:Type}:∀ {l:Lb ε} {e:ε} {r:Lb ε},(e,r)∈dM l->(e::r).Perm l
 | [],e,r,h=>by cases h
 | x::xs,e,r,h=>by
  rw [dM] at h
  rcases List.mem_cons.1 h with h | h
  ·cases h; exact .refl _
  ·obtain ⟨⟨e', r'⟩,h1,h2⟩:=List.mem_map.1 h
   cases h2
   exact (List.Perm.swap x e' r').trans ((kn h1).cons x)
theorem gj {ε γ α:Type} [DecidableEq α] {X:γ->Oa α} {B:ε->(γ->Oa α)->γ->Oa α} {D:Lb ε} (f:γ->ε->γ) (I:Nat->γ->Prop) (r:α)
  (hB:∀ k e J s,I (k+1) s->e∈D->B e J s=J (f s e)/\I k (f s e)) :
  ∀ (n:Nat) (l:Lb ε) (s:γ),l.length<=n->(∀ e∈l,e∈D)->I l.length s->(∀ l' : Lb ε,l'.Perm l->X (l'.foldl f s)=some r)->mloop X B n l s=some r
 | n,[],s,_,_,_,h=>by
  have:mloop X B n [] s=X s:=by cases n<;>rfl
  rw [this]
  exact h [] (.refl _)
 | 0,x::xs,s,hl,_,_,_=>by simp at hl
 | n+1,x::xs,s,hl,hm,hI,h=>by
  rw [mloop]
  refine nZ (by simp [dM]) fun y hy=>?_
  obtain ⟨⟨e,q⟩,h1,rfl⟩:=List.mem_map.1 hy
  have hp:=kn h1
  have hlen:=hp.length_eq
  rw [leC] at hlen
  rw [<- hlen] at hI
  obtain ⟨h2,h3⟩:=hB q.length e (mloop X B n q) s hI (hm e (hp.mem_iff.1 (List.mem_cons_self ..)))
  simp only
  rw [h2]
  refine gj f I r hB n q (f s e) (by rw [leC] at hl; rw [leC] at hlen; omega) (fun z hz=>hm z (hp.mem_iff.1 (List.mem_cons_of_mem _ hz))) h3 fun l' hl' =>?_
  have:=h (e::l') ((hl'.cons e).trans hp)
  rw [List.foldl_cons] at this
  exact this
section
def iU (q:Rat):Bool×Lb Ua×Bool×Lb Ua:=((L q.num).fe,(L q.num).fk,(L q.den).fe,(L q.den).fk)
theorem big0 {U a b n:Nat} (h:U<=(2^a)^b) (h1:a*b<n) (h2:97+a*b<n):U<2^n/\∀ m:Nat,m<=2^97*U->m<2^n:=by
 rw [<- Nat.pow_mul] at h
 refine ⟨Nat.lt_of_le_of_lt h (Nat.pow_lt_pow_right (by decide) h1),fun m hm=>?_⟩
 have h3:2^97*U<=2^97*2^(a*b):=Nat.mul_le_mul_left _ h
 rw [<- Nat.pow_add] at h3
 exact Nat.lt_of_le_of_lt (Nat.le_trans hm h3) (Nat.pow_lt_pow_right (by decide) h2)
theorem big1 {U:Nat} (h:U<=281474976710656^6):U<2^bl5/\∀ m:Nat,m<=2^97*U->m<2^bl5:=by
 rw [show (281474976710656:Nat)=2^48 from by decide] at h
 exact big0 h (by decide) (by decide)
theorem minusR {a c:Rat} (ha:FQ a) (hc:FQ c):bq_p FU (Rt a) (Rt c)=some (Rt (a-c)):=by
 unfold bq_p
 rw [turnedG FU 8 c hc.rf (by decide) gd]
 simp only [aa]
 rw [(plusG FU 8 a (-c) ha.rf hc.rf.neg (by decide) gd).1]
 simp only [aa]
 rw [Rat.sub_eq_add_neg]
def oT (s:Bool×Lb Ua×Bool×Lb Ua) (e:Key×Te):Bool×Lb Ua×Bool×Lb Ua:=
 match bq_p FU ⟨⟨s.1,s.2.1⟩,⟨s.2.2.1,s.2.2.2⟩⟩ e.2 with
 | some y=>(y.fp.fe,y.fp.fk,y.fl.fe,y.fl.fk)
 | none=>s
def LeftOk (U m:Nat) (r:Rat):Prop:=∃ z:Int,r*(U:Rat)=(z:Rat)/\z.natAbs+m*(2^84*U)<=2^97*U
theorem LeftOk.fq {U m:Nat} {r:Rat} (hU:0<U) (hU6:U<=281474976710656^6) (h:LeftOk U m r):FQ r:=by
 obtain ⟨z,z1,z2⟩:=h
 obtain ⟨b1,b2⟩:=big1 hU6
 exact oy hU z1 (b2 _ (by omega)) b1
theorem ShareOk.fq {U:Nat} {x:Te} (hU:0<U) (hU6:U<=281474976710656^6) (h:ShareOk U x):∃ v,x=Rt v/\FQ v/\val? x=v:=by
 obtain ⟨v,z,rfl,z1,z2⟩:=h
 obtain ⟨b1,b2⟩:=big1 hU6
 have h84:2^84*U<=2^97*U:=Nat.mul_le_mul_right _ (Nat.pow_le_pow_right (by decide) (by decide))
 exact ⟨v,rfl,oy hU z1 (by rw [Int.natAbs_natCast]; exact b2 _ (Nat.le_trans z2 h84)) b1,val_Rt v⟩
theorem nE {U m:Nat} {r:Rat} (hU:0<U) (hU6:U<=281474976710656^6) (h:LeftOk U (m+1) r) {e:Key×Te} (he:ShareOk U e.2):bq_p FU (Rt r) e.2=some (Rt (r-val? e.2))/\oT (iU r) e=iU (r-val? e.2)/\LeftOk U m (r-val? e.2):=by
 obtain ⟨v,v1,v2,v3⟩:=he.fq hU hU6
 have hm:=minusR (h.fq hU hU6) v2
 have key:bq_p FU (Rt r) e.2=some (Rt (r-val? e.2)):=by rw [v3,v1]; exact hm
 refine ⟨key,?_,?_⟩
 ·unfold oT
  rw [show (⟨⟨(iU r).1,(iU r).2.1⟩,⟨(iU r).2.2.1,(iU r).2.2.2⟩⟩:Te)=Rt r from I,key]
  rfl
 ·obtain ⟨z,z1,z2⟩:=h
  obtain ⟨v', y,w1,w2,w3⟩:=he
  have:v'=v:=qO (w1.symm.trans v1)
  subst this
  rw [v3]
  refine ⟨z-y,?_,?_⟩
  ·rw [Rat.sub_eq_add_neg,Rat.add_mul,Rat.neg_mul,z1,w2,Rat.intCast_sub,Rat.sub_eq_add_neg]
  ·rw [Nat.succ_mul] at z2
   generalize 2^84*U=A at *
   generalize m*A=M at *
   generalize 2^97*U=C at *
   omega
theorem iB {U:Nat} (hU:0<U) (hU6:U<=281474976710656^6):∀ (l:lK) (r:Rat),(∀ e∈l,ShareOk U e.2)->LeftOk U l.length r->l.foldl oT (iU r)=iU (l.foldl (fun r e=>r-val? e.2) r)/\LeftOk U 0 (l.foldl (fun r e=>r-val? e.2) r)
 | [],r,_,h=>⟨rfl,h⟩
 | e::l,r,he,h=>by
  obtain ⟨_,t2,t3⟩:=nE hU hU6 h (he e (List.mem_cons_self ..))
  rw [List.foldl_cons,List.foldl_cons,t2]
  exact iB hU hU6 l _ (fun d hd=>he d (List.mem_cons_of_mem _ hd)) t3
theorem nq {α β:Type} (h:α->β):∀ (l:Lb α) (xs:Lb β),l.foldl (fun xs e=>xs++[h e]) xs=xs++l.map h
 | [],xs=>(List.append_nil xs).symm
 | e::l,xs=>by rw [List.foldl_cons,nq h l,List.map_cons,List.append_assoc]; rfl
theorem ly {Q:Lb Nat->Prop}:∀ {ys:Lb (Lb Int)},(∀ y∈ys,∃ p,y=ak p/\Q p)->∃ ps:Lb (Lb Nat),ys=ps.map ak/\∀ p∈ps,Q p
 | [],_=>⟨[],rfl,by simp⟩
 | y::ys,h=>by
  obtain ⟨p,rfl,hp⟩:=h y (List.mem_cons_self ..)
  obtain ⟨ps,rfl,hps⟩:=ly fun z hz=>h z (List.mem_cons_of_mem _ hz)
  exact ⟨p::ps,I,fun q hq=>(List.mem_cons.1 hq).elim (fun e=>e ▸ hp) (hps q)⟩
section
variable {g:Tc} {b:Td} {N k:Nat}
theorem tail_ok (F:Fld g b N k) {D2:lK} (h:∀ e∈D2,px g b N k e/\∃ v,e.2=Rt v/\FQ v) (hl:D2.length<=4000):∃ (ps:Lb (Lb Nat)) (sh:Lb Ta),mloop (fun xs6447=>(bO_p FU (ac ((xs6447.length:Nat):Int))).bind fun y6487=>(jU (fun x9 y9=>bZ_p FU x9 y9) y6487 xs6447).bind fun xs6488=>thn (ah (aK_l2 FU xs6488 D2) FU (0,([]:Lb Ta))) (fun xs6623=>some (xs6488,xs6623,(0:Int)))) (bV FU g) FU D2 ([]:Lb (Lb Int))=some (ps.map ak,sh,0)/\sh.length=ps.length/\ps.length<=4000/\∀ p∈ps,Pl g b N k p:=by
 have h2:=F.n9; have hN:=F.n
 have hun:∀ e∈D2,∃ p,Pl g b N k p/\e.1=jv (ak p)/\(dB e.1).take N=ak p:=fun e he=>by
  obtain ⟨⟨p,p1,p2⟩,_⟩:=h e he
  refine ⟨p,p1,p2,?_⟩
  have:=pY (ak p) (by rw [aq,p1.len]; omega)
  rw [aq,p1.len] at this
  rw [p2,this]
 have hmem:∀ x,x∈D2.map (fun e=>(dB e.1).take N)->∃ e∈D2,∃ p,Pl g b N k p/\e.1=jv (ak p)/\x=ak p:=fun x hx=>by
  obtain ⟨e,he,rfl⟩:=List.mem_map.1 hx
  obtain ⟨p,p1,p2,p3⟩:=hun e he
  exact ⟨e,he,p,p1,p2,p3⟩
 have hcmp:∀ xs:Lb (Lb Int),(∀ x∈xs,x∈D2.map (fun e=>(dB e.1).take N))->∀ x∈xs,∀ y∈xs,(fun x9 y9=>bZ_p FU x9 y9) x y=some (bJ x y):=fun xs hxs x hx y hy=>by
  obtain ⟨_,_,p,p1,_,rfl⟩:=hmem x (hxs x hx)
  show bZ_p FU _ _=_
  unfold bZ_p
  rw [iT FU _ _ (by rw [aq,p1.len]; exact av (by omega))]
  rfl
 obtain ⟨ys,y1,y2,y3⟩:=jW (xs:=D2.map fun e=>(dB e.1).take N) (by rw [List.length_map]; omega) (hcmp _ fun x hx=>hx)
 have hys:∀ x∈ys,∃ e∈D2,∃ p,Pl g b N k p/\e.1=jv (ak p)/\x=ak p:=fun x hx=>hmem x (y2.mem_iff.1 hx)
 obtain ⟨ps,rfl,hps⟩:=ly (Q:=Pl g b N k) fun y hy=>by
  obtain ⟨_,_,p,p1,_,p3⟩:=hys y hy
  exact ⟨p,p3,p1⟩
 have hyl:(ps.map ak).length=D2.length:=by rw [y2.length_eq,List.length_map]
 rw [List.length_map] at hyl
 obtain ⟨y,e,sh,rfl,hsh⟩:=am (B:=aK_l2 FU (ps.map ak) D2) (fun s:Nat×Lb Ta=>ps.length-s.1) (fun s=>s.1<=ps.length/\s.2.length=s.1) (fun y=>∃ sh,y=.inr sh/\sh.length=ps.length) (fun ⟨i,sh⟩ J ⟨a1,a2⟩ hJ=>by
  simp only at a1 a2 hJ
  unfold aK_l2
  simp only [List.length_map]
  by_cases hi:i<ps.length
  ·have hi' : i<(ps.map ak).length:=by rw [List.length_map]; exact hi
   rw [if_pos hi,geE hi']
   simp only [aa]
   rw [gW]
   simp only [aa]
   obtain ⟨e,he,p,p1,p2,p3⟩:=hys _ (List.getElem_mem hi')
   obtain ⟨v,hv⟩:=oZ he
   rw [p3,<- p2,hv]
   simp only [aa]
   obtain ⟨_,w,rfl,w2⟩:=h _ (nc hv)
   rw [rtoldG FU w (av (by omega)),if_pos w2]
   simp only [aa]
   rw [ifT,dV _ _ (by simp only [List.length_singleton]; omega)]
   simp only [aa]
   exact hJ _ ⟨hi,by simp only [List.length_append,List.length_singleton]; omega⟩ (by simp only; omega)
  ·rw [if_neg hi]
   exact ⟨_,rfl,sh,rfl,by omega⟩) FU ((0:Nat),([]:Lb Ta)) ⟨Nat.zero_le _,rfl⟩ (av (by simp only; omega))
 refine ⟨ps,sh,?_,hsh,by omega,hps⟩
 refine gj (D:=D2) (fun xs e=>xs++[(dB e.1).take N]) (fun m xs=>xs.length+m<=4000) _ (fun m e J xs hI he=>?_) FU D2 [] (by have:=gd; omega) (fun e he=>he) (by simpa using hl) fun l' hl' =>?_
 ·unfold bV
  simp only
  have hup:ru 12 g.fN=some N:=by unfold ru; rw [hN,if_pos (by omega)]; rfl
  rw [hup]
  simp only [aa]
  have hcl:bE_p FU ((dB e.1).take N)=some ((dB e.1).take N):=by
   unfold bE_p ce
   rw [dV [] _ (by
    have:((dB e.1).take N).length<=N:=List.length_take_le ..
    simp only [leN]; omega)]
   simp only [aa,List.nil_append]
   cases (dB e.1).take N<;>simp
  rw [show ([e.1.1,e.1.2.1,e.1.2.2.1,e.1.2.2.2.1,e.1.2.2.2.2.1,e.1.2.2.2.2.2.1,e.1.2.2.2.2.2.2.1,e.1.2.2.2.2.2.2.2.1,e.1.2.2.2.2.2.2.2.2.1,e.1.2.2.2.2.2.2.2.2.2.1,e.1.2.2.2.2.2.2.2.2.2.2.1,e.1.2.2.2.2.2.2.2.2.2.2.2]:Lb Int)=dB e.1 from I,hcl]
  simp only [aa]
  rw [dV _ _ (by simp only [List.length_singleton]; omega)]
  exact ⟨rfl,by simp only [List.length_append,List.length_singleton]; omega⟩
 ·rw [nq,List.nil_append]
  have hsub:∀ x∈l'.map (fun e=>(dB e.1).take N),x∈D2.map (fun e=>(dB e.1).take N):=fun x hx=>(hl'.map _).mem_iff.1 hx
  obtain ⟨zs,z1,z2,z3⟩:=jW (xs:=l'.map fun e=>(dB e.1).take N) (by rw [List.length_map,hl'.length_eq]; omega) (hcmp _ hsub)
  have:zs=ps.map ak:=kx (z2.trans ((hl'.map _).trans y2.symm)) z3 y3
  subst this
  rw [z1,e]
  rfl
theorem po (F:Fld g b N k) {q:Lb Nat} (P:Pl g b N k q):∃ (ps:Lb (Lb Nat)) (sh:Lb Ta),aK_p FU g b (ak q)=some (ps.map ak,sh,0)/\sh.length=ps.length/\ps.length<=4000/\∀ p∈ps,Pl g b N k p:=by
 have h2:=F.n9; have hq:=P.len; have hk4:=F.k4; have hN:=F.n; have hn1:=F.n1
 unfold aK_p
 rw [ry F P]
 simp only [aa]
 rw [ifT,iA q (by omega) (by omega) (fun x hx=>by have:=P.lt x hx; omega),P.canon h2]
 simp only [aa]
 rw [F.d]
 obtain ⟨ms,m1,m2,m3⟩:=nI (q:=q) (k:=k) (by omega) (by omega) F.k1 (by omega) P.lt P.all
 rw [m1]
 simp only [aa]
 obtain ⟨l,l1,l2,l3⟩:=sq F.k1 hk4
 rw [l1]
 simp only [aa]
 obtain ⟨D,d1,U,u1,u2,u3,u4⟩:=pL F P l2 l3 m3
 rw [d1]
 simp only [aa]
 have e1:ce_p FU (1:Int)=some (Rt 1):=gS sm1
 rw [e1]
 simp only [aa]
 have hsh:∀ e∈D,ShareOk U e.2:=fun e he=>(u3 e he).2
 have hLeft:LeftOk U D.length 1:=by
  refine ⟨(U:Int),by rw [Rat.one_mul]; rfl,?_⟩
  rw [Int.natAbs_natCast]
  have h3:D.length*(2^84*U)<=3072*(2^84*U):=Nat.mul_le_mul_right _ u4
  have h4:(2:Nat)^97*U=8192*(2^84*U):=by
   rw [show (97:Nat)=13+84 from I,Nat.pow_add,Nat.mul_assoc]
  have h5:U<=2^84*U:=Nat.le_mul_of_pos_left _ (Nat.two_pow_pos _)
  rw [h4]
  generalize 2^84*U=A at *
  omega
 obtain ⟨_,hfin⟩:=iB u1 u2 D 1 hsh hLeft
 generalize hR:D.foldl (fun r e=>r-val? e.2) 1=R at hfin
 have hRq:=hfin.fq u1 u2
 have hD2:∃ D2:lK,(if 0<R.num.sign then aH D (jv (ak q)) (Rt R) else D)=D2/\(∀ e∈D2,px g b N k e/\∃ v,e.2=Rt v/\FQ v)/\D2.length<=4000:=by
  have hD:∀ e∈D,px g b N k e/\∃ v,e.2=Rt v/\FQ v:=fun e he=>by
   obtain ⟨v,v1,v2,_⟩:=(hsh e he).fq u1 u2
   exact ⟨(u3 e he).1,v,v1,v2⟩
  refine ⟨_,I,?_,?_⟩
  ·split
   ·intro e he
    rcases jm he with rfl | he
    ·exact ⟨⟨q,P,I⟩,R,I,hRq⟩
    ·exact hD e he
   ·exact hD
  ·split
   ·have:=iC (jv (ak q)) (Rt R) D; omega
   ·omega
 obtain ⟨D2,hD2e,hD2a,hD2b⟩:=hD2
 obtain ⟨ps,sh,t1,t2,t3⟩:=tail_ok F hD2a hD2b
 refine ⟨ps,sh,?_,t2,t3⟩
 refine gj (D:=D) oT (fun m s=>∃ r,s=iU r/\LeftOk U m r) _ (fun m e J s ⟨r,hs,hr⟩ he=>?_) FU D (iU 1) (by have:=gd; omega) (fun e he=>he) ⟨1,I,hLeft⟩ fun l' hl' =>?_
 ·subst hs
  obtain ⟨k1,k2,k3⟩:=nE u1 u2 hr (hsh e he)
  refine ⟨?_,_,k2,k3⟩
  rw [k2]
  unfold cG
  have hraw:(⟨(⟨(L r.num).fe,(L r.num).fk⟩:Tb),(⟨(L (r.den:Int)).fe,(L (r.den:Int)).fk⟩:Tb)⟩:Te)=Rt r:=rfl
  simp only [iU]
  rw [hraw,k1]
  rfl
 ·have hsh' : ∀ e∈l', ShareOk U e.2:=fun e he=>hsh e (hl'.mem_iff.1 he)
  obtain ⟨f1,f2⟩:=iB u1 u2 l' 1 hsh' (by rw [hl'.length_eq]; exact hLeft)
  have hpf:l'.foldl (fun r e=>r-val? e.2) 1=R:=by
   rw [<- hR]
   exact hl'.foldl_eq' (fun x _ y _ z=>by
    show z-val? x.2-val? y.2=z-val? y.2-val? x.2
    rw [Rat.sub_eq_add_neg,Rat.sub_eq_add_neg,Rat.sub_eq_add_neg,Rat.sub_eq_add_neg,Rat.add_assoc,Rat.add_assoc,Rat.add_comm (-val? x.2)]) 1
  rw [f1,hpf]
  have hraw:(⟨(L R.num).fe,(L R.num).fk⟩:Tb)=L R.num:=rfl
  have hraw2:(⟨(⟨(L R.num).fe,(L R.num).fk⟩:Tb),(⟨(L (R.den:Int)).fe,(L (R.den:Int)).fk⟩:Tb)⟩:Te)=Rt R:=rfl
  unfold jn
  simp only [iU]
  rw [hraw,mq]
  simp only [aa]
  by_cases hs:0<R.num.sign
  ·rw [if_pos hs] at hD2e ⊢
   rw [gW]
   simp only [aa]
   rw [show (⟨L R.num,(⟨(L (R.den:Int)).fe,(L (R.den:Int)).fk⟩:Tb)⟩:Te)=Rt R from I,hD2e]
   exact t1
  ·rw [if_neg hs] at hD2e ⊢
   rw [hD2e]
   exact t1
end
end
section
def nm (p:Lb Nat):ByteArray:=ss ((ak p).map dD)
theorem nm_inj {p q:Lb Nat} (hp:∀ x∈p,x<256) (hq:∀ x∈q,x<256) (h:nm p=nm q):p=q:=by
 unfold nm ss at h
 have h1:=congrArg (fun b=>b.data.toList) h
 simp only at h1
 unfold ak at h1
 rw [List.map_map,List.map_map] at h1
 have key:∀ {p q:Lb Nat},(∀ x∈p,x<256)->(∀ x∈q,x<256)->p.map (dD ∘ fun x:Nat=>(x:Int))=q.map (dD ∘ fun x:Nat=>(x:Int))->p=q:=by
  intro p
  induction p with
  | nil=>
   intro q _ _ h
   cases q with
   | nil=>rfl
   | cons y q=>cases h
  | cons x p ih=>
   intro q hp hq h
   cases q with
   | nil=>cases h
   | cons y q=>
    rw [List.map_cons,List.map_cons,List.cons.injEq] at h
    have hx:=hp x (List.mem_cons_self ..)
    have hy:=hq y (List.mem_cons_self ..)
    have e:=congrArg UInt8.toNat h.1
    have e1:∀ n:Nat,n<256->(dD (n:Int)).toNat=n:=fun n hn=>by
     unfold dD
     rw [UInt8.toNat_ofNat']
     omega
    have e2:(dD (x:Int)).toNat=(dD (y:Int)).toNat:=e
    rw [e1 x hx,e1 y hy] at e2
    rw [e2,ih (fun z hz=>hp z (List.mem_cons_of_mem _ hz)) (fun z hz=>hq z (List.mem_cons_of_mem _ hz)) h.2]
 exact key hp hq (by simpa using h1)
theorem gG (p:Lb Nat) (h:p.length<=1000):aE_p FU (ak p)=some (nm p):=by
 unfold aE_p
 rw [cF _ _ (by rw [aq]; omega)]
 simp only [aa]
 obtain ⟨r,e,rfl⟩:=am (B:=aE_l1 FU (ak p)) (fun s:Nat×Lb UInt8=>p.length-s.1) (fun s=>s.1<=p.length/\s.2.length=p.length/\s.2.take s.1=((ak p).map dD).take s.1) (fun r=>r=(ak p).map dD) (fun ⟨i,xs⟩ J ⟨a1,a2,a3⟩ hJ=>by
  simp only at a1 a2 a3 hJ
  unfold aE_l1
  simp only [aq]
  by_cases hi:i<p.length
  ·rw [if_pos hi,geE (by rw [aq]; exact hi)]
   simp only [aa]
   rw [geE (show i<xs.length by omega)]
   simp only [aa]
   rw [bc _ (by omega)]
   simp only [aa]
   refine hJ _ ⟨hi,by simpa using a2,?_⟩ (by simp only; omega)
   simp only
   rw [iF _ (by omega),a3,List.take_succ_eq_append_getElem (show i<((ak p).map dD).length by rw [List.length_map,aq]; exact hi),List.getElem_map]
  ·rw [if_neg hi]
   refine ⟨_,I,?_⟩
   rwa [List.take_of_length_le (by omega),List.take_of_length_le (by rw [List.length_map,aq]; omega)] at a3) FU ((0:Nat),List.replicate (ak p).length 0) ⟨Nat.zero_le _,by simp [aq],rfl⟩ (av (by simp only; omega))
 rw [e]
 rfl
section
variable {g:Tc} {b:Td} {N k:Nat}
theorem Pl.nm_inj {p q:Lb Nat} (hk:k<=4) (P:Pl g b N k p) (Q:Pl g b N k q) (h:nm p=nm q):p=q:=
 Proofs.YtkimkkgicmipbaaGreatDoor.nm_inj (fun x hx=>by have:=P.lt x hx; omega) (fun x hx=>by have:=Q.lt x hx; omega) h
def Names {ν:Type} (g:Tc) (b:Td) (N k:Nat) (D:Lb (ByteArray×ν)) (U:Lb (Lb Nat)):Prop:=∀ p,Pl g b N k p->((aP D (nm p)).isSome=true↔p∈U)
theorem Names.add {ν:Type} {D:Lb (ByteArray×ν)} {U:Lb (Lb Nat)} (hk:k<=4) (h:Names g b N k D U) {q:Lb Nat} (Q:Pl g b N k q) (v:ν):Names g b N k (aH D (nm q) v) (U++[q]):=fun p P=>by
 rw [fL,List.mem_append,List.mem_singleton]
 by_cases e:nm p=nm q
 ·rw [if_pos e]
  exact ⟨fun _=>.inr (P.nm_inj hk Q e),fun _=>rfl⟩
 ·rw [if_neg e,h p P]
  exact ⟨.inl,fun h=>h.elim id fun h=>absurd (by rw [h]) e⟩
theorem sx (F:Fld g b N k) {ps:Lb (Lb Nat)} {sh:Lb Ta} (hsh:sh.length=ps.length) (hps:ps.length<=4000) (hp:∀ p∈ps,Pl g b N k p) {U:Lb (Lb Nat)} (hU:∀ p∈U,Pl g b N k p) (hn:U.Nodup) (hl:U.length<=1000) {D:Lb (ByteArray×Int)} (hD:Names g b N k D U) :
  ∃ W D1 D2,ah (av_l1 FU (ps.map ak,sh,0)) FU (0,([]:Lb (ByteArray×Ta)),U.map ak,D)=some ((U++W).map ak,D1,D2)/\(∀ p∈U++W,Pl g b N k p)/\(U++W).Nodup/\Names g b N k D2 (U++W):=by
 have h2:=F.n9; have hk4:=F.k4
 obtain ⟨r,e,W,D1,D2,rfl,w1,w2,w3⟩:=am (B:=av_l1 FU (ps.map ak,sh,0)) (fun s:Nat×Lb (ByteArray×Ta)×Lb (Lb Int)×Lb (ByteArray×Int)=>ps.length-s.1) (fun s=>s.1<=ps.length/\∃ W,s.2.2.1=(U++W).map ak/\W.length<=s.1/\(∀ p∈U++W,Pl g b N k p)/\(U++W).Nodup/\Names g b N k s.2.2.2 (U++W)) (fun r=>∃ W D1 D2,r=((U++W).map ak,D1,D2)/\(∀ p∈U++W,Pl g b N k p)/\(U++W).Nodup/\Names g b N k D2 (U++W)) (fun ⟨i,D1,xs,D2⟩ J ⟨a1,W,a2,a3,a4,a5,a6⟩ hJ=>by
  simp only at a1 a2 a3 a4 a5 a6 hJ
  subst a2
  unfold av_l1
  simp only [List.length_map]
  by_cases hi:i<ps.length
  ·have P:=hp _ (List.getElem_mem hi)
   have hpl:=P.len
   rw [if_pos hi,List.getElem?_map,geE hi]
   simp only [Option.map_some,aa]
   rw [gG _ (by omega)]
   simp only [aa]
   rw [geE (show i<sh.length by omega)]
   simp only [aa]
   by_cases hm:(aP D2 (nm ps[i])).isSome=true
   ·rw [if_pos hm]
    exact hJ _ ⟨hi,W,rfl,by simp only; omega,a4,a5,a6⟩ (by simp only; omega)
   ·rw [if_neg hm,dV _ _ (by simp only [List.length_map,List.length_append,List.length_singleton]; omega)]
    simp only [aa]
    have hnot:ps[i]∉U++W:=fun h=>hm ((a6 _ P).2 h)
    refine hJ _ ⟨hi,W++[ps[i]],?_,by simp only [List.length_append,List.length_singleton]; omega,?_,?_,?_⟩ (by simp only; omega)
    ·simp only
     rw [<- List.append_assoc,List.map_append (l₁:=U++W)]
     rfl
    ·rw [<- List.append_assoc]
     intro p h
     rcases List.mem_append.1 h with h | h
     ·exact a4 p h
     ·rw [List.mem_singleton.1 h]; exact P
    ·rw [<- List.append_assoc]
     exact List.nodup_append.2 ⟨a5,by simp,fun x hx y hy e=>hnot (by rw [List.mem_singleton.1 hy] at e; exact e ▸ hx)⟩
    ·simp only
     rw [<- List.append_assoc]
     exact a6.add hk4 P _
  ·rw [if_neg hi]
   exact ⟨_,rfl,W,D1,D2,rfl,a4,a5,a6⟩) FU (0,([]:Lb (ByteArray×Ta)),U.map ak,D) ⟨Nat.zero_le _,[],by simp,by simp,by simpa using hU,by simpa using hn,by simpa using hD⟩ (av (by simp only; omega))
 exact ⟨W,D1,D2,e,w1,w2,w3⟩
theorem rb (F:Fld g b N k) {q:Lb Nat} (P:Pl g b N k q):∃ (ps:Lb (Lb Nat)) (M:Lb (Lb Ta)) (e:Int),av_p FU g b (ak q)=some (ps.map ak,M,e)/\(e=3∨e=0/\ps≠[]/\ps.length<=60/\(∀ p∈ps,Pl g b N k p)/\ps.Pairwise fun a c=>bJ (ak a) (ak c)<0):=by
 have h2:=F.n9; have hk4:=F.k4; have hq:=P.len; have hn1:=F.n1
 unfold av_p
 obtain ⟨ps0,sh0,o1,_,_,_⟩:=po F P
 rw [o1]
 simp only [aa]
 rw [ifT,iA q (by omega) (by omega) (fun x hx=>by have:=P.lt x hx; omega),P.canon h2]
 simp only [aa]
 rw [gG _ (by omega)]
 simp only [aa]
 rw [dV [] _ (by simp)]
 simp only [aa,List.nil_append]
 have hne0:Names g b N k ([]:Lb (ByteArray×Int)) []:=fun p _=>by simp [aP]
 obtain ⟨y,e,hy⟩:=am (B:=av_l4 FU g b) (fun s=>61-s.1) (fun s=>∃ U,s.1<=U.length/\U.length<=60/\U≠[]/\s.2.2.1=U.map ak/\(∀ p∈U,Pl g b N k p)/\U.Nodup/\Names g b N k s.2.2.2 U/\Names g b N k s.2.1 (U.take s.1))
  (fun y=>y=.inl ([],[],3)∨∃ U D,y=.inr (U.map ak,D)/\U≠[]/\U.length<=60/\(∀ p∈U,Pl g b N k p)/\U.Nodup/\Names g b N k D U) (fun ⟨i,D,xs,D2⟩ J ⟨U,a1,a2,a3,a4,a5,a6,a7,a8⟩ hJ=>by
  simp only at a1 a4 a7 a8 hJ
  subst a4
  unfold av_l4
  simp only [List.length_map]
  by_cases hi:i<U.length
  ·have Q:=a5 _ (List.getElem_mem hi)
   have hQ:=Q.len
   rw [if_pos hi,List.getElem?_map,geE hi]
   simp only [Option.map_some,aa]
   obtain ⟨ps,sh,o1,o2,o3,o4⟩:=po F Q
   rw [o1]
   simp only [aa]
   rw [ifT]
   obtain ⟨W,E1,E2,w0,w1,w2,w3⟩:=sx F o2 o3 o4 a5 a6 (by omega) a7
   rw [w0]
   simp only [aa]
   rw [gG _ (by omega)]
   simp only [aa]
   have hnot:U[i]∉U.take i:=fun h=>by
    obtain ⟨j,hj,ej⟩:=List.getElem_of_mem h
    rw [List.length_take] at hj
    rw [List.getElem_take] at ej
    have:=(List.getElem_inj a6).1 ej
    omega
   have hnew:sQ D (nm U[i])=some ():=by
    unfold sQ
    rw [if_neg (fun h=>hnot ((a8 _ Q).1 h))]
   rw [hnew]
   simp only [aa,List.length_map]
   by_cases hbig:60<(U++W).length
   ·rw [if_pos (by omega)]
    exact ⟨_,I,.inl I⟩
   ·rw [if_neg (by omega)]
    refine hJ _ ⟨U++W,?_,by omega,by simp [a3],rfl,w1,w2,w3,?_⟩ (by simp only; omega)
    ·rw [List.length_append]; simp only; omega
    ·simp only
     rw [List.take_append_of_le_length (by omega),List.take_succ_eq_append_getElem hi]
     exact a8.add hk4 Q _
  ·rw [if_neg hi]
   refine ⟨_,I,.inr ⟨U,D,I,a3,a2,a5,a6,?_⟩⟩
   rwa [List.take_of_length_le (by omega)] at a8) FU (0,([]:Lb (ByteArray×(Lb (ByteArray×Ta)))),[ak q],aH ([]:Lb (ByteArray×Int)) (nm q) (0:Int)) ⟨[q],by simp,by simp,by simp,rfl,by simpa using P,by simp,hne0.add hk4 P 0,fun p _=>by simp [aP]⟩ (av (by simp only; omega))
 rw [e]
 rcases hy with rfl | ⟨U,D,rfl,b1,b2,b3,b4,b5⟩
 ·exact ⟨[],[],3,I,.inl I⟩
 ·unfold thn
  simp only
  have hcl:aL_p FU (U.map ak)=some (U.map ak):=by
   unfold aL_p ce
   rw [dV [] _ (by simp only [leN,List.length_map]; omega)]
   simp only [aa,List.nil_append]
   cases U<;>simp
  rw [hcl]
  simp only [aa]
  obtain ⟨ys,y1,y2,y3⟩:=jW (c:=fun x9 y9=>bQ_p FU x9 y9) (xs:=U.map ak) (by rw [List.length_map]; omega) (fun x hx y hy=>by
   obtain ⟨p,hp,rfl⟩:=List.mem_map.1 hx
   show bQ_p FU _ _=_
   unfold bQ_p
   rw [iT FU _ _ (by rw [aq,(b3 p hp).len]; exact av (by omega))]
   rfl)
  have hmem:∀ y∈ys,∃ p,y=ak p/\p∈U:=fun y hy=>by
   obtain ⟨p,hp,rfl⟩:=List.mem_map.1 (y2.mem_iff.1 hy)
   exact ⟨p,I,hp⟩
  obtain ⟨ps,rfl,hps⟩:=ly (Q:=fun p=>p∈U) hmem
  have hyl:ps.length=U.length:=by have:=y2.length_eq; rwa [List.length_map,List.length_map] at this
  rw [y1,mw FU 0 1 (by unfold Sm; decide) sm1 (by decide) gd]
  simp only [aa]
  have l2:∀ (v:Ta×Int) (p:Lb Nat),p∈U->∃ r,ah (av_l2 FU (ps.map ak) (ak p) D v) FU (0,([]:Lb Ta))=some r:=fun v p hp=>by
   obtain ⟨r,e,_⟩:=am (B:=av_l2 FU (ps.map ak) (ak p) D v) (fun s:Nat×Lb Ta=>ps.length-s.1) (fun s=>s.1<=ps.length/\s.2.length=s.1) (fun _=>True) (fun ⟨i,xs⟩ J ⟨a1,a2⟩ hJ=>by
    simp only at a1 a2 hJ
    unfold av_l2
    simp only [List.length_map]
    by_cases hi:i<ps.length
    ·rw [if_pos hi,List.getElem?_map,geE hi]
     simp only [Option.map_some,aa]
     rw [gG p (by rw [(b3 p hp).len]; omega)]
     simp only [aa]
     have hs:=(b5 p (b3 p hp)).2 hp
     obtain ⟨E,hE⟩:=Option.isSome_iff_exists.1 hs
     rw [hE]
     simp only [aa]
     rw [gG ps[i] (by rw [(b3 _ (hps _ (List.getElem_mem hi))).len]; omega)]
     simp only [aa]
     unfold jn
     simp only
     split
     ·rw [dV _ _ (by simp only [List.length_singleton]; omega)]
      simp only [aa]
      exact hJ _ ⟨hi,by simp only [List.length_append,List.length_singleton]; omega⟩ (by simp only; omega)
     ·rw [dV _ _ (by simp only [List.length_singleton]; omega)]
      simp only [aa]
      exact hJ _ ⟨hi,by simp only [List.length_append,List.length_singleton]; omega⟩ (by simp only; omega)
    ·rw [if_neg hi]
     exact ⟨_,rfl,trivial⟩) FU ((0:Nat),([]:Lb Ta)) ⟨Nat.zero_le _,rfl⟩ (av (by simp only; omega))
   exact ⟨r,e⟩
  generalize hv:((Sh (Rat.divInt 0 1),0):Ta×Int)=v
  obtain ⟨r,e3,_⟩:=am (B:=av_l3 FU (ps.map ak) D v) (fun s:Nat×Lb (Lb Ta)=>ps.length-s.1) (fun s=>s.1<=ps.length/\s.2.length=s.1) (fun _=>True) (fun ⟨i,xs⟩ J ⟨a1,a2⟩ hJ=>by
   simp only at a1 a2 hJ
   unfold av_l3
   simp only [List.length_map]
   by_cases hi:i<ps.length
   ·rw [if_pos hi,List.getElem?_map,geE hi]
    simp only [Option.map_some,aa]
    obtain ⟨r,hr⟩:=l2 v ps[i] (hps _ (List.getElem_mem hi))
    rw [hr]
    simp only [aa]
    rw [dV _ _ (by simp only [List.length_singleton]; omega)]
    simp only [aa]
    exact hJ _ ⟨hi,by simp only [List.length_append,List.length_singleton]; omega⟩ (by simp only; omega)
   ·rw [if_neg hi]
    exact ⟨_,rfl,trivial⟩) FU ((0:Nat),([]:Lb (Lb Ta))) ⟨Nat.zero_le _,rfl⟩ (av (by simp only; omega))
  rw [e3]
  refine ⟨ps,r,0,I,.inr ⟨I,fun h=>b1 ?_,by omega,fun p hp=>b3 p (hps p hp),?_⟩⟩
  ·have:U.length=0:=by rw [<- hyl,h]; rfl
   exact List.length_eq_zero_iff.1 this
  ·have hnd:(ps.map ak).Nodup:=by
    refine (y2.nodup_iff).2 ?_
    exact List.Pairwise.map _ (fun a c h e=>h (sH e)) b4
   have hboth:=List.Pairwise.and y3 hnd
   have:=List.pairwise_map.1 hboth
   refine this.imp fun {a c} h=>?_
   have h3:bJ (ak a) (ak c)≠0:=fun h0=>h.2 (fS h0)
   have h4:=h.1
   omega
end
end
section
def iQ (z:Int):Nat:=val (wv ((W8 z).1,(W8 z).2.1,(W8 z).2.2.1,(W8 z).2.2.2.1,(W8 z).2.2.2.2.1,(W8 z).2.2.2.2.2.1,(W8 z).2.2.2.2.2.2.1,(W8 z).2.2.2.2.2.2.2^^^(9223372036854775808:Ua)))
theorem mL (x:Ua) (l:Lb Ua):val (x::l)=x.toNat+18446744073709551616*val l:=rfl
theorem dL (z:Nat) (h:z<=68719476736):iQ (z:Int)=z+val (wv (0,0,0,0,0,0,0,9223372036854775808)):=by
 have e:(0:Ua)^^^(9223372036854775808:Ua)=9223372036854775808:=by decide
 have e0:(0:Ua).toNat=0:=by decide
 unfold iQ W8
 rw [if_neg (by omega)]
 unfold wv
 simp only
 rw [e,mL (ac (z:Int)),mL (0:Ua) [0,0,0,0,0,0,9223372036854775808],e0,Nat.zero_add,qD (by omega)]
theorem tf:iQ (-1)<val (wv (0,0,0,0,0,0,0,9223372036854775808)):=by
 have e:iQ (-1)=val (wv (18446744073709551615,18446744073709551615,18446744073709551615,18446744073709551615,18446744073709551615,18446744073709551615,18446744073709551615,9223372036854775807)):=rfl
 rw [e]
 decide +kernel
theorem lE (x y:Int):∃ c,cq_p FU (W8 x) (W8 y)=some c/\(c<0↔iQ x<iQ y)/\(c=0↔iQ x=iQ y):=by
 unfold cq_p
 obtain ⟨c,h1,h2,h3⟩:=kE FU ((W8 x).1,(W8 x).2.1,(W8 x).2.2.1,(W8 x).2.2.2.1,(W8 x).2.2.2.2.1,(W8 x).2.2.2.2.2.1,(W8 x).2.2.2.2.2.2.1,(W8 x).2.2.2.2.2.2.2^^^(9223372036854775808:Ua)) ((W8 y).1,(W8 y).2.1,(W8 y).2.2.1,(W8 y).2.2.2.1,(W8 y).2.2.2.2.1,(W8 y).2.2.2.2.2.1,(W8 y).2.2.2.2.2.2.1,(W8 y).2.2.2.2.2.2.2^^^(9223372036854775808:Ua)) (av (by omega))
 rw [h1]
 exact ⟨c,I,h2,h3⟩
theorem ne (l:Lb Int) (h:l.length<=1000):ax_p FU l l=some true:=by
 unfold ax_p
 rw [if_pos I]
 obtain ⟨y,e,rfl⟩:=am (B:=ax_l1 FU l l) (fun i:Nat=>l.length-i) (fun _=>True) (fun y=>y=.inr ()) (fun i J _ hJ=>by
  unfold ax_l1
  by_cases hi:i<l.length
  ·rw [if_pos hi,geE hi]
   simp only [aa]
   rw [ifT]
   exact hJ _ trivial (by omega)
  ·rw [if_neg hi]; exact ⟨_,rfl,rfl⟩) FU 0 trivial (av (by omega))
 rw [e]
 rfl
section
variable {g:Tc} {b:Td} {N k:Nat}
noncomputable def numG (g:Tc) (b:Td) (N k:Nat) (p:Lb Nat):Nat:=dJ (fitsG g b) k [] (List.range N) p
theorem rg (F:Fld g b N k) {p:Lb Nat} (P:Pl g b N k p):numG g b N k p<aK (fitsG g b) [] (List.range N) k:=
 fR _ (by rw [List.length_range,P.len]) P.rgs (P.end1 F.n9)
theorem pA (F:Fld g b N k) {p q:Lb Nat} (P:Pl g b N k p) (Q:Pl g b N k q) (h:bJ (ak p) (ak q)<0):numG g b N k p<numG g b N k q:=
 mP _ (by rw [List.length_range,P.len]) (by rw [List.length_range,Q.len]) P.rgs Q.rgs (P.end1 F.n9) (mT (by rw [P.len,Q.len]) h)
theorem qz (F:Fld g b N k) {ps:Lb (Lb Nat)} (hne:ps≠[]) (hl:ps.length<=60) (hp:∀ p∈ps,Pl g b N k p) (hs:ps.Pairwise fun a c=>bJ (ak a) (ak c)<0) (M:Lb (Lb Ta)) (w:Lb Int) :
  ∃ C:Nat,C<=68719476736/\ps.length<=C/\bV_p FU g b=some (W8 (C:Int),0)/\ah (aB_l1 FU (ps.map ak,M,0) (g,b,w) (W8 (C:Int),0)) FU (0,(W8 (-1)).1,(W8 (-1)).2.1,(W8 (-1)).2.2.1,(W8 (-1)).2.2.2.1,(W8 (-1)).2.2.2.2.1,(W8 (-1)).2.2.2.2.2.1,(W8 (-1)).2.2.2.2.2.2.1,(W8 (-1)).2.2.2.2.2.2.2)=some (.inr ()):=by
 have hC:=eJ F [] 0
 rw [List.drop_zero] at hC
 have hmono:∀ i (hi:i<ps.length),i<=numG g b N k ps[i]:=by
  intro i
  induction i with
  | zero=>intro _; exact Nat.zero_le _
  | succ i ih=>
   intro hi
   have h1:=ih (by omega)
   have h2:=pA F (hp _ (List.getElem_mem _)) (hp _ (List.getElem_mem _)) (List.pairwise_iff_getElem.1 hs i (i+1) (by omega) hi (by omega))
   omega
 have hpos:0<ps.length:=List.length_pos_iff.2 hne
 have hle:ps.length<=aK (fitsG g b) [] (List.range N) k:=by
  have h1:=hmono (ps.length-1) (by omega)
  have h2:=rg F (hp _ (List.getElem_mem (show ps.length-1<ps.length by omega)))
  omega
 refine ⟨_,hC,hle,te F,?_⟩
 generalize hCC:aK (fitsG g b) [] (List.range N) k=C at hC hle
 obtain ⟨y,e,rfl⟩:=am (B:=aB_l1 FU (ps.map ak,M,0) (g,b,w) (W8 (C:Int),0)) (fun s=>ps.length-s.1) (fun s=>s.1<=ps.length/\∃ z:Int,s.2=W8 z/\(z = -1/\s.1=0∨∃ j,∃ hj:j<ps.length,s.1=j+1/\z=(numG g b N k ps[j]:Int))) (fun y=>y=.inr ()) (fun ⟨i,u1,u2,u3,u4,u5,u6,u7,u8⟩ J ⟨a1,z,a2,a3⟩ hJ=>by
  simp only at a1 a2 a3 hJ
  unfold aB_l1
  simp only [List.length_map]
  by_cases hi:i<ps.length
  ·have P:=hp _ (List.getElem_mem hi)
   rw [if_pos hi,List.getElem?_map,geE hi]
   simp only [Option.map_some,aa]
   rw [sY F P]
   simp only [aa]
   rw [kth_ok F P]
   simp only [aa]
   rw [ifT,ifT,ne _ (by rw [aq,P.len]; have:=F.n9; omega)]
   simp only [aa]
   rw [ifT]
   have hlt:=rg F P
   rw [hCC] at hlt
   have e1:dJ (fitsG g b) k [] (List.range N) ps[i]=numG g b N k ps[i]:=rfl
   rw [e1,a2]
   obtain ⟨c,c1,c2,_⟩:=lE z (numG g b N k ps[i]:Int)
   rw [c1]
   simp only [aa]
   have hneg:c<0:=by
    rw [c2,dL _ (by omega)]
    rcases a3 with ⟨rfl,_⟩ | ⟨j,hj,h1,rfl⟩
    ·have:=tf; omega
    ·have h3:=pA F (hp _ (List.getElem_mem hj)) P (List.pairwise_iff_getElem.1 hs j i hj hi (by omega))
     rw [dL _ (by omega)]
     omega
   rw [if_neg (by omega)]
   obtain ⟨c', d1,d2,_⟩:=lE (numG g b N k ps[i]:Int) (C:Int)
   rw [d1]
   simp only [aa]
   have hneg' : c'<0:=by
    rw [d2,dL _ (by omega),dL _ hC]
    omega
   rw [if_neg (by omega)]
   exact hJ _ ⟨hi,_,rfl,.inr ⟨i,hi,rfl,rfl⟩⟩ (by simp only; omega)
  ·rw [if_neg hi]; exact ⟨_,rfl,rfl⟩) FU (0,W8 (-1)) ⟨Nat.zero_le _,-1,rfl,.inl ⟨rfl,rfl⟩⟩ (av (by simp only; omega))
 exact e
theorem top_ok (F:Fld g b N k) {q:Lb Nat} (P:Pl g b N k q) {d:Tf} (hd:ab_p FU d=some (g,b,ak q)):aB_p FU d=some true:=by
 unfold aB_p
 rw [hd]
 simp only [aa]
 obtain ⟨ps,M,e,r1,r2⟩:=rb F P
 rw [r1]
 simp only [aa]
 rcases r2 with rfl | ⟨rfl,hne,hl,hp,hs⟩
 ·rfl
 ·obtain ⟨C,hC,hle,c1,c2⟩:=qz F hne hl hp hs M (ak q)
  rw [if_pos I,c1]
  simp only [aa]
  rw [ifT,if_neg (by rw [List.length_map]; exact fun h=>hne (List.length_eq_zero_iff.1 h)),iN FU _ (av (by omega))]
  simp only [aa]
  obtain ⟨c,d1,d2,d3⟩:=lE (((ps.map ak).length:Nat):Int) (C:Int)
  rw [d1]
  simp only [aa]
  rw [List.length_map,dL _ (by omega),dL _ hC] at d2 d3
  rw [if_neg (by omega),iN FU _ (av (by omega))]
  simp only [aa]
  rw [c2]
  rfl
end
end
theorem nU (t:Lb Nat) (z:Nat):(ak t).take z++(ak t).drop (z+1)=ak (t.eraseIdx z):=by
 rw [List.eraseIdx_eq_take_drop_succ]
 unfold ak
 rw [List.map_append,List.map_take,List.map_drop]
theorem cuts_ok (d:Tf) {t:Lb Nat} {k:Nat} (hk1:1<=k) (hk4:k<=4) (hk:k<=t.length+1) (hl:t.length<=1000) :
  ∃ s:Lb Nat,ah (ab_l2 FU (k:Int) d) FU (ak t,0)=some (ak s)/\s.Sublist t/\s.length+(k-1)=t.length:=by
 obtain ⟨r,e,s,rfl,s1,s2⟩:=am (B:=ab_l2 FU (k:Int) d) (fun s:Lb Int×Int=>k-s.2.toNat) (fun s=>∃ (u:Lb Nat) (j:Nat),s.1=ak u/\s.2=(j:Int)/\u.Sublist t/\u.length+j=t.length/\j<=k-1) (fun r=>∃ s:Lb Nat,r=ak s/\s.Sublist t/\s.length+(k-1)=t.length) (fun ⟨xs,zi⟩ J ⟨u,j,a0,a1,a2,a3,a4⟩ hJ=>by
  simp only at a0 a1 hJ
  subst a0 a1
  unfold ab_l2
  simp only
  rw [aQ (by omega) (by omega)]
  simp only [aa]
  by_cases hj:j<k-1
  ·rw [if_pos (by omega)]
   have hul:0<u.length:=by omega
   have fin:∀ z:Nat,z<u.length->∃ r,((cut (ak u) 0 (z:Int)).bind fun xs313=>(app ([]:Lb Int) xs313).bind fun xs317=>(chk ((z:Int)+1)).bind fun s325=>(cut (ak u) s325 ((ak u).length:Int)).bind fun xs326=>(app xs317 xs326).bind fun xs331=>(chk ((j:Int)+1)).bind fun s339=>J (xs331,s339))=some r/\∃ s:Lb Nat,r=ak s/\s.Sublist t/\s.length+(k-1)=t.length:=fun z hz=>by
    have c1:cut (ak u) 0 (z:Int)=some ((ak u).take z):=by
     unfold cut
     rw [if_pos ⟨Int.le_refl _,by omega,by rw [aq]; omega⟩]
     simp
    rw [c1]
    simp only [aa]
    rw [dV [] _ (by rw [List.length_take,aq,leN]; omega)]
    simp only [aa,List.nil_append]
    rw [aQ (by omega) (by omega)]
    simp only [aa]
    have c2:cut (ak u) ((z:Int)+1) ((ak u).length:Int)=some ((ak u).drop (z+1)):=by
     unfold cut
     rw [if_pos ⟨by omega,by rw [aq]; omega,Int.le_refl _⟩,Int.toNat_natCast,List.take_length]
     rfl
    rw [c2]
    simp only [aa]
    rw [dV _ _ (by rw [List.length_take,List.length_drop,aq]; omega)]
    simp only [aa]
    rw [aQ (by omega) (by omega)]
    simp only [aa]
    rw [nU]
    exact hJ _ ⟨u.eraseIdx z,j+1,rfl,by simp,(List.eraseIdx_sublist u z).trans a2,by rw [List.length_eraseIdx_of_lt hz]; omega,hj⟩ (by simp only; omega)
   unfold jn
   simp only
   by_cases hc:j<d.fCuts.length
   ·rw [if_pos (by omega),aF,geE hc]
    simp only [aa]
    have er:cD ((d.fCuts[j].toNat:Nat):Int) (((ak u).length:Nat):Int)=some ((d.fCuts[j].toNat%u.length:Nat):Int):=by
     rw [aq,cC (by omega),<- Int.ofNat_tmod]
    rw [er]
    simp only [aa]
    exact fin _ (Nat.mod_lt _ hul)
   ·rw [if_neg (by omega)]
    exact fin 0 hul
  ·rw [if_neg (by omega)]
   exact ⟨_,rfl,u,rfl,a2,by omega⟩) FU (ak t,0) ⟨t,0,rfl,rfl,.refl _,rfl,Nat.zero_le _⟩ (av (by simp only; omega))
 exact ⟨s,e,s1,s2⟩
theorem np (d:Tf) {N:Nat} (hN:N<=9):∃ W:Lb Int,ah (ab_l1 FU (N:Int) d) FU (0,([]:Lb Int))=some W/\W.length=N/\∀ x∈W,0<=x/\x<=9:=by
 obtain ⟨r,e,h⟩:=am (B:=ab_l1 FU (N:Int) d) (fun s:Int×Lb Int=>N-s.1.toNat) (fun s=>∃ j:Nat,s.1=(j:Int)/\j<=N/\s.2.length=j/\∀ x∈s.2,0<=x/\x<=9) (fun W=>W.length=N/\∀ x∈W,0<=x/\x<=9) (fun ⟨zi,xs⟩ J ⟨j,a0,a1,a2,a3⟩ hJ=>by
  simp only at a0 a2 a3 hJ
  subst a0
  unfold ab_l1
  simp only
  by_cases hj:j<N
  ·rw [if_pos (by omega)]
   have fin:∀ i:Nat,i<=9->∃ r,((app xs ([((i:Nat):Int)]:Lb Int)).bind fun xs541=>(chk ((j:Int)+1)).bind fun s553=>J (s553,xs541))=some r/\r.length=N/\∀ x∈r,0<=x/\x<=9:=fun i hi=>by
    rw [dV _ _ (by rw [List.length_singleton]; omega)]
    simp only [aa]
    rw [aQ (by omega) (by omega)]
    simp only [aa]
    refine hJ _ ⟨j+1,by simp,hj,by simp only [List.length_append,List.length_singleton]; omega,fun x hx=>?_⟩ (by simp only; omega)
    rcases List.mem_append.1 hx with hx | hx
    ·exact a3 x hx
    ·rw [List.mem_singleton.1 hx]; omega
   unfold jn
   simp only
   by_cases hc:j<d.fu.length
   ·rw [if_pos (by omega),aF,geE hc]
    simp only [aa]
    refine fin _ ?_
    rw [UInt8.toNat_mod]
    have:d.fu[j].toNat%(10:UInt8).toNat<(10:UInt8).toNat:=Nat.mod_lt _ (by decide)
    have h10:(10:UInt8).toNat=10:=by decide
    omega
   ·rw [if_neg (by omega)]
    exact fin 1 (by decide)
  ·rw [if_neg (by omega)]
   exact ⟨_,rfl,by omega,a3⟩) FU (0,[]) ⟨0,rfl,Nat.zero_le _,rfl,by simp⟩ (av (by simp only; omega))
 exact ⟨r,e,h⟩
def ps (W:Lb Int) (q:Lb Nat) (i d:Nat):Int:=dm W (cls (q.take i) d)
theorem oW (W:Lb Int) {q:Lb Nat} (h:q.length<=64) {i:Nat} (hi:i<q.length) (d:Nat):ps W q (i+1) d=if q[i]=d then ps W q i d+W[i]?.getD 0 else ps W q i d:=by
 have hf:∀ j,j<=q.length->ao (cls (q.take j) d)=(List.range j).filter fun t=>decide (q[t]? = some d):=fun j hj=>by
  have h1:ao (cls (q.take j) d)=(List.range j).filter (bit (cls (q.take j) d) ·):=cX (by omega) fun t ht=>by
   rw [br (by rw [List.length_take]; omega)] at ht
   have:=(List.getElem?_eq_some_iff.1 ht).1
   rw [List.length_take] at this
   omega
  rw [h1]
  refine List.filter_congr fun t ht=>Bool.eq_iff_iff.2 ?_
  rw [br (by rw [List.length_take]; omega),decide_eq_true_eq,List.getElem?_take,if_pos (List.mem_range.1 ht)]
 unfold ps dm
 rw [hf (i+1) hi,hf i (by omega),List.range_succ,List.filter_append,List.filter_cons,geE hi]
 by_cases e:q[i]=d
 ·rw [if_pos e,if_pos (by rw [e]; simp),List.map_append,List.sum_append]
  simp
 ·rw [if_neg e,if_neg (by simpa using e)]
  simp
theorem oN (W:Lb Int) (q:Lb Nat) (d:Nat):ps W q 0 d=0:=by
 unfold ps dm
 rw [show cls (q.take 0) d=0 from bq fun i=>Bool.eq_iff_iff.2 (by rw [br (by simp),bt]; simp),cj]
 rfl
theorem qP {W:Lb Int} (hW:∀ x∈W,0<=x/\x<=9) {q:Lb Nat} (hq:q.length=W.length) (h:q.length<=64) (d:Nat):∀ i,i<=q.length->0<=ps W q i d/\ps W q i d<=9*i
 | 0,_=>by rw [oN]; exact ⟨Int.le_refl _,Int.le_refl _⟩
 | i+1,hi=>by
  have ih:=qP hW hq h d i (by omega)
  have hx:=hW W[i] (List.getElem_mem (by omega))
  rw [oW W h (by omega),geE (show i<W.length by omega)]
  simp only [Option.getD_some]
  split<;>omega
theorem sums_ok {W:Lb Int} (hW:∀ x∈W,0<=x/\x<=9) {q:Lb Nat} (hq:q.length=W.length) (h:q.length<=9) (h4:∀ x∈q,x<4) (k:Int) :
  ah (ai_l2 FU (ak q) ⟨W,0,0,k⟩) FU (0,0,0,0,0,0,0,0,0)=some (ps W q q.length 0,ps W q q.length 1,ps W q q.length 2,ps W q q.length 3,ps W q q.length 4,ps W q q.length 5,ps W q q.length 6,ps W q q.length 7):=by
 obtain ⟨r,e,rfl⟩:=am (B:=ai_l2 FU (ak q) ⟨W,0,0,k⟩) (fun s=>q.length-s.1) (fun s=>s.1<=q.length/\s.2=(ps W q s.1 0,ps W q s.1 1,ps W q s.1 2,ps W q s.1 3,ps W q s.1 4,ps W q s.1 5,ps W q s.1 6,ps W q s.1 7)) (fun r=>r=(ps W q q.length 0,ps W q q.length 1,ps W q q.length 2,ps W q q.length 3,ps W q q.length 4,ps W q q.length 5,ps W q q.length 6,ps W q q.length 7)) (fun ⟨i,z1,z2,z3,z4,z5,z6,z7,z8⟩ J ⟨a0,a1⟩ hJ=>by
  simp only [Prod.mk.injEq] at a0 a1 hJ
  obtain ⟨rfl,rfl,rfl,rfl,rfl,rfl,rfl,rfl⟩:=a1
  unfold ai_l2
  simp only [aq]
  by_cases hi:i<q.length
  ·have hx:=h4 _ (List.getElem_mem hi)
   have hw:=hW W[i] (List.getElem_mem (by omega))
   have hp:=qP hW hq (by omega) q[i] i (by omega)
   have hd:idx ([ps W q i 0,ps W q i 1,ps W q i 2,ps W q i 3,ps W q i 4,ps W q i 5,ps W q i 6,ps W q i 7]:Lb Int) ((q[i]:Nat):Int)=some (ps W q i q[i]):=by
    rw [aF]
    generalize q[i]=x at hx
    match x,hx with
    | 0,_=>rfl
    | 1,_=>rfl
    | 2,_=>rfl
    | 3,_=>rfl
   rw [if_pos hi,ca,geE hi]
   simp only [Option.map_some,aa]
   rw [hd]
   simp only [aa]
   rw [geE (show i<W.length by omega)]
   simp only [aa,Int.toNat_natCast]
   rw [aQ (by omega) (by omega)]
   simp only [aa]
   have hs:∀ d,bf q[i] d (ps W q i q[i]+W[i]'(by omega)) (ps W q i d)=ps W q (i+1) d:=fun d=>by
    rw [oW W (by omega) hi,geE (show i<W.length by omega)]
    unfold bf
    by_cases e:q[i]=d
    ·subst e; rw [if_pos rfl,if_pos rfl]; rfl
    ·rw [if_neg e,if_neg e]
   rw [hs 0,hs 1,hs 2,hs 3,hs 4,hs 5,hs 6,hs 7]
   exact hJ _ ⟨hi,rfl⟩ (by simp only; omega)
  ·rw [if_neg hi]
   obtain rfl:i=q.length:=by omega
   exact ⟨_,rfl,rfl⟩) FU (0,0,0,0,0,0,0,0,0) ⟨Nat.zero_le _,by simp only [oN]⟩ (av (by simp only; omega))
 exact e
theorem nS {W:Lb Int} (hW:∀ x∈W,0<=x/\x<=9) {q:Lb Nat} (hq:q.length=W.length) (h:q.length<=9) {k:Nat} (hk1:1<=k) (hk4:k<=4) (h4:∀ x∈q,x<k) :
  ∃ lo hi:Int,ai_p FU ⟨W,0,0,(k:Int)⟩ (ak q)=some (lo,hi)/\0<=lo/\hi<=81/\∀ d,d<k->lo<=dm W (cls q d)/\dm W (cls q d)<=hi:=by
 have hp:∀ d,0<=ps W q q.length d/\ps W q q.length d<=81:=fun d=>by
  have:=qP hW hq (by omega) d q.length (Nat.le_refl _); omega
 unfold ai_p
 rw [sums_ok hW hq h (fun x hx=>by have:=h4 x hx; omega) (k:Int)]
 simp only [aa]
 obtain ⟨r,e,h1,h2,h3⟩:=am (B:=ai_l1 FU ⟨W,0,0,(k:Int)⟩ (ps W q q.length 0) (ps W q q.length 1) (ps W q q.length 2) (ps W q q.length 3) (ps W q q.length 4) (ps W q q.length 5) (ps W q q.length 6) (ps W q q.length 7)) (fun s:Int×Int×Int=>k-s.2.2.toNat) (fun s=>∃ j:Nat,s.2.2=(j:Int)/\1<=j/\j<=k/\0<=s.1/\s.2.1<=81/\∀ d,d<j->s.1<=ps W q q.length d/\ps W q q.length d<=s.2.1) (fun r=>0<=r.1/\r.2<=81/\∀ d,d<k->r.1<=ps W q q.length d/\ps W q q.length d<=r.2) (fun ⟨lo,hi,ji⟩ J ⟨j,a0,a1,a2,a3,a4,a5⟩ hJ=>by
  simp only at a0 a3 a4 a5 hJ
  subst a0
  unfold ai_l1
  simp only
  by_cases hj:j<k
  ·have hd:idx ([ps W q q.length 0,ps W q q.length 1,ps W q q.length 2,ps W q q.length 3,ps W q q.length 4,ps W q q.length 5,ps W q q.length 6,ps W q q.length 7]:Lb Int) ((j:Nat):Int)=some (ps W q q.length j):=by
    rw [aF]
    match j,(show j<4 by omega) with
    | 0,_=>rfl
    | 1,_=>rfl
    | 2,_=>rfl
    | 3,_=>rfl
   have hpj:=hp j
   rw [if_pos (by omega),hd]
   simp only [aa]
   rw [aQ (by omega) (by omega)]
   simp only [aa]
   refine hJ _ ⟨j+1,by simp,by omega,hj,by simp only; omega,by simp only; omega,fun d hd=>?_⟩ (by simp only; omega)
   simp only
   by_cases e:d=j
   ·subst e; omega
   ·have:=a5 d (by omega); omega
  ·rw [if_neg (by omega)]
   exact ⟨_,I,a3,a4,fun d hd=>a5 d (by omega)⟩) FU (ps W q q.length 0,ps W q q.length 0,1) ⟨1,I,Nat.le_refl _,hk1,(hp 0).1,(hp 0).2,fun d hd=>by
   obtain rfl:d=0:=by omega
   exact ⟨Int.le_refl _,Int.le_refl _⟩⟩ (av (by simp only; omega))
 rw [e]
 refine ⟨r.1,r.2,I,h1,h2,fun d hd=>?_⟩
 have:=h3 d hd
 unfold ps at this
 rwa [List.take_length] at this
def ox:Lb (Int×Int):=[((0:Int),(1:Int)),((0:Int),(2:Int)),((1:Int),(3:Int)),((2:Int),(3:Int))]
theorem ring_ok:EdgesOk 4 ox:=⟨by decide,by unfold ox Lex; decide⟩
theorem nF:Valid ⟨4,ox⟩:=ring_ok.valid (by decide) (by decide) (by decide)
theorem full4:cO 4=15:=by decide
theorem mK:Joined ⟨4,ox⟩ (cO 4):=by
 obtain ⟨b,h1,h2⟩:=lx FU ⟨4,ox⟩ nF (av (by omega)) (cO 4) (kD (by decide))
 have e:br_p FU ⟨4,ox⟩ (cO 4)=some true:=by kernel_rfl
 rw [e] at h1
 exact h2.1 (Option.some.inj h1).symm
theorem lc (d:Tf) {N:Nat} {l:Lb (Int×Int)} (hV:Valid ⟨(N:Int),l⟩) (hN1:1<=N) (hN9:N<=9) (hE:l.length<=36) (hj:Joined ⟨(N:Int),l⟩ (cO N)) {k:Nat} (hk1:1<=k) (hk4:k<=4) (hkN:k<=N) :
  ∃ (g:Tc) (b:Td) (q:Lb Nat),((bz_p FU (⟨(N:Int),l⟩:Tc) (cO N)).bind fun y77=>(cD ((d.fTree.toNat:Nat):Int) ((y77.length:Nat):Int)).bind fun s87=>(idx y77 s87).bind fun x88=>Option.bind (ah (ab_l2 FU (k:Int) d) FU (x88,0)) (fun xs269=>(ac_p FU (⟨(N:Int),l⟩:Tc) xs269).bind fun y360=>Option.bind (ah (ab_l1 FU (N:Int) d) FU (0,([]:Lb Int))) (fun xs500=>(ai_p FU (⟨xs500,(0:Int),(0:Int),(k:Int)⟩:Td) y360).bind fun y571=>(chk (y571.1-(((d.fy.1%(6:UInt8)).toNat:Nat):Int))).bind fun s577=>(chk (y571.2+(((d.fy.2%(6:UInt8)).toNat:Nat):Int))).bind fun s1779=>some ((⟨(N:Int),l⟩:Tc),(⟨xs500,max 0 s577,s1779,(k:Int)⟩:Td),y360))))=some (g,b,ak q)/\Fld g b N k/\Pl g b N k q:=by
 obtain ⟨R,r1,r2,r3,r4⟩:=pT hV I hN1 hN9 hE hj
 rw [r1]
 simp only [aa,List.length_map]
 have hRl:0<R.length:=List.length_pos_iff.2 r2
 rw [cC (by omega),<- Int.ofNat_tmod]
 simp only [aa]
 have hlt:d.fTree.toNat%R.length<R.length:=Nat.mod_lt _ hRl
 generalize d.fTree.toNat%R.length=z at hlt
 rw [aF,List.getElem?_map,geE hlt]
 simp only [Option.map_some,aa]
 have T:=r4 _ (List.getElem_mem hlt)
 have Tl:=T.len
 obtain ⟨s,c1,c2,c3⟩:=cuts_ok d (t:=R[z]) hk1 hk4 (by omega) (by omega)
 rw [c1]
 simp only [aa]
 have hst:∀ i∈s,i<l.length:=fun i hi=>T.lt i (c2.subset hi)
 have hsa:Acyc (egs ⟨(N:Int),l⟩ s):=T.acyc.sub (c2.map _)
 obtain ⟨q,q1,q2,q3⟩:=ou hV I hN9 hst (by omega)
 rw [q1]
 simp only [aa]
 obtain ⟨W,w1,w2,w3⟩:=np d hN9
 rw [w1]
 simp only [aa]
 obtain ⟨p1,p2,p3,p4⟩:=qE hV rfl hN9 hst hsa (k:=k) (by omega) q2 q3
 obtain ⟨lo,hi,v1,v2,v3,v4⟩:=nS w3 (q:=q) (by omega) (by omega) hk1 hk4 p2
 rw [v1]
 simp only [aa]
 have s1:=(d.fy.1%(6:UInt8)).toNat_lt
 have s2:=(d.fy.2%(6:UInt8)).toNat_lt
 have v5:=v4 0 (by omega)
 rw [aQ (by omega) (by omega)]
 simp only [aa]
 rw [aQ (by omega) (by omega)]
 simp only [aa]
 refine ⟨_,_,q,rfl,⟨hV,rfl,hN1,hN9,hE,w2,w3,rfl,hk1,hk4,by simp only; omega,by simp only; omega⟩,⟨q2,p1,p2,p3,fun e he=>⟨p4 e he,?_,?_⟩⟩⟩
 ·have:=v4 e he
  simp only; omega
 ·have:=v4 e he
  simp only; omega
theorem case_ok (d:Tf):∃ (g:Tc) (b:Td) (q:Lb Nat) (N k:Nat),ab_p FU d=some (g,b,ak q)/\Fld g b N k/\Pl g b N k q:=by
 have hw:(d.fv.fw%(3:UInt8)).toNat<3:=by rw [UInt8.toNat_mod]; exact Nat.mod_lt _ (by decide)
 obtain ⟨S,l,g1,g2,g3,g4,g5⟩:=rz (⟨d.fv.fw%(3:UInt8),d.fv.fh,d.fv.fA,d.fv.fC⟩:Th) hw
 have hV:=g4.valid (by omega) (by omega) (by omega)
 have hdm:(d.fc%(4:UInt8)).toNat<4:=by rw [UInt8.toNat_mod]; exact Nat.mod_lt _ (by decide)
 obtain ⟨jb,j1,j2⟩:=lx FU ⟨(S:Int),l⟩ hV (av (by omega)) (cO S) (kD g3)
 unfold ab_p
 rw [g1]
 simp only [aa]
 rw [ol FU (by omega)]
 simp only [aa]
 rw [show shlU 1 S-(1:Ua)=cO S from I,j1]
 simp only [aa,jn]
 have both:∀ (N:Nat) (l:Lb (Int×Int)),Valid ⟨(N:Int),l⟩->1<=N->N<=9->l.length<=36->Joined ⟨(N:Int),l⟩ (cO N)->∃ (g:Tc) (b:Td) (q:Lb Nat) (N' k:Nat),((bz_p FU (⟨(N:Int),l⟩:Tc) (cO N)).bind fun y77=>(cD ((d.fTree.toNat:Nat):Int) ((y77.length:Nat):Int)).bind fun s87=>(idx y77 s87).bind fun x88=>if (N:Int)<((1+((d.fc%(4:UInt8)).toNat):Nat):Int) then Option.bind (ah (ab_l2 FU (N:Int) d) FU (x88,0)) (fun xs269=>(ac_p FU (⟨(N:Int),l⟩:Tc) xs269).bind fun y360=>Option.bind (ah (ab_l1 FU (N:Int) d) FU (0,([]:Lb Int))) (fun xs500=>(ai_p FU (⟨xs500,(0:Int),(0:Int),(N:Int)⟩:Td) y360).bind fun y571=>(chk (y571.1-(((d.fy.1%(6:UInt8)).toNat:Nat):Int))).bind fun s577=>(chk (y571.2+(((d.fy.2%(6:UInt8)).toNat:Nat):Int))).bind fun s1779=>some ((⟨(N:Int),l⟩:Tc),(⟨xs500,max 0 s577,s1779,(N:Int)⟩:Td),y360))) else Option.bind (ah (ab_l2 FU ((1+((d.fc%(4:UInt8)).toNat):Nat):Int) d) FU (x88,0)) (fun xs269=>(ac_p FU (⟨(N:Int),l⟩:Tc) xs269).bind fun y360=>Option.bind (ah (ab_l1 FU (N:Int) d) FU (0,([]:Lb Int))) (fun xs500=>(ai_p FU (⟨xs500,(0:Int),(0:Int),((1+((d.fc%(4:UInt8)).toNat):Nat):Int)⟩:Td) y360).bind fun y571=>(chk (y571.1-(((d.fy.1%(6:UInt8)).toNat:Nat):Int))).bind fun s577=>(chk (y571.2+(((d.fy.2%(6:UInt8)).toNat:Nat):Int))).bind fun s1779=>some ((⟨(N:Int),l⟩:Tc),(⟨xs500,max 0 s577,s1779,((1+((d.fc%(4:UInt8)).toNat):Nat):Int)⟩:Td),y360))))=some (g,b,ak q)/\Fld g b N' k/\Pl g b N' k q:=fun N l hV hN1 hN9 hE hj=>by
  by_cases hk:(N:Int)<((1+((d.fc%(4:UInt8)).toNat):Nat):Int)
  ·obtain ⟨g,b,q,e,h1,h2⟩:=lc d hV hN1 hN9 hE hj (k:=N) hN1 (by omega) (Nat.le_refl _)
   simp only [if_pos hk]
   exact ⟨g,b,q,N,N,e,h1,h2⟩
  ·obtain ⟨g,b,q,e,h1,h2⟩:=lc d hV hN1 hN9 hE hj (k:=1+(d.fc%(4:UInt8)).toNat) (by omega) (by omega) (by omega)
   simp only [if_neg hk]
   exact ⟨g,b,q,N,_,e,h1,h2⟩
 by_cases hjb:jb=true
 ·rw [if_pos hjb]
  exact both S l hV g2 g3 g5 (j2.1 hjb)
 ·rw [if_neg hjb]
  have h4:=both 4 ox nF (by decide) (by decide) (by decide) mK
  rw [full4] at h4
  exact h4
theorem mn (d:Tf):aB_p FU d=some true:=by
 obtain ⟨g,b,q,N,k,e,F,P⟩:=case_ok d
 exact top_ok F P e
theorem ma (a0:Tf):∃ n,aB_p n a0=some true:=⟨FU,mn a0⟩
end Go.Proofs.YtkimkkgicmipbaaGreatDoor
