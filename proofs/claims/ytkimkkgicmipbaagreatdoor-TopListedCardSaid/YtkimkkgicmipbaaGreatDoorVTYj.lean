/- Plain laws: drafted graphs are valid. No program in sight but the printed functions. -/
import Derived.Test.YtkimkkgicmipbaaGreatDoorVTYf
namespace Go.Proofs.YtkimkkgicmipbaaGreatDoor
open Go
structure EdgesOk (N:Int) (l:List (Int×Int)):Prop where
 all:∀ x∈l,0<=x.1/\x.1<x.2/\x.2<N
 srt:l.Pairwise Lex
theorem EdgesOk.valid {N:Int} {l:Lb (Int×Int)} (h:EdgesOk N l) (h1:1<=N) (h9:N<=64) (hl:l.length<=200):Valid ⟨N,l⟩ where
 n1:=h1
 n64:=h9
 len:=hl
 ok:=h.all
 sorted i e f h2 h3:=by
  obtain ⟨a1,rfl⟩:=List.getElem?_eq_some_iff.1 h2
  obtain ⟨a2,rfl⟩:=List.getElem?_eq_some_iff.1 h3
  exact List.pairwise_iff_getElem.1 h.srt i (i+1) a1 a2 (by omega)
theorem more_ok (d:Th) (S a b:Int) (hS:S≠0) (q:Bool):∃ r,ah (aa_l1 FU d S a b) FU (q,0)=some r:=by
 obtain ⟨r,e,_⟩:=am (B:=aa_l1 FU d S a b) (fun s:Bool×Nat=>4-s.2) (fun _=>True) (fun _=>True) (fun ⟨q,i⟩ J _ hJ=>by
  unfold aa_l1
  simp only
  by_cases hi:i<d.fC.length
  ·rw [if_pos hi]
   by_cases h3:i<3
   ·rw [if_pos h3,geE hi]
    simp only [aa]
    rw [cC hS]
    simp only [aa]
    rw [cC hS]
    simp only [aa]
    have nx:∀ q,∃ r,J (q,i+1)=some r/\True:=fun q=>hJ (q,i+1) trivial (by simp only; omega)
    repeat' split
    all_goals exact nx _
   ·rw [if_neg h3]; exact ⟨_,rfl,trivial⟩
  ·rw [if_neg hi]; exact ⟨_,rfl,trivial⟩) FU (q,0) trivial (av (by simp only; omega))
 exact ⟨r,e⟩
theorem quo2 {z:Int} (h0:0<=z) (h1:z<=1000000):∃ s,iv z 2=some s:=by
 have h:z.tdiv 2=z/2:=Int.tdiv_eq_ediv_of_nonneg h0
 unfold iv
 rw [if_neg (by decide),aQ (by rw [h]; omega) (by rw [h]; omega)]
 exact ⟨_,I⟩
theorem sI (d:Th) (S a z b:Int) (xs:Lb (Int×Int)) (hS:S≠0) (hS9:S<=9) (hz:0<=z) (hz1:z<=1000) (ha:0<=a) (hab:a<b) (hb:b<S) (hx:xs.length<=1000) (J:Int×Int×Lb (Int×Int)->Oa (Int×Lb (Int×Int))) :
  ∃ z' xs', (z<=z' /\z'<=z+1)/\(xs'=xs∨xs'=xs++[(a,b)])/\aa_l5 FU S a d J (z,b,xs)=J (z', b+1,xs'):=by
 have e2:aa_l2 FU d S a b=aa_l1 FU d S a b:=rfl
 have e3:aa_l3 FU d S a b=aa_l1 FU d S a b:=rfl
 have e4:aa_l4 FU d S a b=aa_l1 FU d S a b:=rfl
 have hW:((1+((d.fw%(4:UInt8)).toNat):Nat):Int)≠0/\((1+((d.fw%(4:UInt8)).toNat):Nat):Int)<=300:=by have:=(d.fw%(4:UInt8)).toNat_lt; omega
 have fin:∀ (z' : Int) (q:Bool),z<=z' /\z'<=z+1->∃ z1 xs', (z<=z1/\z1<=z+1)/\(xs'=xs∨xs'=xs++[(a,b)])/\
   (Option.bind (ah (aa_l1 FU d S a b) FU (q,0)) fun q=>if q=true then (app xs ([(a,b)]:Lb (Int×Int))).bind fun xs=>(chk (b+1)).bind fun s=>J (z', s,xs) else (chk (b+1)).bind fun s=>J (z', s,xs))=J (z1,b+1,xs'):=fun z' q h=>by
  obtain ⟨r,hr⟩:=more_ok d S a b hS q
  rw [hr,aQ (by omega) (by omega)]
  simp only [aa]
  cases r with
  | true=>rw [if_pos rfl,dV _ _ (by simp only [List.length_singleton]; omega)]; exact ⟨z', _,h,.inr rfl,rfl⟩
  | false=>rw [if_neg (by decide)]; exact ⟨z', xs,h,.inl I,rfl⟩
 unfold aa_l5
 simp only [jn]
 rw [e2,e3,e4,if_pos hb,aQ (by omega) (by omega)]
 simp only [aa]
 by_cases c1:b=a+((1+((d.fw%(4:UInt8)).toNat):Nat):Int)
 ·rw [if_pos c1,cC (by decide)]
  simp only [aa]
  by_cases c2:z.tmod 2=1
  ·rw [if_pos c2]
   obtain ⟨s,hs⟩:=quo2 hz (by omega)
   rw [hs]
   simp only [aa]
   rw [cC (by decide)]
   simp only [aa]
   rw [aQ (x:=z+1) (by omega) (by omega)]
   simp only [aa]
   split
   ·exact fin _ _ ⟨by omega,by omega⟩
   ·exact fin _ _ ⟨by omega,by omega⟩
  ·rw [if_neg c2,aQ (x:=z+1) (by omega) (by omega)]
   simp only [aa]
   exact fin _ _ ⟨by omega,by omega⟩
 ·rw [if_neg c1,aQ (x:=a+1) (by omega) (by omega)]
  simp only [aa]
  by_cases c2:b=a+1
  ·rw [if_pos c2,cC hW.1]
   simp only [aa]
   split
   ·exact fin _ _ ⟨by omega,by omega⟩
   ·rw [cC (by decide)]
    simp only [aa]
    split
    ·obtain ⟨s,hs⟩:=quo2 hz (by omega)
     rw [hs]
     simp only [aa]
     rw [cC (by decide)]
     simp only [aa]
     rw [aQ (x:=z+1) (by omega) (by omega)]
     simp only [aa]
     split
     ·exact fin _ _ ⟨by omega,by omega⟩
     ·exact fin _ _ ⟨by omega,by omega⟩
    ·rw [aQ (x:=z+1) (by omega) (by omega)]
     simp only [aa]
     exact fin _ _ ⟨by omega,by omega⟩
  ·rw [if_neg c2]
   exact fin _ _ ⟨by omega,by omega⟩
def tri (S:Nat):Nat->Nat
 | 0=>0
 | a+1=>tri S a+(S-1-a)
theorem tri_le:∀ S:Nat,S<=9->tri S S<=36:=by decide
theorem row_ok (d:Th) (S a:Nat) (hS9:S<=9) (ha:a<S) (z:Int) (hz:0<=z) (hz1:z<=9*a) (l:Lb (Int×Int)) (h1:EdgesOk (S:Int) l) (h3:∀ x∈l,x.1<(a:Int)) (h4:l.length<=tri S a) (ht:tri S a<=100) :
  ∃ z' r,ah (aa_l5 FU (S:Int) (a:Int) d) FU (z,(a:Int)+1,l)=some (z', r)/\0<=z' /\z'<=9*(a+1:Nat)/\EdgesOk (S:Int) r/\(∀ x∈r,x.1<((a+1:Nat):Int))/\r.length<=tri S (a+1):=by
 have hh:=am (B:=aa_l5 FU (S:Int) (a:Int) d) (fun s:Int×Int×Lb (Int×Int)=>S-s.2.1.toNat) (fun s=>(a:Int)+1<=s.2.1/\s.2.1<=S/\0<=s.1/\s.1<=9*a+(s.2.1-a-1)/\EdgesOk (S:Int) s.2.2/\(∀ x∈s.2.2,x.1<(a:Int)∨x.1=a/\x.2<s.2.1)/\(s.2.2.length:Int)<=tri S a+(s.2.1-a-1))
  (fun y=>0<=y.1/\y.1<=9*(a+1:Nat)/\EdgesOk (S:Int) y.2/\(∀ x∈y.2,x.1<((a+1:Nat):Int))/\y.2.length<=tri S (a+1)) (fun ⟨z,b,xs⟩ J ⟨a1,a2,a3,a4,a5,a6,a7⟩ hJ=>by
  simp only at a1 a2 a3 a4 a5 a6 a7 hJ
  by_cases hb:b<S
  ·obtain ⟨z', xs', z1,x1,e⟩:=sI d (S:Int) (a:Int) z b xs (by omega) (by omega) a3 (by omega) (by omega) (by omega) hb (by omega) J
   rw [e]
   refine hJ _ ⟨by simp only; omega,by simp only; omega,by simp only; omega,by simp only; omega,?_,?_,?_⟩ (by simp only; omega)
   ·rcases x1 with rfl | rfl
    ·exact a5
    ·refine ⟨fun x hx=>?_,?_⟩
     ·rcases List.mem_append.1 hx with hx | hx
      ·exact a5.all x hx
      ·rw [List.mem_singleton.1 hx]; exact ⟨by simp only; omega,by simp only; omega,hb⟩
     ·rw [List.pairwise_append]
      refine ⟨a5.srt,by simp,fun x hx y hy=>?_⟩
      rw [List.mem_singleton.1 hy]
      exact a6 x hx
   ·simp only
    rcases x1 with rfl | rfl
    ·intro x hx
     have:=a6 x hx; omega
    ·intro x hx
     rcases List.mem_append.1 hx with hx | hx
     ·have:=a6 x hx; omega
     ·rw [List.mem_singleton.1 hx]; exact .inr ⟨rfl,by simp only; omega⟩
   ·simp only
    rcases x1 with rfl | rfl
    ·omega
    ·rw [List.length_append,List.length_singleton]; omega
  ·unfold aa_l5
   simp only
   rw [if_neg hb]
   refine ⟨_,rfl,a3,by simp only; omega,a5,fun x hx=>?_,?_⟩
   ·have:=a6 x hx; omega
   ·simp only [tri]; omega) FU (z,(a:Int)+1,l) ⟨by simp,by simp only; omega,hz,by simp only; omega,h1,fun x hx=>.inl (h3 x hx),by simp only; omega⟩ (av (by simp only; omega))
 obtain ⟨⟨z', r⟩,e,q1,q2,q3,q4,q5⟩:=hh
 exact ⟨z', r,e,q1,q2,q3,q4,q5⟩
theorem rC (S:Nat):∀ a b,a<=b->tri S a<=tri S b:=fun a b h=>by
 induction b with
 | zero=>
  obtain rfl:a=0:=by omega
  exact Nat.le_refl _
 | succ b ih=>
  rcases Nat.lt_or_ge a (b+1) with h1 | h1
  ·exact Nat.le_trans (ih (by omega)) (Nat.le_add_right ..)
  ·obtain rfl:a=b+1:=by omega
   exact Nat.le_refl _
theorem rz (d:Th) (hw:(d.fw).toNat<3):∃ (S:Nat) (l:Lb (Int×Int)),aa_p FU d=some ⟨(S:Int),l⟩/\1<=S/\S<=9/\EdgesOk (S:Int) l/\l.length<=36:=by
 have h1:(d.fw%(4:UInt8)).toNat<3:=by rw [UInt8.toNat_mod]; exact Nat.lt_of_le_of_lt (Nat.mod_le ..) hw
 have h2:(d.fh%(3:UInt8)).toNat<3:=by rw [UInt8.toNat_mod]; exact Nat.mod_lt _ (by decide)
 have hS:(1+(d.fw%(4:UInt8)).toNat)*(1+(d.fh%(3:UInt8)).toNat)<=3*3:=Nat.mul_le_mul (by omega) (by omega)
 have hS1:0<(1+(d.fw%(4:UInt8)).toNat)*(1+(d.fh%(3:UInt8)).toNat):=Nat.mul_pos (by omega) (by omega)
 unfold aa_p
 rw [<- Int.natCast_mul]
 generalize (1+(d.fw%(4:UInt8)).toNat)*(1+(d.fh%(3:UInt8)).toNat)=S at hS hS1
 rw [aQ (by omega) (by omega)]
 simp only [aa]
 have ht:=tri_le S (by omega)
 obtain ⟨r,e,r1,r2⟩:=am (B:=aa_l6 FU (S:Int) d) (fun s:Int×Int×Lb (Int×Int)=>S-s.2.1.toNat) (fun s=>∃ a:Nat,s.2.1=(a:Int)/\a<=S/\0<=s.1/\s.1<=9*a/\EdgesOk (S:Int) s.2.2/\(∀ x∈s.2.2,x.1<(a:Int))/\s.2.2.length<=tri S a)
  (fun r=>EdgesOk (S:Int) r/\r.length<=36) (fun ⟨z,b,xs⟩ J ⟨a,a0,a1,a2,a3,a4,a5,a6⟩ hJ=>by
  simp only at a0 a2 a3 a4 a5 a6 hJ
  subst a0
  have hm:=rC S a S a1
  unfold aa_l6
  simp only
  by_cases ha:a<S
  ·rw [if_pos (by omega),aQ (by omega) (by omega)]
   simp only [aa]
   obtain ⟨z', r,e,q1,q2,q3,q4,q5⟩:=row_ok d S a (by omega) ha z a2 a3 xs a4 a5 a6 (by omega)
   rw [e]
   simp only [aa]
   exact hJ _ ⟨a+1,by simp,ha,q1,q2,q3,q4,q5⟩ (by simp only; omega)
  ·rw [if_neg (by omega)]
   exact ⟨_,rfl,a4,by omega⟩) FU (0,0,[]) ⟨0,rfl,Nat.zero_le _,by simp,by simp,⟨by simp,by simp⟩,by simp,by simp [tri]⟩ (av (by simp only; omega))
 rw [e]
 exact ⟨S,r,I,by omega,by omega,r1,r2⟩
def wd (l:Lb Nat):Ua:=UInt64.ofNat (un 0 l)
theorem lm:∀ (l:Lb Nat) (m:Nat),un m l=m|||un 0 l
 | [],m=>(Nat.or_zero m).symm
 | x::l,m=>by rw [un,lm l,un,lm l (0|||2^x),Nat.zero_or,Nat.or_assoc]
theorem iE:∀ (l:Lb Nat) (m i:Nat),(un m l).testBit i=true↔m.testBit i=true∨i∈l
 | [],m,i=>by simp [un]
 | x::l,m,i=>by
  rw [un,iE l,Nat.testBit_or,Bool.or_eq_true,Nat.testBit_two_pow,decide_eq_true_eq,List.mem_cons,or_assoc,@eq_comm _ x i]
theorem rv {l:Lb Nat} {n:Nat} (h:∀ x∈l,x<n):un 0 l<2^n:=Nat.lt_pow_two_of_testBit _ fun i hi=>by
 cases hb:(un 0 l).testBit i with
 | false=>rfl
 | true=>
  rcases (iE l 0 i).1 hb with h1 | h1
  ·simp at h1
  ·have:=h i h1; omega
theorem gh {l:Lb Nat} (h:∀ x∈l,x<64) (i:Nat):bit (wd l) i=true↔i∈l:=by
 unfold bit wd
 rw [UInt64.toNat_ofNat', Nat.mod_eq_of_lt (rv h),iE]
 simp
theorem iG {l:Lb Nat} (h:∀ x∈l,x<64):(wd l).toNat=un 0 l:=by
 unfold wd
 rw [UInt64.toNat_ofNat', Nat.mod_eq_of_lt (rv h)]
theorem iX (u:Ua):wd (ao u)=u:=bq fun i=>Bool.eq_iff_iff.2 (by rw [gh fun x hx=>dI (aT.1 hx),aT])
theorem oR {l:Lb Nat} (h:∀ x∈l,x<64) (hs:l.Pairwise (· < ·)):ao (wd l)=l:=by
 refine List.Perm.eq_of_pairwise (le:=(· < ·)) (fun a b _ _ h1 h2=>by omega) (aY _) hs ?_
 refine (List.perm_ext_iff_of_nodup ((aY _).imp fun h=>by omega) (hs.imp fun h=>by omega)).2 fun i=>?_
 rw [aT,gh h]
theorem bW:∀ {l:Lb Nat} {p:Lb Nat×Lb Nat},p∈aW l->p.1.Sublist l/\p.2.Sublist l/\∀ i,i∈l->i∈p.1∨i∈p.2
 | [],p,h=>by
  rw [aW,List.mem_singleton] at h
  subst h
  exact ⟨.refl _,.refl _,fun i hi=>by cases hi⟩
 | x::l,p,h=>by
  rw [aW,List.mem_flatMap] at h
  obtain ⟨r,h1,h2⟩:=h
  obtain ⟨a,c,d⟩:=bW h1
  rcases List.mem_cons.1 h2 with rfl | h2
  ·exact ⟨a.cons_cons x,c.cons x,fun i hi=>(List.mem_cons.1 hi).elim (fun e=>.inl (e ▸ List.mem_cons_self ..)) fun h=>(d i h).imp (List.mem_cons_of_mem _) id⟩
  ·rw [List.mem_singleton] at h2
   subst h2
   exact ⟨a.cons x,c.cons_cons x,fun i hi=>(List.mem_cons.1 hi).elim (fun e=>.inr (e ▸ List.mem_cons_self ..)) fun h=>(d i h).imp id (List.mem_cons_of_mem _)⟩
theorem kg {l:Lb Nat} (h:∀ x∈l,x<64) (_hs:l.Pairwise (· < ·)) {p:Lb Nat×Lb Nat} (hp:p∈aW l) (hd:∀ i,i∈p.1->i∈p.2->False):wd l&&&~~~(wd p.1)=wd p.2:=by
 obtain ⟨a,c,d⟩:=bW hp
 have ha:∀ x∈p.1,x<64:=fun x hx=>h x (a.subset hx)
 have hc:∀ x∈p.2,x<64:=fun x hx=>h x (c.subset hx)
 refine bq fun i=>Bool.eq_iff_iff.2 ?_
 rw [aZ,Bool.and_eq_true,gh h,gh hc,Bool.not_eq_true', <- Bool.not_eq_true,gh ha]
 exact ⟨fun h1=>(d i h1.1).elim (fun h2=>absurd h2 h1.2) id,fun h1=>⟨c.subset h1,fun h2=>hd i h2 h1⟩⟩
theorem eW:∀ {l:Lb Nat},l.Nodup->∀ {p:Lb Nat×Lb Nat},p∈aW l->∀ i,i∈p.1->i∈p.2->False
 | [],_,p,h,i,h1,_=>by
  rw [aW,List.mem_singleton] at h
  subst h
  cases h1
 | x::l,hn,p,h,i,h1,h2=>by
  rw [aW,List.mem_flatMap] at h
  obtain ⟨r,h3,h4⟩:=h
  obtain ⟨n1,n2⟩:=List.nodup_cons.1 hn
  obtain ⟨a,c,_⟩:=bW h3
  rcases List.mem_cons.1 h4 with rfl | h4
  ·rcases List.mem_cons.1 h1 with rfl | h1
   ·exact n1 (c.subset h2)
   ·exact eW n2 h3 i h1 h2
  ·rw [List.mem_singleton] at h4
   subst h4
   rcases List.mem_cons.1 h2 with rfl | h2
   ·exact n1 (a.subset h1)
   ·exact eW n2 h3 i h1 h2
def Steps (r:Nat):Lb Nat->Prop
 | []=>False
 | [u]=>u=0
 | u::v::us=>u≠0/\(u-1)&&&r=v/\Steps r (v::us)
theorem mZ (x:Nat):∀ (us:Lb Nat) (r:Nat),(∀ u∈us,2^(x+1) ∣ u)->2^(x+1) ∣ r->(∀ u∈us,u&&&r=u)->Steps r us->Steps (2^x|||r) (us.flatMap fun u=>[2^x|||u,u]):=by
 have hbit:∀ r i,2^(x+1) ∣ r->i<=x->r.testBit i=false:=fun r i h hi=>by
  obtain ⟨m,rfl⟩:=h
  rw [Nat.testBit_two_pow_mul,decide_eq_false (by omega),Bool.false_and]
 have hadd:∀ u,2^(x+1) ∣ u->2^x|||u=2^x+u:=fun u h=>by
  obtain ⟨m,rfl⟩:=h
  rw [Nat.or_comm,<- Nat.two_pow_add_eq_or_of_lt (Nat.pow_lt_pow_right (by decide) (by omega)),Nat.add_comm]
 have one:∀ u r,2^(x+1) ∣ u->2^(x+1) ∣ r->u&&&r=u->(2^x|||u)≠0/\((2^x|||u)-1)&&&(2^x|||r)=u:=fun u r hu hr hur=>by
  have hx:0<2^x:=Nat.two_pow_pos x
  refine ⟨by rw [hadd u hu]; omega,?_⟩
  rw [hadd u hu]
  have e:2^x+u-1=u+(2^x-1):=by omega
  obtain ⟨m,hm⟩:=hu
  have e2:u+(2^x-1)=u|||(2^x-1):=by
   rw [hm]
   exact Nat.two_pow_add_eq_or_of_lt (by have:2^x<2^(x+1):=Nat.pow_lt_pow_right (by decide) (by omega); omega) _
  rw [e,e2]
  refine Nat.eq_of_testBit_eq fun i=>?_
  rw [Nat.testBit_and,Nat.testBit_or,Nat.testBit_or,Nat.testBit_two_pow_sub_one,Nat.testBit_two_pow]
  have hui:=congrArg (·.testBit i) hur
  simp only [Nat.testBit_and] at hui
  by_cases hi:i<=x
  ·rw [hbit u i ⟨m,hm⟩ hi,hbit r i hr hi,Bool.or_false,Bool.false_or]
   by_cases h2:x=i
   ·subst h2; simp
   ·simp [h2]
  ·rw [decide_eq_false (show ¬ i<x by omega),decide_eq_false (show ¬ x=i by omega),Bool.or_false,Bool.false_or]
   exact hui
 have two:∀ u r,2^(x+1) ∣ u->2^(x+1) ∣ r->u≠0->(u-1)&&&(2^x|||r)=2^x|||((u-1)&&&r):=fun u r hu hr h0=>by
  rw [Nat.and_or_distrib_left]
  congr 1
  refine Nat.eq_of_testBit_eq fun i=>?_
  rw [Nat.testBit_and,Nat.testBit_two_pow]
  by_cases h2:x=i
  ·subst h2
   rw [decide_eq_true I,Bool.and_true]
   obtain ⟨m,hm⟩:=hu
   have hm0:m≠0:=fun e=>h0 (by rw [hm,e,Nat.mul_zero])
   have e:u-1=2^(x+1)*(m-1)+(2^(x+1)-1):=by
    have:2^(x+1)*m=2^(x+1)*(m-1)+2^(x+1):=by
     rw [<- Nat.mul_succ]; congr 1; omega
    have hp:0<2^(x+1):=Nat.two_pow_pos _
    omega
   have hp:0<2^(x+1):=Nat.two_pow_pos _
   rw [e,Nat.two_pow_add_eq_or_of_lt (by omega),Nat.testBit_or,Nat.testBit_two_pow_sub_one,decide_eq_true (by omega),Bool.or_true]
  ·rw [decide_eq_false h2,Bool.and_false]
 intro us
 induction us with
 | nil=>intro r _ _ _ h; exact h.elim
 | cons u us ih=>
  intro r h1 h2 h3 h
  obtain ⟨o1,o2⟩:=one u r (h1 u (List.mem_cons_self ..)) h2 (h3 u (List.mem_cons_self ..))
  cases us with
  | nil=>
   have h0:u=0:=h
   subst h0
   exact ⟨o1,o2,I⟩
  | cons v us=>
   obtain ⟨s1,s2,s3⟩:=h
   have i:=ih r (fun w hw=>h1 w (List.mem_cons_of_mem _ hw)) h2 (fun w hw=>h3 w (List.mem_cons_of_mem _ hw)) s3
   refine ⟨o1,o2,s1,?_,i⟩
   rw [two u r (h1 u (List.mem_cons_self ..)) h2 s1,s2]
theorem rH {x:Nat}:∀ {l:Lb Nat},(∀ y∈l,x<=y)->2^x ∣ un 0 l:=fun {l} h=>by
 refine Nat.dvd_of_mod_eq_zero (Nat.eq_of_testBit_eq fun i=>?_)
 rw [Nat.testBit_mod_two_pow,Nat.zero_testBit]
 by_cases hi:i<x
 ·rw [decide_eq_true hi,Bool.true_and]
  cases hb:(un 0 l).testBit i with
  | false=>rfl
  | true=>
   rcases (iE l 0 i).1 hb with h1 | h1
   ·simp at h1
   ·have:=h i h1; omega
 ·rw [decide_eq_false hi,Bool.false_and]
theorem mY:∀ {l:Lb Nat},l.Pairwise (· < ·)->Steps (un 0 l) ((aW l).map fun p=>un 0 p.1)
 | [],_=>rfl
 | x::l,h=>by
  obtain ⟨h1,h2⟩:=List.pairwise_cons.1 h
  have ih:=mY h2
  have e:(aW (x::l)).map (fun p=>un 0 p.1)=((aW l).map fun p=>un 0 p.1).flatMap fun u=>[2^x|||u,u]:=by
   rw [aW,List.map_flatMap,List.flatMap_map]
   congr 1
   funext p
   show [un (0|||2^x) p.1,un 0 p.1]=_
   rw [Nat.zero_or,lm]
  rw [e,show un 0 (x::l)=2^x|||un 0 l by rw [un,Nat.zero_or,lm]]
  refine mZ x _ _ (fun u hu=>?_) (rH fun y hy=>h1 y hy) (fun u hu=>?_) ih
  ·obtain ⟨p,hp,rfl⟩:=List.mem_map.1 hu
   exact rH fun y hy=>h1 y ((bW hp).1.subset hy)
  ·obtain ⟨p,hp,rfl⟩:=List.mem_map.1 hu
   refine Nat.eq_of_testBit_eq fun i=>Bool.eq_iff_iff.2 ?_
   rw [Nat.testBit_and,Bool.and_eq_true,iE,iE]
   simp only [Nat.zero_testBit,Bool.false_eq_true,false_or]
   exact ⟨And.left,fun h=>⟨h,(bW hp).1.subset h⟩⟩
theorem iP:∀ l:Lb Nat,∃ ps,aW l=(l,[])::ps
 | []=>⟨[],rfl⟩
 | x::l=>by
  obtain ⟨ps,e⟩:=iP l
  exact ⟨_,by rw [aW,e,List.flatMap_cons]; rfl⟩
theorem ek:∀ l:Lb Nat,(aW l).length=2^l.length
 | []=>rfl
 | x::l=>by
  rw [aW,List.length_flatMap,leC,Nat.pow_succ]
  have:∀ ps:Lb (Lb Nat×Lb Nat),(ps.map fun p=>[(x::p.1,p.2),(p.1,x::p.2)].length).sum=ps.length*2:=by
   intro ps
   induction ps with
   | nil=>rfl
   | cons p ps ih=>rw [List.map_cons,List.sum_cons,ih]; simp only [leC,leN]; omega
  rw [this,ek l]
theorem kL {σ β:Type} {B:(Ua×σ->Oa β)->Ua×σ->Oa β} (r:Ua) (R:σ->β) (F:Ua->σ->Oa σ) (hB:∀ J (u:Ua) s,B J (u,s)=(F u s).bind fun s' =>if u=0 then some (R s') else J ((u-1)&&&r,s')) {n:Nat} (hn:2^(ao r).length<n) (s:σ) :
  ah B n (r,s)=(((aW (ao r)).map fun p=>wd p.1).foldlM (fun s u=>F u s) s).map R:=by
 have h64:∀ x∈ao r,x<64:=fun x hx=>dI (aT.1 hx)
 have hr:r.toNat=un 0 (ao r):=by rw [<- iG h64,iX]
 have key:∀ (ps:Lb (Lb Nat×Lb Nat)) (n:Nat) (s:σ),(∀ p∈ps,∀ x∈p.1,x<64)->Steps (un 0 (ao r)) (ps.map fun p=>un 0 p.1)->ps.length<n->∀ p qs,ps=p::qs->ah B n (wd p.1,s)=((ps.map fun p=>wd p.1).foldlM (fun s u=>F u s) s).map R:=by
  intro ps
  induction ps with
  | nil=>intro n s _ h; exact h.elim
  | cons p ps ih=>
   intro n s h1 h2 h3 p' qs e
   cases e
   obtain ⟨m,rfl⟩:∃ m,n=m+1:=⟨n-1,by omega⟩
   have hp:=h1 p (List.mem_cons_self ..)
   rw [bn,hB,List.map_cons,List.foldlM_cons]
   have hz:wd p.1=0↔un 0 p.1=0:=by
    rw [<- iG hp]
    exact ⟨fun e=>by rw [e]; rfl,fun e=>UInt64.toNat_inj.1 e⟩
   cases ps with
   | nil=>
    cases F (wd p.1) s with
    | none=>rfl
    | some s' =>simp only [aa]; rw [if_pos (hz.2 h2)]; rfl
   | cons v vs=>
    obtain ⟨s1,s2,s3⟩:=h2
    have hv:(wd p.1-1)&&&r=wd v.1:=by
     refine UInt64.toNat_inj.1 ?_
     rw [UInt64.toNat_and,iG (h1 v (by simp)),<- (show (un 0 p.1-1)&&&un 0 (ao r)=un 0 v.1 from s2),hr,UInt64.toNat_sub_of_le _ _ (by
      rw [UInt64.le_iff_toNat_le,iG hp]; have:un 0 p.1≠0:=s1; show 1<=_; omega),iG hp]
     rfl
    cases F (wd p.1) s with
    | none=>rfl
    | some s' =>simp only [aa]; rw [if_neg (fun e=>s1 (hz.1 e)),hv]; exact ih m s' (fun q hq=>h1 q (List.mem_cons_of_mem _ hq)) s3 (by simp only [leC] at h3 ⊢; omega) v vs rfl
 obtain ⟨ps,e⟩:=iP (ao r)
 have:=key (aW (ao r)) n s (fun p hp x hx=>h64 x ((bW hp).1.subset hx)) (mY (aY r)) (by rw [ek]; exact hn) _ _ e
 rwa [iX] at this
theorem gA {α:Type} {f:α->Nat} {c:Nat}:∀ {l:Lb α},(∀ x∈l,f x<=c)->aG f l<=l.length*c
 | [],_=>by simp [aG]
 | x::l,h=>by
  have:=gA (l:=l) fun y hy=>h y (List.mem_cons_of_mem _ hy)
  have:=h x (List.mem_cons_self ..)
  rw [leC,Nat.succ_mul]
  show f x+aG f l<=_
  omega
theorem oH {l:Nat} (h:l<=9):2^l<=512:=Nat.le_trans (Nat.pow_le_pow_right (by decide) h) (by decide)
theorem kJ {l:Lb Nat} {p:Lb Nat×Lb Nat} (h:p∈aW l):p.2.length<=l.length:=(bW h).2.1.length_le
theorem lF (fits:Nat->Bool):∀ (k:Nat) (l:Lb Nat),l.length<=9->fX fits k l<=512^k
 | 0,[],_=>by simp [fX]
 | 0,_::_,_=>by simp [fX]
 | k+1,[],_=>by simp [fX]
 | k+1,x::l,h=>by
  rw [leC] at h
  have:=gA (l:=aW l) (f:=fun p=>if fits (un 0 (x::p.1)) then fX fits k p.2 else 0) (c:=512^k) (fun p hp=>by
   have:=lF fits k p.2 (by have:=kJ hp; omega)
   split<;>omega)
  rw [ek] at this
  show aG _ _<=_
  refine Nat.le_trans this ?_
  rw [Nat.pow_succ,Nat.mul_comm]
  exact Nat.mul_le_mul_left _ (oH (by omega))
theorem ki (fits:Nat->Bool):∀ (cs l:Lb Nat) (k:Nat),l.length<=9->aK fits cs l k<=512^k
 | [],l,k,h=>lF fits k l h
 | c::cs,l,k,h=>by
  rw [bA]
  by_cases hk:cs.length+1<=k
  ·rw [if_pos hk]
   have:=gA (l:=aW l) (f:=fun p=>if fits (un c p.1) then aK fits cs p.2 (k-1) else 0) (c:=512^(k-1)) (fun p hp=>by
    have:=ki fits cs p.2 (k-1) (by have:=kJ hp; omega)
    split<;>omega)
   rw [ek] at this
   refine Nat.le_trans this ?_
   obtain ⟨j,rfl⟩:∃ j,k=j+1:=⟨k-1,by omega⟩
   rw [Nat.pow_succ,Nat.mul_comm]
   exact Nat.mul_le_mul_left _ (oH h)
  ·rw [if_neg hk]; exact Nat.zero_le _
theorem pow4 {k:Nat} (h:k<=4):512^k<=68719476736:=Nat.le_trans (Nat.pow_le_pow_right (by decide) h) (by decide)
abbrev gE:=Lb ((Ua×Ua)×Int)
section
variable (fits:Nat->Bool)
def cu (D:gE):Prop:=∀ (s:Ua) (j:Nat),j<=4->∀ z,aP D (s,ac (j:Int))=some z->z=((fX fits j (ao s):Nat):Int)
theorem jZ:cu fits []:=fun _ _ _ _ h=>by cases h
theorem pP {i j:Nat} (hi:i<=4) (hj:j<=4) (h:ac (i:Int)=ac (j:Int)):i=j:=by
 have:=congrArg UInt64.toNat h
 rwa [qD (by omega),qD (by omega)] at this
theorem rM {D:gE} (h:cu fits D) {s:Ua} {j:Nat} (hj:j<=4):cu fits (aH D (s,ac (j:Int)) ((fX fits j (ao s):Nat):Int)):=fun s' j' hj' z e=>by
 rw [fL] at e
 by_cases h2:(s', ac (j' : Int))=(s,ac (j:Int))
 ·rw [if_pos h2] at e
  have h3:=congrArg Prod.fst h2
  have h4:=pP hj' hj (congrArg Prod.snd h2)
  simp only at h3
  subst h3 h4
  exact (Option.some.inj e).symm
 ·rw [if_neg h2] at e
  exact h s' j' hj' z e
def Tab (N:Nat) (ft:Lb Bool):Prop:=∀ m,m<2^N->ft[m]? = some (fits m)
theorem rest_eq {u:Ua} (h:u≠0):u&&&~~~(u &&& -u)=u&&&(u-1):=by
 refine bq fun k=>?_
 rw [aZ,fH h,im h,aS (dI (bF h))]
 simp
theorem qe {u:Ua} (h:u≠0):ao u=low u::ao (u&&&~~~(u &&& -u)):=by rw [rest_eq h]; exact cH h
variable {fits}
theorem io {N:Nat} {F:Ua->Int×gE->Oa (Int×gE)} {v:Lb Nat×Lb Nat->Nat} {T:Nat} (hT:T<=68719476736):∀ (ps:Lb (Lb Nat×Lb Nat)) (z:Nat) (D:gE),cu fits D ->
  (∀ p∈ps,∀ z D,z+v p<=T->cu fits D->∃ D', F (wd p.1) (((z:Nat):Int),D)=some (((z+v p:Nat):Int),D')/\cu fits D')->z+aG v ps<=T ->
  ∃ D', ((ps.map fun p=>wd p.1).foldlM (fun s u=>F u s) (((z:Nat):Int),D):Oa _)=some (((z+aG v ps:Nat):Int),D')/\cu fits D'
 | [],z,D,hD,_,_=>⟨D,rfl,hD⟩
 | p::ps,z,D,hD,h,hz=>by
  have e:aG v (p::ps)=v p+aG v ps:=rfl
  rw [e] at hz
  obtain ⟨D1,e1,h1⟩:=h p (List.mem_cons_self ..) z D (by omega) hD
  obtain ⟨D2,e2,h2⟩:=io (N:=N) hT ps (z+v p) D1 h1 (fun q hq=>h q (List.mem_cons_of_mem _ hq)) (by omega)
  refine ⟨D2,?_,h2⟩
  rw [List.map_cons,List.foldlM_cons,e1]
  show List.foldlM _ _ _=_
  rw [e2,e,Nat.add_assoc]
theorem nr {N:Nat} {ft:Lb Bool} (hft:Tab fits N ft) {x:Ua} {l:Lb Nat} (hx:x.toNat<2^N) (hl:∀ i∈l,i<N) (hN:N<=9):ft[(x|||wd l).toNat]? = some (fits (un x.toNat l)):=by
 rw [UInt64.toNat_or,iG fun i hi=>by have:=hl i hi; omega,<- lm]
 refine hft _ ?_
 rw [lm]
 exact Nat.or_lt_two_pow hx (rv hl)
theorem lv {N:Nat} (hN:N<=9) {ft:Lb Bool} (hft:Tab fits N ft):∀ (f:Nat) (D:gE) (s:Ua) (j:Nat),cu fits D->cS (N:Int) s->j<=4->(ao s).length<f ->
  ∃ D', aE FU f ft D s (j:Int)=some (D', ((fX fits j (ao s):Nat):Int))/\cu fits D'
 | 0,_,_,_,_,_,_,h=>absurd h (Nat.not_lt_zero _)
 | f+1,D,s,j,hD,hs,hj,hf=>by
  show ∃ D', bz FU (aE FU f) ft D s (j:Int)=_/\_
  unfold bz
  by_cases h0:s=0
  ·rw [if_pos h0,h0,cj]
   cases j with
   | zero=>exact ⟨D,rfl,hD⟩
   | succ j=>rw [if_neg (by omega)]; exact ⟨D,rfl,hD⟩
  ·rw [if_neg h0]
   have hb:=qe h0
   cases j with
   | zero=>rw [if_pos (by rfl),hb]; exact ⟨D,rfl,hD⟩
   | succ j=>
    rw [if_neg (by omega)]
    cases hm:aP D (s,ac ((j+1:Nat):Int)) with
    | some z=>
     rw [if_pos (by rfl),ap,hm]
     exact ⟨D,by rw [hD s (j+1) hj z hm]; rfl,hD⟩
    | none=>
     rw [if_neg (by simp)]
     have hall:∀ x∈ao s,x<N:=fun x hx=>by have:=hs x (aT.1 hx); omega
     rw [hb] at hall hf
     rw [leC] at hf
     have hlow:=hall _ (List.mem_cons_self ..)
     have hrest:∀ x∈ao (s&&&~~~(s &&& -s)),x<N:=fun x hx=>hall x (List.mem_cons_of_mem _ hx)
     have hl9:(ao (s&&&~~~(s &&& -s))).length+1<=9:=by
      have:(low s::ao (s&&&~~~(s &&& -s))).length<=N:=by
       rw [<- hb]
       have h2:ao s=(List.range N).filter (bit s ·):=cX (by omega) fun k hk=>by have:=hs k hk; omega
       rw [h2]
       exact Nat.le_trans (List.length_filter_le ..) (by rw [List.length_range]; omega)
      rw [leC] at this
      omega
     generalize hr:s&&&~~~(s &&& -s)=r at hrest hl9 hb hf
     rw [kL (B:=bv_l1 (aE FU f) FU ft s ((j+1:Nat):Int)) r (fun t:Int×gE=>(aH t.2 (s,ac ((j+1:Nat):Int)) t.1,t.1))
      (fun u t=>(ft[(u|||(s&&&(-s))).toNat]?).bind fun x=>if x=true then (chk (((j+1:Nat):Int)-1)).bind fun k=>(aE FU f ft t.2 ((s&&&~~~u)&&&~~~(s&&&(-s))) k).bind fun y=>(chk (t.1+y.2)).bind fun z=>some (z,y.1) else some t) (fun J u t=>by
       obtain ⟨z,D⟩:=t
       unfold bv_l1
       simp only
       rw [hr]
       cases ft[(u|||(s&&&(-s))).toNat]? with
       | none=>rfl
       | some x=>
        cases x with
        | false=>simp only [aa,Bool.false_eq_true,if_false]
        | true=>
         simp only [aa,if_true]
         cases chk (((j+1:Nat):Int)-1) with
         | none=>rfl
         | some k=>
          simp only [aa]
          cases aE FU f ft D ((s&&&~~~u)&&&~~~(s&&&(-s))) k with
          | none=>rfl
          | some y=>
           simp only [aa]
           cases chk (z+y.2)<;>rfl) (av (by have:=oH (l:=(ao r).length) (by omega); omega)) (0,D)]
     have hT:fX fits (j+1) (ao s)=aG (fun p=>if fits (un 0 (low s::p.1)) then fX fits j p.2 else 0) (aW (ao r)):=by rw [hb]; rfl
     have hle:=Nat.le_trans (lF fits (j+1) (ao s) (by rw [hb,leC]; exact hl9)) (pow4 hj)
     obtain ⟨D', e,hD'⟩:=io (fits:=fits) (N:=N) (F:=fun u t=>(ft[(u|||(s&&&(-s))).toNat]?).bind fun x=>if x=true then (chk (((j+1:Nat):Int)-1)).bind fun k=>(aE FU f ft t.2 ((s&&&~~~u)&&&~~~(s&&&(-s))) k).bind fun y=>(chk (t.1+y.2)).bind fun z=>some (z,y.1) else some t) (v:=fun p=>if fits (un 0 (low s::p.1)) then fX fits j p.2 else 0) hle (aW (ao r)) 0 D hD (fun p hp z D hz hD=>by
      obtain ⟨m1,m2,m3⟩:=bW hp
      have p1:∀ i∈p.1,i<N:=fun i hi=>hrest i (m1.subset hi)
      have p2:∀ i∈p.2,i<64:=fun i hi=>by have:=hrest i (m2.subset hi); omega
      have hx:(s &&& -s).toNat=2^low s:=by rw [fH h0,df (by omega)]
      have hi:=nr hft (x:=s &&& -s) (l:=p.1) (by rw [hx]; exact Nat.pow_lt_pow_right (by decide) hlow) p1 hN
      rw [UInt64.or_comm,hi,hx,show un (2^low s) p.1=un 0 (low s::p.1) by rw [un,Nat.zero_or]]
      simp only [aa]
      have hsp:(s&&&~~~(wd p.1))&&&~~~(s &&& -s)=wd p.2:=by
       have h3:=kg (l:=ao r) (fun i hi=>by have:=hrest i hi; omega) (aY r) hp (eW ((aY r).imp fun h=>by omega) hp)
       rw [iX,<- hr] at h3
       rw [<- h3]
       refine bq fun i=>?_
       rw [aZ,aZ,aZ,aZ]
       cases bit s i<;>cases bit (wd p.1) i<;>cases bit (s &&& -s) i<;>rfl
      by_cases hfit:fits (un 0 (low s::p.1))=true
      ·rw [if_pos hfit] at hz ⊢
       rw [if_pos hfit,aQ (by omega) (by omega)]
       simp only [aa]
       rw [hsp,show (((j+1:Nat):Int)-1)=(j:Int) by omega]
       have hbw:ao (wd p.2)=p.2:=oR p2 ((aY r).sublist m2)
       obtain ⟨D', e1,e2⟩:=lv hN hft f D (wd p.2) j hD (fun i hi=>by
        rw [gh p2] at hi
        have:=hrest i (m2.subset hi); omega) (by omega) (by rw [hbw]; have:=m2.length_le; omega)
       rw [e1,hbw]
       simp only [aa]
       rw [aQ (by omega) (by omega)]
       exact ⟨D', by simp only [aa]; congr 1,e2⟩
      ·rw [if_neg hfit] at hz ⊢
       exact ⟨D,by rw [if_neg hfit]; rfl,hD⟩) (by rw [<- hT]; omega)
     have e' :=e
     rw [Nat.zero_add,<- hT] at e'
     refine ⟨_,by rw [show ((0:Int),D)=(((0:Nat):Int),D) from I,e']; rfl,rM fits hD' hj⟩
theorem eT {N:Nat} (hN:N<=9) {ft:Lb Bool} (hft:Tab fits N ft):∀ (f:Nat) (D:gE) (cs:Lb Ua) (s:Ua) (k:Nat),cu fits D->(∀ c∈cs,c.toNat<2^N)->cS (N:Int) s->k<=4->cs.length<f ->
  ∃ D', aD FU f ft D cs s (k:Int)=some (D', ((aK fits (cs.map UInt64.toNat) (ao s) k:Nat):Int))/\cu fits D'
 | 0,_,_,_,_,_,_,_,_,h=>absurd h (Nat.not_lt_zero _)
 | f+1,D,[],s,k,hD,_,hs,hk,hf=>by
  show ∃ D', aV FU (aD FU f) ft D [] s (k:Int)=_/\_
  unfold aV
  rw [if_pos (by rfl)]
  obtain ⟨D', e1,e2⟩:=lv hN hft FU D s k hD hs hk (by have:=bG s; exact av (by omega))
  unfold bv_p
  rw [e1]
  exact ⟨D', rfl,e2⟩
 | f+1,D,c::cs,s,k,hD,hc,hs,hk,hf=>by
  show ∃ D', aV FU (aD FU f) ft D (c::cs) s (k:Int)=_/\_
  unfold aV
  rw [if_neg (by simp),List.map_cons,bA,List.length_map]
  by_cases hlk:cs.length+1<=k
  ·rw [if_pos (by rw [leC]; omega),if_pos hlk]
   have hall:∀ x∈ao s,x<N:=fun x hx=>by have:=hs x (aT.1 hx); omega
   have hl9:(ao s).length<=9:=by
    have h2:ao s=(List.range N).filter (bit s ·):=cX (by omega) fun k hk=>by have:=hs k hk; omega
    rw [h2]
    exact Nat.le_trans (List.length_filter_le ..) (by rw [List.length_range]; omega)
   rw [kL (B:=ay_l1 (aD FU f) FU (c::cs) ft (k:Int) s) s (fun t:Int×gE=>(t.2,t.1))
    (fun u t=>(ft[(c|||u).toNat]?).bind fun x=>if x=true then (cut (c::cs) 1 ((c::cs).length:Int)).bind fun xs=>(chk ((k:Int)-1)).bind fun j=>(aD FU f ft t.2 xs (s&&&~~~u) j).bind fun y=>(chk (t.1+y.2)).bind fun z=>some (z,y.1) else some t) (fun J u t=>by
     obtain ⟨z,D⟩:=t
     unfold ay_l1
     simp only [List.getElem?_cons_zero]
     simp only [aa]
     cases ft[(c|||u).toNat]? with
     | none=>rfl
     | some x=>
      cases x with
      | false=>simp only [aa,Bool.false_eq_true,if_false]
      | true=>
       simp only [aa,if_true]
       cases cut (c::cs) 1 ((c::cs).length:Int) with
       | none=>rfl
       | some xs=>
        simp only [aa]
        cases chk ((k:Int)-1) with
        | none=>rfl
        | some j=>
         simp only [aa]
         cases aD FU f ft D xs (s&&&~~~u) j with
         | none=>rfl
         | some y=>
          simp only [aa]
          cases chk (z+y.2)<;>rfl) (av (by have:=oH hl9; omega)) (0,D)]
   have hT:aK fits (c.toNat::cs.map UInt64.toNat) (ao s) k=aG (fun p=>if fits (un c.toNat p.1) then aK fits (cs.map UInt64.toNat) p.2 (k-1) else 0) (aW (ao s)):=by
    rw [bA,List.length_map,if_pos hlk]
   have hle:=Nat.le_trans (ki fits (c.toNat::cs.map UInt64.toNat) (ao s) k hl9) (pow4 hk)
   obtain ⟨D', e,hD'⟩:=io (fits:=fits) (N:=N) (F:=fun u t=>(ft[(c|||u).toNat]?).bind fun x=>if x=true then (cut (c::cs) 1 ((c::cs).length:Int)).bind fun xs=>(chk ((k:Int)-1)).bind fun j=>(aD FU f ft t.2 xs (s&&&~~~u) j).bind fun y=>(chk (t.1+y.2)).bind fun z=>some (z,y.1) else some t) (v:=fun p=>if fits (un c.toNat p.1) then aK fits (cs.map UInt64.toNat) p.2 (k-1) else 0) hle (aW (ao s)) 0 D hD (fun p hp z D hz hD=>by
    obtain ⟨m1,m2,m3⟩:=bW hp
    have p1:∀ i∈p.1,i<N:=fun i hi=>hall i (m1.subset hi)
    have p2:∀ i∈p.2,i<64:=fun i hi=>by have:=hall i (m2.subset hi); omega
    rw [nr hft (hc c (List.mem_cons_self ..)) p1 hN]
    simp only [aa]
    have hsp:s&&&~~~(wd p.1)=wd p.2:=by
     have h3:=kg (l:=ao s) (fun i hi=>by have:=hall i hi; omega) (aY s) hp (eW ((aY s).imp fun h=>by omega) hp)
     rwa [iX] at h3
    by_cases hfit:fits (un c.toNat p.1)=true
    ·rw [if_pos hfit] at hz ⊢
     rw [if_pos hfit,show cut (c::cs) 1 ((c::cs).length:Int)=some cs by
      unfold cut
      rw [if_pos ⟨by omega,by rw [leC]; omega,Int.le_refl _⟩,Int.toNat_natCast,List.take_length]
      rfl]
     simp only [aa]
     rw [aQ (by omega) (by omega)]
     simp only [aa]
     rw [hsp,show ((k:Int)-1)=((k-1:Nat):Int) by omega]
     have hbw:ao (wd p.2)=p.2:=oR p2 ((aY s).sublist m2)
     obtain ⟨D', e1,e2⟩:=eT hN hft f D cs (wd p.2) (k-1) hD (fun c' h' =>hc c' (List.mem_cons_of_mem _ h')) (fun i hi=>by
      rw [gh p2] at hi
      have:=hall i (m2.subset hi); omega) (by omega) (by rw [leC] at hf; omega)
     rw [e1,hbw]
     simp only [aa]
     rw [aQ (by omega) (by omega)]
     exact ⟨D', by simp only [aa]; congr 1,e2⟩
    ·rw [if_neg hfit] at hz ⊢
     exact ⟨D,by rw [if_neg hfit]; rfl,hD⟩) (by rw [<- hT]; omega)
   have e' :=e
   rw [Nat.zero_add] at e'
   exact ⟨_,by rw [show ((0:Int),D)=(((0:Nat):Int),D) from I,e']; rfl,hD'⟩
  ·rw [if_neg (by rw [leC]; omega),if_neg hlk]
   exact ⟨D,I,hD⟩
end
end Go.Proofs.YtkimkkgicmipbaaGreatDoor
