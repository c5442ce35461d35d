/- Plain laws: words, their value, and integers of any length: sum, difference, product. No program in sight but the printed functions. -/
import Derived.Test.YtkimkkgicmipbaaGreatDoorVT12
import Derived.Test.YtkimkkgicmipbaaGreatDoorVMj
import Derived.Lib.TrailingZeros
import Derived.Test.YtkimkkgicmipbaaGreatDoorVBase
namespace Go.Proofs.YtkimkkgicmipbaaGreatDoor
open Go
theorem aa {α β:Type} (x:α) (f:α->Oa β):(some x).bind f=f x:=Eq.trans (Eq.refl _) (Eq.refl _)
theorem bn {α β:Type} (B:(α->Oa β)->α->Oa β) (n:Nat) (s:α):ah B (n+1) s=B (ah B n) s:=rfl
theorem am {α β:Type} {B:(α->Oa β)->α->Oa β} (m:α->Nat) (I:α->Prop) (Q:β->Prop)
  (step:∀ s J,I s->(∀ s', I s'->m s'<m s->∃ r,J s'=some r/\Q r)->∃ r,B J s=some r/\Q r):∀ n s,I s->m s<n->∃ r,ah B n s=some r/\Q r:=by
 intro n
 induction n with
 | zero=>intro s _ h; omega
 | succ n ih=>intro s hI h; exact step s (ah B n) hI fun s' h1 h2=>ih s' h1 (by omega)
theorem aQ {x:Int} (h1:-9223372036854775808<=x) (h2:x<=9223372036854775807):chk x=some x:=if_pos ⟨h1,h2⟩
theorem eU {α:Type} {xs:Lb α} {i:Int} (h0:0<=i) (h:i.toNat<xs.length):idx xs i=some xs[i.toNat]:=by unfold idx; rw [if_pos h0,geE h]
theorem bc {α:Type} {xs:Lb α} {i:Nat} (x:α) (h:i<xs.length):put xs (i:Int) x=some (xs.set i x):=by
 unfold put; rw [if_pos ⟨Int.natCast_nonneg _,by omega⟩]; rfl
theorem cut_ok {α:Type} {xs:Lb α} {z:Nat} (h:z<=xs.length):cut xs 0 (z:Int)=some (xs.take z):=by
 unfold cut; rw [if_pos ⟨Int.le_refl _,Int.natCast_nonneg _,by omega⟩]; rfl
theorem cF {α:Type} (n:Nat) (x:α) (h:n<=4294967296):mk (n:Int) x=some (List.replicate n x):=by
 unfold mk; rw [if_pos ⟨Int.natCast_nonneg _,by omega⟩]; rfl
def val:Lb Ua->Nat
 | []=>0
 | x::xs=>x.toNat+18446744073709551616*val xs
theorem jk (xs ys:Lb Ua):val (xs++ys)=val xs+18446744073709551616^xs.length*val ys:=by
 induction xs with
 | nil=>simp [val]
 | cons x xs ih=>simp only [List.cons_append,val,ih,leC,Nat.pow_succ]; grind
theorem ea (xs:Lb Ua):val xs<18446744073709551616^xs.length:=by
 induction xs with
 | nil=>simp [val]
 | cons x xs ih=>
  have:=x.toNat_lt
  have h2:18446744073709551616*(val xs+1)<=18446744073709551616*18446744073709551616^xs.length:=Nat.mul_le_mul_left _ ih
  simp only [val,leC,Nat.pow_succ]
  rw [Nat.mul_comm (_^_)]
  omega
theorem cL (a:Lb Ua) {i:Nat} (h:i<a.length):val (a.take (i+1))=val (a.take i)+18446744073709551616^i*a[i].toNat:=by
 rw [<- List.take_append_getElem h,jk,List.length_take,Nat.min_eq_left (Nat.le_of_lt h)]
 simp [val]
theorem rN {xs:Lb Ua} {i:Nat} (s:Ua) (h:i<xs.length):(xs.set i s).take (i+1)=xs.take i++[s]:=by
 rw [<- List.take_append_getElem (by simpa using h),List.take_set_of_le (Nat.le_refl _)]
 simp
theorem hZ {xs:Lb Ua} {i:Nat} (s:Ua) (h:i<xs.length):val ((xs.set i s).take (i+1))=val (xs.take i)+18446744073709551616^i*s.toNat:=by
 rw [rN s h,jk,List.length_take,Nat.min_eq_left (Nat.le_of_lt h)]
 simp [val]
theorem dA:∀ (xs:Lb Ua),(∀ x∈xs,x=0)->val xs=0
 | [],_=>rfl
 | x::xs,h=>by
  have h1:=h x (List.mem_cons_self ..)
  have h2:=dA xs fun y hy=>h y (List.mem_cons_of_mem _ hy)
  subst h1; simp [val,h2]
def dg (m:Nat):Lb Ua:=if m=0 then [] else UInt64.ofNat m::dg (m/18446744073709551616)
termination_by m
decreasing_by exact Nat.div_lt_self (by omega) (by omega)
theorem dg0:dg 0=[]:=by unfold dg; simp
theorem kU {m:Nat} (h:m≠0):dg m=UInt64.ofNat m::dg (m/18446744073709551616):=by rw [dg]; rw [if_neg h]
theorem aM (m:Nat):val (dg m)=m:=by
 induction m using Nat.strongRecOn with
 | _ m ih=>
  by_cases h:m=0
  ·subst h; rw [dg0]; rfl
  ·rw [kU h]; simp only [val]
   rw [ih _ (Nat.div_lt_self (by omega) (by omega)),UInt64.toNat_ofNat']
   exact Nat.mod_add_div m 18446744073709551616
def Nm (xs:Lb Ua):Prop:=∀ x,xs.getLast? = some x->x≠0
theorem Nm.tail {x y:Ua} {xs:Lb Ua} (h:Nm (x::y::xs)):Nm (y::xs):=fun z hz=>h z (by rw [List.getLast?_cons_cons]; exact hz)
theorem iZ:∀ {xs:Lb Ua},Nm xs->xs≠[]->0<val xs
 | [],_,h=>absurd I h
 | [x],h,_=>by
  have h1:=h x I
  have:x.toNat≠0:=fun e=>h1 (UInt64.toNat_inj.1 (by simpa using e))
  simp only [val]; omega
 | x::y::xs,h,_=>by
  have:=iZ h.tail (by simp)
  simp only [val] at this ⊢
  omega
theorem lB:∀ {xs:Lb Ua},Nm xs->xs≠[]->18446744073709551616^(xs.length-1)<=val xs
 | [],_,h=>absurd I h
 | [x],h,_=>by
  have h1:=iZ h (by simp)
  show 18446744073709551616^0<=_
  rw [Nat.pow_zero]; exact h1
 | x::y::xs,h,_=>by
  have h1:=lB h.tail (by simp)
  have h2:18446744073709551616*18446744073709551616^xs.length<=18446744073709551616*val (y::xs):=Nat.mul_le_mul_left _ (by simpa using h1)
  show 18446744073709551616^(xs.length+1)<=x.toNat+18446744073709551616*val (y::xs)
  rw [Nat.pow_succ,Nat.mul_comm]; omega
theorem tg:∀ {xs:Lb Ua},Nm xs->dg (val xs)=xs
 | [],_=>dg0
 | x::xs,h=>by
  have hp:=iZ h (by simp)
  rw [kU (by omega)]
  have hx:=x.toNat_lt
  have h1:UInt64.ofNat (val (x::xs))=x:=UInt64.toNat_inj.1 (by rw [UInt64.toNat_ofNat']; simp only [val]; omega)
  have h2:val (x::xs)/18446744073709551616=val xs:=by simp only [val]; omega
  have h3:Nm xs:=by
   cases xs with
   | nil=>intro z hz; simp at hz
   | cons y ys=>exact h.tail
  rw [h1,h2,tg h3]
theorem jI (m:Nat):Nm (dg m):=by
 induction m using Nat.strongRecOn with
 | _ m ih=>
  intro x hx
  by_cases h:m=0
  ·subst h; rw [dg0] at hx; cases hx
  ·rw [kU h] at hx
   by_cases h2:m/18446744073709551616=0
   ·rw [h2,dg0] at hx
    simp at hx
    intro e; subst e
    have:=congrArg UInt64.toNat hx
    rw [UInt64.toNat_ofNat'] at this
    simp at this; omega
   ·have h3:=ih (m/18446744073709551616) (Nat.div_lt_self (by omega) (by omega))
    rw [kU h2] at hx h3
    rw [List.getLast?_cons_cons] at hx
    exact h3 x hx
theorem dg_inj {a b:Nat} (h:dg a=dg b):a=b:=by have:=congrArg val h; rwa [aM,aM] at this
theorem jF {m l:Nat} (h:m<18446744073709551616^l):(dg m).length<=l:=by
 by_cases h0:dg m=[]
 ·rw [h0]; simp
 ·have h1:=lB (jI m) h0
  rw [aM] at h1
  have h2:=Nat.lt_of_le_of_lt h1 h
  have h3:=(Nat.pow_lt_pow_iff_right (by omega)).1 h2
  omega
theorem aX (n:Nat) (b:Bool) (ws:Lb Ua) (hn:ws.length<n) (hl:ws.length<=4294967296):ar_p n b ws=some ⟨b&&decide (0<val ws),dg (val ws)⟩:=by
 have h:=am (B:=ar_l1 n ws) (fun z:Int=>z.toNat) (fun z=>0<=z/\z<=ws.length/\∀ i:Nat,z.toNat<=i->∀ h:i<ws.length,ws[i]=0)
  (fun z=>∃ k:Nat,z=k/\k<=ws.length/\(∀ i:Nat,k<=i->∀ h:i<ws.length,ws[i]=0)/\∀ h:0<k,∀ h2:k-1<ws.length,ws[k-1]≠0) ?_ n (ws.length:Int) ⟨by omega,by omega,fun i h1 h2=>by omega⟩ (by simpa using hn)
 ·obtain ⟨z,hz,k,rfl,hk,hz0,hz1⟩:=h
  have e:val ws=val (ws.take k):=by
   conv=>lhs; rw [<- List.take_append_drop k ws,jk]
   rw [dA (ws.drop k) fun x hx=>?_]
   ·simp
   ·obtain ⟨i,hi,rfl⟩:=List.getElem_of_mem hx
    rw [List.getElem_drop]
    exact hz0 _ (by omega) _
  have hnm:Nm (ws.take k):=by
   intro x hx
   rw [List.getLast?_eq_getElem?,List.length_take,Nat.min_eq_left hk] at hx
   obtain ⟨h1,rfl⟩:=List.getElem?_eq_some_iff.1 hx
   have h2:k-1<ws.length:=by rw [List.length_take] at h1; omega
   by_cases h0:0<k
   ·rw [List.getElem_take]; exact hz1 h0 h2
   ·rw [List.length_take] at h1; omega
  have e2:dg (val ws)=ws.take k:=by rw [e]; exact tg hnm
  have e3:decide (0<val ws)=decide (0<(k:Int)):=by
   rw [decide_eq_decide]
   constructor
   ·intro h0
    by_cases hk0:k=0
    ·subst hk0; rw [e] at h0; simp [val] at h0
    ·omega
   ·intro h0; rw [e]; refine iZ hnm fun h1=>?_
    have:=congrArg List.length h1
    rw [List.length_take,leN] at this; omega
  unfold ar_p jn
  simp only [hz,aa,cut_ok hk]
  cases b
  ·simp [e2]
  ·simp [e2,e3]
 ·intro z J ⟨h1,h2,h3⟩ hJ
  unfold ar_l1
  simp only
  by_cases h0:0<z
  ·rw [if_pos h0,aQ (by omega) (by omega),aa,eU (by omega) (by omega),aa]
   split
   ·rename_i hx
    rw [aa]
    refine hJ (z-1) ⟨by omega,by omega,fun i h4 h5=>?_⟩ (by omega)
    by_cases h6:i=(z-1).toNat
    ·subst h6; exact hx
    ·exact h3 i (by omega) h5
   ·rename_i hx
    refine ⟨z,I,z.toNat,by omega,by omega,h3,fun h4 h5=>?_⟩
    have:(z-1).toNat=z.toNat-1:=by omega
    simp only [this] at hx
    exact hx
  ·rw [if_neg h0]
   exact ⟨z,I,0,by omega,by omega,fun i h4 h5=>h3 i (by omega) h5,fun h4=>by omega⟩
theorem jN (x y c:Ua) (h:c.toNat<=1):∃ s d:Ua,add64 x y c=some (s,d)/\s.toNat+18446744073709551616*d.toNat=x.toNat+y.toNat+c.toNat/\d.toNat<=1:=by
 refine ⟨_,_,if_pos h,?_⟩
 have hx:=x.toNat_lt
 have hy:=y.toNat_lt
 rw [UInt64.toNat_ofNat', UInt64.toNat_ofNat']
 omega
theorem cA (x y c:Ua) (h:c.toNat<=1):∃ s d:Ua,sub64 x y c=some (s,d)/\s.toNat+y.toNat+c.toNat=x.toNat+18446744073709551616*d.toNat/\d.toNat<=1:=by
 refine ⟨_,_,if_pos h,?_⟩
 have hx:=x.toNat_lt
 have hy:=y.toNat_lt
 rw [UInt64.toNat_ofNat']
 split<;>simp<;>omega
theorem dh {α:Type} {l:Lb α} {i:Nat} (h:l.length<=i):l.take i=l:=List.take_of_length_le h
theorem kB (b:Lb Ua) (i:Nat):val (b.take (i+1))=val (b.take i)+18446744073709551616^i*(b[i]?.getD 0).toNat:=by
 by_cases h:i<b.length
 ·rw [cL b h,geE h]; rfl
 ·rw [dh (by omega),dh (by omega),List.getElem?_eq_none (by omega)]; simp
theorem oB (n:Nat) (a b:Lb Ua) (hb:b.length<=a.length) (hn:a.length<n):∃ xs u,ah (bP_l1 n a b) n (0,0,List.replicate (a.length+1) 0)=some (xs,u)/\xs.length=a.length+1/\val (xs.take a.length)+18446744073709551616^a.length*u.toNat=val a+val b:=by
 have h:=am (B:=bP_l1 n a b) (fun s:Ua×Nat×Lb Ua=>a.length-s.2.1) (fun s=>s.2.1<=a.length/\s.2.2.length=a.length+1/\s.1.toNat<=1/\val (s.2.2.take s.2.1)+18446744073709551616^s.2.1*s.1.toNat=val (a.take s.2.1)+val (b.take s.2.1))
  (fun r:Lb Ua×Ua=>r.1.length=a.length+1/\val (r.1.take a.length)+18446744073709551616^a.length*r.2.toNat=val a+val b) ?_ n (0,0,List.replicate (a.length+1) 0) ⟨by simp,by simp,by simp,by simp [val]⟩ (by simpa using hn)
 ·obtain ⟨⟨xs,u⟩,h1,h2,h3⟩:=h; exact ⟨xs,u,h1,h2,h3⟩
 ·rintro ⟨u,i,xs⟩ J ⟨h1,h2,h3,h4⟩ hJ
  simp only at h1 h2 h3 h4 hJ
  unfold bP_l1
  simp only
  by_cases hi:i<a.length
  ·rw [if_pos hi,geE hi,aa]
   have key:∀ y:Ua,y=b[i]?.getD 0->∃ r,((add64 a[i] y u).bind fun z198=>(xs[i]?).bind fun x199=>(put xs ((i:Nat):Int) z198.1).bind fun xs212=>J (z198.2,i+1,xs212))=some r/\r.1.length=a.length+1/\val (r.1.take a.length)+18446744073709551616^a.length*r.2.toNat=val a+val b:=by
    intro y hy
    obtain ⟨s,d,e1,e2,e3⟩:=jN a[i] y u h3
    rw [e1,aa,geE (by omega),aa,bc _ (by omega),aa]
    refine hJ (d,i+1,xs.set i s) ⟨by show i+1<=_; omega,by simpa using h2,e3,?_⟩ (by simp only; omega)
    simp only
    rw [hZ s (by omega),cL a hi,kB b i,<- hy,Nat.pow_succ]
    grind
   unfold jn
   simp only
   by_cases hj:i<b.length
   ·rw [if_pos hj,geE hj,aa]; exact key _ (by rw [geE hj]; rfl)
   ·rw [if_neg hj]; exact key _ (by rw [List.getElem?_eq_none (by omega)]; rfl)
  ·rw [if_neg hi]
   have:i=a.length:=by omega
   subst this
   refine ⟨_,I,h2,?_⟩
   simp only
   rw [h4,List.take_length,dh hb]
theorem rF (n:Nat) (a b:Lb Ua) (hn:a.length<n/\b.length<n) (hl:a.length<4294967296/\b.length<4294967296):∃ xs,bP_p n a b=some xs/\xs.length<=max a.length b.length+1/\val xs=val a+val b:=by
 have key:∀ a b:Lb Ua,b.length<=a.length->a.length<n->a.length<4294967296->∃ xs,((mk ((a.length+1:Nat):Int) (0:Ua)).bind fun xs17=>Option.bind (ah (bP_l1 n a b) n ((0:Ua),0,xs17)) (fun (xs157,u155)=>(xs157[a.length]?).bind fun x229=>(put xs157 ((a.length:Nat):Int) u155).bind fun xs241=>some xs241))=some xs/\xs.length=a.length+1/\val xs=val a+val b:=by
  intro a b hb h1 h2
  obtain ⟨xs,u,e1,e2,e3⟩:=oB n a b hb h1
  rw [cF _ _ (by omega),aa,e1,aa]
  simp only
  rw [geE (by omega),aa,bc _ (by omega),aa]
  refine ⟨_,rfl,by simpa using e2,?_⟩
  rw [<- e3]
  conv=>lhs; rw [<- dh (l:=xs.set a.length u) (i:=a.length+1) (by simp [e2])]
  exact hZ u (by omega)
 unfold bP_p jn
 simp only
 by_cases h:a.length<b.length
 ·rw [if_pos h]
  obtain ⟨xs,e1,e2,e3⟩:=key b a (by omega) hn.2 hl.2
  exact ⟨xs,e1,by omega,by omega⟩
 ·rw [if_neg h]
  obtain ⟨xs,e1,e2,e3⟩:=key a b (by omega) hn.1 hl.1
  exact ⟨xs,e1,by omega,e3⟩
theorem mR (n:Nat) (a b:Lb Ua) (hb:b.length<=a.length) (hv:val b<=val a) (hn:a.length<n) (hl:a.length<4294967296):∃ xs,bD_p n a b=some xs/\xs.length=a.length/\val xs=val a-val b:=by
 have h:=am (B:=bD_l1 n a b) (fun s:Ua×Nat×Lb Ua=>a.length-s.2.1) (fun s=>s.2.1<=a.length/\s.2.2.length=a.length/\s.1.toNat<=1/\val (s.2.2.take s.2.1)+val (b.take s.2.1)=val (a.take s.2.1)+18446744073709551616^s.2.1*s.1.toNat)
  (fun r:Lb Ua=>r.length=a.length/\val r=val a-val b) ?_ n (0,0,List.replicate a.length 0) ⟨by simp,by simp,by simp,by simp [val]⟩ (by simpa using hn)
 ·obtain ⟨xs,h1,h2,h3⟩:=h
  refine ⟨xs,?_,h2,h3⟩
  unfold bD_p
  rw [cF _ _ (by omega),aa,h1,aa]
 ·rintro ⟨u,i,xs⟩ J ⟨h1,h2,h3,h4⟩ hJ
  simp only at h1 h2 h3 h4 hJ
  unfold bD_l1
  simp only
  by_cases hi:i<a.length
  ·rw [if_pos hi,geE hi,aa]
   have key:∀ y:Ua,y=b[i]?.getD 0->∃ r,((sub64 a[i] y u).bind fun z184=>(xs[i]?).bind fun x185=>(put xs ((i:Nat):Int) z184.1).bind fun xs198=>J (z184.2,i+1,xs198))=some r/\r.length=a.length/\val r=val a-val b:=by
    intro y hy
    obtain ⟨s,d,e1,e2,e3⟩:=cA a[i] y u h3
    rw [e1,aa,geE (by omega),aa,bc _ (by omega),aa]
    refine hJ (d,i+1,xs.set i s) ⟨by show i+1<=_; omega,by simpa using h2,e3,?_⟩ (by simp only; omega)
    simp only
    rw [hZ s (by omega),cL a hi,kB b i,<- hy,Nat.pow_succ]
    grind
   unfold jn
   simp only
   by_cases hj:i<b.length
   ·rw [if_pos hj,geE hj,aa]; exact key _ (by rw [geE hj]; rfl)
   ·rw [if_neg hj]; exact key _ (by rw [List.getElem?_eq_none (by omega)]; rfl)
  ·rw [if_neg hi]
   have:i=a.length:=by omega
   subst this
   rw [List.take_length,dh hb,dh (by omega)] at h4
   refine ⟨xs,I,h2,?_⟩
   have h5:=ea xs
   rw [h2] at h5
   by_cases hu:u.toNat=0
   ·rw [hu] at h4; omega
   ·have:u.toNat=1:=by omega
    rw [this] at h4; omega
theorem eY (a:Lb Ua) {i:Nat} (h:i<a.length):val a=val (a.take i)+18446744073709551616^i*a[i].toNat+18446744073709551616^(i+1)*val (a.drop (i+1)):=by
 conv=>lhs; rw [<- List.take_append_drop (i+1) a,jk]
 rw [cL a h,List.length_take,Nat.min_eq_left (by omega)]
theorem qY {a b:Lb Ua} (hb:Nm b) (h:a.length<b.length):val a<val b:=by
 have h1:=ea a
 have h2:=lB hb (by intro e; rw [e] at h; simp at h)
 have h3:18446744073709551616^a.length<=18446744073709551616^(b.length-1):=Nat.pow_le_pow_right (by omega) (by omega)
 omega
theorem iY {a b:Lb Ua} {i:Nat} (ha:i<a.length) (hb:i<b.length) (hd:a.drop (i+1)=b.drop (i+1)) (h:a[i]<b[i]):val a<val b:=by
 rw [eY a ha,eY b hb,hd]
 have h1:=ea (a.take i)
 rw [List.length_take,Nat.min_eq_left (by omega)] at h1
 have h2:18446744073709551616^i*(a[i].toNat+1)<=18446744073709551616^i*b[i].toNat:=Nat.mul_le_mul_left _ (UInt64.lt_iff_toNat_lt.1 h)
 rw [Nat.mul_add] at h2
 omega
theorem iR (n:Nat) (a b:Lb Ua) (ha:Nm a) (hb:Nm b) (hn:a.length<n) (hl:a.length<4294967296):∃ c,bp_p n a b=some c/\(c<0↔val a<val b)/\(c=0↔val a=val b):=by
 unfold bp_p
 by_cases h:a.length=b.length
 ·rw [if_pos h]
  have hh:=am (B:=bp_l1 n a b) (fun z:Int=>(z+1).toNat) (fun z=>-1<=z/\z<a.length/\a.drop (z+1).toNat=b.drop (z+1).toNat)
   (fun r=>(r=.inl (-1)/\val a<val b)∨(r=.inl 1/\val b<val a)∨(r=.inr ()/\a=b)) ?_ n ((a.length:Int)-1) ⟨by omega,by omega,?_⟩ (by omega)
  ·obtain ⟨r,hr,h1 | h1 | h1⟩:=hh
   ·rw [hr,h1.1]; exact ⟨_,rfl,by have:=h1.2; omega,by have:=h1.2; omega⟩
   ·rw [hr,h1.1]; exact ⟨_,rfl,by have:=h1.2; omega,by have:=h1.2; omega⟩
   ·rw [hr,h1.1,h1.2]; exact ⟨_,rfl,by omega,by omega⟩
  ·intro z J ⟨h1,h2,h3⟩ hJ
   unfold bp_l1
   simp only
   by_cases h0:0<=z
   ·have e1:(z+1).toNat=z.toNat+1:=by omega
    rw [e1] at h3
    rw [if_pos h0,eU h0 (by omega),aa,eU h0 (by omega),aa]
    split
    ·rename_i hlt; exact ⟨_,I,.inl ⟨I,iY (by omega) (by omega) h3 hlt⟩⟩
    ·rename_i h4
     split
     ·rename_i hlt; exact ⟨_,I,.inr (.inl ⟨I,iY (by omega) (by omega) h3.symm hlt⟩)⟩
     ·rename_i h5
      have he:a[z.toNat]'(by omega)=b[z.toNat]'(by omega):=UInt64.toNat_inj.1 (by rw [UInt64.lt_iff_toNat_lt] at h4 h5; omega)
      rw [aQ (by omega) (by omega),aa]
      refine hJ (z-1) ⟨by omega,by omega,?_⟩ (by omega)
      rw [show (z-1+1).toNat=z.toNat by omega,List.drop_eq_getElem_cons (by omega),List.drop_eq_getElem_cons (l:=b) (by omega),h3,he]
   ·rw [if_neg h0]
    have e1:(z+1).toNat=0:=by omega
    rw [e1] at h3
    exact ⟨_,rfl,.inr (.inr ⟨rfl,by simpa using h3⟩)⟩
  ·rw [show ((a.length:Int)-1+1).toNat=a.length by omega,List.drop_length,h,List.drop_length]
 ·rw [if_neg h]
  refine ⟨_,I,?_⟩
  by_cases h1:a.length<b.length
  ·have:=qY hb h1; omega
  ·have:=qY (a:=b) ha (by omega); omega
theorem om (a:Ua):(shrU a 32).toNat=a.toNat/4294967296:=by
 unfold shrU; rw [if_pos (by decide),UInt64.toNat_ofNat']
 have:=a.toNat_lt
 omega
theorem rP (a:Ua):(a&&&(4294967295:Ua)).toNat=a.toNat%4294967296:=by
 rw [UInt64.toNat_and]; exact Nat.and_two_pow_sub_one_eq_mod a.toNat 32
theorem qd (x1 x0 y1 y0:Nat) (h1:x1<4294967296) (h2:x0<4294967296) (h3:y1<4294967296) (h4:y0<4294967296) :
  ((x1*y0+x0*y0/4294967296)<18446744073709551616)/\((x1*y0+x0*y0/4294967296)%4294967296+x0*y1<18446744073709551616)/\
  x1*y1+(x1*y0+x0*y0/4294967296)/4294967296+((x1*y0+x0*y0/4294967296)%4294967296+x0*y1)/4294967296<18446744073709551616/\
  (((x1*4294967296+x0)*(y1*4294967296+y0))%18446744073709551616)+18446744073709551616*(x1*y1+(x1*y0+x0*y0/4294967296)/4294967296+((x1*y0+x0*y0/4294967296)%4294967296+x0*y1)/4294967296)=(x1*4294967296+x0)*(y1*4294967296+y0):=by
 have e:(x1*4294967296+x0)*(y1*4294967296+y0)=18446744073709551616*(x1*y1)+4294967296*(x1*y0+x0*y1)+x0*y0:=by grind
 have b1:x1*y1<=4294967295*4294967295:=Nat.mul_le_mul (by omega) (by omega)
 have b2:x1*y0<=4294967295*4294967295:=Nat.mul_le_mul (by omega) (by omega)
 have b3:x0*y1<=4294967295*4294967295:=Nat.mul_le_mul (by omega) (by omega)
 have b4:x0*y0<=4294967295*4294967295:=Nat.mul_le_mul (by omega) (by omega)
 rw [e]
 generalize x1*y1=s at *
 generalize x1*y0=q at *
 generalize x0*y1=r at *
 generalize x0*y0=p at *
 clear e h1 h2 h3 h4
 refine ⟨by omega,by omega,by omega,by omega⟩
theorem qN (n:Nat) (x y:Ua):∃ hi lo,cg_p n x y=some (hi,lo)/\lo.toNat+18446744073709551616*hi.toNat=x.toNat*y.toNat:=by
 refine ⟨_,_,I,?_⟩
 have hx:=x.toNat_lt
 have hy:=y.toNat_lt
 have ex:x.toNat=x.toNat/4294967296*4294967296+x.toNat%4294967296:=by omega
 have ey:y.toNat=y.toNat/4294967296*4294967296+y.toNat%4294967296:=by omega
 obtain ⟨h1,h2,h3,h4⟩:=qd (x.toNat/4294967296) (x.toNat%4294967296) (y.toNat/4294967296) (y.toNat%4294967296) (by omega) (by omega) (by omega) (by omega)
 rw [<- ex,<- ey] at h4
 have b1:x.toNat/4294967296*(y.toNat/4294967296)<18446744073709551616:=by omega
 have b2:x.toNat/4294967296*(y.toNat%4294967296)<18446744073709551616:=by omega
 have b3:x.toNat%4294967296*(y.toNat/4294967296)<18446744073709551616:=by omega
 have b4:x.toNat%4294967296*(y.toNat%4294967296)<18446744073709551616:=by
  have:x.toNat%4294967296*(y.toNat%4294967296)<=4294967295*4294967295:=Nat.mul_le_mul (by omega) (by omega)
  omega
 simp only [UInt64.toNat_add,UInt64.toNat_mul,om,rP,show (2:Nat)^64=18446744073709551616 from rfl]
 rw [Nat.mod_eq_of_lt b1,Nat.mod_eq_of_lt b2,Nat.mod_eq_of_lt b3,Nat.mod_eq_of_lt b4,Nat.mod_eq_of_lt h1,Nat.mod_eq_of_lt h2]
 rw [Nat.mod_eq_of_lt (a:=x.toNat/4294967296*(y.toNat/4294967296)+_) (by omega),Nat.mod_eq_of_lt h3]
 exact h4
theorem mult_in (n:Nat) (b:Lb Ua) (x:Ua) (i:Nat) (xs0:Lb Ua) (hi:i+b.length<xs0.length) (hn:b.length<n) :
  ∃ xs u,ah (aH_l1 n b x i) n (0,0,xs0)=some (xs,u)/\xs.length=xs0.length/\val (xs.take (i+b.length))+18446744073709551616^(i+b.length)*u.toNat=val (xs0.take (i+b.length))+x.toNat*val b*18446744073709551616^i:=by
 have h:=am (B:=aH_l1 n b x i) (fun s:Ua×Nat×Lb Ua=>b.length-s.2.1) (fun s=>s.2.1<=b.length/\s.2.2.length=xs0.length/\(∀ k,i+s.2.1<=k->s.2.2[k]? = xs0[k]?)/\val (s.2.2.take (i+s.2.1))+18446744073709551616^(i+s.2.1)*s.1.toNat=val (xs0.take (i+s.2.1))+x.toNat*val (b.take s.2.1)*18446744073709551616^i)
  (fun r:Lb Ua×Ua=>r.1.length=xs0.length/\val (r.1.take (i+b.length))+18446744073709551616^(i+b.length)*r.2.toNat=val (xs0.take (i+b.length))+x.toNat*val b*18446744073709551616^i) ?_ n (0,0,xs0) ⟨by simp,rfl,fun _ _=>rfl,by simp [val]⟩ (by simpa using hn)
 ·obtain ⟨⟨xs,u⟩,h1,h2,h3⟩:=h; exact ⟨xs,u,h1,h2,h3⟩
 ·rintro ⟨u,j,xs⟩ J ⟨h1,h2,h3,h4⟩ hJ
  simp only at h1 h2 h3 h4 hJ
  unfold aH_l1
  simp only
  by_cases hj:j<b.length
  ·obtain ⟨hi', lo,e1,e2⟩:=qN n x b[j]
   have hx0:xs[i+j]'(by omega)=xs0[i+j]'(by omega):=by
    have:=h3 (i+j) (by omega)
    rw [geE (by omega),geE (by omega)] at this
    exact Option.some.inj this
   rw [if_pos hj,geE hj,aa,e1,aa,geE (by omega),aa]
   obtain ⟨s,c,f1,f2,f3⟩:=jN (xs[i+j]'(by omega)) lo 0 (by simp)
   obtain ⟨s', c', g1,g2,g3⟩:=jN s u 0 (by simp)
   simp only [f1,aa,g1]
   rw [bc _ (by omega),aa]
   simp only [UInt64.toNat_zero,Nat.add_zero] at f2 g2
   have bx:x.toNat*b[j].toNat<=18446744073709551615*18446744073709551615:=Nat.mul_le_mul (by have:=x.toNat_lt; omega) (by have:=b[j].toNat_lt; omega)
   have bo:=(xs[i+j]'(by omega)).toNat_lt
   have bu:=u.toNat_lt
   have e3:(hi'+c+c').toNat=hi'.toNat+c.toNat+c'.toNat:=by
    rw [UInt64.toNat_add,UInt64.toNat_add]; omega
   have e4:s'.toNat+18446744073709551616*(hi'+c+c').toNat=(xs[i+j]'(by omega)).toNat+x.toNat*b[j].toNat+u.toNat:=by rw [e3]; omega
   refine hJ (hi'+c+c', j+1,xs.set (i+j) s') ⟨hj,by simpa using h2,fun k hk=>?_,?_⟩ (by simp only; omega)
   ·simp only at hk ⊢
    rw [List.getElem?_set_ne (by omega)]; exact h3 k (by omega)
   ·simp only
    rw [<- Nat.add_assoc,hZ s' (by omega),cL xs0 (by omega),cL b hj,<- hx0,Nat.pow_succ]
    rw [Nat.pow_add] at h4 ⊢
    grind
  ·rw [if_neg hj]
   have:j=b.length:=by omega
   subst this
   refine ⟨_,I,h2,?_⟩
   simp only
   rw [h4,List.take_length]
theorem ky (n:Nat) (a b:Lb Ua) (hn:a.length<n/\b.length<n) (hl:a.length+b.length<=4294967296):∃ xs,aH_p n a b=some xs/\xs.length=a.length+b.length/\val xs=val a*val b:=by
 have h:=am (B:=aH_l2 n a b) (fun s:Nat×Lb Ua=>a.length-s.1) (fun s=>s.1<=a.length/\s.2.length=a.length+b.length/\val (s.2.take (s.1+b.length))=val (a.take s.1)*val b)
  (fun r:Lb Ua=>r.length=a.length+b.length/\val r=val a*val b) ?_ n (0,List.replicate (a.length+b.length) 0) ⟨by simp,by simp,?_⟩ (by simpa using hn.1)
 ·obtain ⟨xs,h1,h2,h3⟩:=h
  refine ⟨xs,?_,h2,h3⟩
  unfold aH_p
  rw [cF _ _ hl,aa,h1,aa]
 ·rintro ⟨i,xs⟩ J ⟨h1,h2,h3⟩ hJ
  simp only at h1 h2 h3 hJ
  unfold aH_l2
  simp only
  by_cases hi:i<a.length
  ·obtain ⟨ys,u,e1,e2,e3⟩:=mult_in n b a[i] i xs (by omega) hn.2
   rw [if_pos hi,geE hi,aa,e1,aa]
   simp only
   rw [geE (by omega),aa,bc _ (by omega),aa]
   refine hJ (i+1,ys.set (i+b.length) u) ⟨hi,by simp; omega,?_⟩ (by simp only; omega)
   simp only
   rw [show i+1+b.length=i+b.length+1 by omega,hZ u (by omega),cL a hi,e3,h3]
   grind
  ·rw [if_neg hi]
   have:i=a.length:=by omega
   subst this
   rw [List.take_length,dh (by omega)] at h3
   exact ⟨xs,I,h2,h3⟩
 ·simp only [List.take_zero,val,Nat.zero_mul]
  exact dA _ fun x hx=>(List.mem_replicate.1 (List.mem_of_mem_take hx)).2
def L (z:Int):Tb:=⟨decide (z<0),dg z.natAbs⟩
def Fit (l:Nat) (z:Int):Prop:=z.natAbs<18446744073709551616^l
theorem Fit.len {l:Nat} {z:Int} (h:Fit l z):(dg z.natAbs).length<=l:=jF h
def sg (s:Bool) (m:Nat):Int:=if s=true then -(m:Int) else m
theorem qh (s:Bool) (m:Nat):(⟨s&&decide (0<m),dg m⟩:Tb)=L (sg s m):=by
 unfold L sg
 cases s
 ·simp
 ·simp
theorem sg_of (z:Int):z=sg (decide (z<0)) z.natAbs:=by
 unfold sg; split<;>rename_i h<;>simp at h<;>omega
theorem lD (s:Bool) (m:Nat):(sg s m).natAbs=m:=by unfold sg; split<;>omega
theorem de (n l:Nat) (z:Int) (h:Fit l z) (hn:l<n) (hl:l<1000000):aS_p n (L z)=some (L (-z)):=by
 unfold aS_p
 have h1:=h.len
 rw [aX n _ _ (by show (dg z.natAbs).length<n; omega) (by show (dg z.natAbs).length<=_; omega),aa]
 show some (⟨!decide (z<0)&&decide (0<val (dg z.natAbs)),dg (val (dg z.natAbs))⟩:Tb)=_
 rw [aM,qh]
 refine congrArg (fun x=>some (L x)) ?_
 unfold sg
 by_cases hz:z<0<;>simp [hz]<;>omega
theorem cB (n l m:Nat) (a b:Int) (ha:Fit l a) (hb:Fit m b) (hn:l+m<n) (hl:l+m<1000000):ao_p n (L a) (L b)=some (L (a*b)):=by
 unfold ao_p
 have h1:=ha.len
 have h2:=hb.len
 obtain ⟨xs,e1,e2,e3⟩:=ky n (L a).fk (L b).fk ⟨by show (dg a.natAbs).length<n; omega,by show (dg b.natAbs).length<n; omega⟩ (by show (dg a.natAbs).length+(dg b.natAbs).length<=_; omega)
 have e4:xs.length=(dg a.natAbs).length+(dg b.natAbs).length:=e2
 rw [e1,aa,aX n _ _ (by omega) (by omega),aa,e3]
 show some (⟨!(decide (a<0)==decide (b<0))&&decide (0<val (dg a.natAbs)*val (dg b.natAbs)),dg (val (dg a.natAbs)*val (dg b.natAbs))⟩:Tb)=_
 rw [aM,aM,qh]
 refine congrArg (fun x=>some (L x)) ?_
 conv=>rhs; rw [sg_of a,sg_of b]
 unfold sg
 by_cases h3:a<0<;>by_cases h4:b<0<;>simp [h3,h4,Int.neg_mul,Int.mul_neg]
theorem je {a b:Nat} (h:a<=b):(dg a).length<=(dg b).length:=jF (Nat.lt_of_le_of_lt h (by have:=ea (dg b); rwa [aM] at this))
theorem pE (n l a b:Nat) (s:Bool) (h:a<=b) (hl:(dg b).length<=l) (hn:l<n) (hl2:l<1000000):((bD_p n (dg b) (dg a)).bind fun y67=>(ar_p n s y67).bind fun y75=>some y75)=some (L (sg s (b-a))):=by
 obtain ⟨xs,e1,e2,e3⟩:=mR n (dg b) (dg a) (je h) (by rw [aM,aM]; exact h) (by omega) (by omega)
 rw [e1,aa,aX n _ _ (by omega) (by omega),aa,e3,aM,aM,qh]
theorem eb (n l:Nat) (a b:Int) (ha:Fit l a) (hb:Fit l b) (hn:l+1<n) (hl:l<1000000):aw_p n (L a) (L b)=some (L (a+b)):=by
 unfold aw_p
 have h1:=ha.len
 have h2:=hb.len
 by_cases h:((L a).fe==(L b).fe)=true
 ·rw [if_pos h]
  obtain ⟨xs,e1,e2,e3⟩:=rF n (L a).fk (L b).fk ⟨by show (dg a.natAbs).length<n; omega,by show (dg b.natAbs).length<n; omega⟩ ⟨by show (dg a.natAbs).length<_; omega,by show (dg b.natAbs).length<_; omega⟩
  have e4:xs.length<=max (dg a.natAbs).length (dg b.natAbs).length+1:=e2
  rw [e1,aa,aX n _ _ (by omega) (by omega),aa,e3]
  show some (⟨decide (a<0)&&decide (0<val (dg a.natAbs)+val (dg b.natAbs)),dg (val (dg a.natAbs)+val (dg b.natAbs))⟩:Tb)=_
  rw [aM,aM,qh]
  refine congrArg (fun x=>some (L x)) ?_
  have h3:decide (a<0)=decide (b<0):=eq_of_beq h
  unfold sg
  by_cases h4:a<0<;>by_cases h5:b<0<;>simp [h4,h5] at h3 ⊢<;>omega
 ·rw [if_neg h]
  obtain ⟨c,e1,e2,e3⟩:=iR n (L a).fk (L b).fk (jI _) (jI _) (by show (dg a.natAbs).length<n; omega) (by show (dg a.natAbs).length<_; omega)
  have h3:decide (a<0)≠decide (b<0):=fun e=>h (by rw [beq_iff_eq]; exact e)
  rw [e1,aa]
  unfold jn
  simp only
  have e4:c<0↔a.natAbs<b.natAbs:=by rw [e2]; show val (dg a.natAbs)<val (dg b.natAbs)↔_; rw [aM,aM]
  by_cases hc:c<0
  ·rw [if_pos hc]
   show ((bD_p n (dg b.natAbs) (dg a.natAbs)).bind fun y67=>(ar_p n (decide (b<0)) y67).bind fun y75=>some y75)=_
   rw [pE n l _ _ _ (by omega) h2 (by omega) hl]
   refine congrArg (fun x=>some (L x)) ?_
   unfold sg
   by_cases h4:a<0<;>by_cases h5:b<0<;>simp [h4,h5] at h3 ⊢<;>omega
  ·rw [if_neg hc]
   show ((bD_p n (dg a.natAbs) (dg b.natAbs)).bind fun y67=>(ar_p n (decide (a<0)) y67).bind fun y75=>some y75)=_
   rw [pE n l _ _ _ (by omega) h1 (by omega) hl]
   refine congrArg (fun x=>some (L x)) ?_
   unfold sg
   by_cases h4:a<0<;>by_cases h5:b<0<;>simp [h4,h5] at h3 ⊢<;>omega
theorem Fit.neg {l:Nat} {z:Int} (h:Fit l z):Fit l (-z):=by unfold Fit at *; rwa [Int.natAbs_neg]
theorem sT (n l:Nat) (a b:Int) (ha:Fit l a) (hb:Fit l b) (hn:l+1<n) (hl:l<1000000):bF_p n (L a) (L b)=some (L (a-b)):=by
 unfold bF_p
 rw [de n l b hb (by omega) hl,aa,eb n l a (-b) ha hb.neg hn hl,aa,Int.sub_eq_add_neg]
theorem mq (n:Nat) (a:Int):bC_p n (L a)=some a.sign:=by
 unfold bC_p
 by_cases h:a<0
 ·rw [if_pos (by simpa [L] using h),Int.sign_eq_neg_one_of_neg h]
 ·rw [if_neg (by simpa [L] using h)]
  by_cases h0:a=0
  ·subst h0; rw [if_pos (by simp [L,dg0])]; rfl
  ·rw [if_neg,Int.sign_eq_one_of_pos (by omega)]
   show ¬ (dg a.natAbs).length=0
   rw [kU (by omega)]; simp
theorem gQ:∀ {xs:Lb Ua} {j:Nat} (v:Ua) (h:j<xs.length),val (xs.set j v)+18446744073709551616^j*xs[j].toNat=val xs+18446744073709551616^j*v.toNat
 | x::xs,0,v,_=>by simp only [List.set_cons_zero,val,List.getElem_cons_zero,Nat.pow_zero]; omega
 | x::xs,j+1,v,h=>by
  have:=gQ (xs:=xs) (j:=j) v (by simpa using h)
  simp only [List.set_cons_succ,val,List.getElem_cons_succ,Nat.pow_succ]
  grind
theorem oA {a b:Ua} {s:Nat} (ha:a.toNat<2^s) (hb:2^s ∣ b.toNat):(a|||b).toNat=a.toNat+b.toNat:=by
 obtain ⟨y,e⟩:=hb
 rw [UInt64.toNat_or,e,Nat.or_comm,<- Nat.two_pow_add_eq_or_of_lt ha,Nat.add_comm]
theorem ge (w:Nat):18446744073709551616^w=2^(64*w):=by
 rw [show (18446744073709551616:Nat)=2^64 from I,<- Nat.pow_mul]
theorem gK (x:Ua) {s:Nat} (hs:s<64):(shlU x s).toNat=x.toNat*2^s%18446744073709551616:=by
 unfold shlU; rw [if_pos hs,UInt64.toNat_ofNat']
theorem dF (x:Ua) {s:Nat} (hs:s<64):(shrU x s).toNat=x.toNat/2^s:=by
 unfold shrU; rw [if_pos hs,UInt64.toNat_ofNat']
 exact Nat.mod_eq_of_lt (Nat.lt_of_le_of_lt (Nat.div_le_self _ _) x.toNat_lt)
theorem split64 {s:Nat} (hs:s<=64):(18446744073709551616:Nat)=2^(64-s)*2^s:=by
 rw [<- Nat.pow_add,show 64-s+s=64 by omega]
theorem kQ (x:Ua) {s:Nat} (h0:0<s) (hs:s<64):(shlU x s).toNat+18446744073709551616*(shrU x (64-s)).toNat=x.toNat*2^s/\2^s ∣ (shlU x s).toNat/\(shrU x (64-s)).toNat<2^s:=by
 have e:=split64 (s:=s) (by omega)
 have e1:x.toNat*2^s/18446744073709551616=x.toNat/2^(64-s):=by
  rw [e]; exact Nat.mul_div_mul_right _ _ (Nat.two_pow_pos s)
 have e2:x.toNat*2^s%18446744073709551616=x.toNat%2^(64-s)*2^s:=by
  rw [e]; exact Nat.mul_mod_mul_right ..
 rw [gK x hs,dF x (by omega)]
 refine ⟨?_,?_,?_⟩
 ·rw [<- e1]; exact Nat.mod_add_div ..
 ·rw [e2]; exact Nat.dvd_mul_left ..
 ·refine Nat.div_lt_of_lt_mul ?_
  rw [<- e]; exact x.toNat_lt
theorem gN (x:Ua):shlU x 0=x:=by
 refine UInt64.toNat_inj.1 ?_
 rw [gK x (by decide),Nat.pow_zero,Nat.mul_one]
 exact Nat.mod_eq_of_lt x.toNat_lt
theorem gI (x:Ua):(0:Ua)|||x=x:=by
 refine UInt64.toNat_inj.1 ?_
 rw [UInt64.toNat_or]; simp
theorem bit_add {q:Lb Ua} {k:Nat} (h:k/64<q.length) (hd:2^(k+1) ∣ val q) (hb:(shlU 1 (k%64)).toNat=2^(k%64)):val (q.set (k/64) (q[k/64]|||shlU 1 (k%64)))=val q+2^k:=by
 have hs:=eY q h
 have hl:=ea (q.take (k/64))
 rw [List.length_take,Nat.min_eq_left (by omega)] at hl
 have hk:k=64*(k/64)+k%64:=by omega
 have hm:k%64<64:=by omega
 have e1:2^(k+1)=18446744073709551616^(k/64)*2^(k%64+1):=by rw [ge,<- Nat.pow_add]; congr 1; omega
 have e2:(18446744073709551616:Nat)=2^(k%64+1)*2^(63-k%64):=by rw [<- Nat.pow_add,show k%64+1+(63-k%64)=64 by omega]
 have h0:val (q.take (k/64))=0:=by
  have h1:18446744073709551616^(k/64) ∣ val q:=Nat.dvd_trans ⟨_,e1⟩ hd
  rw [hs,Nat.pow_succ,Nat.mul_assoc,Nat.add_assoc,<- Nat.mul_add] at h1
  have h2:=(Nat.dvd_add_left (Nat.dvd_mul_right ..)).1 h1
  exact Nat.eq_zero_of_dvd_of_lt h2 hl
 have h3:2^(k%64+1) ∣ (q[k/64]).toNat:=by
  rw [e1,hs,h0,Nat.zero_add,show (18446744073709551616:Nat)^(k/64+1)=18446744073709551616^(k/64)*18446744073709551616 from Nat.pow_succ ..,Nat.mul_assoc (18446744073709551616^(k/64)) 18446744073709551616,<- Nat.mul_add] at hd
  have h4:=Nat.dvd_of_mul_dvd_mul_left (Nat.pow_pos (by decide)) hd
  have h5:2^(k%64+1) ∣ 18446744073709551616*val (q.drop (k/64+1)):=Nat.dvd_trans ⟨_,e2⟩ (Nat.dvd_mul_right ..)
  exact (Nat.dvd_add_left h5).1 h4
 have h6:(q[k/64]|||shlU 1 (k%64)).toNat=2^(k%64)+(q[k/64]).toNat:=by
  rw [UInt64.or_comm]
  have:=oA (a:=shlU 1 (k%64)) (b:=q[k/64]) (s:=k%64+1) (by rw [hb]; exact Nat.pow_lt_pow_right (by decide) (by omega)) h3
  rw [this,hb]
 have h7:=gQ (q[k/64]|||shlU 1 (k%64)) h
 have e3:2^k=18446744073709551616^(k/64)*2^(k%64):=by rw [ge,<- Nat.pow_add]; congr 1
 rw [h6,Nat.mul_add,<- e3] at h7
 omega
theorem shl_one {s:Nat} (hs:s<64):(shlU 1 s).toNat=2^s:=by
 rw [gK 1 hs]
 have:2^s<2^64:=Nat.pow_lt_pow_right (by decide) hs
 simp only [UInt64.toNat_one,Nat.one_mul]
 exact Nat.mod_eq_of_lt (by omega)
theorem sW {a b q r k:Nat} (h1:a=b*q+r) (h2:r<b*2^(k+1)) (h3:2^(k+1) ∣ q) :
  (b*2^k<=r->a=b*(q+2^k)+(r-b*2^k)/\r-b*2^k<b*2^k/\2^k ∣ q+2^k)/\(r<b*2^k->2^k ∣ q):=by
 have h4:2^k ∣ q:=Nat.dvd_trans ⟨2,by rw [Nat.pow_succ]⟩ h3
 rw [Nat.pow_succ,<- Nat.mul_assoc] at h2
 refine ⟨fun h=>⟨?_,by omega,Nat.dvd_add h4 (Nat.dvd_refl _)⟩,fun _=>h4⟩
 rw [Nat.mul_add]; omega
def eu (x y:Nat):Nat:=if y=0 then 0 else (if x<y then 1 else 0)+Nat.log2 (x*y)+1
theorem eu_step {x y:Nat} (h:y≠0):eu y (x%y)<eu x y:=by
 have hm:x%y<y:=Nat.mod_lt _ (by omega)
 unfold eu
 rw [if_neg h]
 by_cases h0:x%y=0
 ·rw [if_pos h0]; omega
 ·rw [if_neg h0,if_neg (show ¬ y<x%y by omega)]
  by_cases h1:x<y
  ·rw [if_pos h1,Nat.mod_eq_of_lt h1,Nat.mul_comm y x]; omega
  ·rw [if_neg h1]
   have h2:2*(x%y)<x∨2*(x%y)=x:=by
    have h3:=Nat.div_add_mod x y
    have h4:1<=x/y:=Nat.div_pos (by omega) (by omega)
    have h5:y*1<=y*(x/y):=Nat.mul_le_mul_left _ h4
    omega
   have h6:2*(y*(x%y))<=x*y:=by
    rw [Nat.mul_comm x y,Nat.mul_left_comm]
    exact Nat.mul_le_mul_left _ (by omega)
   have h7:y*(x%y)≠0:=Nat.mul_ne_zero h h0
   have h8:Nat.log2 (y*(x%y))+1<=Nat.log2 (x*y):=by
    rw [Nat.le_log2 (by omega),Nat.pow_succ]
    have:=Nat.log2_self_le h7
    omega
   omega
theorem eu_le {x y l:Nat} (hx:x<2^l) (hy:y<2^l):eu x y<=2*l+2:=by
 unfold eu
 split
 ·omega
 ·rename_i h
  have h1:Nat.log2 (x*y)<=2*l:=by
   by_cases h0:x*y=0
   ·rw [h0]; simp
   ·have:Nat.log2 (x*y)<2*l:=by
     rw [Nat.log2_lt h0,Nat.two_mul,Nat.pow_add]
     exact Nat.mul_lt_mul'' hx hy
    omega
  split<;>omega
theorem dg1 {m:Nat} (h0:m≠0) (h:m<18446744073709551616):dg m=[UInt64.ofNat m]:=by
 rw [kU h0,show m/18446744073709551616=0 by omega,dg0]
theorem mu {m:Nat} (h0:m≠0) (h:m<18446744073709551616):UInt64.ofNat m≠0:=fun e=>by
 have:=congrArg UInt64.toNat e
 rw [UInt64.toNat_ofNat'] at this
 simp at this; omega
theorem dK {m:Nat} (h:m<18446744073709551616):(UInt64.ofNat m).toNat=m:=by rw [UInt64.toNat_ofNat']; exact Nat.mod_eq_of_lt h
theorem ro (n:Nat) (x y:Ua) (h:y≠0):aC_p n 0 x y=some (x/y,x%y):=by
 unfold aC_p
 have h1:¬ y<=0:=fun h1=>h (UInt64.toNat_inj.1 (by rw [UInt64.le_iff_toNat_le] at h1; simpa using h1))
 rw [if_neg h,if_neg h1,if_pos I]
 unfold md pO
 rw [if_neg h,aa,if_neg h,aa]
theorem jK (n a b:Nat) (ha:a<18446744073709551616) (hb:b<18446744073709551616) (h0:b≠0) (hn:4<n):∃ q,aF_p n (dg a) (dg b)=some (q,dg (a%b))/\q.length<=1/\val q=a/b:=by
 obtain ⟨k,rfl⟩:∃ k,n=k+3:=⟨n-3,by omega⟩
 rw [dg1 h0 hb]
 unfold aF_p
 by_cases h:a=0
 ·subst h
  refine ⟨[],?_,by simp,by simp [val]⟩
  rw [dg0,Nat.zero_mod,dg0]
  rw [cF _ _ (by simp),aa,if_pos (show [UInt64.ofNat b].length=1 from rfl),bn]
  unfold aF_l1
  simp only
  rw [if_neg (by decide),aa]
  simp only
  rw [aX _ _ _ (by simp) (by simp),aa]
  simp [val,dg0]
 ·have hm:a%b<18446744073709551616:=Nat.lt_of_le_of_lt (Nat.mod_le _ _) ha
  have e2:(UInt64.ofNat a%UInt64.ofNat b).toNat=a%b:=by rw [UInt64.toNat_mod,dK ha,dK hb]
  refine ⟨[UInt64.ofNat a/UInt64.ofNat b],?_,by simp,?_⟩
  ·rw [dg1 h ha,cF _ _ (by simp),aa,if_pos (show [UInt64.ofNat b].length=1 from rfl),bn]
   unfold aF_l1
   simp only
   rw [if_pos (show (0:Int)<=((([UInt64.ofNat a]:Lb Ua).length:Nat):Int)-1 by simp),eU (by simp) (by simp),aa]
   simp only [leC,leN,List.getElem?_cons_zero,aa]
   show ((aC_p (k+3) 0 (UInt64.ofNat a) (UInt64.ofNat b)).bind _).bind _=_
   rw [ro _ _ _ (mu h0 hb),aa]
   show (((some (0:Ua)).bind _)).bind _=_
   rw [aa]
   show ((put [(0:Ua)] ((0:Nat):Int) _).bind _).bind _=_
   rw [bc _ (by decide),aa]
   show (((some (-1:Int)).bind _)).bind _=_
   rw [aa,bn]
   simp only
   rw [if_neg (by decide),aa]
   simp only
   rw [aX _ _ _ (by simp) (by simp),aa]
   simp [val,e2]
  ·simp only [val]
   rw [UInt64.toNat_div,dK ha,dK hb]; simp
theorem fE {a b q r:Int} (h:a=b*q+r) (h0:0<=r) (h1:r<b.natAbs):a/b=q/\a%b=r:=by
 by_cases hb:0<b
 ·exact (Int.ediv_emod_unique hb).2 ⟨by rw [h]; omega,h0,by omega⟩
 ·have hb2:0 < -b:=by omega
  have h3:a=(-b)*(-q)+r:=by rw [h,Int.neg_mul_neg]
  obtain ⟨e1,e2⟩:=(Int.ediv_emod_unique (a:=a) (r:=r) (q:=-q) hb2).2 ⟨by rw [h3]; omega,h0,by omega⟩
  rw [Int.ediv_neg] at e1
  rw [Int.emod_neg] at e2
  exact ⟨by omega,e2⟩
def W1 (z:Int):Prop:=z.natAbs<18446744073709551616
theorem W1.fit {z:Int} (h:W1 z):Fit 1 z:=by unfold Fit; rw [Nat.pow_one]; exact h
theorem mF (n:Nat) (a b:Int) (ha:W1 a) (hb:W1 b) (h0:b≠0) (hn:10<n):ba_p n (L a) (L b)=some (L (a/b),L (a%b)):=by
 obtain ⟨q,e1,e2,e3⟩:=jK n a.natAbs b.natAbs ha hb (by omega) (by omega)
 have hm:a.natAbs%b.natAbs<b.natAbs:=Nat.mod_lt _ (by omega)
 have hl:(dg (a.natAbs%b.natAbs)).length<=1:=jF (by rw [Nat.pow_one]; unfold W1 at hb; omega)
 have hdm:=Nat.div_add_mod a.natAbs b.natAbs
 have hq:a.natAbs/b.natAbs<=a.natAbs:=Nat.div_le_self _ _
 unfold ba_p
 rw [show (L a).fk=dg a.natAbs from I,show (L b).fk=dg b.natAbs from I,e1,aa]
 simp only
 rw [aX n _ _ (by omega) (by omega),aa,aX n _ _ (by omega) (by omega),aa,e3,aM]
 generalize hx:a.natAbs/b.natAbs=x at *
 generalize hy:a.natAbs%b.natAbs=y at *
 simp only [qh]
 show (if (decide (a<0)&&decide (0<y))=true then _ else _)=_
 unfold W1 at ha hb
 have hab:(b.natAbs:Int)*x+y=a.natAbs:=by exact_mod_cast hdm
 by_cases hr:a<0/\0<y
 ·obtain ⟨h1,h2⟩:=hr
  rw [if_pos (by simp [h1,h2])]
  have f1:(⟨false,dg b.natAbs⟩:Tb)=L b.natAbs:=by unfold L; simp
  have f2:(⟨!(L b).fe,([(1:Ua)]:Lb Ua)⟩:Tb)=L (if b<0 then 1 else -1):=by
   unfold L
   by_cases hb0:b<0<;>simp [hb0]<;>rw [dg1 (by decide) (by decide)]<;>rfl
  rw [f1,f2,eb n 1 _ _ ?_ ?_ (by omega) (by omega),aa,eb n 1 _ _ ?_ ?_ (by omega) (by omega),aa]
  ·have e:sg (!(decide (a<0)==decide (b<0))) x+(if b<0 then 1 else -1)=a/b/\sg (decide (a<0)) y+b.natAbs=a%b:=by
    have:=fE (a:=a) (b:=b) (q:=sg (!(decide (a<0)==decide (b<0))) x+(if b<0 then 1 else -1)) (r:=sg (decide (a<0)) y+b.natAbs) ?_ ?_ ?_
    ·exact ⟨this.1.symm,this.2.symm⟩
    ·unfold sg
     by_cases hb0:b<0
     ·have:(b.natAbs:Int) = -b:=by omega
      rw [this] at hab ⊢
      have h3:(a.natAbs:Int) = -a:=by omega
      simp [h1,hb0]
      rw [Int.mul_add]; grind
     ·have:(b.natAbs:Int)=b:=by omega
      rw [this] at hab ⊢
      have h3:(a.natAbs:Int) = -a:=by omega
      simp [h1,hb0]
      rw [Int.mul_add]; grind
    ·unfold sg; simp [h1]; omega
    ·unfold sg; simp [h1]; omega
   show some (L (sg (!(decide (a<0)==decide (b<0))) x+(if b<0 then 1 else -1)),L (sg (decide (a<0)) y+b.natAbs))=_
   rw [e.1,e.2]
  ·unfold Fit; rw [Nat.pow_one,lD]; omega
  ·unfold Fit; rw [Nat.pow_one]; split<;>decide
  ·unfold Fit; rw [Nat.pow_one,lD]; omega
  ·unfold Fit; rw [Nat.pow_one]; omega
 ·rw [if_neg (by simpa using hr)]
  have e:=fE (a:=a) (b:=b) (q:=sg (!(decide (a<0)==decide (b<0))) x) (r:=sg (decide (a<0)) y) ?_ ?_ ?_
  ·rw [e.1,e.2]; rfl
  ·unfold sg
   by_cases h1:a<0
   ·have hy0:y=0:=by omega
    have h3:(a.natAbs:Int) = -a:=by omega
    by_cases hb0:b<0
    ·have:(b.natAbs:Int) = -b:=by omega
     rw [this] at hab; simp [h1,hb0,hy0] at hab ⊢; grind
    ·have:(b.natAbs:Int)=b:=by omega
     rw [this] at hab; simp [h1,hb0,hy0] at hab ⊢; grind
   ·have h3:(a.natAbs:Int)=a:=by omega
    by_cases hb0:b<0
    ·have:(b.natAbs:Int) = -b:=by omega
     rw [this] at hab; simp [h1,hb0] at hab ⊢; grind
    ·have:(b.natAbs:Int)=b:=by omega
     rw [this] at hab; simp [h1,hb0] at hab ⊢; grind
  ·unfold sg
   by_cases h1:a<0
   ·have hy0:y=0:=by omega
    simp [hy0]
   ·simp [h1]
  ·unfold sg
   by_cases h1:a<0
   ·have hy0:y=0:=by omega
    simp [hy0]; omega
   ·simp [h1]; omega
theorem pQ (n:Nat) (a b:Int) (ha:W1 a) (hb:W1 b) (hn:18446744073709551616<n):aD_p n (L a) (L b)=some (L (Nat.gcd a.natAbs b.natAbs:Nat)):=by
 have h:=am (B:=aD_l1 n) (fun s:Lb Ua×Lb Ua=>val s.2) (fun s=>∃ x y,s=(dg x,dg y)/\x<18446744073709551616/\y<18446744073709551616/\Nat.gcd x y=Nat.gcd a.natAbs b.natAbs)
  (fun r=>r=dg (Nat.gcd a.natAbs b.natAbs)) ?_ n (dg a.natAbs,dg b.natAbs) ⟨_,_,rfl,ha,hb,rfl⟩ (by simp only [aM]; unfold W1 at hb; omega)
 ·obtain ⟨r,h1,rfl⟩:=h
  unfold aD_p
  rw [show (L a).fk=dg a.natAbs from I,show (L b).fk=dg b.natAbs from I,h1,aa]
  unfold L
  simp
 ·rintro _ J ⟨x,y,rfl,h1,h2,h3⟩ hJ
  unfold aD_l1
  simp only
  by_cases h0:y=0
  ·subst h0
   rw [if_neg (by rw [dg0]; simp)]
   exact ⟨_,rfl,by rw [<- h3,Nat.gcd_zero_right]⟩
  ·obtain ⟨q,e1,_,_⟩:=jK n x y h1 h2 h0 (by omega)
   have hm:x%y<y:=Nat.mod_lt _ (by omega)
   rw [if_pos (by rw [dg1 h0 h2]; simp),e1,aa]
   simp only
   refine hJ (dg y,dg (x%y)) ⟨_,_,rfl,h2,by omega,?_⟩ (by simp only [aM]; exact hm)
   rw [<- h3,Nat.gcd_comm x y,Nat.gcd_rec y x,Nat.gcd_comm]
def W8 (z:Int):Ua×Ua×Ua×Ua×Ua×Ua×Ua×Ua:=
 if z<0 then (ac z,18446744073709551615,18446744073709551615,18446744073709551615,18446744073709551615,18446744073709551615,18446744073709551615,18446744073709551615) else (ac z,0,0,0,0,0,0,0)
def Sm (z:Int):Prop:=z.natAbs<9223372036854775808
theorem Sm.w {z:Int} (h:Sm z):W1 z:=by unfold Sm W1 at *; omega
theorem lA {z:Int} (h:Sm z) (h0:z<0):(ac z).toNat=18446744073709551616-z.natAbs:=by
 unfold ac Sm at *; rw [UInt64.toNat_ofNat']; omega
theorem mj {z:Int} (h:Sm z) (h0:¬ z<0):ac z=UInt64.ofNat z.natAbs:=by
 unfold ac Sm at *; congr 1; omega
theorem iN (n:Nat) (z:Int) (hn:10<n):bK_p n z=some (W8 z):=by
 obtain ⟨k,rfl⟩:∃ k,n=k+9:=⟨n-9,by omega⟩
 unfold bK_p W8
 by_cases h:z<0
 ·rw [if_pos h,if_pos h]
  simp [bn,bK_l1,bf]
 ·rw [if_neg h,if_neg h]
theorem sub_m1:sub64 0 18446744073709551615 1=some (0,1):=rfl
theorem sub_01:sub64 0 0 1=some (18446744073709551615,1):=rfl
theorem read_ok (n:Nat) (z:Int) (h:Sm z):cv_p n (W8 z)=some ⟨decide (z<0),(UInt64.ofNat z.natAbs,0,0,0,0,0,0,0)⟩:=by
 unfold cv_p W8
 by_cases h0:z<0
 ·rw [if_pos h0]
  have e:sub64 0 (ac z) 0=some (UInt64.ofNat z.natAbs,1):=by
   unfold sub64
   rw [if_pos (by decide),lA h h0]
   unfold Sm at h
   rw [if_pos (by simp; omega)]
   congr 2
   simp; congr 1; omega
  rw [if_pos (show shrU 18446744073709551615 63=1 from I)]
  unfold aZ_p
  simp only [e,aa,sub_m1]
  simp [h0]; rfl
 ·rw [if_neg h0]
  rw [if_neg (show ¬ shrU 0 63=1 from by decide),mj h h0]
  simp [h0]; decide
theorem fQ (n:Nat) (z:Int) (h:Sm z) (hn:10<n):bM_p n (W8 z)=some (L z):=by
 unfold bM_p
 rw [read_ok n z h,aa]
 simp only
 rw [show app ([]:Lb Ua) [UInt64.ofNat z.natAbs,0,0,0,0,0,0,0]=some [UInt64.ofNat z.natAbs,0,0,0,0,0,0,0] from rfl,aa,aX n _ _ (by simpa using by omega) (by simp),aa]
 have e:val [UInt64.ofNat z.natAbs,0,0,0,0,0,0,0]=z.natAbs:=by
  have:=h.w; unfold W1 at this
  simp only [val,dK this]; simp
 rw [e]
 unfold L
 by_cases h0:z<0
 ·simp [h0]; omega
 ·simp [h0]
theorem fF (n:Nat) (z:Int) (h:Sm z) (hn:10<n):bg_p n z=some (L z):=by
 unfold bg_p; rw [iN n z hn,aa,fQ n z h hn,aa]
theorem sX {m:Nat} (h:m<18446744073709551616):aw (dg m) 0 0=UInt64.ofNat m:=by
 by_cases h0:m=0
 ·subst h0; rw [dg0]; rfl
 ·rw [dg1 h0 h]; rfl
theorem di {m:Nat} (j:Nat) (h:m<18446744073709551616):aw (dg m) (j+1) 0=0:=by
 by_cases h0:m=0
 ·subst h0; rw [dg0]; rfl
 ·rw [dg1 h0 h]; rfl
theorem iW (n:Nat) (z:Int) (h:Sm z) (hn:10<n):aT_p n (L z)=some (W8 z,0):=by
 have hw:=h.w
 unfold W1 at hw
 have hl:¬ 8<(L z).fk.length:=by
  have:(dg z.natAbs).length<=1:=jF (by rw [Nat.pow_one]; exact hw)
  show ¬ 8<(dg z.natAbs).length
  omega
 unfold aT_p
 rw [if_neg hl,show (L z).fk=dg z.natAbs from I,sX hw,di 0 hw,di 1 hw,di 2 hw,di 3 hw,di 4 hw,di 5 hw,di 6 hw]
 unfold bN_p
 have ho:∀ x:Ua,aG_p n (x,0,0,0,0,0,0,0) (0,0,0,0,0,0,0,9223372036854775808)=some (-1):=fun x=>by
  obtain ⟨k,rfl⟩:∃ k,n=k+1:=⟨n-1,by omega⟩
  unfold aG_p
  rw [bn]
  rfl
 rw [ho,aa,if_neg (by decide),if_neg (by decide)]
 unfold W8
 by_cases h0:z<0
 ·have e:sub64 0 (UInt64.ofNat z.natAbs) 0=some (ac z,1):=by
   unfold sub64
   rw [if_pos (by decide),dK hw]
   rw [if_pos (by simp; omega)]
   congr 2
   refine UInt64.toNat_inj.1 ?_
   rw [lA h h0,UInt64.toNat_ofNat']
   unfold Sm at h
   simp; omega
  rw [if_pos h0,if_pos (by simpa [L] using h0)]
  unfold aZ_p
  simp only [e,aa,sub_01]
 ·rw [if_neg h0,if_neg (by simpa [L] using h0),aa,mj h h0]
def Rt (q:Rat):Te:=⟨L q.num,L q.den⟩
def Sh (q:Rat):Ta:=⟨W8 q.num,W8 q.den⟩
theorem lz {x y:Int} (hy:0<y) (hc:x.natAbs.Coprime y.natAbs):(Rat.divInt x y).num=x/\((Rat.divInt x y).den:Int)=y:=by
 have e:Rat.divInt x y={ num:=x,den:=y.natAbs,den_nz:=by omega,reduced:=hc }:=by
  rw [Rat.mk_eq_divInt]; congr 1; omega
 rw [e]; exact ⟨rfl,by simp only; omega⟩
theorem qx (n:Nat) (a b:Int) (ha:W1 a) (hb:W1 b) (h0:b≠0) (hn:18446744073709551616<n) :
  bt_p n (L a) (L b)=some (Rt (Rat.divInt a b))/\(Rat.divInt a b).num.natAbs<=a.natAbs/\(Rat.divInt a b).den<=b.natAbs:=by
 have hg:0<Nat.gcd a.natAbs b.natAbs:=Nat.gcd_pos_of_pos_right _ (by omega)
 have hgb:Nat.gcd a.natAbs b.natAbs<=b.natAbs:=Nat.gcd_le_right _ (by omega)
 have hgw:W1 ((Nat.gcd a.natAbs b.natAbs:Nat):Int):=by unfold W1 at *; omega
 obtain ⟨x,hx⟩:((Nat.gcd a.natAbs b.natAbs:Nat):Int) ∣ a:=Int.ofNat_dvd_left.2 (Nat.gcd_dvd_left _ _)
 obtain ⟨y,hy⟩:((Nat.gcd a.natAbs b.natAbs:Nat):Int) ∣ b:=Int.ofNat_dvd_left.2 (Nat.gcd_dvd_right _ _)
 have hco:=Nat.coprime_div_gcd_div_gcd hg
 generalize Nat.gcd a.natAbs b.natAbs=g at *
 have hg0:(g:Int)≠0:=by omega
 have e1:a/(g:Int)=x:=by rw [hx]; exact Int.mul_ediv_cancel_left _ hg0
 have e2:b/(g:Int)=y:=by rw [hy]; exact Int.mul_ediv_cancel_left _ hg0
 have e3:a.natAbs=g*x.natAbs:=by rw [hx,Int.natAbs_mul]; rfl
 have e4:b.natAbs=g*y.natAbs:=by rw [hy,Int.natAbs_mul]; rfl
 have hc:x.natAbs.Coprime y.natAbs:=by
  rw [e3,e4,Nat.mul_div_cancel_left _ hg,Nat.mul_div_cancel_left _ hg] at hco; exact hco
 have hxl:x.natAbs<=a.natAbs:=by rw [e3]; exact Nat.le_mul_of_pos_left _ hg
 have hyl:y.natAbs<=b.natAbs:=by rw [e4]; exact Nat.le_mul_of_pos_left _ hg
 have hy0:y≠0:=fun e=>h0 (by rw [hy,e,Int.mul_zero])
 have eq:Rat.divInt a b=Rat.divInt x y:=by
  conv=>lhs; rw [hx,hy]
  exact Rat.divInt_mul_left hg0
 have xw:Fit 1 x:=by unfold Fit; unfold W1 at ha; rw [Nat.pow_one]; omega
 have yw:Fit 1 y:=by unfold Fit; unfold W1 at hb; rw [Nat.pow_one]; omega
 have gc:aD_p n (L a) (L b)=some (L g):=by
  have:=pQ n a b ha hb hn
  rw [this]
  have h5:Nat.gcd a.natAbs b.natAbs=g:=by
   rw [e3,e4,Nat.gcd_mul_left,show Nat.gcd x.natAbs y.natAbs=1 from hc,Nat.mul_one]
  rw [h5]
 unfold bt_p
 rw [gc,aa,mF n a g ha hgw hg0 (by omega),aa,mF n b g hb hgw hg0 (by omega),aa,e1,e2]
 simp only
 rw [eq]
 by_cases hs:y<0
 ·rw [if_pos (by simpa [L] using hs),de n 1 x xw (by omega) (by omega),aa,de n 1 y yw (by omega) (by omega),aa]
  have h5:=lz (x:=-x) (y:=-y) (by omega) (by rwa [Int.natAbs_neg,Int.natAbs_neg])
  rw [Rat.neg_divInt_neg] at h5
  unfold Rt
  rw [h5.1,h5.2]
  exact ⟨rfl,by rw [Int.natAbs_neg]; exact hxl,by have:=h5.2; omega⟩
 ·rw [if_neg (by simpa [L] using hs)]
  have h5:=lz (x:=x) (y:=y) (by omega) hc
  unfold Rt
  rw [h5.1,h5.2]
  exact ⟨I,hxl,by have:=h5.2; omega⟩
theorem W8_ne {z:Int} (h:Sm z) (h0:z≠0):W8 z≠(0,0,0,0,0,0,0,0):=fun e=>by
 have e1:ac z=0:=by
  have:=congrArg Prod.fst e
  unfold W8 at this
  split at this<;>exact this
 by_cases hz:z<0
 ·have:=lA h hz
  rw [e1] at this; unfold Sm at h; simp at this; omega
 ·rw [mj h hz] at e1
  exact mu (by omega) h.w e1
theorem qZ (n:Nat) (q:Rat) (h1:Sm q.num) (h2:Sm (q.den:Int)) (hn:10<n):bn_p n (Rt q)=some (Sh q,0):=by
 unfold bn_p
 rw [show (Rt q).fp=L q.num from I,show (Rt q).fl=L q.den from I,iW n _ h1 hn,aa,iW n _ h2 hn,aa]
 rfl
theorem mw (n:Nat) (a b:Int) (ha:Sm a) (hb:Sm b) (h0:b≠0) (hn:18446744073709551616<n):cx_p n a b=some (Sh (Rat.divInt a b),0):=by
 obtain ⟨e1,e2,e3⟩:=qx n a b ha.w hb.w h0 hn
 unfold cx_p
 rw [iN n a (by omega),aa,iN n b (by omega),aa]
 unfold cw_p
 rw [if_neg (W8_ne hb h0),fQ n a ha (by omega),aa,fQ n b hb (by omega),aa,e1,aa,qZ n _ (by unfold Sm at *; omega) (by unfold Sm at *; omega) (by omega)]
 rfl
theorem cC {x y:Int} (h:y≠0):cD x y=some (x.tmod y):=if_neg h
theorem dV {α:Type} (xs ys:Lb α) (h:xs.length+ys.length<=1000000):app xs ys=some (xs++ys):=if_pos (Nat.le_trans h (by decide))
def bln (m:Nat):Nat:=if m=0 then 0 else Nat.log2 m+1
theorem lQ (m:Nat):m<2^bln m:=by
 unfold bln
 split
 ·rename_i h; rw [h]; decide
 ·rename_i h; exact Nat.lt_log2_self
theorem ka {m:Nat} (h:m≠0):2^(bln m-1)<=m:=by
 unfold bln
 rw [if_neg h]
 exact Nat.log2_self_le h
theorem hP {m:Nat} (h:m≠0):1<=bln m:=by unfold bln; rw [if_neg h]; omega
theorem rt {m l:Nat} (h1:2^l<=m) (h2:m<2^(l+1)):bln m=l+1:=by
 have h0:m≠0:=fun e=>by have:=Nat.two_pow_pos l; omega
 have h3:=lQ m
 have h4:=ka h0
 have h5:=hP h0
 have h6:=(Nat.pow_lt_pow_iff_right (by decide:1<2)).1 (Nat.lt_of_le_of_lt h1 h3)
 have h7:=(Nat.pow_lt_pow_iff_right (by decide:1<2)).1 (Nat.lt_of_le_of_lt h4 h2)
 omega
theorem fP {m s:Nat} (h:2^s<=m):bln m=s+bln (m/2^s):=by
 have hp:=Nat.two_pow_pos s
 have h0:m/2^s≠0:=fun e=>by have:=Nat.div_pos h hp; omega
 have h1:=lQ (m/2^s)
 have h2:=ka h0
 have h3:=hP h0
 have e1:2^(s+(bln (m/2^s)-1))<=m:=by
  rw [Nat.pow_add,Nat.mul_comm]
  exact (Nat.le_div_iff_mul_le hp).1 h2
 have e2:m<2^(s+bln (m/2^s)):=by
  rw [Nat.pow_add,Nat.mul_comm]
  exact (Nat.div_lt_iff_lt_mul hp).1 h1
 have:=rt (l:=s+(bln (m/2^s)-1)) e1 (by rw [show s+(bln (m/2^s)-1)+1=s+bln (m/2^s) by omega]; exact e2)
 omega
theorem dU {m l:Nat} (h:m<2^l):bln m<=l:=by
 by_cases h0:m=0
 ·subst h0; simp [bln]
 ·have h4:=ka h0
  have h7:=(Nat.pow_lt_pow_iff_right (by decide:1<2)).1 (Nat.lt_of_le_of_lt h4 h)
  have:=hP h0
  omega
theorem tab_all:(List.range 256).all (fun v=>decide (ct[v]? = some (UInt8.ofNat (bln v))))=true:=by kernel_rfl
theorem tab_ok {v:Nat} (h:v<256):ct[v]? = some (UInt8.ofNat (bln v)):=of_decide_eq_true (List.all_eq_true.1 tab_all v (List.mem_range.2 h))
theorem pg (u:Ua) (z:Int) (h:u.toNat<256) (hz:0<=z/\z<=64):((ct[(dC u).toNat]?).bind fun z27=>(chk (z+((z27.toNat:Nat):Int))).bind fun s29=>some s29)=some (z+bln u.toNat):=by
 have hb:=dU (l:=8) (m:=u.toNat) (by omega)
 have e:(dC u).toNat=u.toNat:=by unfold dC; rw [UInt8.toNat_ofNat']; omega
 have e2:(UInt8.ofNat (bln u.toNat)).toNat=bln u.toNat:=by rw [UInt8.toNat_ofNat']; omega
 rw [e,tab_ok h,aa,e2,aQ (by omega) (by omega),aa]
theorem qT (n:Nat) (x:Ua):aO_p n x=some (bln x.toNat:Int):=by
 have hx:=x.toNat_lt
 have k16:∀ (u:Ua) (z:Int),u.toNat<65536->(0<=z/\z<=48)->((if (256:Ua)<=u then (chk (z+8)).bind fun s31=>((ct[(dC (shrU u 8)).toNat]?).bind fun z27=>(chk (s31+((z27.toNat:Nat):Int))).bind fun s29=>some s29) else ((ct[(dC u).toNat]?).bind fun z27=>(chk (z+((z27.toNat:Nat):Int))).bind fun s29=>some s29)))=some (z+bln u.toNat):=fun u z hu hz=>by
  by_cases c:(256:Ua)<=u
  ·have c2:256<=u.toNat:=by rw [UInt64.le_iff_toNat_le] at c; simpa using c
   rw [if_pos c,aQ (by omega) (by omega),aa,pg _ _ (by rw [dF _ (by decide)]; omega) (by omega),dF _ (by decide),fP (m:=u.toNat) (s:=8) (by omega)]
   congr 1; omega
  ·have c2:u.toNat<256:=by rw [UInt64.le_iff_toNat_le] at c; simpa using c
   rw [if_neg c,pg _ _ c2 (by omega)]
 have k32:∀ (u:Ua) (z:Nat),u.toNat<4294967296->z<=32->((if (65536:Ua)<=u then (chk ((z:Int)+16)).bind fun s33=>(if (256:Ua)<=shrU u 16 then (chk (s33+8)).bind fun s31=>((ct[(dC (shrU (shrU u 16) 8)).toNat]?).bind fun z27=>(chk (s31+((z27.toNat:Nat):Int))).bind fun s29=>some s29) else ((ct[(dC (shrU u 16)).toNat]?).bind fun z27=>(chk (s33+((z27.toNat:Nat):Int))).bind fun s29=>some s29)) else (if (256:Ua)<=u then (chk ((z:Int)+8)).bind fun s31=>((ct[(dC (shrU u 8)).toNat]?).bind fun z27=>(chk (s31+((z27.toNat:Nat):Int))).bind fun s29=>some s29) else ((ct[(dC u).toNat]?).bind fun z27=>(chk ((z:Int)+((z27.toNat:Nat):Int))).bind fun s29=>some s29))))=some ((z:Int)+bln u.toNat):=fun u z hu hz=>by
  by_cases c:(65536:Ua)<=u
  ·have c2:65536<=u.toNat:=by rw [UInt64.le_iff_toNat_le] at c; simpa using c
   rw [if_pos c,aQ (by omega) (by omega),aa,k16 _ _ (by rw [dF _ (by decide)]; omega) (by omega),dF _ (by decide),fP (m:=u.toNat) (s:=16) (by omega)]
   congr 1; omega
  ·have c2:u.toNat<65536:=by rw [UInt64.le_iff_toNat_le] at c; simpa using c
   rw [if_neg c,k16 _ _ c2 (by omega)]
 unfold aO_p jn
 simp only
 by_cases c:(4294967296:Ua)<=x
 ·have c2:4294967296<=x.toNat:=by rw [UInt64.le_iff_toNat_le] at c; simpa using c
  rw [if_pos c]
  refine (k32 (shrU x 32) 32 (by rw [dF _ (by decide)]; omega) (by omega)).trans ?_
  rw [dF _ (by decide),fP (m:=x.toNat) (s:=32) (by omega)]
  congr 1
 ·have c2:x.toNat<4294967296:=by rw [UInt64.le_iff_toNat_le] at c; simpa using c
  rw [if_neg c]
  refine (k32 x 0 c2 (by omega)).trans ?_
  congr 1; omega
theorem lz_ok (n:Nat) (x:Ua):aM_p n x=some (64-bln x.toNat:Int):=by
 have:=dU (l:=64) (m:=x.toNat) (by have:=x.toNat_lt; omega)
 unfold aM_p
 rw [qT,aa,aQ (by omega) (by omega),aa]
theorem div_top {m lo t l:Nat} (hv:m=lo+18446744073709551616^l*t) (hlow:lo<18446744073709551616^l):m/2^(64*l)=t:=by
 rw [<- ge,hv,Nat.add_mul_div_left _ _ (Nat.lt_of_le_of_lt (Nat.zero_le _) hlow),Nat.div_eq_of_lt hlow,Nat.zero_add]
theorem kN (n:Nat) (m:Nat) (hl:(dg m).length<=1000000):ck_p n (dg m)=some (bln m:Int):=by
 unfold ck_p
 by_cases h0:m=0
 ·subst h0
  rw [dg0,if_pos (show ([]:Lb Ua).length=0 from I)]
  unfold bln
  rw [if_pos I]; rfl
 ·have hne:dg m≠[]:=fun e=>h0 (by have:=aM m; rw [e] at this; exact this.symm)
  obtain ⟨l,hl1⟩:∃ l,(dg m).length=l+1:=⟨(dg m).length-1,by cases h:dg m with | nil=>exact absurd h hne | cons x xs=>simp⟩
  have hlast:l<(dg m).length:=by omega
  have hv:=eY (dg m) hlast
  rw [List.drop_eq_nil_of_le (by omega),aM,show val ([]:Lb Ua)=0 from I,Nat.mul_zero,Nat.add_zero] at hv
  have hlow:=ea ((dg m).take l)
  rw [List.length_take,Nat.min_eq_left (by omega)] at hlow
  have htop:(dg m)[l]≠0:=jI m _ (by rw [List.getLast?_eq_getElem?,hl1]; exact geE hlast)
  have ht0:((dg m)[l]).toNat≠0:=fun e=>htop (UInt64.toNat_inj.1 (by simpa using e))
  have hb:bln m=64*l+bln ((dg m)[l]).toNat:=by
   have e:m/2^(64*l)=((dg m)[l]).toNat:=div_top hv hlow
   have:=fP (m:=m) (s:=64*l) (by
    have h1:2^(64*l)*1<=2^(64*l)*((dg m)[l]).toNat:=Nat.mul_le_mul_left _ (by omega)
    rw [ge] at hv
    omega)
   rw [e] at this
   exact this
  have hbt:=dU (l:=64) (m:=((dg m)[l]).toNat) (by have:=((dg m)[l]).toNat_lt; omega)
  have hi:((((dg m).length:Nat):Int)-1).toNat=l:=by omega
  rw [if_neg (by omega),aQ (by omega) (by omega),aa,eU (by omega) (by omega),aa]
  simp only [hi]
  rw [lz_ok,aa,aQ (by omega) (by omega),aa,hb]
  congr 1; omega
theorem qX (k:Nat) (h:k<1000000000):iv (k:Int) 64=some ((k/64:Nat):Int):=by
 unfold iv
 rw [if_neg (by decide),Int.tdiv_eq_ediv_of_nonneg (by omega),aQ (by omega) (by omega)]
 congr 1
theorem rem64 (k:Nat):cD (k:Int) 64=some ((k%64:Nat):Int):=by
 rw [cC (by decide),Int.tmod_eq_emod_of_nonneg (by omega)]
 congr 1
theorem dR (k:Nat):bb (k:Int)=some k:=by unfold bb; rw [if_pos (Int.natCast_nonneg _),Int.toNat_natCast]
theorem rZ {α:Type} {xs:Lb α} {i:Nat} (h:i<xs.length):idx xs (i:Int)=some xs[i]:=by
 rw [eU (by omega) (by rw [Int.toNat_natCast]; exact h)]
 simp only [Int.toNat_natCast]
theorem putN {α:Type} {xs:Lb α} {i:Nat} (x:α) (h:i<xs.length):put xs ((((i:Nat):Int).toNat:Nat):Int) x=some (xs.set i x):=by rw [Int.toNat_natCast]; exact bc x h
theorem rG (n:Nat) (a:Lb Ua) (k:Nat) (hk:k<1000000) (hl:a.length<100000) (hn:200000<n):cb_p n a (k:Int)=some (dg (val a*2^k)):=by
 have hkw:2^k=18446744073709551616^(k/64)*2^(k%64):=by rw [ge,<- Nat.pow_add]; congr 1; omega
 have hs:k%64<64:=Nat.mod_lt _ (by decide)
 have hh:=am (B:=cb_l1 n a (k:Int)) (fun s:Nat×Lb Ua=>a.length-s.1) (fun s=>s.1<=a.length/\∃ hx:s.2.length=a.length+k/64+1,val s.2=val (a.take s.1)*2^k/\(∀ j (h:j<s.2.length),s.1+k/64<j->s.2[j]=0)/\(s.2[s.1+k/64]?.getD 0).toNat<2^(k%64))
  (fun xs=>xs.length=a.length+k/64+1/\val xs=val a*2^k) ?_ n (0,List.replicate (a.length+k/64+1) 0) ⟨Nat.zero_le _,by simp,?_,fun j h _=>by simp,?_⟩ (by simp only; omega)
 ·obtain ⟨xs,e,h1,h2⟩:=hh
  unfold cb_p
  rw [qX k (by omega),aa,aQ (by omega) (by omega),aa,aQ (by omega) (by omega),aa,show ((a.length:Nat):Int)+((k/64:Nat):Int)+1=((a.length+k/64+1:Nat):Int) by omega,cF _ _ (by omega),aa,e,aa,aX n false xs (by omega) (by omega),aa,h2]
 ·rintro ⟨i,xs⟩ J ⟨a1,a2,a3,a4,a5⟩ hJ
  simp only at a1 a2 a3 a4 a5 hJ
  unfold cb_l1
  simp only
  by_cases hi:i<a.length
  ·have hw:i+k/64<xs.length:=by omega
   have hw1:i+k/64+1<xs.length:=by omega
   rw [geE hw] at a5
   have a5' : (xs[i+k/64]).toNat<2^(k%64):=a5
   rw [if_pos hi,geE hi,aa,qX k (by omega),aa,aQ (by omega) (by omega),aa,show ((i:Nat):Int)+((k/64:Nat):Int)=((i+k/64:Nat):Int) by omega,rZ hw,aa,rem64,aa,dR,aa,putN _ hw,aa,aa]
   have e0:val (a.take (i+1))*2^k=val (a.take i)*2^k+18446744073709551616^(i+k/64)*(a[i].toNat*2^(k%64)):=by
    rw [cL a hi,Nat.add_mul,hkw,Nat.pow_add]
    congr 1
    grind
   by_cases c:0<k%64
   ·obtain ⟨s1,s2,s3⟩:=kQ a[i] c hs
    have hor:=oA (a:=xs[i+k/64]) (b:=shlU a[i] (k%64)) a5' s2
    have v1:=gQ (xs[i+k/64]|||shlU a[i] (k%64)) hw
    rw [hor,Nat.mul_add] at v1
    generalize hys:xs.set (i+k/64) (xs[i+k/64]|||shlU a[i] (k%64))=ys at *
    have hyl:ys.length=xs.length:=by rw [<- hys,List.length_set]
    have hy1:i+k/64+1<ys.length:=by omega
    have hy0:ys[i+k/64+1]=0:=by
     have:=a4 (i+k/64+1) hw1 (by omega)
     simp only [<- hys]
     rw [List.getElem_set_ne (by omega)]; exact this
    have v2:=gQ (shrU a[i] (64-k%64)) hy1
    rw [hy0] at v2
    rw [if_pos (by omega),aa,aQ (by omega) (by omega),aa,aQ (by omega) (by omega),aa,aa,aQ (by omega) (by omega),aa,show (64:Int)-((k%64:Nat):Int)=((64-k%64:Nat):Int) by omega,dR,aa,show ((i:Nat):Int)+((k/64:Nat):Int)+1=((i+k/64+1:Nat):Int) by omega,rZ hy1,aa,putN _ hy1,aa]
    refine hJ _ ⟨hi,by simp only [List.length_set]; omega,?_,fun j hj hlt=>?_,?_⟩ (by simp only; omega)
    ·simp only
     rw [e0,<- s1,Nat.mul_add,<- Nat.mul_assoc,<- Nat.pow_succ]
     simp only [UInt64.toNat_zero,Nat.mul_zero,Nat.add_zero] at v2
     rw [v2,<- a3]
     show val ys+18446744073709551616^(i+k/64+1)*_=val xs+(_+18446744073709551616^(i+k/64+1)*_)
     omega
    ·simp only at hj hlt ⊢
     rw [List.getElem_set_ne (by omega)]
     simp only [<- hys]
     rw [List.getElem_set_ne (by omega)]
     exact a4 j (by simpa [<- hys] using hj) (by omega)
    ·simp only
     rw [show i+1+k/64=i+k/64+1 by omega,List.getElem?_set_self hy1]
     exact s3
   ·have c0:k%64=0:=by omega
    rw [c0,Nat.pow_zero] at a5'
    have hz:xs[i+k/64]=0:=UInt64.toNat_inj.1 (by simp; omega)
    have v1:=gQ (xs[i+k/64]|||shlU a[i] (k%64)) hw
    rw [hz,gI,c0,gN] at v1
    rw [if_neg (by omega),hz,gI,c0,gN]
    refine hJ _ ⟨hi,by simp only [List.length_set]; omega,?_,fun j hj hlt=>?_,?_⟩ (by simp only; omega)
    ·simp only
     rw [e0,c0,Nat.pow_zero,Nat.mul_one,<- a3]
     simp only [UInt64.toNat_zero,Nat.mul_zero,Nat.add_zero] at v1
     exact v1
    ·simp only at hj hlt ⊢
     rw [List.getElem_set_ne (by omega)]
     exact a4 j (by simpa using hj) (by omega)
    ·simp only
     rw [show i+1+k/64=i+k/64+1 by omega,List.getElem?_set_ne (by omega),geE hw1,a4 _ hw1 (by omega),c0]
     decide
  ·rw [if_neg hi]
   rw [List.take_of_length_le (by omega)] at a3
   exact ⟨_,I,a2,a3⟩
 ·simp only [List.take_zero,val,Nat.zero_mul]
  exact dA _ fun x hx=>(List.mem_replicate.1 hx).2
 ·simp only
  rw [List.getElem?_replicate]
  split<;>simp<;>exact Nat.two_pow_pos _
set_option maxRecDepth 8000
theorem qF {B:(Ua×Ua->Oa Ua)->Ua×Ua->Oa Ua} {y1 y0 un:Ua}
  (hB:∀ J q rh,B J (q,rh)=if (4294967296:Ua)<=q then (if (4294967296:Ua)<=rh+y1 then some (q-1) else J (q-1,rh+y1)) else (if 4294967296*rh+un<q*y0 then (if (4294967296:Ua)<=rh+y1 then some (q-1) else J (q-1,rh+y1)) else some q))
  {U:Nat} (h1:2147483648<=y1.toNat) (h1' : y1.toNat<4294967296) (h0:y0.toNat<4294967296) (hu:un.toNat<4294967296) (hU:U<y1.toNat*4294967296+y0.toNat) (q0 r0:Ua) (e:U=q0.toNat*y1.toNat+r0.toNat) (hr:r0.toNat<y1.toNat) (n:Nat) (hn:4294967300<n) :
  ∃ q:Ua,ah B n (q0,r0)=some q/\q.toNat=(U*4294967296+un.toNat)/(y1.toNat*4294967296+y0.toNat):=by
 obtain ⟨V,hV⟩:∃ V,y1.toNat*4294967296+y0.toNat=V:=⟨_,I⟩
 obtain ⟨N,hN⟩:∃ N,U*4294967296+un.toNat=N:=⟨_,I⟩
 rw [hV] at hU
 rw [hV,hN]
 have hVp:0<V:=by omega
 obtain ⟨D,hD⟩:∃ D,N/V=D:=⟨_,I⟩
 have hle:∀ x,x<=D↔x*V<=N:=fun x=>by rw [<- hD]; exact Nat.le_div_iff_mul_le hVp
 have hlt:∀ x,D<x↔N<x*V:=fun x=>by rw [<- hD]; exact Nat.div_lt_iff_lt_mul hVp
 rw [hD]
 have hNV:D<4294967296:=by
  rw [hlt]
  omega
 have hq0:q0.toNat<=4294967297:=by
  have h2:q0.toNat*2147483648<=q0.toNat*y1.toNat:=Nat.mul_le_mul_left _ h1
  by_cases h3:q0.toNat<=4294967297
  ·exact h3
  ·exfalso
   have h4:4294967298*y1.toNat<=q0.toNat*y1.toNat:=Nat.mul_le_mul_right _ (by omega)
   omega
 have up:D<=q0.toNat:=by
  rw [<- hD]
  have h3:N/V<=N/(y1.toNat*4294967296):=Nat.div_le_div_left (by omega) (by omega)
  have h4:N/(y1.toNat*4294967296)=U/y1.toNat:=by
   rw [Nat.mul_comm,<- Nat.div_div_eq_div_mul]
   congr 1
   omega
  have h5:U/y1.toNat=q0.toNat:=by
   rw [e,Nat.mul_comm,Nat.add_comm,Nat.add_mul_div_left _ _ (by omega),Nat.div_eq_of_lt hr,Nat.zero_add]
  rw [h4,h5] at h3
  exact h3
 refine am (B:=B) (fun s:Ua×Ua=>s.1.toNat) (fun s=>U=s.1.toNat*y1.toNat+s.2.toNat/\s.2.toNat<4294967296/\D<=s.1.toNat/\s.1.toNat<=4294967297) (fun q=>q.toNat=D) ?_ n (q0,r0) ⟨e,by simp only; omega,up,hq0⟩ (by simp only; omega)
 rintro ⟨q,rh⟩ J ⟨i1,i2,i3,i4⟩ hJ
 simp only at i1 i2 i3 i4 hJ
 rw [hB]
 have c32:(4294967296:Ua).toNat=4294967296:=rfl
 have hrh:(rh+y1).toNat=rh.toNat+y1.toNat:=by rw [UInt64.toNat_add]; omega
 -- what follows once the guess is too great
 have over:D+1<=q.toNat->∃ r,(if (4294967296:Ua)<=rh+y1 then some (q-1) else J (q-1,rh+y1))=some r/\r.toNat=D:=fun ho=>by
  have hq1:(q-1).toNat=q.toNat-1:=by
   rw [UInt64.toNat_sub]
   have:=q.toNat_lt
   simp only [UInt64.toNat_one]
   omega
  have e1:q.toNat*y1.toNat=(q.toNat-1)*y1.toNat+y1.toNat:=by
   rw [<- Nat.succ_mul]; congr 1; omega
  split
  ·rename_i hbig
   rw [UInt64.le_iff_toNat_le,c32,hrh] at hbig
   refine ⟨_,I,?_⟩
   rw [hq1]
   refine Nat.le_antisymm ?_ (by omega)
   rw [hle,<- hV,Nat.mul_add,<- Nat.mul_assoc]
   have h5:(q.toNat-1)*y0.toNat<=4294967296*4294967295:=Nat.mul_le_mul (by omega) (by omega)
   omega
  ·rename_i hbig
   rw [UInt64.le_iff_toNat_le,c32,hrh] at hbig
   exact hJ _ ⟨by simp only; rw [hq1,hrh]; omega,by simp only; rw [hrh]; omega,by simp only; rw [hq1]; omega,by simp only; rw [hq1]; omega⟩ (by simp only; rw [hq1]; omega)
 by_cases c:(4294967296:Ua)<=q
 ·rw [if_pos c]
  rw [UInt64.le_iff_toNat_le,c32] at c
  exact over (by omega)
 ·rw [if_neg c]
  rw [UInt64.le_iff_toNat_le,c32] at c
  have m1:(4294967296*rh+un).toNat=4294967296*rh.toNat+un.toNat:=by
   rw [UInt64.toNat_add,UInt64.toNat_mul,c32]; omega
  have m2:(q*y0).toNat=q.toNat*y0.toNat:=by
   rw [UInt64.toNat_mul]
   have:q.toNat*y0.toNat<=4294967295*4294967295:=Nat.mul_le_mul (by omega) (by omega)
   omega
  have eqV:q.toNat*V=q.toNat*y1.toNat*4294967296+q.toNat*y0.toNat:=by rw [<- hV,Nat.mul_add,<- Nat.mul_assoc]
  by_cases c2:4294967296*rh+un<q*y0
  ·rw [if_pos c2]
   rw [UInt64.lt_iff_toNat_lt,m1,m2] at c2
   refine over ?_
   have:D<q.toNat:=by
    rw [hlt,eqV]
    omega
   omega
  ·rw [if_neg c2]
   rw [UInt64.lt_iff_toNat_lt,m1,m2] at c2
   refine ⟨_,I,Nat.le_antisymm ?_ i3⟩
   rw [hle,eqV]
   omega
theorem pl {N M R:Nat} (h:N=M+R) (hR:R<18446744073709551616):(18446744073709551616-M%18446744073709551616+N%18446744073709551616)%18446744073709551616=R:=by omega
theorem glue2 {hi lo p u t w:Nat} (t1:u=hi*p+t) (t2:w+18446744073709551616*t=lo*p):(hi*18446744073709551616+lo)*p=u*18446744073709551616+w:=by
 rw [Nat.add_mul,Nat.mul_right_comm hi 18446744073709551616 p,t1,<- t2]
 generalize hi*p=z
 omega
theorem glue {P Q R1 R0 u w:Nat} (h1:P+R1=u*4294967296+w/4294967296) (h2:Q+R0=R1*4294967296+w%4294967296):u*18446744073709551616+w=P*4294967296+Q+R0:=by omega
theorem qB (n:Nat) (hi lo y:Ua) (h:hi.toNat<y.toNat) (hn:4294967300<n):∃ q r:Ua,aC_p n hi lo y=some (q,r)/\hi.toNat*18446744073709551616+lo.toNat=q.toNat*y.toNat+r.toNat/\r.toNat<y.toNat:=by
 have hy:=y.toNat_lt
 have hlo:=lo.toNat_lt
 have hy0:y≠0:=fun e=>by rw [e] at h; simp at h
 unfold aC_p
 rw [if_neg hy0,if_neg (by rw [UInt64.le_iff_toNat_le]; omega)]
 by_cases h0:hi=0
 ·subst h0
  rw [if_pos I]
  unfold md pO
  rw [if_neg hy0,aa,if_neg hy0,aa]
  refine ⟨_,_,I,?_,?_⟩
  ·rw [UInt64.toNat_div,UInt64.toNat_mod]
   have:=Nat.div_add_mod lo.toNat y.toNat
   rw [Nat.mul_comm] at this
   simp; omega
  ·rw [UInt64.toNat_mod]; exact Nat.mod_lt _ (by omega)
 ·rw [if_neg h0,lz_ok,aa]
  have hyn:y.toNat≠0:=by omega
  have b1:=hP hyn
  have b2:=dU (l:=64) (m:=y.toNat) (by omega)
  have b3:=lQ y.toNat
  have b4:=ka hyn
  obtain ⟨s,hs⟩:∃ s,s=64-bln y.toNat:=⟨_,I⟩
  have e1:(ac (64-(bln y.toNat:Int))).toNat=s:=by unfold ac; rw [UInt64.toNat_ofNat']; omega
  have e2:((64:Ua)-ac (64-(bln y.toNat:Int))).toNat=64-s:=by
   rw [UInt64.toNat_sub,e1]
   simp only [show (64:Ua).toNat=64 from rfl]
   omega
  have hs64:s<64:=by omega
  have hps:=Nat.two_pow_pos s
  -- the divisor,moved
  have v2:y.toNat*2^s<18446744073709551616:=by
   have:y.toNat*2^s<2^bln y.toNat*2^s:=Nat.mul_lt_mul_of_pos_right b3 hps
   rw [<- Nat.pow_add,show bln y.toNat+s=64 by omega] at this
   exact this
  have v1:9223372036854775808<=y.toNat*2^s:=by
   have:2^(bln y.toNat-1)*2^s<=y.toNat*2^s:=Nat.mul_le_mul_right _ b4
   rw [<- Nat.pow_add,show bln y.toNat-1+s=63 by omega] at this
   exact this
  have hyv:(shlU y s).toNat=y.toNat*2^s:=by rw [gK y hs64,Nat.mod_eq_of_lt v2]
  have hhi:hi.toNat*2^s<18446744073709551616:=Nat.lt_of_le_of_lt (Nat.mul_le_mul_right _ (Nat.le_of_lt h)) v2
  have hhv:(shlU hi s).toNat=hi.toNat*2^s:=by rw [gK hi hs64,Nat.mod_eq_of_lt hhi]
  -- the dividend,moved
  have hun:∃ t:Nat,(shlU hi s|||shrU lo (64-s)).toNat=hi.toNat*2^s+t/\(shlU lo s).toNat+18446744073709551616*t=lo.toNat*2^s:=by
   by_cases s0:s=0
   ·subst s0
    refine ⟨0,?_,by rw [gN]; simp⟩
    rw [gN,show shrU lo (64-0)=0 from by unfold shrU; rw [if_neg (by decide)],UInt64.toNat_or]
    simp
   ·obtain ⟨t1,t2,t3⟩:=kQ lo (by omega) hs64
    refine ⟨(shrU lo (64-s)).toNat,?_,t1⟩
    rw [UInt64.or_comm,oA t3 (by rw [hhv]; exact Nat.dvd_mul_left ..),hhv,Nat.add_comm]
  obtain ⟨t,t1,t2⟩:=hun
  rw [e1,e2]
  generalize hyy:shlU y s=yy at *
  generalize hun32:shlU hi s|||shrU lo (64-s)=un32 at *
  generalize hun10:shlU lo s=un10 at *
  have hun10l:=un10.toNat_lt
  have hun32l:=un32.toNat_lt
  -- both halves of the divisor
  have w1:(shrU yy 32).toNat=yy.toNat/4294967296:=om yy
  have w0:(yy&&&(4294967295:Ua)).toNat=yy.toNat%4294967296:=rP yy
  have x1:(shrU un10 32).toNat=un10.toNat/4294967296:=om un10
  have x0:(un10&&&(4294967295:Ua)).toNat=un10.toNat%4294967296:=rP un10
  have hyyl:=yy.toNat_lt
  have hV:(shrU yy 32).toNat*4294967296+(yy&&&(4294967295:Ua)).toNat=yy.toNat:=by rw [w1,w0]; omega
  have hy1:2147483648<=(shrU yy 32).toNat:=by rw [w1]; omega
  have hy1' : (shrU yy 32).toNat<4294967296:=by rw [w1]; omega
  have hy0' : (yy&&&(4294967295:Ua)).toNat<4294967296:=by rw [w0]; omega
  have hne:shrU yy 32≠0:=fun e=>by rw [e] at hy1; simp at hy1
  have hUV:un32.toNat<yy.toNat:=by
   have h5:(hi.toNat*18446744073709551616+lo.toNat)*2^s<y.toNat*18446744073709551616*2^s:=Nat.mul_lt_mul_of_pos_right (by omega) hps
   rw [Nat.add_mul,Nat.mul_right_comm,Nat.mul_right_comm y.toNat] at h5
   omega
  -- the first digit
  have d1:∀ (U:Ua) (hU:U.toNat<yy.toNat) (un:Ua) (hu:un.toNat<4294967296) (B:(Ua×Ua->Oa Ua)->Ua×Ua->Oa Ua) (hB:∀ J q rh,B J (q,rh)=if (4294967296:Ua)<=q then (if (4294967296:Ua)<=rh+shrU yy 32 then some (q-1) else J (q-1,rh+shrU yy 32)) else (if 4294967296*rh+un<q*(yy&&&(4294967295:Ua)) then (if (4294967296:Ua)<=rh+shrU yy 32 then some (q-1) else J (q-1,rh+shrU yy 32)) else some q)),
    ∃ q:Ua,ah B n (U/shrU yy 32,U-U/shrU yy 32*shrU yy 32)=some q/\q.toNat=(U.toNat*4294967296+un.toNat)/yy.toNat:=fun U hU un hu B hB=>by
   have hm:=Nat.div_add_mod U.toNat (shrU yy 32).toNat
   have hml:=Nat.mod_lt U.toNat (show 0<(shrU yy 32).toNat by omega)
   have hUl:=U.toNat_lt
   have e3:(U-U/shrU yy 32*shrU yy 32).toNat=U.toNat%(shrU yy 32).toNat:=by
    rw [UInt64.toNat_sub,UInt64.toNat_mul,UInt64.toNat_div]
    rw [Nat.mul_comm] at hm
    have:U.toNat/(shrU yy 32).toNat*(shrU yy 32).toNat<=U.toNat:=by omega
    rw [Nat.mod_eq_of_lt (a:=U.toNat/(shrU yy 32).toNat*(shrU yy 32).toNat) (by omega)]
    omega
   obtain ⟨q,a1,a2⟩:=qF hB (U:=U.toNat) hy1 hy1' hy0' hu (by rw [hV]; exact hU) (U/shrU yy 32) (U-U/shrU yy 32*shrU yy 32) (by rw [UInt64.toNat_div,e3,Nat.mul_comm]; exact hm.symm) (by rw [e3]; exact hml) n hn
   exact ⟨q,a1,by rw [a2,hV]⟩
  obtain ⟨q1,l2,q1v⟩:=d1 un32 hUV (shrU un10 32) (by rw [x1]; omega) (aC_l2 n y (64-(bln y.toNat:Int)) lo) (fun J q rh=>by unfold aC_l2; simp only [e1,hyy,hun10])
  have hm1:=Nat.div_add_mod (un32.toNat*4294967296+(shrU un10 32).toNat) yy.toNat
  have hml1:=Nat.mod_lt (un32.toNat*4294967296+(shrU un10 32).toNat) (show 0<yy.toNat by omega)
  rw [<- q1v] at hm1
  generalize hR1:(un32.toNat*4294967296+(shrU un10 32).toNat)%yy.toNat=R1 at hm1 hml1
  have u21:(un32*4294967296+shrU un10 32-q1*yy).toNat=R1:=by
   rw [UInt64.toNat_sub,UInt64.toNat_add,UInt64.toNat_mul,UInt64.toNat_mul]
   rw [show (4294967296:Ua).toNat=4294967296 from I]
   have:=pl (N:=un32.toNat*4294967296+(shrU un10 32).toNat) (M:=q1.toNat*yy.toNat) (R:=R1) (by rw [Nat.mul_comm q1.toNat]; exact hm1.symm) (by omega)
   generalize q1.toNat*yy.toNat=M at *
   omega
  obtain ⟨q0,l1,q0v⟩:=d1 (un32*4294967296+shrU un10 32-q1*yy) (by rw [u21]; exact hml1) (un10&&&(4294967295:Ua)) (by rw [x0]; omega) (aC_l1 n y (64-(bln y.toNat:Int)) lo) (fun J q rh=>by unfold aC_l1; simp only [e1,hyy,hun10])
  rw [u21] at q0v
  have hm0:=Nat.div_add_mod (R1*4294967296+(un10&&&(4294967295:Ua)).toNat) yy.toNat
  have hml0:=Nat.mod_lt (R1*4294967296+(un10&&&(4294967295:Ua)).toNat) (show 0<yy.toNat by omega)
  rw [<- q0v] at hm0
  generalize hR0:(R1*4294967296+(un10&&&(4294967295:Ua)).toNat)%yy.toNat=R0 at hm0 hml0
  have u00:((un32*4294967296+shrU un10 32-q1*yy)*4294967296+(un10&&&(4294967295:Ua))-q0*yy).toNat=R0:=by
   rw [UInt64.toNat_sub,UInt64.toNat_add,UInt64.toNat_mul,UInt64.toNat_mul,u21]
   rw [show (4294967296:Ua).toNat=4294967296 from I]
   have:=pl (N:=R1*4294967296+(un10&&&(4294967295:Ua)).toNat) (M:=q0.toNat*yy.toNat) (R:=R0) (by rw [Nat.mul_comm q0.toNat]; exact hm0.symm) (by omega)
   generalize q0.toNat*yy.toNat=M at *
   omega
  have q1l:q1.toNat<4294967296:=by
   rw [q1v,Nat.div_lt_iff_lt_mul (by omega)]; rw [x1]; omega
  have q0l:q0.toNat<4294967296:=by
   rw [q0v,Nat.div_lt_iff_lt_mul (by omega)]; rw [x0]; omega
  -- all together
  have all:(hi.toNat*18446744073709551616+lo.toNat)*2^s=(q1.toNat*4294967296+q0.toNat)*y.toNat*2^s+R0:=by
   have a1:(hi.toNat*18446744073709551616+lo.toNat)*2^s=un32.toNat*18446744073709551616+un10.toNat:=by
    exact glue2 t1 t2
   have a2:(q1.toNat*4294967296+q0.toNat)*y.toNat*2^s=yy.toNat*q1.toNat*4294967296+yy.toNat*q0.toNat:=by
    rw [Nat.mul_assoc,<- hyv]; grind
   rw [a1,a2]
   rw [x1] at hm1
   rw [x0] at hm0
   exact glue hm1 hm0
  have hq:(q1*4294967296+q0).toNat=q1.toNat*4294967296+q0.toNat:=by
   rw [UInt64.toNat_add,UInt64.toNat_mul,show (4294967296:Ua).toNat=4294967296 from I]; omega
  have hd:2^s ∣ R0:=by
   have:=(Nat.dvd_add_right (Nat.dvd_mul_left (2^s) ((q1.toNat*4294967296+q0.toNat)*y.toNat))).1 (by rw [<- all]; exact Nat.dvd_mul_left ..)
   exact this
  obtain ⟨rr,hrr⟩:=hd
  have hrv:(shrU ((un32*4294967296+shrU un10 32-q1*yy)*4294967296+(un10&&&(4294967295:Ua))-q0*yy) s).toNat=rr:=by
   rw [dF _ hs64,u00,hrr,Nat.mul_div_cancel_left _ hps]
  unfold jn md
  rw [if_neg hne,aa,aa]
  dsimp only
  rw [l2,aa,aa,if_neg hne,aa,aa]
  try dsimp only
  rw [l1,aa,aa,aa]
  refine ⟨_,_,I,?_,?_⟩
  ·rw [hq,hrv]
   rw [hrr,Nat.mul_comm (2^s) rr,<- Nat.add_mul] at all
   exact Nat.mul_right_cancel hps all
  ·rw [hrv]
   rw [hrr,Nat.mul_comm,hyv] at hml0
   exact Nat.lt_of_mul_lt_mul_right hml0
set_option maxRecDepth 8000
theorem qM (a:Nat):bln a<=64*(dg a).length:=dU (by
 have:=ea (dg a)
 rw [aM,ge] at this
 exact this)
theorem dg_one {m:Nat} (h:(dg m).length=1):∃ y:Ua,dg m=[y]/\y.toNat=m:=by
 rcases e:dg m with _ | ⟨y,_ | ⟨z,zs⟩⟩
 ·rw [e] at h; simp at h
 ·refine ⟨y,I,?_⟩
  have:=aM m
  rw [e] at this
  simp only [val] at this
  omega
 ·rw [e] at h; simp at h
theorem kq {xs:Lb Ua} {i:Nat} (v:Ua) (h:i<xs.length):(xs.set i v).drop i=v::xs.drop (i+1):=by
 rw [List.drop_eq_getElem_cons (by simpa using h),List.getElem_set_self,List.drop_set_of_lt (by omega)]
theorem nX (n:Nat) (a:Lb Ua) (y:Ua) (hy:0<y.toNat) (hl:a.length<100000) (hn:4294967300<n):∃ u xs,ah (aF_l1 n a [y]) n (0,((a.length:Nat):Int)-1,List.replicate a.length 0)=some (u,xs)/\xs.length=a.length/\val a=val xs*y.toNat+u.toNat/\u.toNat<y.toNat:=by
 have hh:=am (B:=aF_l1 n a [y]) (fun s:Ua×Int×Lb Ua=>(s.2.1+1).toNat) (fun s=>(-1<=s.2.1/\s.2.1<a.length)/\s.2.2.length=a.length/\val (a.drop (s.2.1+1).toNat)=val (s.2.2.drop (s.2.1+1).toNat)*y.toNat+s.1.toNat/\s.1.toNat<y.toNat)
  (fun r=>r.2.length=a.length/\val a=val r.2*y.toNat+r.1.toNat/\r.1.toNat<y.toNat) ?_ n (0,((a.length:Nat):Int)-1,List.replicate a.length 0) ⟨by simp only; omega,by simp,?_,by simpa using hy⟩ (by simp only; omega)
 ·obtain ⟨⟨u,xs⟩,e,h1,h2,h3⟩:=hh; exact ⟨u,xs,e,h1,h2,h3⟩
 ·rintro ⟨u,z,xs⟩ J ⟨a1,a2,a3,a4⟩ hJ
  simp only at a1 a2 a3 a4 hJ
  unfold aF_l1
  simp only
  by_cases hz:0<=z
  ·obtain ⟨k,rfl⟩:∃ k:Nat,z=k:=⟨z.toNat,by omega⟩
   have e0:(((k:Int)+1).toNat)=k+1:=by omega
   rw [e0] at a3
   have hka:k<a.length:=by omega
   have hkx:k<xs.length:=by omega
   obtain ⟨q,r,d1,d2,d3⟩:=qB n u a[k] y a4 hn
   rw [if_pos hz,rZ hka,aa]
   simp only [List.getElem?_cons_zero,aa]
   rw [d1,aa,rZ hkx,aa,putN _ hkx,aa,aQ (by omega) (by omega),aa]
   have eN:(((k:Int)-1+1)).toNat=k:=by omega
   refine hJ (_,_,_) ⟨by simp only; omega,by simpa using a2,?_,d3⟩ (by simp only; omega)
   simp only
   rw [eN,kq q hkx,List.drop_eq_getElem_cons hka]
   simp only [val]
   rw [a3,Nat.add_mul,Nat.mul_add,<- Nat.mul_assoc]
   omega
  ·rw [if_neg hz]
   have e0:(z+1).toNat=0:=by omega
   rw [e0] at a3
   exact ⟨_,rfl,a2,by simpa using a3,a4⟩
 ·simp only
  rw [show ((((a.length:Nat):Int)-1+1)).toNat=a.length by omega,List.drop_length,List.drop_eq_nil_of_le (by simp)]
  simp [val]
theorem ni (n:Nat) (a b:Nat) (h0:b≠0) (ha:(dg a).length<10000) (hb:(dg b).length<10000) (hn:18446744073709551616<n):∃ q,aF_p n (dg a) (dg b)=some (q,dg (a%b))/\q.length<=(dg a).length/\val q=a/b:=by
 unfold aF_p
 rw [cF _ _ (by omega),aa]
 by_cases h1:(dg b).length=1
 ·obtain ⟨y,e,hy⟩:=dg_one h1
  obtain ⟨u,xs,l1,l2,l3,l4⟩:=nX n (dg a) y (by omega) (by omega) (by omega)
  rw [e,if_pos (show ([y]:Lb Ua).length=1 from I),l1,aa]
  simp only
  rw [aX n false _ (by simp only [leC,leN]; omega) (by simp),aa]
  rw [aM,hy] at l3
  rw [hy] at l4
  have hu:=(Nat.div_mod_unique (a:=a) (b:=b) (c:=u.toNat) (d:=val xs) (by omega)).2 ⟨by rw [Nat.mul_comm]; omega,l4⟩
  refine ⟨xs,?_,by omega,hu.1.symm⟩
  simp only [val,Nat.mul_zero,Nat.add_zero]
  rw [hu.2]
 ·rw [if_neg h1,kN n a (by omega),aa,kN n b (by omega),aa]
  have bla:=qM a
  have blb:=qM b
  rw [aQ (by omega) (by omega),aa]
  have hbp:=hP h0
  have hbg:=ka h0
  have hal:=lQ a
  by_cases hK:(bln a:Int)-bln b<0
  ·obtain ⟨m,rfl⟩:∃ m,n=m+1:=⟨n-1,by omega⟩
   have hab:a<b:=Nat.lt_of_lt_of_le hal (Nat.le_trans (Nat.pow_le_pow_right (by decide) (by omega)) hbg)
   rw [bn]
   unfold aF_l2
   simp only
   rw [if_neg (by omega),aa]
   refine ⟨_,by rw [Nat.mod_eq_of_lt hab],by simp,?_⟩
   rw [Nat.div_eq_of_lt hab]
   exact dA _ fun x hx=>(List.mem_replicate.1 hx).2
  ·obtain ⟨K,hKe⟩:∃ K:Nat,(bln a:Int)-bln b=K:=⟨bln a-bln b,by omega⟩
   rw [hKe]
   have hstart:a<b*2^(K+1):=by
    have h2:2^bln a<=b*2^(K+1):=by
     have:2^(bln b-1)*2^(K+1)<=b*2^(K+1):=Nat.mul_le_mul_right _ hbg
     rw [<- Nat.pow_add,show bln b-1+(K+1)=bln a by omega] at this
     exact this
    omega
   have hh:=am (B:=aF_l2 n (dg b)) (fun s:Lb Ua×Int×Lb Ua=>(s.2.1+1).toNat)
    (fun s=>(-1<=s.2.1/\s.2.1<=K)/\s.2.2.length=(dg a).length/\∃ R,s.1=dg R/\R<=a/\a=b*val s.2.2+R/\R<b*2^(s.2.1+1).toNat/\2^(s.2.1+1).toNat ∣ val s.2.2)
    (fun r=>r.1.length=(dg a).length/\val r.1=a/b/\r.2=dg (a%b)) ?_ n (dg a,(K:Int),List.replicate (dg a).length 0)
    ⟨by simp only; omega,by simp,a,rfl,Nat.le_refl _,?_,?_,?_⟩ (by simp only; omega)
   ·obtain ⟨⟨q,r⟩,e,e1,e2,e3⟩:=hh
    simp only at e1 e2 e3
    rw [e,aa]
    simp only
    rw [e3]
    exact ⟨q,I,by omega,e2⟩
   ·rintro ⟨rw_,z,q⟩ J ⟨a1,a2,R,rfl,a3,a4,a5,a6⟩ hJ
    simp only at a1 a2 a3 a4 a5 a6 hJ
    unfold aF_l2
    simp only
    by_cases hz:0<=z
    ·obtain ⟨k,rfl⟩:∃ k:Nat,z=k:=⟨z.toNat,by omega⟩
     have e0:(((k:Int)+1).toNat)=k+1:=by omega
     rw [e0] at a5 a6
     have eN:(((k:Int)-1+1)).toNat=k:=by omega
     have hRl:=je a3
     obtain ⟨st1,st2⟩:=sW a4 a5 a6
     rw [if_pos hz,rG n (dg b) k (by omega) (by omega) (by omega),aa,aM]
     obtain ⟨c,ec,c1,c2⟩:=iR n (dg R) (dg (b*2^k)) (jI _) (jI _) (by omega) (by omega)
     rw [aM,aM] at c1 c2
     rw [ec,aa]
     unfold jn
     simp only
     by_cases hc:0<=c
     ·have hge:b*2^k<=R:=by omega
      obtain ⟨g1,g2,g3⟩:=st1 hge
      obtain ⟨xs,t1,t2,t3⟩:=mR n (dg R) (dg (b*2^k)) (je hge) (by rw [aM,aM]; exact hge) (by omega) (by omega)
      rw [aM,aM] at t3
      have hkq:k/64<q.length:=by
       have h2:2^k<2^(64*(dg a).length):=by
        have h3:=ea (dg a)
        rw [aM,ge] at h3
        have h4:1*2^k<=b*2^k:=Nat.mul_le_mul_right _ (by omega)
        omega
       have h5:=(Nat.pow_lt_pow_iff_right (by decide:1<2)).1 h2
       omega
      have hbit:=bit_add hkq a6 (shl_one (Nat.mod_lt _ (by decide)))
      rw [if_pos hc,t1,aa,aX n false xs (by omega) (by omega),aa,qX k (by omega),aa,rZ hkq,aa,rem64,aa,dR,aa,putN _ hkq,aa]
      simp only
      rw [aQ (by omega) (by omega),aa,t3]
      refine hJ (_,_,_) ⟨by simp only; omega,by simpa using a2,R-b*2^k,rfl,by omega,?_,?_,?_⟩ (by simp only; omega)
      ·simp only; rw [hbit]; exact g1
      ·simp only; rw [eN]; exact g2
      ·simp only; rw [eN,hbit]; exact g3
     ·rw [if_neg hc,aQ (by omega) (by omega),aa]
      refine hJ (_,_,_) ⟨by simp only; omega,a2,R,rfl,a3,a4,?_,?_⟩ (by simp only; omega)
      ·simp only; rw [eN]; omega
      ·simp only; rw [eN]; exact st2 (by omega)
    ·rw [if_neg hz]
     have e0:(z+1).toNat=0:=by omega
     rw [e0,Nat.pow_zero,Nat.mul_one] at a5
     have hu:=(Nat.div_mod_unique (a:=a) (b:=b) (c:=R) (d:=val q) (by omega)).2 ⟨by omega,a5⟩
     exact ⟨_,rfl,a2,hu.1.symm,by simp only; rw [hu.2]⟩
   ·simp only
    rw [dA _ fun x hx=>(List.mem_replicate.1 hx).2]; omega
   ·simp only
    rw [show (((K:Int)+1).toNat)=K+1 by omega]
    exact hstart
   ·simp only
    rw [dA _ fun x hx=>(List.mem_replicate.1 hx).2]
    exact Nat.dvd_zero _
theorem oD (n l:Nat) (a b:Int) (ha:Fit l a) (hb:Fit l b) (h0:b≠0) (hl:l<5000) (hn:18446744073709551616<n):ba_p n (L a) (L b)=some (L (a/b),L (a%b)):=by
 have hal:=ha.len
 have hbl:=hb.len
 obtain ⟨q,e1,e2,e3⟩:=ni n a.natAbs b.natAbs (by omega) (by omega) (by omega) hn
 have hm:a.natAbs%b.natAbs<b.natAbs:=Nat.mod_lt _ (by omega)
 have hl2:(dg (a.natAbs%b.natAbs)).length<=l:=jF (Nat.lt_trans hm hb)
 have hdm:=Nat.div_add_mod a.natAbs b.natAbs
 have hq:a.natAbs/b.natAbs<=a.natAbs:=Nat.div_le_self _ _
 unfold ba_p
 rw [show (L a).fk=dg a.natAbs from I,show (L b).fk=dg b.natAbs from I,e1,aa]
 simp only
 rw [aX n _ _ (by omega) (by omega),aa,aX n _ _ (by omega) (by omega),aa,e3,aM]
 generalize hx:a.natAbs/b.natAbs=x at *
 generalize hy:a.natAbs%b.natAbs=y at *
 simp only [qh]
 show (if (decide (a<0)&&decide (0<y))=true then _ else _)=_
 have hqf:x<18446744073709551616^l:=Nat.lt_of_le_of_lt hq ha
 have hyf:y<18446744073709551616^l:=Nat.lt_trans hm hb
 have hpw:2*18446744073709551616^l<=18446744073709551616^(l+1):=by rw [Nat.pow_succ,Nat.mul_comm]; exact Nat.mul_le_mul_left _ (by decide)
 have hp1:1<=18446744073709551616^l:=Nat.pow_pos (by decide)
 have hbb:b.natAbs<18446744073709551616^l:=hb
 have hab:(b.natAbs:Int)*x+y=a.natAbs:=by exact_mod_cast hdm
 by_cases hr:a<0/\0<y
 ·obtain ⟨h1,h2⟩:=hr
  rw [if_pos (by simp [h1,h2])]
  have f1:(⟨false,dg b.natAbs⟩:Tb)=L b.natAbs:=by unfold L; simp
  have f2:(⟨!(L b).fe,([(1:Ua)]:Lb Ua)⟩:Tb)=L (if b<0 then 1 else -1):=by
   unfold L
   by_cases hb0:b<0<;>simp [hb0]<;>rw [dg1 (by decide) (by decide)]<;>rfl
  rw [f1,f2,eb n (l+1) _ _ ?_ ?_ (by omega) (by omega),aa,eb n (l+1) _ _ ?_ ?_ (by omega) (by omega),aa]
  ·have e:sg (!(decide (a<0)==decide (b<0))) x+(if b<0 then 1 else -1)=a/b/\sg (decide (a<0)) y+b.natAbs=a%b:=by
    have:=fE (a:=a) (b:=b) (q:=sg (!(decide (a<0)==decide (b<0))) x+(if b<0 then 1 else -1)) (r:=sg (decide (a<0)) y+b.natAbs) ?_ ?_ ?_
    ·exact ⟨this.1.symm,this.2.symm⟩
    ·unfold sg
     by_cases hb0:b<0
     ·have:(b.natAbs:Int) = -b:=by omega
      rw [this] at hab ⊢
      have h3:(a.natAbs:Int) = -a:=by omega
      simp [h1,hb0]
      rw [Int.mul_add]; grind
     ·have:(b.natAbs:Int)=b:=by omega
      rw [this] at hab ⊢
      have h3:(a.natAbs:Int) = -a:=by omega
      simp [h1,hb0]
      rw [Int.mul_add]; grind
    ·unfold sg; simp [h1]; omega
    ·unfold sg; simp [h1]; omega
   show some (L (sg (!(decide (a<0)==decide (b<0))) x+(if b<0 then 1 else -1)),L (sg (decide (a<0)) y+b.natAbs))=_
   rw [e.1,e.2]
  ·unfold Fit; rw [lD]; omega
  ·unfold Fit; split<;>simp<;>omega
  ·unfold Fit; rw [lD]; omega
  ·unfold Fit; rw [Int.natAbs_natCast]; omega
 ·rw [if_neg (by simpa using hr)]
  have e:=fE (a:=a) (b:=b) (q:=sg (!(decide (a<0)==decide (b<0))) x) (r:=sg (decide (a<0)) y) ?_ ?_ ?_
  ·rw [e.1,e.2]; rfl
  ·unfold sg
   by_cases h1:a<0
   ·have hy0:y=0:=by omega
    have h3:(a.natAbs:Int) = -a:=by omega
    by_cases hb0:b<0
    ·have:(b.natAbs:Int) = -b:=by omega
     rw [this] at hab; simp [h1,hb0,hy0] at hab ⊢; grind
    ·have:(b.natAbs:Int)=b:=by omega
     rw [this] at hab; simp [h1,hb0,hy0] at hab ⊢; grind
   ·have h3:(a.natAbs:Int)=a:=by omega
    by_cases hb0:b<0
    ·have:(b.natAbs:Int) = -b:=by omega
     rw [this] at hab; simp [h1,hb0] at hab ⊢; grind
    ·have:(b.natAbs:Int)=b:=by omega
     rw [this] at hab; simp [h1,hb0] at hab ⊢; grind
  ·unfold sg
   by_cases h1:a<0
   ·have hy0:y=0:=by omega
    simp [hy0]
   ·simp [h1]
  ·unfold sg
   by_cases h1:a<0
   ·have hy0:y=0:=by omega
    simp [hy0]; omega
   ·simp [h1]; omega
theorem commonG (n l:Nat) (a b:Int) (ha:Fit l a) (hb:Fit l b) (hl:l<5000) (hn:18446744073709551616<n):aD_p n (L a) (L b)=some (L (Nat.gcd a.natAbs b.natAbs:Nat)):=by
 obtain ⟨M,hM⟩:∃ M:Nat,M=64*l:=⟨_,I⟩
 have hx2:a.natAbs<2^M:=by unfold Fit at ha; rw [ge,<- hM] at ha; exact ha
 have hy2:b.natAbs<2^M:=by unfold Fit at hb; rw [ge,<- hM] at hb; exact hb
 have he:=eu_le hx2 hy2
 have h:=am (B:=aD_l1 n) (fun s:Lb Ua×Lb Ua=>eu (val s.1) (val s.2)) (fun s=>∃ x y,s=(dg x,dg y)/\(dg x).length<10000/\(dg y).length<10000/\Nat.gcd x y=Nat.gcd a.natAbs b.natAbs)
  (fun r=>r=dg (Nat.gcd a.natAbs b.natAbs)) ?_ n (dg a.natAbs,dg b.natAbs) ⟨_,_,rfl,by have:=ha.len; omega,by have:=hb.len; omega,rfl⟩ (by simp only [aM]; omega)
 ·obtain ⟨r,h1,rfl⟩:=h
  unfold aD_p
  rw [show (L a).fk=dg a.natAbs from I,show (L b).fk=dg b.natAbs from I,h1,aa]
  unfold L
  simp
 ·rintro _ J ⟨x,y,rfl,h1,h2,h3⟩ hJ
  unfold aD_l1
  simp only
  by_cases h0:y=0
  ·subst h0
   rw [if_neg (by rw [dg0]; simp)]
   exact ⟨_,rfl,by rw [<- h3,Nat.gcd_zero_right]⟩
  ·obtain ⟨q,e1,_,_⟩:=ni n x y h0 h1 h2 hn
   have hm:x%y<y:=Nat.mod_lt _ (by omega)
   have hyl:0<(dg y).length:=by
    rcases e:dg y with _ | ⟨z,zs⟩
    ·have:=aM y; rw [e] at this; exact absurd this.symm h0
    ·simp
   rw [if_pos hyl,e1,aa]
   simp only
   refine hJ (dg y,dg (x%y)) ⟨_,_,rfl,h2,Nat.lt_of_le_of_lt (je (Nat.le_of_lt hm)) h2,?_⟩ (by simp only [aM]; exact eu_step h0)
   rw [<- h3,Nat.gcd_comm x y,Nat.gcd_rec y x,Nat.gcd_comm]
theorem lI (n l:Nat) (a b:Int) (ha:Fit l a) (hb:Fit l b) (h0:b≠0) (hl:l<5000) (hn:18446744073709551616<n) :
  bt_p n (L a) (L b)=some (Rt (Rat.divInt a b))/\(Rat.divInt a b).num.natAbs<=a.natAbs/\(Rat.divInt a b).den<=b.natAbs:=by
 have hg:0<Nat.gcd a.natAbs b.natAbs:=Nat.gcd_pos_of_pos_right _ (by omega)
 have hgb:Nat.gcd a.natAbs b.natAbs<=b.natAbs:=Nat.gcd_le_right _ (by omega)
 have hgw:Fit l ((Nat.gcd a.natAbs b.natAbs:Nat):Int):=by unfold Fit at *; rw [Int.natAbs_natCast]; omega
 obtain ⟨x,hx⟩:((Nat.gcd a.natAbs b.natAbs:Nat):Int) ∣ a:=Int.ofNat_dvd_left.2 (Nat.gcd_dvd_left _ _)
 obtain ⟨y,hy⟩:((Nat.gcd a.natAbs b.natAbs:Nat):Int) ∣ b:=Int.ofNat_dvd_left.2 (Nat.gcd_dvd_right _ _)
 have hco:=Nat.coprime_div_gcd_div_gcd hg
 generalize Nat.gcd a.natAbs b.natAbs=g at *
 have hg0:(g:Int)≠0:=by omega
 have e1:a/(g:Int)=x:=by rw [hx]; exact Int.mul_ediv_cancel_left _ hg0
 have e2:b/(g:Int)=y:=by rw [hy]; exact Int.mul_ediv_cancel_left _ hg0
 have e3:a.natAbs=g*x.natAbs:=by rw [hx,Int.natAbs_mul]; rfl
 have e4:b.natAbs=g*y.natAbs:=by rw [hy,Int.natAbs_mul]; rfl
 have hc:x.natAbs.Coprime y.natAbs:=by
  rw [e3,e4,Nat.mul_div_cancel_left _ hg,Nat.mul_div_cancel_left _ hg] at hco; exact hco
 have hxl:x.natAbs<=a.natAbs:=by rw [e3]; exact Nat.le_mul_of_pos_left _ hg
 have hyl:y.natAbs<=b.natAbs:=by rw [e4]; exact Nat.le_mul_of_pos_left _ hg
 have hy0:y≠0:=fun e=>h0 (by rw [hy,e,Int.mul_zero])
 have eq:Rat.divInt a b=Rat.divInt x y:=by
  conv=>lhs; rw [hx,hy]
  exact Rat.divInt_mul_left hg0
 have xw:Fit l x:=Nat.lt_of_le_of_lt hxl ha
 have yw:Fit l y:=Nat.lt_of_le_of_lt hyl hb
 have gc:aD_p n (L a) (L b)=some (L g):=by
  have:=commonG n l a b ha hb hl hn
  rw [this]
  have h5:Nat.gcd a.natAbs b.natAbs=g:=by
   rw [e3,e4,Nat.gcd_mul_left,show Nat.gcd x.natAbs y.natAbs=1 from hc,Nat.mul_one]
  rw [h5]
 unfold bt_p
 rw [gc,aa,oD n l a g ha hgw hg0 hl hn,aa,oD n l b g hb hgw hg0 hl hn,aa,e1,e2]
 simp only
 rw [eq]
 by_cases hs:y<0
 ·rw [if_pos (by simpa [L] using hs),de n l x xw (by omega) (by omega),aa,de n l y yw (by omega) (by omega),aa]
  have h5:=lz (x:=-x) (y:=-y) (by omega) (by rwa [Int.natAbs_neg,Int.natAbs_neg])
  rw [Rat.neg_divInt_neg] at h5
  unfold Rt
  rw [h5.1,h5.2]
  exact ⟨rfl,by rw [Int.natAbs_neg]; exact hxl,by have:=h5.2; omega⟩
 ·rw [if_neg (by simpa [L] using hs)]
  have h5:=lz (x:=x) (y:=y) (by omega) hc
  unfold Rt
  rw [h5.1,h5.2]
  exact ⟨I,hxl,by have:=h5.2; omega⟩
set_option maxRecDepth 8000
abbrev T8:=Ua×Ua×Ua×Ua×Ua×Ua×Ua×Ua
def wv (t:T8):Lb Ua:=[t.1,t.2.1,t.2.2.1,t.2.2.2.1,t.2.2.2.2.1,t.2.2.2.2.2.1,t.2.2.2.2.2.2.1,t.2.2.2.2.2.2.2]
theorem oL:∀ {xs ys:Lb Ua},xs.length=ys.length->val xs=val ys->xs=ys
 | [],[],_,_=>rfl
 | x::xs,[],h,_=>by simp at h
 | [],y::ys,h,_=>by simp at h
 | x::xs,y::ys,h,e=>by
  simp only [val] at e
  have hx:=x.toNat_lt
  have hy:=y.toNat_lt
  have e1:x=y:=UInt64.toNat_inj.1 (by omega)
  have e2:val xs=val ys:=by omega
  rw [e1,oL (by simpa using h) e2]
theorem wv_inj {s t:T8} (h:val (wv s)=val (wv t)):s=t:=by
 have:=oL (by rfl) h
 unfold wv at this
 obtain ⟨s1,s2,s3,s4,s5,s6,s7,s8⟩:=s
 obtain ⟨t1,t2,t3,t4,t5,t6,t7,t8⟩:=t
 simp only [List.cons.injEq,and_true] at this
 simp only [Prod.mk.injEq]
 exact this
def HB:Nat:=9223372036854775808*18446744073709551616^7
def FB:Nat:=18446744073709551616^8
theorem sP:FB=2*HB:=by unfold FB HB; rfl
theorem nT:0<HB:=by unfold HB; decide
theorem wv_lt (t:T8):val (wv t)<FB:=ea (wv t)
def Wn (m:Nat):T8:=(UInt64.ofNat m,UInt64.ofNat (m/18446744073709551616),UInt64.ofNat (m/18446744073709551616/18446744073709551616),UInt64.ofNat (m/18446744073709551616/18446744073709551616/18446744073709551616),UInt64.ofNat (m/18446744073709551616/18446744073709551616/18446744073709551616/18446744073709551616),UInt64.ofNat (m/18446744073709551616/18446744073709551616/18446744073709551616/18446744073709551616/18446744073709551616),UInt64.ofNat (m/18446744073709551616/18446744073709551616/18446744073709551616/18446744073709551616/18446744073709551616/18446744073709551616),UInt64.ofNat (m/18446744073709551616/18446744073709551616/18446744073709551616/18446744073709551616/18446744073709551616/18446744073709551616/18446744073709551616))
theorem dw (m:Nat) (xs:Lb Ua) (h:val xs=m/18446744073709551616):val (UInt64.ofNat m::xs)=m:=by
 simp only [val]
 rw [UInt64.toNat_ofNat', h]
 exact Nat.mod_add_div m 18446744073709551616
theorem Wn_val {m:Nat} (h:m<FB):val (wv (Wn m))=m:=by
 unfold wv Wn
 refine dw _ _ (dw _ _ (dw _ _ (dw _ _ (dw _ _ (dw _ _ (dw _ _ ?_))))))
 simp only [val]
 rw [UInt64.toNat_ofNat', Nat.mul_zero,Nat.add_zero]
 refine Nat.mod_eq_of_lt ?_
 simp only [Nat.div_div_eq_div_mul]
 refine Nat.div_lt_of_lt_mul ?_
 exact h
def Fw (z:Int):Prop:=-(HB:Int)<=z/\z<HB
def Wg (z:Int):T8:=Wn (z%(FB:Int)).toNat
theorem Wg_val (z:Int):(val (wv (Wg z)):Int)=z%(FB:Int):=by
 have hp:=nT
 have hf:=sP
 have h0:=Int.emod_nonneg z (b:=(FB:Int)) (by omega)
 have h1:=Int.emod_lt_of_pos z (b:=(FB:Int)) (by omega)
 unfold Wg
 rw [Wn_val (by omega)]
 omega
theorem cR {s b c a c1 c2 Vs Vb Va K:Nat} (h1:s+b+c=a+18446744073709551616*c1) (h2:Vs+Vb+c1=Va+K*c2):(s+18446744073709551616*Vs)+(b+18446744073709551616*Vb)+c=(a+18446744073709551616*Va)+18446744073709551616*K*c2:=by
 rw [Nat.mul_assoc]
 have:=congrArg (18446744073709551616*·) h2
 simp only [Nat.mul_add] at this
 omega
theorem qA (n:Nat) (a b:T8):∃ s c,aZ_p n a b=some (s,c)/\val (wv s)+val (wv b)=val (wv a)+FB*c.toNat/\c.toNat<=1:=by
 obtain ⟨a1,a2,a3,a4,a5,a6,a7,a8⟩:=a
 obtain ⟨b1,b2,b3,b4,b5,b6,b7,b8⟩:=b
 obtain ⟨s1,c1,e1,f1,g1⟩:=cA a1 b1 0 (by decide)
 obtain ⟨s2,c2,e2,f2,g2⟩:=cA a2 b2 c1 g1
 obtain ⟨s3,c3,e3,f3,g3⟩:=cA a3 b3 c2 g2
 obtain ⟨s4,c4,e4,f4,g4⟩:=cA a4 b4 c3 g3
 obtain ⟨s5,c5,e5,f5,g5⟩:=cA a5 b5 c4 g4
 obtain ⟨s6,c6,e6,f6,g6⟩:=cA a6 b6 c5 g5
 obtain ⟨s7,c7,e7,f7,g7⟩:=cA a7 b7 c6 g6
 obtain ⟨s8,c8,e8,f8,g8⟩:=cA a8 b8 c7 g7
 refine ⟨(s1,s2,s3,s4,s5,s6,s7,s8),c8,?_,?_,g8⟩
 ·unfold aZ_p
  simp only [e1,e2,e3,e4,e5,e6,e7,e8,aa]
 ·have hFB:FB=18446744073709551616*(18446744073709551616*(18446744073709551616*(18446744073709551616*(18446744073709551616*(18446744073709551616*(18446744073709551616*(18446744073709551616*1))))))):=rfl
  have:=cR f1 (cR f2 (cR f3 (cR f4 (cR f5 (cR f6 (cR f7 (cR f8 (show 0+0+c8.toNat=0+1*c8.toNat by omega))))))))
  rw [<- hFB,show (0:Ua).toNat=0 from I,Nat.add_zero] at this
  simp only [wv,val]
  exact this
theorem kE (n:Nat) (a b:T8) (hn:10<n):∃ c,aG_p n a b=some c/\(c<0↔val (wv a)<val (wv b))/\(c=0↔val (wv a)=val (wv b)):=by
 have hh:=am (B:=aG_l1 n a b) (fun z:Int=>(z+1).toNat) (fun z=>-1<=z/\z<8/\(wv a).drop (z+1).toNat=(wv b).drop (z+1).toNat)
  (fun r=>(r=.inl (-1)/\val (wv a)<val (wv b))∨(r=.inl 1/\val (wv b)<val (wv a))∨(r=.inr ()/\wv a=wv b)) ?_ n 7 ⟨by omega,by omega,I⟩ (by omega)
 ·obtain ⟨r,hr,h1 | h1 | h1⟩:=hh
  ·unfold aG_p
   rw [hr,h1.1]; exact ⟨_,rfl,by have:=h1.2; omega,by have:=h1.2; omega⟩
  ·unfold aG_p
   rw [hr,h1.1]; exact ⟨_,rfl,by have:=h1.2; omega,by have:=h1.2; omega⟩
  ·unfold aG_p
   rw [hr,h1.1,h1.2]; exact ⟨_,rfl,by omega,by omega⟩
 ·intro z J ⟨h1,h2,h3⟩ hJ
  unfold aG_l1
  simp only
  have la:(wv a).length=8:=rfl
  have lb:(wv b).length=8:=rfl
  by_cases h0:0<=z
  ·have e1:(z+1).toNat=z.toNat+1:=by omega
   rw [e1] at h3
   rw [if_pos h0]
   show ∃ r,((idx (wv a) z).bind fun z64=>(idx (wv b) z).bind fun z68=>if z64=z68 then (chk (z-1)).bind fun s73=>J s73 else if z64<z68 then some (Sum.inl (-1:Int)) else some (Sum.inl (1:Int)))=some r/\_
   rw [eU h0 (by omega),aa,eU h0 (by omega),aa]
   split
   ·rename_i he
    rw [aQ (by omega) (by omega),aa]
    refine hJ (z-1) ⟨by omega,by omega,?_⟩ (by omega)
    rw [show (z-1+1).toNat=z.toNat by omega,List.drop_eq_getElem_cons (by omega),List.drop_eq_getElem_cons (l:=wv b) (by omega),h3,he]
   ·rename_i hne
    split
    ·rename_i hlt; exact ⟨_,I,.inl ⟨I,iY (by omega) (by omega) h3 hlt⟩⟩
    ·rename_i h5
     refine ⟨_,I,.inr (.inl ⟨I,iY (by omega) (by omega) h3.symm ?_⟩)⟩
     rw [UInt64.lt_iff_toNat_lt] at h5 ⊢
     have:((wv a)[z.toNat]'(by omega)).toNat≠((wv b)[z.toNat]'(by omega)).toNat:=fun e=>hne (UInt64.toNat_inj.1 e)
     omega
  ·rw [if_neg h0]
   have e1:(z+1).toNat=0:=by omega
   rw [e1] at h3
   exact ⟨_,rfl,.inr (.inr ⟨rfl,by simpa using h3⟩)⟩
theorem Wg_of {z:Int} {t:T8} (h:(val (wv t):Int)=z%(FB:Int)):t=Wg z:=wv_inj (by have:=Wg_val z; omega)
theorem qU {ws:Lb Ua} (h:ws.length<=8):val (wv (aw ws 0 0,aw ws 1 0,aw ws 2 0,aw ws 3 0,aw ws 4 0,aw ws 5 0,aw ws 6 0,aw ws 7 0))=val ws:=by
 unfold wv aw
 rcases ws with _ | ⟨a,_ | ⟨b,_ | ⟨c,_ | ⟨d,_ | ⟨e,_ | ⟨f,_ | ⟨g,_ | ⟨i,_ | ⟨j,xs⟩⟩⟩⟩⟩⟩⟩⟩⟩
 any_goals simp [val]
 simp only [leC] at h
 omega
open Classical in
theorem toldG (n:Nat) (z:Int) (hn:10<n):aT_p n (L z)=some (if Fw z then (Wg z,0) else ((0,0,0,0,0,0,0,0),6)):=by
 have hp:=nT
 have hf:=sP
 have hdg:=aM z.natAbs
 unfold aT_p
 by_cases hl:8<(dg z.natAbs).length
 ·have h1:=lB (jI z.natAbs) (by intro e; rw [e] at hl; simp at hl)
  have h2:18446744073709551616^8<=18446744073709551616^((dg z.natAbs).length-1):=Nat.pow_le_pow_right (by decide) (by omega)
  have hbig:FB<=z.natAbs:=by unfold FB; omega
  rw [if_pos (show 8<(L z).fk.length from hl),if_neg fun h:Fw z=>by have:=h.1; have:=h.2; omega]
 ·have hv:=qU (ws:=dg z.natAbs) (by omega)
  rw [if_neg (show ¬ 8<(L z).fk.length from hl)]
  show ((bN_p n ⟨decide (z<0),(aw (dg z.natAbs) 0 0,aw (dg z.natAbs) 1 0,aw (dg z.natAbs) 2 0,aw (dg z.natAbs) 3 0,aw (dg z.natAbs) 4 0,aw (dg z.natAbs) 5 0,aw (dg z.natAbs) 6 0,aw (dg z.natAbs) 7 0)⟩).bind _)=_
  generalize hT:((aw (dg z.natAbs) 0 0,aw (dg z.natAbs) 1 0,aw (dg z.natAbs) 2 0,aw (dg z.natAbs) 3 0,aw (dg z.natAbs) 4 0,aw (dg z.natAbs) 5 0,aw (dg z.natAbs) 6 0,aw (dg z.natAbs) 7 0):T8)=t at *
  rw [hdg] at hv
  unfold bN_p
  obtain ⟨c,ec,c1,c2⟩:=kE n t (0,0,0,0,0,0,0,9223372036854775808) hn
  have hlim:val (wv ((0,0,0,0,0,0,0,9223372036854775808):T8))=HB:=by decide
  rw [hlim,hv] at c1 c2
  simp only
  rw [ec,aa]
  obtain ⟨s,cc,e,e2,e3⟩:=qA n (0,0,0,0,0,0,0,0) t
  have hz:val (wv ((0,0,0,0,0,0,0,0):T8))=0:=rfl
  rw [hz,hv] at e2
  have hs:=wv_lt s
  have neg:z<0->Fw z->s=Wg z:=fun h0 hw=>by
   refine Wg_of ?_
   have hc:cc.toNat=1:=by
    by_cases hc0:cc.toNat=0
    ·rw [hc0] at e2; omega
    ·omega
   rw [hc] at e2
   have e5:z%(FB:Int)=z+FB:=by
    rw [<- Int.add_emod_right]
    exact Int.emod_eq_of_lt (by have:=hw.1; omega) (by omega)
   rw [e5]; omega
  by_cases g1:0<c
  ·rw [if_pos g1,aa,if_neg fun h:Fw z=>by have:=h.1; have:=h.2; omega]
  ·rw [if_neg g1]
   by_cases g2:c=0
   ·rw [if_pos g2]
    by_cases h0:z<0
    ·have hw:Fw z:=⟨by omega,by omega⟩
     rw [if_pos (decide_eq_true h0),e,aa,aa,if_pos hw,neg h0 hw]
    ·rw [if_neg (by simpa using h0),aa,if_neg fun h:Fw z=>by have:=h.2; omega]
   ·rw [if_neg g2]
    by_cases h0:z<0
    ·have hw:Fw z:=⟨by omega,by omega⟩
     rw [if_pos (decide_eq_true h0),e,aa,aa,if_pos hw,neg h0 hw]
    ·have hw:Fw z:=⟨by omega,by omega⟩
     rw [if_neg (by simpa using h0),aa,if_pos hw]
     rw [show t=Wg z from Wg_of (by rw [Int.emod_eq_of_lt (by omega) (by have:=hw.2; omega)]; omega)]
set_option maxRecDepth 8000
def Sg (q:Rat):Ta:=⟨Wg q.num,Wg q.den⟩
def FQ (q:Rat):Prop:=Fw q.num/\Fw (q.den:Int)
def noS:Ta:=⟨(0,0,0,0,0,0,0,0),(0,0,0,0,0,0,0,0)⟩
theorem Fw.fit {z:Int} (h:Fw z):Fit 8 z:=by
 have h1:=sP
 have h2:=nT
 unfold Fit
 show z.natAbs<FB
 have:=h.1
 have:=h.2
 omega
theorem FQ.n {q:Rat} (h:FQ q):Fit 8 q.num:=h.1.fit
theorem FQ.d {q:Rat} (h:FQ q):Fit 8 (q.den:Int):=h.2.fit
theorem FQ.ndnz {q:Rat}:(q.den:Int)≠0:=by have:=q.den_pos; omega
open Classical in
theorem rtoldG (n:Nat) (q:Rat) (hn:10<n):bn_p n (Rt q)=some (if FQ q then (Sg q,0) else (noS,6)):=by
 unfold bn_p
 rw [show (Rt q).fp=L q.num from I,show (Rt q).fl=L q.den from I,toldG n _ hn,aa,toldG n _ hn,aa]
 by_cases h1:Fw q.num
 ·by_cases h2:Fw (q.den:Int)
  ·rw [if_pos h1,if_pos h2,if_pos (show FQ q from ⟨h1,h2⟩)]
   rfl
  ·rw [if_pos h1,if_neg h2,if_neg fun h:FQ q=>h2 h.2]
   rfl
 ·rw [if_neg h1,if_neg fun h:FQ q=>h1 h.1]
  rfl
theorem Fit.mul {l m:Nat} {a b:Int} (ha:Fit l a) (hb:Fit m b):Fit (l+m) (a*b):=by
 unfold Fit at *
 rw [Int.natAbs_mul,Nat.pow_add]
 exact Nat.mul_lt_mul'' ha hb
theorem Fit.add {l:Nat} {a b:Int} (ha:Fit l a) (hb:Fit l b):Fit (l+1) (a+b):=by
 unfold Fit at *
 have:2*18446744073709551616^l<=18446744073709551616^(l+1):=by rw [Nat.pow_succ,Nat.mul_comm]; exact Nat.mul_le_mul_left _ (by decide)
 omega
theorem Fit.mono {l m:Nat} {a:Int} (ha:Fit l a) (h:l<=m):Fit m a:=Nat.lt_of_lt_of_le ha (Nat.pow_le_pow_right (by decide) h)
structure RF (l:Nat) (q:Rat):Prop where
 n:Fit l q.num
 d:Fit l (q.den:Int)
theorem FQ.rf {q:Rat} (h:FQ q):RF 8 q:=⟨h.n,h.d⟩
theorem RF.of {l:Nat} {a b:Int} (ha:Fit l a) (hb:Fit l b) (h1:(Rat.divInt a b).num.natAbs<=a.natAbs) (h2:(Rat.divInt a b).den<=b.natAbs):RF l (Rat.divInt a b):=
 ⟨Nat.lt_of_le_of_lt h1 ha,by unfold Fit; rw [Int.natAbs_natCast]; exact Nat.lt_of_le_of_lt h2 hb⟩
theorem plusG (n l:Nat) (a b:Rat) (ha:RF l a) (hb:RF l b) (hl:l<1000) (hn:18446744073709551616<n):bY_p n (Rt a) (Rt b)=some (Rt (a+b))/\RF (l+l+1) (a+b):=by
 have d0:(a.den:Int)*b.den≠0:=Int.mul_ne_zero FQ.ndnz FQ.ndnz
 have e:a+b=Rat.divInt (a.num*b.den+b.num*a.den) (a.den*b.den):=by
  conv=>lhs; rw [<- Rat.num_divInt_den a,<- Rat.num_divInt_den b]
  exact Rat.divInt_add_divInt _ _ FQ.ndnz FQ.ndnz
 have f1:=(ha.n.mul hb.d).add (hb.n.mul ha.d)
 have f2:=(ha.d.mul hb.d).mono (show l+l<=l+l+1 by omega)
 obtain ⟨e1,e2,e3⟩:=lI n (l+l+1) _ _ f1 f2 d0 (by omega) hn
 rw [<- e] at e1 e2 e3
 refine ⟨?_,?_⟩
 ·unfold bY_p Rt
  rw [cB n l l _ _ ha.n hb.d (by omega) (by omega),aa,cB n l l _ _ hb.n ha.d (by omega) (by omega),aa,eb n (l+l) _ _ (ha.n.mul hb.d) (hb.n.mul ha.d) (by omega) (by omega),aa,cB n l l _ _ ha.d hb.d (by omega) (by omega),aa,e1]
  rfl
 ·rw [e]; rw [e] at e2 e3; exact RF.of f1 f2 e2 e3
theorem sV (n l:Nat) (a b:Rat) (ha:RF l a) (hb:RF l b) (hl:l<1000) (hn:18446744073709551616<n):bc_p n (Rt a) (Rt b)=some (Rt (a*b))/\RF (l+l) (a*b):=by
 have d0:(a.den:Int)*b.den≠0:=Int.mul_ne_zero FQ.ndnz FQ.ndnz
 have e:a*b=Rat.divInt (a.num*b.num) (a.den*b.den):=by
  conv=>lhs; rw [<- Rat.num_divInt_den a,<- Rat.num_divInt_den b]
  exact Rat.divInt_mul_divInt _ _
 have f1:=ha.n.mul hb.n
 have f2:=ha.d.mul hb.d
 obtain ⟨e1,e2,e3⟩:=lI n (l+l) _ _ f1 f2 d0 (by omega) hn
 rw [<- e] at e1 e2 e3
 refine ⟨?_,?_⟩
 ·unfold bc_p Rt
  rw [cB n l l _ _ ha.n hb.n (by omega) (by omega),aa,cB n l l _ _ ha.d hb.d (by omega) (by omega),aa,e1]
  rfl
 ·rw [e]; rw [e] at e2 e3; exact RF.of f1 f2 e2 e3
theorem overG (n l:Nat) (a b:Rat) (ha:RF l a) (hb:RF l b) (h0:b≠0) (hl:l<1000) (hn:18446744073709551616<n):bX_p n (Rt a) (Rt b)=some (Rt (a/b))/\RF (l+l) (a/b):=by
 have b0:b.num≠0:=fun e=>h0 (Rat.num_eq_zero.1 e)
 have d0:(a.den:Int)*b.num≠0:=Int.mul_ne_zero FQ.ndnz b0
 have e:a/b=Rat.divInt (a.num*b.den) (a.den*b.num):=by
  conv=>lhs; rw [Rat.div_def,<- Rat.num_divInt_den a,<- Rat.num_divInt_den b,Rat.inv_divInt]
  exact Rat.divInt_mul_divInt _ _
 have f1:=ha.n.mul hb.d
 have f2:=ha.d.mul hb.n
 obtain ⟨e1,e2,e3⟩:=lI n (l+l) _ _ f1 f2 d0 (by omega) hn
 rw [<- e] at e1 e2 e3
 refine ⟨?_,?_⟩
 ·unfold bX_p Rt
  rw [cB n l l _ _ ha.n hb.d (by omega) (by omega),aa,cB n l l _ _ ha.d hb.n (by omega) (by omega),aa,e1]
  rfl
 ·rw [e]; rw [e] at e2 e3; exact RF.of f1 f2 e2 e3
theorem RF.neg {l:Nat} {q:Rat} (h:RF l q):RF l (-q):=⟨by rw [Rat.neg_num]; exact h.n.neg,by rw [Rat.neg_den]; exact h.d⟩
theorem turnedG (n l:Nat) (a:Rat) (ha:RF l a) (hl:l<1000) (hn:18446744073709551616<n):bL_p n (Rt a)=some (Rt (-a)):=by
 unfold bL_p Rt
 rw [de n l _ ha.n (by omega) (by omega),aa,Rat.neg_num,Rat.neg_den]
section
set_option maxRecDepth 8000
theorem div_num {a b:Int} (hb:b≠0):(Rat.divInt a b).num*b=a*(Rat.divInt a b).den:=by
 have h:=Rat.num_divInt_den (Rat.divInt a b)
 exact (Rat.divInt_eq_divInt_iff FQ.ndnz hb).1 h
theorem div_le {a b:Int} (hb:b≠0):(Rat.divInt a b).num.natAbs<=a.natAbs/\(Rat.divInt a b).den<=b.natAbs:=by
 have h:=congrArg Int.natAbs (div_num (a:=a) hb)
 rw [Int.natAbs_mul,Int.natAbs_mul,Int.natAbs_natCast] at h
 have hc:=(Rat.divInt a b).reduced
 have hd:=(Rat.divInt a b).den_pos
 generalize (Rat.divInt a b).num.natAbs=x at *
 generalize (Rat.divInt a b).den=y at *
 have hbp:0<b.natAbs:=by omega
 constructor
 ·by_cases h0:a.natAbs=0
  ·rw [h0,Nat.zero_mul] at h
   rcases Nat.mul_eq_zero.1 h with h1 | h1
   ·omega
   ·omega
  ·exact Nat.le_of_dvd (by omega) (hc.dvd_of_dvd_mul_right (by rw [<- h]; exact Nat.dvd_mul_right ..))
 ·exact Nat.le_of_dvd hbp (hc.symm.dvd_of_dvd_mul_left (by rw [h]; exact Nat.dvd_mul_left ..))
def Bt (i j:Nat) (q:Rat):Prop:=q.num.natAbs<2^i/\q.den<2^j
theorem hb_pow (w:Nat):9223372036854775808*18446744073709551616^w=2^(63+64*w):=by
 rw [Nat.pow_add,<- ge]
def hbl:Nat:=511
theorem hb_pow' {w l:Nat} (h:l=63+64*w):9223372036854775808*18446744073709551616^w=2^l:=by subst h; exact hb_pow w
theorem sj:HB=2^hbl:=hb_pow' (w:=7) (l:=hbl) rfl
theorem Bt.fq {i j:Nat} {q:Rat} (h:Bt i j q) (hi:i<=500) (hj:j<=500):FQ q:=by
 have e:hbl=511:=rfl
 have h1:2^i<=HB:=by rw [sj]; exact Nat.pow_le_pow_right (by decide) (by omega)
 have h2:2^j<=HB:=by rw [sj]; exact Nat.pow_le_pow_right (by decide) (by omega)
 have h3:=h.1
 have h4:=h.2
 exact ⟨⟨by omega,by omega⟩,⟨by omega,by omega⟩⟩
theorem Bt.of {i j:Nat} {a b:Int} (hb:b≠0) (h1:a.natAbs<2^i) (h2:b.natAbs<2^j):Bt i j (Rat.divInt a b):=by
 obtain ⟨d1,d2⟩:=div_le (a:=a) hb
 exact ⟨by omega,by omega⟩
section
variable {n:Nat} {a b:Rat}
end
end
theorem fL {κ ν:Type} [DecidableEq κ]:∀ (D:Lb (κ×ν)) (k x:κ) (v:ν),aP (aH D k v) x=if x=k then some v else aP D x
 | [],k,x,v=>by simp [aH,aP]
 | e::D,k,x,v=>by
  unfold aH
  split
  ·rename_i h; subst h; simp only [aP]; split<;>rfl
  ·rename_i h
   simp only [aP]
   rw [fL D k x v]
   by_cases h1:x=k
   ·subst h1; simp [h]
   ·simp [h1]
theorem ifT {α:Type} (x y:α):(if True then x else y)=x:=if_pos trivial
def bit (u:Ua) (k:Nat):Bool:=u.toNat.testBit k
theorem jd {u:Ua} {k:Nat} (h:64<=k):bit u k=false:=by
 unfold bit
 apply Nat.testBit_lt_two_pow
 exact Nat.lt_of_lt_of_le (bC u) (Nat.pow_le_pow_right (by decide) h:2^64<=2^k)
theorem dI {u:Ua} {k:Nat} (h:bit u k=true):k<64:=by
 rcases Nat.lt_or_ge k 64 with h1 | h1
 ·exact h1
 ·rw [jd h1] at h; cases h
theorem bq {u v:Ua} (h:∀ k,bit u k=bit v k):u=v:=by
 apply UInt64.toNat_inj.1
 exact Nat.eq_of_testBit_eq h
theorem bt (k:Nat):bit 0 k=false:=by unfold bit; simp
theorem aR (u v:Ua) (k:Nat):bit (u|||v) k=(bit u k||bit v k):=by unfold bit; rw [UInt64.toNat_or,Nat.testBit_or]
theorem eZ (u v:Ua) (k:Nat):bit (u&&&v) k=(bit u k&&bit v k):=by unfold bit; rw [UInt64.toNat_and,Nat.testBit_and]
theorem bit_not (v:Ua) (k:Nat) (h:k<64):bit (~~~v) k=!bit v k:=by
 unfold bit
 have e:(~~~v).toNat=2^64-(v.toNat+1):=by
  have:=UInt64.toNat_not v
  rw [this]
  show 18446744073709551616-1-v.toNat=18446744073709551616-(v.toNat+1)
  omega
 rw [e,Nat.testBit_two_pow_sub_succ (bC v)]
 simp [h]
theorem aZ (u v:Ua) (k:Nat):bit (u&&&~~~v) k=(bit u k&&!bit v k):=by
 rw [eZ]
 rcases Nat.lt_or_ge k 64 with h | h
 ·rw [bit_not _ _ h]
 ·rw [jd h,jd h]; rfl
theorem df {k:Nat} (h:k<64):(shlU 1 k).toNat=2^k:=by
 unfold shlU
 rw [if_pos h]
 rw [show (1:Ua).toNat=1 from I,Nat.one_mul]
 exact UInt64.toNat_ofNat_of_lt' (Nat.pow_lt_pow_right (by decide) h:2^k<2^64)
theorem aS {k j:Nat} (h:k<64):bit (shlU 1 k) j=decide (j=k):=by
 unfold bit
 rw [df h,Nat.testBit_two_pow]
 exact decide_eq_decide.2 eq_comm
theorem rQ (u:Ua) (k:Nat):shrU u k&&&1=if bit u k then 1 else 0:=by
 apply UInt64.toNat_inj.1
 rw [UInt64.toNat_and]
 unfold shrU
 rcases Nat.lt_or_ge k 64 with h | h
 ·rw [if_pos h]
  have hlt:u.toNat/2^k<2^64:=Nat.lt_of_le_of_lt (Nat.div_le_self _ _) (bC u)
  rw [UInt64.toNat_ofNat_of_lt' hlt]
  show (u.toNat/2^k)&&&1=_
  rw [Nat.and_one_is_mod]
  unfold bit
  rw [Nat.testBit_eq_decide_div_mod_eq]
  rcases Nat.mod_two_eq_zero_or_one (u.toNat/2^k) with h1 | h1
  ·rw [h1]; rfl
  ·rw [h1]; rfl
 ·rw [if_neg (by omega),jd h]; rfl
theorem cg (u:Ua) (k:Nat):(shrU u k&&&1=1)↔bit u k=true:=by
 rw [rQ]
 cases bit u k<;>simp
theorem iJ {u:Ua} (h:u≠0):∃ k,bit u k=true:=by
 apply Classical.byContradiction
 intro hn
 apply h
 apply bq
 intro k
 rw [bt]
 cases hk:bit u k with
 | false=>rfl
 | true=>exact absurd ⟨k,hk⟩ hn
def ao (u:Ua):Lb Nat:=(List.range 64).filter (bit u ·)
theorem aT {u:Ua} {k:Nat}:k∈ao u↔bit u k=true:=by
 unfold ao
 rw [List.mem_filter,List.mem_range]
 exact ⟨fun h=>h.2,fun h=>⟨dI h,h⟩⟩
theorem bG (u:Ua):(ao u).length<=64:=by
 unfold ao
 exact Nat.le_trans (List.length_filter_le _ _) (by simp)
theorem cj:ao 0=[]:=by
 unfold ao
 rw [List.filter_eq_nil_iff]
 intro k _
 rw [bt]; simp
def low (u:Ua):Nat:=Lib.ctz 64 u.toNat
theorem jR {u:Ua} (h:u≠0):∃ m,u.toNat=2^low u*(2*m+1)/\low u<64:=by
 have h0:u.toNat≠0:=fun e=>h (UInt64.toNat_inj.1 e)
 obtain ⟨m,h1,h2⟩:=Lib.ctzFrom_spec 64 u.toNat (by omega) (bC u)
 have e:low u=Lib.ctzFrom 64 u.toNat:=by simp [low,Lib.ctz,h0]
 rw [e]
 exact ⟨m,h1,h2⟩
theorem jO {t m i:Nat} {u:Ua} (h:u.toNat=2^t*(2*m+1)):bit u i=(decide (t<=i)&&(2*m+1).testBit (i-t)):=by
 unfold bit
 rw [h,Nat.mul_comm,Nat.testBit_mul_two_pow]
theorem bF {u:Ua} (h:u≠0):bit u (low u)=true:=by
 obtain ⟨m,h1,_⟩:=jR h
 rw [jO h1,Nat.sub_self,Nat.testBit_zero]
 simp
theorem rj {u:Ua} {k:Nat} (h:u≠0) (hk:k<low u):bit u k=false:=by
 obtain ⟨m,h1,_⟩:=jR h
 rw [jO h1]
 simp; omega
theorem fH {u:Ua} (h:u≠0):u&&&(-u)=shlU 1 (low u):=by
 have h0:u.toNat≠0:=fun e=>h (UInt64.toNat_inj.1 e)
 obtain ⟨h1,h2⟩:=Lib.lowest_bit 64 u.toNat h0 (bC u)
 apply UInt64.toNat_inj.1
 rw [UInt64.toNat_and,df (show low u<64 from h2)]
 have e:(-u).toNat=2^64-u.toNat:=by
  rw [UInt64.toNat_neg]
  have:=bC u
  show (18446744073709551616-u.toNat)%18446744073709551616=18446744073709551616-u.toNat
  omega
 rw [e]
 exact h1
theorem im {u:Ua} (h:u≠0) (k:Nat):bit (u&&&(u-1)) k=(bit u k&&decide (k≠low u)):=by
 obtain ⟨m,h1,h2⟩:=jR h
 have e:(u-1).toNat=u.toNat-1:=by
  rw [UInt64.toNat_sub_of_le]
  ·rfl
  ·rw [UInt64.le_iff_toNat_le]
   have:u.toNat≠0:=fun e=>h (UInt64.toNat_inj.1 e)
   show 1<=_
   omega
 generalize ht:low u=t at *
 have hp:0<2^t:=Nat.two_pow_pos t
 have e2:u.toNat-1=2^t*(2*m)+(2^t-1):=by
  rw [h1,Nat.mul_add,Nat.mul_one]; omega
 have hb:(u-1).toNat.testBit k=if k<t then true else (2*m).testBit (k-t):=by
  rw [e,e2,Nat.testBit_two_pow_mul_add _ (by omega)]
  by_cases hk:k<t
  ·rw [if_pos hk,if_pos hk,Nat.testBit_two_pow_sub_one]; simp [hk]
  ·rw [if_neg hk,if_neg hk]
 rw [eZ]
 show (bit u k&&(u-1).toNat.testBit k)=_
 rw [hb,jO h1]
 by_cases hk:k<t
 ·have:¬ t<=k:=by omega
  simp [this]
 ·rw [if_neg hk]
  by_cases hkt:k=t
  ·subst hkt; simp
  ·obtain ⟨j,rfl⟩:∃ j,k=t+(j+1):=⟨k-t-1,by omega⟩
   rw [show t+(j+1)-t=j+1 by omega,Nat.testBit_succ,Nat.testBit_succ]
   rw [show (2*m+1)/2=m by omega,show 2*m/2=m by omega]
   have h3:t<=t+(j+1):=by omega
   have h4:t+(j+1)≠t:=by omega
   simp [h3]
theorem gP {p:Nat->Bool}:∀ (l:Lb Nat) (t:Nat),l.Pairwise (· < ·)->t∈l->p t=true->(∀ k,k<t->p k=false)->l.filter p=t::l.filter (fun k=>p k&&decide (k≠t))
 | [],t,_,h,_,_=>by cases h
 | x::l,t,hp,hm,ht,hlow=>by
  have hx:=List.pairwise_cons.1 hp
  by_cases hxt:x=t
  ·subst hxt
   rw [List.filter_cons_of_pos ht,List.filter_cons_of_neg (by simp)]
   congr 1
   apply List.filter_congr
   intro k hk
   have:k≠x:=by have:=hx.1 k hk; omega
   simp [this]
  ·have hm' : t∈l:=(List.mem_cons.1 hm).resolve_left (fun e=>hxt e.symm)
   have hlt:=hx.1 t hm'
   have hpx:p x=false:=hlow x hlt
   rw [List.filter_cons_of_neg (by simp [hpx]),List.filter_cons_of_neg (by simp [hpx])]
   exact gP l t hx.2 hm' ht hlow
theorem cH {u:Ua} (h:u≠0):ao u=low u::ao (u&&&(u-1)):=by
 unfold ao
 rw [gP (List.range 64) (low u) List.pairwise_lt_range (List.mem_range.2 (dI (bF h))) (bF h) (fun k hk=>rj h hk)]
 congr 1
 apply List.filter_congr
 intro k _
 rw [im h]
theorem aY (u:Ua):(ao u).Pairwise (· < ·):=by
 unfold ao
 exact List.Pairwise.filter _ List.pairwise_lt_range
def dX (x:Nat):Nat:=if x=0 then 0 else x.log2+1
theorem dE {x k:Nat}:dX x<=k↔x<2^k:=by
 unfold dX
 by_cases h:x=0
 ·rw [if_pos h]; subst h; simp [Nat.two_pow_pos]
 ·rw [if_neg h,<- Nat.log2_lt h]; omega
theorem gq {x k:Nat} (h:2^k<=x):dX x=dX (x/2^k)+k:=by
 have hp:0<2^k:=Nat.two_pow_pos k
 have h0:0<x/2^k:=Nat.div_pos h hp
 apply Nat.le_antisymm
 ·rw [dE,Nat.pow_add]
  have:=(dE (x:=x/2^k) (k:=dX (x/2^k))).1 (Nat.le_refl _)
  exact (Nat.div_lt_iff_lt_mul hp).1 this
 ·have h1:=(dE (x:=x) (k:=dX x)).1 (Nat.le_refl _)
  have h2:k<=dX x:=by
   rcases Nat.lt_or_ge (dX x) k with h3 | h3
   ·have:=(dE (x:=x) (k:=k)).1 (by omega); omega
   ·exact h3
  have h3:dX (x/2^k)<=dX x-k:=by
   rw [dE,Nat.div_lt_iff_lt_mul hp,<- Nat.pow_add,Nat.sub_add_cancel h2]
   exact h1
  omega
theorem kk {u:Ua} {N:Nat}:u.toNat<2^N↔∀ k,bit u k=true->k<N:=by
 constructor
 ·intro h k hk
  rcases Nat.lt_or_ge k N with h1 | h1
  ·exact h1
  ·unfold bit at hk
   rw [Nat.testBit_lt_two_pow (Nat.lt_of_lt_of_le h (Nat.pow_le_pow_right (by decide) h1))] at hk
   cases hk
 ·intro h
  apply Nat.lt_pow_two_of_testBit
  intro k hk
  cases hb:u.toNat.testBit k with
  | false=>rfl
  | true=>have:=h k hb; omega
theorem tz_tab:∀ t,t<64->tab0[(shrU (shlU 1 t*(285870213051353865:Ua)) 58).toNat]? = some (UInt8.ofNat t):=by decide +kernel
theorem nb (n:Nat) {u:Ua} (h:u≠0):aj_p n u=some ((low u:Nat):Int):=by
 unfold aj_p
 have hl:low u<64:=dI (bF h)
 rw [if_neg h,fH h,tz_tab _ hl]
 simp only [aa]
 rw [UInt8.toNat_ofNat_of_lt' (by show _<256; omega)]
theorem len_tab:∀ x,x<256->(ct[x]?).map (·.toNat)=some (dX x):=by decide +kernel
theorem gp (u:Ua) {k:Nat} (h:k<64):(shrU u k).toNat=u.toNat/2^k:=by
 unfold shrU
 rw [if_pos h]
 exact UInt64.toNat_ofNat_of_lt' (Nat.lt_of_le_of_lt (Nat.div_le_self _ _) (bC u))
theorem og {u:Ua} (h:u.toNat<256):(dC u).toNat=u.toNat:=by
 unfold dC
 first
  | exact UInt8.toNat_ofNat_of_lt' h
  | simp [Nat.mod_eq_of_lt h]
theorem rE (n:Nat) (u:Ua):aO_p n u=some ((dX u.toNat:Nat):Int):=by
 have last:∀ (v:Ua) (z:Nat),v.toNat<256->z<=56->((ct[(dC v).toNat]?).bind fun z27=>(chk (((z:Nat):Int)+((z27.toNat:Nat):Int))).bind fun s29=>some s29)=some (((dX v.toNat+z:Nat)):Int):=fun v z hv hz=>by
  rw [og hv]
  have:=len_tab v.toNat hv
  cases hs:ct[v.toNat]? with
  | none=>rw [hs] at this; cases this
  | some b=>
   rw [hs] at this
   have hb:b.toNat=dX v.toNat:=Option.some.inj this
   simp only [aa]
   have hb8:dX v.toNat<=8:=dE.2 hv
   rw [hb,mb (by omega)]
   simp only [aa]
   congr 1
   omega
 have mid:∀ (v:Ua) (z:Nat),v.toNat<65536->z<=48->(if (256:Ua)<=v then (chk (((z:Nat):Int)+8)).bind fun s31=>(ct[(dC (shrU v 8)).toNat]?).bind fun z27=>(chk (s31+((z27.toNat:Nat):Int))).bind fun s29=>some s29 else (ct[(dC v).toNat]?).bind fun z27=>(chk (((z:Nat):Int)+((z27.toNat:Nat):Int))).bind fun s29=>some s29)=some (((dX v.toNat+z:Nat)):Int):=fun v z hv hz=>by
  by_cases h:(256:Ua)<=v
  ·rw [if_pos h,mb (by omega)]
   simp only [aa]
   have h' : 2^8<=v.toNat:=UInt64.le_iff_toNat_le.1 h
   have hs:=gp v (show 8<64 by omega)
   have:=last (shrU v 8) (z+8) (by rw [hs]; omega) (by omega)
   rw [show (((z:Nat):Int)+8)=((z+8:Nat):Int) by omega,this,hs,gq h']
   congr 1
   omega
  ·rw [if_neg h]
   have h' : ¬ 256<=v.toNat:=fun e=>h (UInt64.le_iff_toNat_le.2 e)
   exact last v z (by omega) (by omega)
 have mid2:∀ (v:Ua) (z:Nat),v.toNat<4294967296->z<=32->(if (65536:Ua)<=v then (chk (((z:Nat):Int)+16)).bind fun s33=>(if (256:Ua)<=(shrU v 16) then (chk (s33+8)).bind fun s31=>(ct[(dC (shrU (shrU v 16) 8)).toNat]?).bind fun z27=>(chk (s31+((z27.toNat:Nat):Int))).bind fun s29=>some s29 else (ct[(dC (shrU v 16)).toNat]?).bind fun z27=>(chk (s33+((z27.toNat:Nat):Int))).bind fun s29=>some s29) else (if (256:Ua)<=v then (chk (((z:Nat):Int)+8)).bind fun s31=>(ct[(dC (shrU v 8)).toNat]?).bind fun z27=>(chk (s31+((z27.toNat:Nat):Int))).bind fun s29=>some s29 else (ct[(dC v).toNat]?).bind fun z27=>(chk (((z:Nat):Int)+((z27.toNat:Nat):Int))).bind fun s29=>some s29))=some (((dX v.toNat+z:Nat)):Int):=fun v z hv hz=>by
  by_cases h:(65536:Ua)<=v
  ·rw [if_pos h,mb (by omega)]
   simp only [aa]
   have h' : 2^16<=v.toNat:=UInt64.le_iff_toNat_le.1 h
   have hs:=gp v (show 16<64 by omega)
   have:=mid (shrU v 16) (z+16) (by rw [hs]; omega) (by omega)
   rw [show (((z:Nat):Int)+16)=((z+16:Nat):Int) by omega,this,hs,gq h']
   congr 1
   omega
  ·rw [if_neg h]
   have h' : ¬ 65536<=v.toNat:=fun e=>h (UInt64.le_iff_toNat_le.2 e)
   exact mid v z (by omega) (by omega)
 unfold aO_p
 simp only [jn]
 have hu:=bC u
 by_cases h:(4294967296:Ua)<=u
 ·rw [if_pos h]
  have h' : 2^32<=u.toNat:=UInt64.le_iff_toNat_le.1 h
  have hs:=gp u (show 32<64 by omega)
  have:=mid2 (shrU u 32) 32 (by rw [hs]; omega) (by omega)
  rw [hs,<- gq h'] at this
  exact this
 ·rw [if_neg h]
  have h' : ¬ 4294967296<=u.toNat:=fun e=>h (UInt64.le_iff_toNat_le.2 e)
  exact mid2 u 0 (by omega) (by omega)
def cS (N:Int) (u:Ua):Prop:=∀ k,bit u k=true->(k:Int)<N
theorem ip {N:Int} {u:Ua} (h:0<=N):((dX u.toNat:Nat):Int)<=N↔cS N u:=by
 obtain ⟨m,rfl⟩:∃ m:Nat,N=m:=⟨N.toNat,by omega⟩
 rw [Int.ofNat_le,dE,kk]
 unfold cS
 exact ⟨fun h k hk=>by have:=h k hk; omega,fun h k hk=>by have:=h k hk; omega⟩
def Lex (a b:Int×Int):Prop:=a.1<b.1∨a.1=b.1/\a.2<b.2
structure Valid (g:Tc):Prop where
 n1:1<=g.fN
 n64:g.fN<=64
 len:g.fo.length<=200
 ok:∀ e∈g.fo,0<=e.1/\e.1<e.2/\e.2<g.fN
 sorted:∀ (i:Nat) (e f:Int×Int),g.fo[i]? = some e->g.fo[i+1]? = some f->Lex e f
theorem mB (n:Nat) (a b:Int):bJ_p n a b=some (if a<b then -1 else if b<a then 1 else 0):=by
 unfold bJ_p cd_p
 simp only [aa]
 simp only [decide_true,Bool.not_true,Bool.false_eq_true,if_false]
 split<;>(try rfl)
 split<;>rfl
theorem ir {α β:Type} (B:(α->Oa β)->α->Oa β) (n:Nat):ah B (n+1)=B (ah B n):=rfl
theorem rB (n:Nat) (a b c d:Int) (hn:2<n):∃ y,aI_p n [a,b] [c,d]=some y/\(0<=y↔¬ Lex (a,b) (c,d)):=by
 obtain ⟨m,rfl⟩:∃ m,n=m+1+1+1:=⟨n-3,by omega⟩
 unfold aI_p
 rw [ir,ir,ir]
 unfold aI_l1
 simp [mB,thn,Lex]
 by_cases h1:a<c
 ·simp [h1]; try omega
 ·by_cases h2:c<a
  ·simp [h1,h2]; try omega
  ·have:a=c:=by omega
   subst this
   by_cases h3:b<d
   ·simp [h3]
   ·by_cases h4:d<b
    ·simp [h3,h4]; try omega
    ·simp [h3,h4]; try omega
theorem th (n:Nat) (g:Tc) (hn:300<n):∃ r,aQ_p n g=some r/\(r=0/\Valid g∨r=180/\¬ Valid g):=by
 unfold aQ_p
 by_cases h1:g.fN<1
 ·rw [if_pos h1]; exact ⟨_,rfl,.inr ⟨rfl,fun h=>by have:=h.n1; omega⟩⟩
 rw [if_neg h1]
 by_cases h2:64<g.fN
 ·rw [if_pos h2]; exact ⟨_,rfl,.inr ⟨rfl,fun h=>by have:=h.n64; omega⟩⟩
 rw [if_neg h2]
 by_cases h3:200<g.fo.length
 ·rw [if_pos h3]; exact ⟨_,rfl,.inr ⟨rfl,fun h=>by have:=h.len; omega⟩⟩
 rw [if_neg h3]
 obtain ⟨r,e1,e2⟩:=am (B:=aQ_l1 n g) (fun s=>g.fo.length-s.1) (fun (i,z1,z2)=>i<=g.fo.length/\(∀ j e,j<i->g.fo[j]? = some e->0<=e.1/\e.1<e.2/\e.2<g.fN)/\
   (∀ j e f,j+1<i->g.fo[j]? = some e->g.fo[j+1]? = some f->Lex e f)/\(i=0->z1 = -1/\z2 = -1)/\(∀ j,i=j+1->g.fo[j]? = some (z1,z2)))
  (fun r=>r=.inl 180/\¬ Valid g∨r=.inr ()/\Valid g) (fun ⟨i,z1,z2⟩ J ⟨q1,q2,q3,q4,q5⟩ hJ=>by
  simp only at q1 q2 q3 q4 q5 hJ
  unfold aQ_l1
  simp only
  by_cases hi:i<g.fo.length
  ·rw [if_pos hi,geE hi]
   simp only [aa]
   generalize he:g.fo[i]=e
   have hge:g.fo[i]? = some e:=by rw [geE hi,he]
   have hmem:e∈g.fo:=he ▸ List.getElem_mem hi
   by_cases c1:e.1<0
   ·rw [if_pos c1]; exact ⟨_,rfl,.inl ⟨rfl,fun h=>by have:=h.ok e hmem; omega⟩⟩
   rw [if_neg c1]
   by_cases c2:e.2<=e.1
   ·rw [if_pos c2]; exact ⟨_,rfl,.inl ⟨rfl,fun h=>by have:=h.ok e hmem; omega⟩⟩
   rw [if_neg c2]
   by_cases c3:g.fN<=e.2
   ·rw [if_pos c3]; exact ⟨_,rfl,.inl ⟨rfl,fun h=>by have:=h.ok e hmem; omega⟩⟩
   rw [if_neg c3]
   obtain ⟨y,y1,y2⟩:=rB n z1 z2 e.1 e.2 (by omega)
   rw [y1]
   simp only [aa]
   by_cases c4:0<=y
   ·rw [if_pos c4]
    refine ⟨_,I,.inl ⟨I,fun h=>y2.1 c4 ?_⟩⟩
    cases i with
    | zero=>obtain ⟨rfl,rfl⟩:=q4 rfl; left; show (-1:Int)<e.1; omega
    | succ j=>exact h.sorted j (z1,z2) e (q5 j I) hge
   ·rw [if_neg c4]
    have hlex:Lex (z1,z2) e:=Classical.byContradiction fun hh=>c4 (y2.2 hh)
    refine hJ (i+1,e.1,e.2) ⟨by simp only; omega,fun j e' hj he' =>?_,fun j e' f hj he' hf=>?_,fun h=>by simp at h,fun j hj=>?_⟩ (by simp only; omega)
    ·simp only at hj
     by_cases hji:j=i
     ·subst hji; rw [hge] at he'; cases he'; exact ⟨by omega,by omega,by omega⟩
     ·exact q2 j e' (by omega) he'
    ·simp only at hj
     by_cases hji:j+1=i
     ·have:=q5 j hji.symm
      rw [this] at he'
      rw [hji,hge] at hf
      cases he'; cases hf
      exact hlex
     ·exact q3 j e' f (by omega) he' hf
    ·simp only at hj ⊢
     have:j=i:=by omega
     subst this
     rw [hge]
  ·rw [if_neg hi]
   refine ⟨_,I,.inr ⟨I,by omega,by omega,by omega,fun e he=>?_,fun j e f he hf=>?_⟩⟩
   ·obtain ⟨j,hj,rfl⟩:=List.getElem_of_mem he
    exact q2 j _ (by omega) (geE hj)
   ·have:=(List.getElem?_eq_some_iff.1 hf).1
    exact q3 j e f (by omega) he hf) n (0,-1,-1) ⟨by simp,fun j e h=>by simp at h,fun j e f h=>by simp at h,fun _=>⟨rfl,rfl⟩,fun j h=>by simp at h⟩ (by simp only; omega)
 rw [e1]
 rcases e2 with ⟨rfl,h⟩ | ⟨rfl,h⟩
 ·exact ⟨180,I,.inr ⟨I,h⟩⟩
 ·exact ⟨0,I,.inl ⟨I,h⟩⟩
theorem Valid.check {n:Nat} {g:Tc} (h:Valid g) (hn:300<n):aQ_p n g=some 0:=by
 obtain ⟨r,h1,h2⟩:=th n g hn
 rcases h2 with ⟨rfl,_⟩ | ⟨_,h3⟩
 ·exact h1
 ·exact absurd h h3
theorem Valid.check2 {n:Nat} {g:Tc} (h:Valid g) (hn:300<n) (u:Ua):∃ r,cp_p n g u=some r/\(r=0/\cS g.fN u∨r=2/\¬ cS g.fN u):=by
 unfold cp_p
 rw [h.check hn]
 simp only [aa]
 rw [ifT,rE]
 simp only [aa]
 have h0:=h.n1
 by_cases hf:cS g.fN u
 ·rw [if_neg (by have:=(ip (by omega)).2 hf; omega)]; exact ⟨_,rfl,.inl ⟨rfl,hf⟩⟩
 ·rw [if_pos (by have:=mt (ip (N:=g.fN) (u:=u) (by omega)).1 hf; omega)]; exact ⟨_,rfl,.inr ⟨rfl,hf⟩⟩
def Adj (g:Tc) (a b:Nat):Prop:=((a:Int),(b:Int))∈g.fo∨((b:Int),(a:Int))∈g.fo
theorem Adj.symm {g:Tc} {a b:Nat} (h:Adj g a b):Adj g b a:=Or.symm h
theorem mQ {x:Int} (h:0<=x):bb x=some x.toNat:=if_pos h
theorem oV {α:Type} {xs:Lb α} {i:Int} (h0:0<=i) (h:i<xs.length):idx xs i=some (xs[i.toNat]'(by omega)):=by
 unfold idx
 rw [if_pos h0,geE]
theorem pz {α:Type} {xs:Lb α} {i:Int} (v:α) (h0:0<=i) (h:i<xs.length):put xs i v=some (xs.set i.toNat v):=by
 unfold put
 rw [if_pos ⟨h0,h⟩]
theorem kR (n:Nat) (g:Tc) (h:Valid g) (hn:300<n):∃ l,bs_p n g=some l/\(l.length:Int)=g.fN/\∀ (a:Nat) u,l[a]? = some u->∀ b,bit u b=true↔Adj g a b:=by
 unfold bs_p
 have h1:=h.n1; have h64:=h.n64; have hlen:=h.len
 have hm:mk g.fN (0:Ua)=some (List.replicate g.fN.toNat 0):=if_pos ⟨by omega,by omega⟩
 rw [hm]
 simp only [aa]
 obtain ⟨l,e1,e2,e3⟩:=am (B:=bs_l1 n g) (fun s=>g.fo.length-s.1) (fun (i,xs)=>i<=g.fo.length/\(xs.length:Int)=g.fN/\∀ (a:Nat) u,xs[a]? = some u->∀ b,bit u b=true↔(((a:Int),(b:Int))∈g.fo.take i∨((b:Int),(a:Int))∈g.fo.take i))
  (fun xs=>(xs.length:Int)=g.fN/\∀ (a:Nat) u,xs[a]? = some u->∀ b,bit u b=true↔Adj g a b) (fun ⟨i,xs⟩ J ⟨q1,q2,q3⟩ hJ=>by
  simp only at q1 q2 q3 hJ
  unfold bs_l1
  simp only
  by_cases hi:i<g.fo.length
  ·rw [if_pos hi,geE hi]
   simp only [aa]
   generalize he:g.fo[i]=e
   have hmem:e∈g.fo:=he ▸ List.getElem_mem hi
   obtain ⟨o1,o2,o3⟩:=h.ok e hmem
   rw [oV o1 (by omega),mQ (by omega)]
   simp only [aa]
   rw [pz _ (by omega) (by omega),Int.toNat_natCast]
   simp only [aa]
   rw [oV (by omega) (by simp only [List.length_set]; omega),mQ o1]
   simp only [aa]
   rw [pz _ (by omega) (by simp only [List.length_set]; omega),Int.toNat_natCast]
   simp only [aa]
   refine hJ _ ⟨by simp only; omega,by simp only [List.length_set]; exact q2,fun a u hu b=>?_⟩ (by simp only; omega)
   simp only at hu ⊢
   have htake:g.fo.take (i+1)=g.fo.take i++[e]:=by rw [List.take_succ_eq_append_getElem hi,he]
   rw [htake,List.mem_append,List.mem_append,List.mem_singleton,List.mem_singleton]
   have hne:e.1.toNat≠e.2.toNat:=by omega
   have hal:a<xs.length:=by
    have:=(List.getElem?_eq_some_iff.1 hu).1
    simpa using this
   have hold:=q3 a xs[a] (geE hal) b
   rw [List.getElem?_set] at hu
   by_cases c2:e.2.toNat=a
   ·rw [if_pos c2,if_pos (by simp only [List.length_set]; omega)] at hu
    have hu:_=u:=Option.some.inj hu
    rw [<- hu,aR,aS (by omega),List.getElem_set_ne hne]
    subst c2
    simp only [Bool.or_eq_true,decide_eq_true_eq]
    rw [hold]
    constructor
    ·rintro ((k | k) | k)
     ·exact .inl (.inl k)
     ·exact .inr (.inl k)
     ·right; right; apply Prod.ext<;>simp only<;>omega
    ·rintro ((k | k) | (k | k))
     ·exact .inl (.inl k)
     ·exfalso; have:=congrArg Prod.fst k; have k2:=congrArg Prod.snd k; simp only at this k2; omega
     ·exact .inl (.inr k)
     ·right; have:=congrArg Prod.fst k; simp only at this; omega
   ·rw [if_neg c2,List.getElem?_set] at hu
    by_cases c1:e.1.toNat=a
    ·rw [if_pos c1,if_pos (by omega)] at hu
     have hu:_=u:=Option.some.inj hu
     rw [<- hu,aR,aS (by omega)]
     subst c1
     simp only [Bool.or_eq_true,decide_eq_true_eq]
     rw [hold]
     constructor
     ·rintro ((k | k) | k)
      ·exact .inl (.inl k)
      ·exact .inr (.inl k)
      ·left; right; apply Prod.ext<;>simp only<;>omega
     ·rintro ((k | k) | (k | k))
      ·exact .inl (.inl k)
      ·right; have:=congrArg Prod.snd k; simp only at this; omega
      ·exact .inl (.inr k)
      ·exfalso; have:=congrArg Prod.snd k; simp only at this; omega
    ·rw [if_neg c1] at hu
     rw [q3 a u hu b]
     constructor
     ·rintro (k | k)
      ·exact .inl (.inl k)
      ·exact .inr (.inl k)
     ·rintro ((k | k) | (k | k))
      ·exact .inl k
      ·exfalso; have:=congrArg Prod.fst k; simp only at this; omega
      ·exact .inr k
      ·exfalso; have:=congrArg Prod.snd k; simp only at this; omega
  ·rw [if_neg hi]
   refine ⟨_,I,q2,fun a u hu b=>?_⟩
   rw [q3 a u hu b,List.take_of_length_le (by omega)]
   rfl) n (0,List.replicate g.fN.toNat 0) ⟨by simp,by simp; omega,fun a u hu b=>by
    rw [List.getElem?_replicate] at hu
    split at hu
    ·cases hu; simp [bt]
    ·cases hu⟩ (by simp only; omega)
 rw [e1]
 exact ⟨l,I,e2,e3⟩
theorem kF {σ β:Type} {B:(Ua×σ->Oa β)->Ua×σ->Oa β} (R:σ->β) (F:Nat->σ->Oa σ) (hB:∀ J (u:Ua) s,B J (u,s)=if u=0 then some (R s) else (F (low u) s).bind fun s' =>J (u&&&(u-1),s')) :
  ∀ (m n:Nat) (u:Ua) (s:σ),(ao u).length<=m->m<n->ah B n (u,s)=((ao u).foldlM (fun s t=>F t s) s).map R:=by
 intro m
 induction m with
 | zero=>
  intro n u s hm hn
  obtain ⟨k,rfl⟩:∃ k,n=k+1:=⟨n-1,by omega⟩
  have hu:u=0:=Classical.byContradiction fun hne=>by rw [cH hne] at hm; simp at hm
  rw [bn,hB,if_pos hu,hu,cj]
  rfl
 | succ m ih=>
  intro n u s hm hn
  obtain ⟨k,rfl⟩:∃ k,n=k+1:=⟨n-1,by omega⟩
  rw [bn,hB]
  by_cases hu:u=0
  ·rw [if_pos hu,hu,cj]; rfl
  ·rw [if_neg hu,cH hu,List.foldlM_cons]
   have hl:(ao (u&&&(u-1))).length<=m:=by rw [cH hu] at hm; simpa using hm
   cases F (low u) s with
   | none=>rfl
   | some s' =>exact ih k _ s' hl (by omega)
inductive Way (g:Tc) (s:Ua) (x:Nat):Nat->Nat->Prop
 | here:Way g s x 0 x
 | on {m a b:Nat} (h:Way g s x m a) (k:Adj g a b) (hb:bit s b=true):Way g s x (m+1) b
theorem Way.inside {g:Tc} {s:Ua} {x m y:Nat} (hx:bit s x=true) (h:Way g s x m y):bit s y=true:=by
 cases h with
 | here=>exact hx
 | on _ _ hb=>exact hb
theorem fK {u v:Ua} (h:∀ k,bit u k=true->bit v k=true) (hx:∃ k,bit v k=true/\bit u k=false):(ao u).length<(ao v).length:=by
 have e:ao u=(ao v).filter (bit u ·):=by
  unfold ao
  rw [List.filter_filter]
  apply List.filter_congr
  intro k _
  cases hu:bit u k with
  | false=>simp
  | true=>rw [h k hu]; rfl
 rw [e]
 obtain ⟨k,k1,k2⟩:=hx
 apply List.length_filter_lt_length_iff_exists.2
 exact ⟨k,aT.2 k1,by rw [k2]; simp⟩
structure Dist (g:Tc) (s:UInt64) (x:Nat) (far:List Int):Prop where
 len:(far.length:Int)=g.fN
 ways:∀ (y:Nat) (d:Int),far[y]? = some d->0<=d->Way g s x d.toNat y
 least:∀ (y:Nat) m,Way g s x m y->∃ d:Int,far[y]? = some d/\0<=d/\d<=m
theorem Way.back {g:Tc} {s:Ua} {x m y:Nat} (hx:bit s x=true) (h:Way g s x m y):Way g s y m x:=by
 have app:∀ {a b c:Nat} {k j:Nat},Way g s a k b->Way g s b j c->Way g s a (k+j) c:=by
  intro a b c k j h1 h2
  induction h2 with
  | here=>exact h1
  | on _ k2 hb ih=>exact .on ih k2 hb
 induction h with
 | here=>exact .here
 | on hw k hb ih=>
  rename_i m a b
  have h1:Way g s b 1 a:=.on .here k.symm (hw.inside hx)
  have:=app h1 ih
  rwa [Nat.add_comm] at this
theorem Way.add {g:Tc} {s:Ua} {a b c k j:Nat} (h1:Way g s a k b) (h2:Way g s b j c):Way g s a (k+j) c:=by
 induction h2 with
 | here=>exact h1
 | on _ k2 hb ih=>exact .on ih k2 hb
theorem sL (n:Nat) (g:Tc) (s:Ua) (l:Lb Ua) (hl:(l.length:Int)=g.fN) (hadj:∀ (a:Nat) u,l[a]? = some u->∀ b,bit u b=true↔Adj g a b) (hn:300<n) (p:Ua) (hp:cS g.fN p) :
  ∃ q,ah (ap_l1 n l s) n (p,p)=some q/\∀ b,bit q b=true↔bit p b=true∨∃ a,bit p a=true/\Adj g a b/\bit s b=true:=by
 have hloop:=kF (B:=ap_l1 n l s) (fun s=>s) (fun t (acc:Ua)=>(idx l ((t:Nat):Int)).bind fun x=>some (acc|||(x&&&s))) (fun J u acc=>by
  unfold ap_l1
  simp only
  by_cases h0:u=0
  ·rw [if_pos h0,if_pos h0]
  ·rw [if_neg h0,if_neg h0,nb n h0]
   simp only [aa]
   cases idx l ((low u:Nat):Int)<;>rfl) (ao p).length n p p (Nat.le_refl _) (by have:=bG p; omega)
 rw [hloop]
 have key:∀ (ts:Lb Nat) (acc:Ua),(∀ t∈ts,(t:Int)<g.fN)->∃ v,(ts.foldlM (fun acc t=>(idx l ((t:Nat):Int)).bind fun x=>some (acc|||(x&&&s))) acc:Oa Ua)=some v/\∀ b,bit v b=true↔bit acc b=true∨∃ a∈ts,Adj g a b/\bit s b=true:=by
  intro ts
  induction ts with
  | nil=>intro acc _; exact ⟨acc,rfl,fun b=>by simp⟩
  | cons t ts ih=>
   intro acc hs
   have ht:=hs t (by simp)
   rw [List.foldlM_cons,aF,geE (by omega)]
   obtain ⟨v,v1,v2⟩:=ih (acc|||(l[t]'(by omega)&&&s)) (fun x hx=>hs x (by simp [hx]))
   refine ⟨v,v1,fun b=>?_⟩
   rw [v2,aR,Bool.or_eq_true,eZ,Bool.and_eq_true,hadj t _ (geE (by omega)) b]
   constructor
   ·rintro ((k | k) | ⟨a,k1,k2⟩)
    ·exact .inl k
    ·exact .inr ⟨t,by simp,k⟩
    ·exact .inr ⟨a,by simp [k1],k2⟩
   ·rintro (k | ⟨a,k1,k2⟩)
    ·exact .inl (.inl k)
    ·rcases List.mem_cons.1 k1 with rfl | k1
     ·exact .inl (.inr k2)
     ·exact .inr ⟨a,k1,k2⟩
 obtain ⟨v,v1,v2⟩:=key (ao p) p (fun t ht=>hp t (aT.1 ht))
 rw [v1]
 refine ⟨v,I,fun b=>?_⟩
 rw [v2]
 simp only [aT]
theorem part_ok (n:Nat) (g:Tc) (s:Ua) (l:Lb Ua) (hl:(l.length:Int)=g.fN) (hadj:∀ (a:Nat) u,l[a]? = some u->∀ b,bit u b=true↔Adj g a b) (hn:300<n) (hs:cS g.fN s) (x:Nat) (hx:bit s x=true) :
  ∃ p,ah (ap_l2 n l s) n (shlU 1 x)=some p/\∀ b,bit p b=true↔∃ m,Way g s x m b:=by
 have hx64:=dI hx
 refine am (B:=ap_l2 n l s) (fun p=>64-(ao p).length) (fun p=>bit p x=true/\∀ b,bit p b=true->∃ m,Way g s x m b) (fun p=>∀ b,bit p b=true↔∃ m,Way g s x m b) (fun p J ⟨q1,q2⟩ hJ=>?_) n (shlU 1 x) ⟨by rw [aS hx64]; simp,fun b hb=>by
  rw [aS hx64,decide_eq_true_eq] at hb
  subst hb
  exact ⟨0,.here⟩⟩ (by omega)
 have hin:∀ b,bit p b=true->bit s b=true:=fun b hb=>by obtain ⟨m,hm⟩:=q2 b hb; exact hm.inside hx
 unfold ap_l2
 simp only
 obtain ⟨q,e1,e2⟩:=sL n g s l hl hadj hn p (fun k hk=>hs k (hin k hk))
 rw [e1]
 simp only [aa]
 by_cases he:q=p
 ·rw [if_pos he]
  refine ⟨p,I,fun b=>⟨q2 b,?_⟩⟩
  rintro ⟨m,hm⟩
  induction hm with
  | here=>exact q1
  | on hw k hb ih=>rw [<- he,e2]; exact .inr ⟨_,ih,k,hb⟩
 ·rw [if_neg he]
  have hsub:∀ k,bit p k=true->bit q k=true:=fun k hk=>(e2 k).2 (.inl hk)
  refine hJ q ⟨hsub x q1,fun b hb=>?_⟩ ?_
  ·rcases (e2 b).1 hb with h | ⟨a,a1,a2,a3⟩
   ·exact q2 b h
   ·obtain ⟨m,hm⟩:=q2 a a1
    exact ⟨m+1,.on hm a2 a3⟩
  ·have hne:∃ k,bit q k=true/\bit p k=false:=by
    apply Classical.byContradiction
    intro hno
    apply he
    apply bq
    intro k
    cases hq:bit q k with
    | false=>
     cases hp:bit p k with
     | false=>rfl
     | true=>rw [hsub k hp] at hq; cases hq
    | true=>
     cases hp:bit p k with
     | true=>rfl
     | false=>exact absurd ⟨k,hq,hp⟩ hno
   have:=fK hsub hne
   have:=bG q
   omega
theorem kp (n:Nat) (g:Tc) (h:Valid g) (hn:300<n) (s:Ua) (hs:cS g.fN s):∃ l,ap_p n g s=some l/\(l.length=1↔s≠0/\∀ b,bit s b=true->∃ m,Way g s (low s) m b):=by
 unfold ap_p
 obtain ⟨a,a1,a2,a3⟩:=kR n g h hn
 rw [a1]
 simp only [aa]
 obtain ⟨r,e1,e2⟩:=am (B:=ap_l3 n a s) (fun (u,_)=>(ao u).length) (fun (u,l)=>(∀ b,bit u b=true->bit s b=true)/\l.length+(ao u).length<=64/\(l.length=0->u=s)/\(l.length=1->s≠0/\∀ b,bit s b=true->bit u b=false->∃ m,Way g s (low s) m b)/\((s≠0/\∀ b,bit s b=true->∃ m,Way g s (low s) m b)->l.length=0∨l.length=1/\u=0))
  (fun l=>l.length=1↔s≠0/\∀ b,bit s b=true->∃ m,Way g s (low s) m b) (fun ⟨u,l⟩ J ⟨q1,q2,q3,q4,q5⟩ hJ=>by
  simp only at q1 q2 q3 q4 q5 hJ
  unfold ap_l3
  simp only
  by_cases hu:u=0
  ·rw [if_pos hu]
   refine ⟨l,rfl,fun hl=>⟨(q4 hl).1,fun b hb=>(q4 hl).2 b hb (by rw [hu,bt])⟩,fun hc=>?_⟩
   rcases q5 hc with h0 | ⟨h1,_⟩
   ·have:=q3 h0
    exact absurd (this.symm.trans hu) hc.1
   ·exact h1
  ·rw [if_neg hu,fH hu]
   have hlow:=bF hu
   obtain ⟨p,p1,p2⟩:=part_ok n g s a a2 a3 hn hs (low u) (q1 _ hlow)
   rw [p1]
   simp only [aa]
   have hpl:bit p (low u)=true:=(p2 _).2 ⟨0,.here⟩
   have hsub:∀ k,bit (u&&&~~~p) k=true->bit u k=true:=fun k hk=>by rw [aZ,Bool.and_eq_true] at hk; exact hk.1
   have hlt:=fK hsub ⟨low u,hlow,by rw [aZ,hpl]; simp⟩
   rw [nW (by simp only [List.length_singleton]; omega)]
   simp only [aa]
   refine hJ _ ⟨fun b hb=>q1 b (hsub b hb),by simp only [List.length_append,List.length_singleton]; omega,fun h0=>by simp at h0,fun h1=>?_,fun hc=>?_⟩ (by simp only; exact hlt)
   ·simp only [List.length_append,List.length_singleton] at h1
    have hus:=q3 (by omega)
    subst hus
    refine ⟨hu,fun b hb hb2=>?_⟩
    rw [aZ,hb] at hb2
    exact (p2 b).1 (by simpa using hb2)
   ·rcases q5 hc with h0 | ⟨_,h1⟩
    ·right
     have hus:=q3 h0
     subst hus
     refine ⟨by simp only [List.length_append,List.length_singleton]; omega,?_⟩
     simp only
     apply bq
     intro k
     rw [aZ,bt]
     cases hk:bit u k with
     | false=>rfl
     | true=>rw [(p2 k).2 (hc.2 k hk)]; rfl
    ·exact absurd h1 hu) n (s,[]) ⟨fun b hb=>hb,by simpa using bG s,fun _=>rfl,fun h=>by simp at h,fun _=>.inl rfl⟩ (by simp only; have:=bG s; omega)
 rw [e1]
 exact ⟨r,I,e2⟩
def Joined (g:Tc) (s:Ua):Prop:=s≠0/\∀ b,bit s b=true->∃ m,Way g s (low s) m b
theorem lM (n:Nat) (g:Tc) (h:Valid g) (hn:300<n) (s:Ua) (hs:cS g.fN s):∃ b,ca_p n g s=some (b,0)/\(b=true↔Joined g s):=by
 unfold ca_p
 obtain ⟨r,c1,c2⟩:=h.check2 hn s
 have c3:r=0:=by rcases c2 with ⟨h,_⟩ | ⟨_,h⟩; exact h; exact absurd hs h
 subst c3
 rw [c1]
 simp only [aa]
 rw [ifT]
 obtain ⟨l,l1,l2⟩:=kp n g h hn s hs
 rw [l1]
 simp only [aa]
 exact ⟨_,rfl,by rw [decide_eq_true_eq]; exact l2⟩
theorem Joined.way {g:Tc} {s:Ua} (h:Joined g s) {a b:Nat} (ha:bit s a=true) (hb:bit s b=true):∃ m,Way g s a m b:=by
 obtain ⟨m1,h1⟩:=h.2 a ha
 obtain ⟨m2,h2⟩:=h.2 b hb
 exact ⟨m1+m2,(h1.back (bF h.1)).add h2⟩
theorem qD {k:Nat} (h:k<18446744073709551616):(ac (k:Int)).toNat=k:=by rw [cI]; exact UInt64.toNat_ofNat_of_lt' h
theorem iV (n:Nat) (u:Ua) {k:Nat} (h:k<18446744073709551616):ah_p n u (k:Int)=some (bit u k):=by
 unfold ah_p
 rw [qD h]
 congr 1
 cases hb:bit u k with
 | true=>exact decide_eq_true ((cg u k).2 hb)
 | false=>exact decide_eq_false fun e=>by rw [(cg u k).1 e] at hb; cases hb
theorem ol (n:Nat) {k:Nat} (h:k<18446744073709551616):al_p n (k:Int)=some (shlU 1 k):=by
 unfold al_p
 rw [qD h]
theorem cX {p:Nat->Bool} {N M:Nat} (h:N<=M) (hp:∀ k,p k=true->k<N):(List.range M).filter p=(List.range N).filter p:=by
 obtain ⟨d,rfl⟩:∃ d,M=N+d:=⟨M-N,by omega⟩
 rw [List.range_add,List.filter_append]
 have:((List.range d).map (N+·)).filter p=[]:=by
  rw [List.filter_eq_nil_iff]
  intro x hx
  obtain ⟨y,_,rfl⟩:=List.mem_map.1 hx
  intro hc
  have:=hp _ hc
  omega
 rw [this,List.append_nil]
def ins (u:Ua) (e:Int×Int):Bool:=bit u e.1.toNat&&bit u e.2.toNat
theorem nR (n:Nat) (g:Tc) (s u:Ua) (i:Nat) (J:Ua×Nat->Oa Ua) (hi:i<g.fo.length) (a b:Nat) (he:g.fo[i]=((a:Int),(b:Int))) (ha:a<64) (hb:b<64) :
  am_l1 n g (-1) s J (u,i)=J (if (bit s a&&bit s b&&(bit u a||bit u b))=true then (u|||shlU 1 a)|||shlU 1 b else u,i+1):=by
 unfold am_l1
 simp only [jn]
 rw [if_pos hi,geE hi,he]
 simp only [aa]
 rw [if_neg (show ¬ ((i:Int) = -1) by omega),iV n s (by omega),iV n s (by omega),iV n u (by omega),iV n u (by omega),ol n (by omega),ol n (by omega)]
 simp only [aa]
 cases bit s a<;>cases bit s b<;>cases bit u a<;>cases bit u b<;>rfl
theorem roundR (n:Nat) (g:Tc) (h:Valid g) (hn:300<n) (s:Ua) (x:Nat) (u:Ua) (hu:∀ b,bit u b=true->∃ m,Way g s x m b) :
  ∃ v,ah (am_l1 n g (-1) s) n (u,0)=some v/\(∀ b,bit u b=true->bit v b=true)/\(∀ b,bit v b=true->∃ m,Way g s x m b)/\∀ (a b:Nat),((a:Int),(b:Int))∈g.fo->bit s a=true->bit s b=true->(bit u a=true∨bit u b=true)->bit v a=true/\bit v b=true:=by
 have h64:=h.n64; have hlen:=h.len
 obtain ⟨v,e1,v1,v2,v3⟩:=am (B:=am_l1 n g (-1) s) (fun (_,i)=>g.fo.length-i) (fun (w,i)=>i<=g.fo.length/\(∀ b,bit u b=true->bit w b=true)/\(∀ b,bit w b=true->∃ m,Way g s x m b)/\∀ (j a b:Nat),j<i->g.fo[j]? = some ((a:Int),(b:Int))->bit s a=true->bit s b=true->(bit u a=true∨bit u b=true)->bit w a=true/\bit w b=true)
  (fun v=>(∀ b,bit u b=true->bit v b=true)/\(∀ b,bit v b=true->∃ m,Way g s x m b)/\∀ (j a b:Nat),g.fo[j]? = some ((a:Int),(b:Int))->bit s a=true->bit s b=true->(bit u a=true∨bit u b=true)->bit v a=true/\bit v b=true) (fun ⟨w,i⟩ J ⟨q0,q1,q2,q3⟩ hJ=>by
  simp only at q0 q1 q2 q3 hJ
  by_cases hi:i<g.fo.length
  ·obtain ⟨o1,o2,o3⟩:=h.ok _ (List.getElem_mem hi)
   obtain ⟨a,ha⟩:∃ a:Nat,g.fo[i].1=a:=⟨g.fo[i].1.toNat,by omega⟩
   obtain ⟨b,hb⟩:∃ b:Nat,g.fo[i].2=b:=⟨g.fo[i].2.toNat,by omega⟩
   have he:g.fo[i]=((a:Int),(b:Int)):=Prod.ext ha hb
   have ha64:a<64:=by omega
   have hb64:b<64:=by omega
   rw [nR n g s w i J hi a b he ha64 hb64]
   have hadj:Adj g a b:=.inl (he ▸ List.getElem_mem hi)
   by_cases hc:(bit s a&&bit s b&&(bit w a||bit w b))=true
   ·rw [if_pos hc]
    have hc' :=hc
    simp only [Bool.and_eq_true,Bool.or_eq_true] at hc'
    obtain ⟨⟨hsa,hsb⟩,hw⟩:=hc'
    have hbit:∀ k,bit ((w|||shlU 1 a)|||shlU 1 b) k=true↔bit w k=true∨k=a∨k=b:=fun k=>by
     rw [aR,aR,aS ha64,aS hb64]
     simp only [Bool.or_eq_true,decide_eq_true_eq,or_assoc]
    have wa:∃ m,Way g s x m a:=by
     rcases hw with hw | hw
     ·exact q2 a hw
     ·obtain ⟨m,hm⟩:=q2 b hw
      exact ⟨m+1,.on hm hadj.symm hsa⟩
    have wb:∃ m,Way g s x m b:=by
     rcases hw with hw | hw
     ·obtain ⟨m,hm⟩:=q2 a hw
      exact ⟨m+1,.on hm hadj hsb⟩
     ·exact q2 b hw
    refine hJ _ ⟨hi,fun k hk=>(hbit k).2 (.inl (q1 k hk)),fun k hk=>?_,fun j a' b' hj he' h1 h2 h3=>?_⟩ (by simp only; omega)
    ·rcases (hbit k).1 hk with hk | rfl | rfl
     ·exact q2 k hk
     ·exact wa
     ·exact wb
    ·by_cases hji:j=i
     ·subst hji
      rw [geE hi,he] at he'
      have:=Option.some.inj he'
      have e1:a=a' :=by have:=congrArg Prod.fst this; simp only at this; omega
      have e2:b=b' :=by have:=congrArg Prod.snd this; simp only at this; omega
      subst e1 e2
      exact ⟨(hbit a).2 (.inr (.inl I)),(hbit b).2 (.inr (.inr I))⟩
     ·obtain ⟨p,q⟩:=q3 j a' b' (by simp only at hj; omega) he' h1 h2 h3
      exact ⟨(hbit a').2 (.inl p),(hbit b').2 (.inl q)⟩
   ·rw [if_neg hc]
    refine hJ _ ⟨hi,q1,q2,fun j a' b' hj he' h1 h2 h3=>?_⟩ (by simp only; omega)
    by_cases hji:j=i
    ·subst hji
     rw [geE hi,he] at he'
     have:=Option.some.inj he'
     have e1:a=a' :=by have:=congrArg Prod.fst this; simp only at this; omega
     have e2:b=b' :=by have:=congrArg Prod.snd this; simp only at this; omega
     subst e1 e2
     refine absurd ?_ hc
     rw [h1,h2,Bool.true_and,Bool.true_and,Bool.or_eq_true]
     exact h3.imp (q1 a) (q1 b)
    ·exact q3 j a' b' (by simp only at hj; omega) he' h1 h2 h3
  ·unfold am_l1
   simp only [jn]
   rw [if_neg hi]
   refine ⟨w,I,q1,q2,fun j a b he=>q3 j a b ?_ he⟩
   have:=(List.getElem?_eq_some_iff.1 he).1
   omega) n (u,0) ⟨by omega,fun b hb=>hb,hu,fun j a b hj=>by omega⟩ (by simp only; omega)
 refine ⟨v,e1,v1,v2,fun a b he=>?_⟩
 obtain ⟨j,hj,hje⟩:=List.getElem_of_mem he
 exact v3 j a b (by rw [geE hj,hje])
theorem rO (l:Lb (Int×Int)) (u v:Ua) (h:∀ b,bit u b=true->bit v b=true) (e:Int×Int) (he:e∈l) (h1:ins u e=false) (h2:ins v e=true):(l.filter (ins u)).length<(l.filter (ins v)).length:=by
 have e1:l.filter (ins u)=(l.filter (ins v)).filter (ins u):=by
  rw [List.filter_filter]
  apply List.filter_congr
  intro k _
  cases hu:ins u k with
  | false=>simp
  | true=>
   unfold ins at hu ⊢
   rw [Bool.and_eq_true] at hu
   rw [h _ hu.1,h _ hu.2]; rfl
 rw [e1]
 apply List.length_filter_lt_length_iff_exists.2
 exact ⟨e,List.mem_filter.2 ⟨he,h2⟩,by rw [h1]; simp⟩
theorem reachR (n:Nat) (g:Tc) (h:Valid g) (hn:300<n) (s:Ua) (x:Nat) (hx:bit s x=true):∃ v,am_p n g s (x:Int) (-1)=some v/\∀ b,bit v b=true↔∃ m,Way g s x m b:=by
 have h64:=h.n64; have hlen:=h.len
 have hx64:=dI hx
 unfold am_p
 rw [ol n (by omega)]
 simp only [aa]
 obtain ⟨v,e1,e2⟩:=am (B:=am_l2 n g (-1) s) (fun (_,i)=>g.fo.length-i) (fun (u,i)=>i<=g.fo.length/\bit u x=true/\(∀ b,bit u b=true->∃ m,Way g s x m b)/\((∀ m b,Way g s x m b->bit u b=true)∨i<=(g.fo.filter (ins u)).length))
  (fun v=>∀ b,bit v b=true↔∃ m,Way g s x m b) (fun ⟨u,i⟩ J ⟨q0,q1,q2,q3⟩ hJ=>by
  simp only at q0 q1 q2 q3 hJ
  unfold am_l2
  simp only
  by_cases hi:i<g.fo.length
  ·rw [if_pos hi]
   obtain ⟨v,v1,v2,v3,v4⟩:=roundR n g h hn s x u q2
   rw [v1]
   simp only [aa]
   refine hJ _ ⟨hi,v2 x q1,v3,?_⟩ (by simp only; omega)
   simp only
   by_cases hfull:∀ m b,Way g s x m b->bit u b=true
   ·exact .inl fun m b hm=>v2 b (hfull m b hm)
   ·right
    have q3' :=q3.resolve_left hfull
    -- an edge that leaves u
    have hedge:∃ a b,bit u a=true/\bit u b=false/\Adj g a b/\bit s a=true/\bit s b=true:=by
     apply Classical.byContradiction
     intro hno
     apply hfull
     intro m b hm
     induction hm with
     | here=>exact q1
     | on hw k hb ih=>
      rename_i m' a' b'
      cases hub:bit u b' with
      | true=>rfl
      | false=>exact absurd ⟨a', b', ih,hub,k,hw.inside hx,hb⟩ hno
    obtain ⟨a,b,ha,hb,hab,hsa,hsb⟩:=hedge
    rcases hab with hab | hab
    ·obtain ⟨p1,p2⟩:=v4 a b hab hsa hsb (.inl ha)
     have:=rO g.fo u v v2 _ hab (by unfold ins; simp [hb]) (by unfold ins; simp [p1,p2])
     omega
    ·obtain ⟨p1,p2⟩:=v4 b a hab hsb hsa (.inr ha)
     have:=rO g.fo u v v2 _ hab (by unfold ins; simp [hb]) (by unfold ins; simp [p1,p2])
     omega
  ·rw [if_neg hi]
   refine ⟨u,I,fun b=>⟨q2 b,?_⟩⟩
   rintro ⟨m,hm⟩
   rcases q3 with q3 | q3
   ·exact q3 m b hm
   ·have hall:g.fo.filter (ins u)=g.fo:=List.filter_sublist.eq_of_length (by have:=List.length_filter_le (ins u) g.fo; omega)
    have hin:∀ e∈g.fo,ins u e=true:=fun e he=>by
     rw [<- hall] at he
     exact (List.mem_filter.1 he).2
    induction hm with
    | here=>exact q1
    | on hw k hb ih=>
     rename_i m' a' b'
     rcases k with k | k
     ·have:=hin _ k
      unfold ins at this
      rw [Bool.and_eq_true] at this
      simpa using this.2
     ·have:=hin _ k
      unfold ins at this
      rw [Bool.and_eq_true] at this
      simpa using this.1) n (shlU 1 x,0) ⟨by omega,by rw [aS hx64]; simp,fun b hb=>by
   rw [aS hx64,decide_eq_true_eq] at hb
   subst hb
   exact ⟨0,.here⟩,.inr (by omega)⟩ (by simp only; omega)
 rw [e1]
 exact ⟨v,I,e2⟩
theorem lx (n:Nat) (g:Tc) (h:Valid g) (hn:300<n) (s:Ua) (hs:cS g.fN s):∃ b,br_p n g s=some b/\(b=true↔Joined g s):=by
 have h1:=h.n1; have h64:=h.n64
 obtain ⟨N,hN⟩:∃ N:Nat,g.fN=N:=⟨g.fN.toNat,by omega⟩
 unfold br_p aP_p
 obtain ⟨l,e1,e2⟩:=am (B:=aP_l1 n g s) (fun (_,z,_)=>N-z.toNat)
  (fun (d,z,xs)=>∃ k:Nat,z=(k:Int)/\k<=N/\xs.length<=k/\(∀ j,j<k->bit s j=true->bit d j=true)/\(xs.length=0->d=0/\∀ j,j<k->bit s j=false)/\(xs.length=1->s≠0/\∀ b,bit d b=true↔∃ m,Way g s (low s) m b)/\(Joined g s->xs.length<=1))
  (fun l=>l.length=1↔Joined g s) (fun ⟨d,z,xs⟩ J hI hJ=>by
  simp only at hI hJ
  obtain ⟨k,rfl,hk,i1,i2,i3,i4,i5⟩:=hI
  unfold aP_l1
  simp only
  by_cases hkN:(k:Int)<g.fN
  ·rw [if_pos hkN,iV n s (by omega),mb (by omega)]
   simp only [aa]
   cases hsk:bit s k with
   | false=>
    rw [if_neg (by simp)]
    refine hJ _ ⟨k+1,by simp,by omega,(by simp only; omega),fun j hj hb=>?_,fun h0=>⟨(i3 h0).1,fun j hj=>?_⟩,i4,i5⟩ (by simp only; omega)
    ·by_cases hjk:j=k
     ·subst hjk; rw [hsk] at hb; cases hb
     ·exact i2 j (by omega) hb
    ·by_cases hjk:j=k
     ·subst hjk; exact hsk
     ·exact (i3 h0).2 j (by omega)
   | true=>
    rw [if_pos I,iV n d (by omega)]
    simp only [aa]
    cases hdk:bit d k with
    | true=>
     rw [if_pos I]
     refine hJ _ ⟨k+1,by simp,by omega,(by simp only; omega),fun j hj hb=>?_,fun h0=>?_,i4,i5⟩ (by simp only; omega)
     ·by_cases hjk:j=k
      ·subst hjk; exact hdk
      ·exact i2 j (by omega) hb
     ·rw [(i3 h0).1,bt] at hdk; cases hdk
    | false=>
     rw [if_neg (by simp)]
     obtain ⟨v,v1,v2⟩:=reachR n g h hn s k hsk
     rw [v1]
     simp only [aa]
     rw [nW (by simp only [List.length_singleton]; omega)]
     simp only [aa]
     refine hJ _ ⟨k+1,by simp,by omega,by simp only [List.length_append,List.length_singleton]; omega,fun j hj hb=>?_,fun h0=>?_,fun h1=>?_,fun hc=>?_⟩ (by simp only; omega)
     ·simp only
      rw [aR,Bool.or_eq_true]
      by_cases hjk:j=k
      ·subst hjk; exact .inr ((v2 j).2 ⟨0,.here⟩)
      ·exact .inl (i2 j (by omega) hb)
     ·simp only [List.length_append,List.length_singleton] at h0; omega
     ·simp only [List.length_append,List.length_singleton] at h1
      obtain ⟨d0,hlow⟩:=i3 (by omega)
      have hs0:s≠0:=fun e=>by rw [e,bt] at hsk; cases hsk
      have hl:low s=k:=by
       rcases Nat.lt_trichotomy (low s) k with hlt | he | hgt
       ·have:=hlow _ hlt; rw [bF hs0] at this; cases this
       ·exact he
       ·rw [rj hs0 hgt] at hsk; cases hsk
      refine ⟨hs0,fun b=>?_⟩
      simp only
      rw [d0,hl,aR,bt,Bool.false_or]
      exact v2 b
     ·simp only [List.length_append,List.length_singleton]
      have h0:=i5 hc
      by_cases hx:xs.length=1
      ·obtain ⟨_,hb⟩:=i4 hx
       rw [(hb k).2 (hc.2 k hsk)] at hdk; cases hdk
      ·omega
  ·rw [if_neg hkN]
   have:k=N:=by omega
   subst this
   refine ⟨xs,I,fun hx=>⟨(i4 hx).1,fun b hb=>((i4 hx).2 b).1 (i2 b (by have:=hs b hb; omega) hb)⟩,fun hc=>?_⟩
   have h0:=i5 hc
   by_cases hx:xs.length=0
   ·have:=(i3 hx).2 (low s) (by have:=hs _ (bF hc.1); omega)
    rw [bF hc.1] at this; cases this
   ·omega) n (0,0,[]) ⟨0,rfl,by omega,by simp,fun j hj=>by omega,fun _=>⟨rfl,fun j hj=>by omega⟩,fun h=>by simp at h,fun _=>by simp⟩ (by simp only; omega)
 rw [e1]
 simp only [aa]
 exact ⟨_,rfl,by rw [decide_eq_true_eq]; exact e2⟩
/-! ### Lists in order -/
section
def aW:Lb Nat->Lb (Lb Nat×Lb Nat)
 | []=>[([],[])]
 | x::l=>(aW l).flatMap fun p=>[(x::p.1,p.2),(p.1,x::p.2)]
def un (m:Nat):Lb Nat->Nat
 | []=>m
 | x::l=>un (m|||2^x) l
def aG {α:Type} (f:α->Nat):Lb α->Nat
 | []=>0
 | x::l=>f x+aG f l
section
variable {α β:Type}
theorem dz (f:α->Nat):∀ l m:Lb α,aG f (l++m)=aG f l+aG f m
 | [],m=>(Nat.zero_add _).symm
 | x::l,m=>by
  show f x+aG f (l++m)=f x+aG f l+aG f m
  rw [dz f l m,Nat.add_assoc]
theorem jT (f g:α->Nat):∀ l:Lb α,aG (fun x=>f x+g x) l=aG f l+aG g l
 | []=>rfl
 | x::l=>by
  show f x+g x+aG _ l=f x+aG f l+(g x+aG g l)
  rw [jT f g l]
  omega
theorem dq {f g:α->Nat}:∀ {l:Lb α},(∀ x∈l,f x=g x)->aG f l=aG g l
 | [],_=>rfl
 | x::l,h=>by
  show f x+aG f l=g x+aG g l
  rw [h x (List.mem_cons_self ..),dq fun y hy=>h y (List.mem_cons_of_mem _ hy)]
theorem dP:∀ l:Lb α,aG (fun _=>0) l=0
 | []=>rfl
 | _::l=>(Nat.zero_add _).trans (dP l)
theorem sumN_if (p:Prop) [Decidable p] (f:α->Nat) (l:Lb α):(if p then aG f l else 0)=aG (fun x=>if p then f x else 0) l:=by
 split
 ·rfl
 ·exact (dP l).symm
theorem lh (f:α->β->Nat) (m:Lb β):∀ l:Lb α,aG (fun x=>aG (f x) m) l=aG (fun y=>aG (fun x=>f x y) l) m
 | []=>(dP m).symm
 | x::l=>by
  show aG (f x) m+aG _ l=aG (fun y=>f x y+aG (fun x=>f x y) l) m
  rw [lh f m l,jT]
theorem kY (f:β->Nat) (g h:α->β):∀ l:Lb α,aG f (l.flatMap fun p=>[g p,h p])=aG (fun p=>f (g p)+f (h p)) l
 | []=>rfl
 | x::l=>by
  show aG f ([g x,h x]++l.flatMap fun p=>[g p,h p])=_
  rw [dz,kY f g h l]
  show f (g x)+(f (h x)+0)+_=f (g x)+f (h x)+_
  omega
theorem mH (f:β->Nat) (g:α->β):∀ l:Lb α,aG f (l.map g)=aG (fun x=>f (g x)) l
 | []=>rfl
 | x::l=>congrArg (f (g x)+·) (mH f g l)
end
section
variable (fits:Nat->Bool)
def fX:Nat->Lb Nat->Nat
 | 0,[]=>1
 | 0,_::_=>0
 | _+1,[]=>0
 | k+1,x::l=>aG (fun p=>if fits (un 0 (x::p.1)) then fX k p.2 else 0) (aW l)
def aK:Lb Nat->Lb Nat->Nat->Nat
 | [],rest,k=>fX fits k rest
 | c::cs,rest,k=>if cs.length+1<=k then aG (fun p=>if fits (un c p.1) then aK cs p.2 (k-1) else 0) (aW rest) else 0
def bB:Lb Nat->Nat->Nat->Lb Nat
 | [],x,_=>[2^x]
 | c::cs,x,0=>(c|||2^x)::cs
 | c::cs,x,j+1=>c::bB cs x j
theorem cP:∀ (cs:Lb Nat) (x j:Nat),j<=cs.length->(bB cs x j).length=if j<cs.length then cs.length else cs.length+1
 | [],_,_,_=>by simp [bB]
 | c::cs,x,0,_=>by simp [bB]
 | c::cs,x,j+1,h=>by
  have:=cP cs x j (by simpa using h)
  simp only [bB,leC,this,Nat.add_lt_add_iff_right]
  split<;>rfl
theorem labd_le (cs:Lb Nat) (x j:Nat) (h:j<=cs.length):cs.length<=(bB cs x j).length:=by
 rw [cP cs x j h]
 split<;>omega
theorem pV {cs rest:Lb Nat} {k:Nat} (h0:0<cs.length) (h:k<cs.length):aK fits cs rest k=0:=by
 cases cs with
 | nil=>cases h0
 | cons c cs=>exact if_neg (by simp only [leC] at h; omega)
theorem bA (c:Nat) (cs rest:Lb Nat) (k:Nat):aK fits (c::cs) rest k=if cs.length+1<=k then aG (fun p=>if fits (un c p.1) then aK fits cs p.2 (k-1) else 0) (aW rest) else 0:=rfl
theorem gm (x:Nat):∀ (cs l:Lb Nat) (k:Nat),aK fits cs (x::l) k=aG (fun j=>aK fits (bB cs x j) l k) (List.range (cs.length+1))
 | [],l,k=>by
  show fX fits k (x::l)=aK fits [2^x] l k+0
  rw [bA,Nat.add_zero]
  cases k with
  | zero=>rfl
  | succ k=>
   rw [if_pos (by simp)]
   show aG (fun p=>if fits (un (0|||2^x) p.1) then fX fits k p.2 else 0) (aW l)=aG (fun p=>if fits (un (2^x) p.1) then fX fits k p.2 else 0) (aW l)
   rw [Nat.zero_or]
 | c::cs,l,k=>by
  have ih:=gm x cs
  rw [leC,List.range_succ_eq_map]
  show aK fits (c::cs) (x::l) k=aK fits ((c|||2^x)::cs) l k+aG (fun j=>aK fits (bB (c::cs) x j) l k) ((List.range (cs.length+1)).map Nat.succ)
  rw [mH]
  show _=_+aG (fun j=>aK fits (c::bB cs x j) l k) (List.range (cs.length+1))
  by_cases hk:cs.length+1<=k
  ·rw [bA,if_pos hk,bA,if_pos hk]
   show aG _ ((aW l).flatMap fun p=>[(x::p.1,p.2),(p.1,x::p.2)])=_
   rw [kY (g:=fun p:Lb Nat×Lb Nat=>(x::p.1,p.2)) (h:=fun p:Lb Nat×Lb Nat=>(p.1,x::p.2)),jT]
   congr 1
   have e1:∀ p:Lb Nat×Lb Nat,(if fits (un c p.1)=true then aK fits cs (x::p.2) (k-1) else 0)=aG (fun j=>if fits (un c p.1)=true then aK fits (bB cs x j) p.2 (k-1) else 0) (List.range (cs.length+1)):=fun p=>by
    rw [ih,sumN_if]
   rw [dq fun p _=>e1 p,lh]
   refine dq fun j hj=>?_
   have hj' : j<=cs.length:=by have:=List.mem_range.1 hj; omega
   have hl:=cP cs x j hj'
   rw [bA]
   by_cases h2:(bB cs x j).length+1<=k
   ·rw [if_pos h2]
   ·rw [if_neg h2]
    refine (dq (g:=fun _=>0) fun p _=>?_).trans (dP _)
    have h3:aK fits (bB cs x j) p.2 (k-1)=0:=by
     refine pV fits ?_ (by omega)
     rw [hl]
     split<;>omega
    rw [h3]
    split<;>rfl
  ·rw [bA,if_neg hk,bA,if_neg hk,Nat.zero_add]
   refine ((dq (g:=fun _=>0) fun j hj=>?_).trans (dP _)).symm
   have hj' : j<=cs.length:=by have:=List.mem_range.1 hj; omega
   have:=labd_le cs x j hj'
   rw [bA,if_neg (by omega)]
def dJ (k:Nat):Lb Nat->Lb Nat->Lb Nat->Nat
 | cs,x::l,c::p=>aG (fun j=>aK fits (bB cs x j) l k) (List.range c)+dJ k (bB cs x c) l p
 | _,_,_=>0
def da:Lb Nat->Lb Nat->Lb Nat->Lb Nat
 | cs,x::l,c::p=>da (bB cs x c) l p
 | cs,_,_=>cs
def Rgs:Nat->Lb Nat->Prop
 | _,[]=>True
 | m,c::p=>c<=m/\Rgs (if c<m then m else m+1) p
theorem lX {f:Nat->Nat} {c m:Nat} (h:c<=m):aG f (List.range c)+f c<=aG f (List.range (m+1)):=by
 induction m with
 | zero=>
  obtain rfl:c=0:=by omega
  exact Nat.le_of_eq (by simp [List.range_succ,aG])
 | succ m ih=>
  rw [List.range_succ,dz]
  rcases Nat.lt_or_ge c (m+1) with h1 | h1
  ·exact Nat.le_trans (ih (by omega)) (Nat.le_add_right ..)
  ·obtain rfl:c=m+1:=by omega
   exact Nat.le_of_eq I
theorem cw {f:Nat->Nat} {c m:Nat} (h:c<=m):aG f (List.range c)<=aG f (List.range m):=by
 induction m with
 | zero=>
  obtain rfl:c=0:=by omega
  exact Nat.le_refl _
 | succ m ih=>
  rcases Nat.lt_or_ge c (m+1) with h1 | h1
  ·rw [List.range_succ,dz]
   exact Nat.le_trans (ih (by omega)) (Nat.le_add_right ..)
  ·obtain rfl:c=m+1:=by omega
   exact Nat.le_refl _
theorem fR {k:Nat}:∀ {l p cs:Lb Nat},l.length=p.length->Rgs cs.length p->aK fits (da cs l p) [] k=1->dJ fits k cs l p<aK fits cs l k
 | [],[],cs,_,_,h=>by
  show 0<aK fits cs [] k
  rw [show aK fits cs [] k=1 from h]
  decide
 | x::l,c::p,cs,hl,hr,h=>by
  obtain ⟨h1,h2⟩:=hr
  have e:=cP cs x c h1
  have ih:=fR (cs:=bB cs x c) (l:=l) (p:=p) (by simpa using hl) (by rw [e]; exact h2) h
  rw [gm]
  have:=lX (f:=fun j=>aK fits (bB cs x j) l k) h1
  show aG _ (List.range c)+dJ fits k (bB cs x c) l p<_
  omega
def LexL:Lb Nat->Lb Nat->Prop
 | c::p,d::q=>c<d∨c=d/\LexL p q
 | _,_=>False
theorem mP {k:Nat}:∀ {l p q cs:Lb Nat},l.length=p.length->l.length=q.length->Rgs cs.length p->Rgs cs.length q->aK fits (da cs l p) [] k=1->LexL p q->dJ fits k cs l p<dJ fits k cs l q
 | [],[],[],cs,_,_,_,_,_,h=>by cases h
 | x::l,c::p,d::q,cs,hp,hq,rp,rq,h,hx=>by
  obtain ⟨p1,p2⟩:=rp
  obtain ⟨q1,q2⟩:=rq
  have ep:=cP cs x c p1
  show aG _ (List.range c)+dJ fits k (bB cs x c) l p<aG _ (List.range d)+dJ fits k (bB cs x d) l q
  rcases hx with hx | ⟨rfl,hx⟩
  ·have i1:=fR fits (k:=k) (cs:=bB cs x c) (l:=l) (p:=p) (by simpa using hp) (by rw [ep]; exact p2) h
   have i2:=cw (f:=fun j=>aK fits (bB cs x j) l k) (show c+1<=d by omega)
   rw [List.range_succ,dz] at i2
   have i3:aG (fun j=>aK fits (bB cs x j) l k) [c]=aK fits (bB cs x c) l k:=Nat.add_zero _
   omega
  ·have:=mP (cs:=bB cs x c) (l:=l) (p:=p) (q:=q) (by simpa using hp) (by simpa using hq) (by rw [ep]; exact p2) (by rw [ep]; exact q2) h hx
   omega
end
end
def bp (r:Nat->Rat):(Lb Nat->Rat)->Lb Nat->Rat
 | _,[]=>0
 | f,c::cs=>r c*f cs-bp r (fun l=>f (c::l)) cs
theorem oC (r:Nat->Rat) (a b:Rat):∀ (cs:Lb Nat) (f g:Lb Nat->Rat),bp r (fun l=>a*f l+b*g l) cs=a*bp r f cs+b*bp r g cs
 | [],f,g=>by simp only [bp]; grind
 | c::cs,f,g=>by
  have:=oC r a b cs (fun l=>f (c::l)) (fun l=>g (c::l))
  simp only [bp]
  rw [this]
  grind
theorem rS (a b:Rat) (r s:Nat->Rat):∀ (cs:Lb Nat) (f:Lb Nat->Rat),bp (fun c=>a*r c+b*s c) f cs=a*bp r f cs+b*bp s f cs
 | [],f=>by simp only [bp]; grind
 | c::cs,f=>by
  have:=rS a b r s cs (fun l=>f (c::l))
  simp only [bp]
  rw [this]
  grind
theorem oe (r:Nat->Rat):∀ (cs:Lb Nat) (f:Lb Nat->Rat),(∀ c∈cs,r c=0)->bp r f cs=0
 | [],_,_=>rfl
 | c::cs,f,h=>by
  simp only [bp]
  rw [oe r cs _ fun d hd=>h d (List.mem_cons_of_mem _ hd),h c (List.mem_cons_self ..)]
  grind
theorem rn (r:Nat->Rat):∀ (cs:Lb Nat) (f:Lb Nat->Rat),(∀ l,f l=0)->bp r f cs=0
 | [],_,_=>rfl
 | c::cs,f,h=>by
  simp only [bp]
  rw [rn r cs _ fun l=>h _,h]
  grind
theorem ix (r s:Nat->Rat):∀ (cs:Lb Nat) (f:Lb Nat->Rat),bp r (bp s f) cs+bp s (bp r f) cs=0
 | [],f=>by simp only [bp]; grind
 | c::cs,f=>by
  have ih:=ix r s cs (fun l=>f (c::l))
  have h1:=oC r (s c) (-1) cs f (bp s fun l=>f (c::l))
  have h2:=oC s (r c) (-1) cs f (bp r fun l=>f (c::l))
  have e1:(fun l=>bp s f (c::l))=fun l=>s c*f l+(-1)*bp s (fun l=>f (c::l)) l:=by
   funext l; simp only [bp]; grind
  have e2:(fun l=>bp r f (c::l))=fun l=>r c*f l+(-1)*bp r (fun l=>f (c::l)) l:=by
   funext l; simp only [bp]; grind
  show r c*bp s f cs-bp r (fun l=>bp s f (c::l)) cs+(s c*bp r f cs-bp s (fun l=>bp r f (c::l)) cs)=0
  rw [e1,e2,h1,h2]
  grind
def det:Lb (Nat->Rat)->Lb Nat->Rat
 | [],_=>1
 | r::R,cs=>bp r (det R) cs
theorem nf (r:Nat->Rat) (R2:Lb (Nat->Rat)):∀ (R1:Lb (Nat->Rat)) (cs:Lb Nat),det (r::(R1++r::R2)) cs=0
 | [],cs=>by
  have:=ix r r cs (det R2)
  show bp r (bp r (det R2)) cs=0
  grind
 | a::R1,cs=>by
  have h1:=ix r a cs (det (R1++r::R2))
  have h2:bp a (bp r (det (R1++r::R2))) cs=0:=rn _ _ _ fun l=>nf r R2 R1 l
  show bp r (bp a (det (R1++r::R2))) cs=0
  grind
theorem det_mem {r:Nat->Rat} {R:Lb (Nat->Rat)} (h:r∈R) (cs:Lb Nat):det (r::R) cs=0:=by
 obtain ⟨R1,R2,rfl⟩:=List.append_of_mem h
 exact nf r R2 R1 cs
theorem det_add {r u:Nat->Rat} {R:Lb (Nat->Rat)} (h:u∈R) (a:Rat) (cs:Lb Nat):det ((fun c=>r c-a*u c)::R) cs=det (r::R) cs:=by
 have e:(fun c=>r c-a*u c)=fun c=>1*r c+(-a)*u c:=by funext c; grind
 have h0:bp u (det R) cs=0:=det_mem h cs
 show bp _ (det R) cs=bp r (det R) cs
 rw [e,rS,h0]
 grind
def aU (A:Nat->Nat->Rat):Nat->Nat->Nat->Rat
 | 0,i,j=>A i j
 | k+1,i,j=>aU A k i j-aU A k i k/aU A k k k*aU A k k j
def cT:Nat->Lb Nat
 | 0=>[]
 | k+1=>k::cT k
theorem lw {k c:Nat} (h:c∈cT k):c<k:=by
 induction k with
 | zero=>cases h
 | succ k ih=>
  rcases List.mem_cons.1 h with rfl | h
  ·exact Nat.lt_succ_self _
  ·exact Nat.lt_succ_of_lt (ih h)
def eB (A:Nat->Nat->Rat):Nat->Lb (Nat->Rat)
 | 0=>[]
 | k+1=>A k::eB A k
def dl (A:Nat->Nat->Rat):Nat->Lb (Nat->Rat)
 | 0=>[]
 | k+1=>aU A k k::dl A k
theorem qa (A:Nat->Nat->Rat) {t k:Nat} (h:t<k):aU A t t∈dl A k:=by
 induction k with
 | zero=>omega
 | succ k ih=>
  rcases Nat.lt_or_ge t k with h1 | h1
  ·exact List.mem_cons_of_mem _ (ih h1)
  ·obtain rfl:t=k:=by omega
   exact List.mem_cons_self ..
theorem fM {A:Nat->Nat->Rat}:∀ {k i j:Nat},(∀ t,t<k->aU A t t t≠0)->j<k->aU A k i j=0
 | 0,_,_,_,h=>by omega
 | k+1,i,j,h0,h=>by
  have hk:=h0 k (Nat.lt_succ_self k)
  show aU A k i j-aU A k i k/aU A k k k*aU A k k j=0
  rcases Nat.lt_or_ge j k with h1 | h1
  ·rw [fM (fun t ht=>h0 t (by omega)) h1,fM (i:=k) (fun t ht=>h0 t (by omega)) h1]
   grind
  ·obtain rfl:j=k:=by omega
   rw [Rat.div_def,Rat.mul_assoc,Rat.inv_mul_cancel _ hk]
   grind
theorem ko (A:Nat->Nat->Rat) (m i:Nat):∀ (k:Nat) (cs:Lb Nat),k<=m->det (aU A k i::dl A m) cs=det (A i::dl A m) cs
 | 0,_,_=>rfl
 | k+1,cs,h=>(det_add (qa A (show k<m by omega)) (aU A k i k/aU A k k k) cs).trans (ko A m i k cs (by omega))
theorem nB (A:Nat->Nat->Rat):∀ (k:Nat) (cs:Lb Nat),det (eB A k) cs=det (dl A k) cs
 | 0,_=>rfl
 | k+1,cs=>by
  have e:det (eB A k)=det (dl A k):=by funext l; exact nB A k l
  have h1:=ko A k k k cs (Nat.le_refl k)
  show bp (A k) (det (eB A k)) cs=det (aU A k k::dl A k) cs
  rw [e]
  exact h1.symm
def gb (A:Nat->Nat->Rat):Nat->Rat
 | 0=>1
 | k+1=>aU A k k k*gb A k
theorem mA {A:Nat->Nat->Rat}:∀ {k:Nat},(∀ t,t<k->aU A t t t≠0)->det (dl A k) (cT k)=gb A k
 | 0,_=>rfl
 | k+1,h=>by
  show aU A k k k*det (dl A k) (cT k)-bp (aU A k k) _ (cT k)=aU A k k k*gb A k
  rw [oe _ _ _ fun c hc=>fM (fun t ht=>h t (by omega)) (lw hc),mA fun t ht=>h t (by omega)]
  grind
theorem ik {A:Nat->Nat->Rat} {k i j:Nat} (h:∀ t,t<k->aU A t t t≠0):det (A i::eB A k) (j::cT k)=gb A k*aU A k i j:=by
 have e:det (eB A k)=det (dl A k):=by funext l; exact nB A k l
 have h1:=ko A k i k (j::cT k) (Nat.le_refl k)
 have h2:det (aU A k i::dl A k) (j::cT k)=aU A k i j*det (dl A k) (cT k)-bp (aU A k i) (fun l=>det (dl A k) (j::l)) (cT k):=rfl
 rw [oe _ _ _ fun c hc=>fM (fun t ht=>h t (by omega)) (lw hc),mA fun t ht=>h t (by omega)] at h2
 have h3:det (A i::eB A k) (j::cT k)=det (A i::dl A k) (j::cT k):=by
  show bp (A i) (det (eB A k)) _=bp (A i) (det (dl A k)) _
  rw [e]
 rw [h3,<- h1,h2]
 grind
theorem jH {r:Nat->Rat} (hr:∀ c,∃ z:Int,r c=(z:Rat)):∀ (cs:Lb Nat) (f:Lb Nat->Rat),(∀ l,∃ z:Int,f l=(z:Rat))->∃ z:Int,bp r f cs=(z:Rat)
 | [],_,_=>⟨0,rfl⟩
 | c::cs,f,h=>by
  obtain ⟨x,hx⟩:=hr c
  obtain ⟨y,hy⟩:=h cs
  obtain ⟨z,hz⟩:=jH hr cs (fun l=>f (c::l)) fun l=>h _
  refine ⟨x*y-z,?_⟩
  simp only [bp]
  rw [hx,hy,hz,Rat.intCast_sub,Rat.intCast_mul]
theorem pn {A:Nat->Nat->Rat} (hA:∀ i c,∃ z:Int,A i c=(z:Rat)) (i:Nat):∀ (k:Nat) (cs:Lb Nat),∃ z:Int,det (A i::eB A k) cs=(z:Rat):=by
 have key:∀ k cs,∃ z:Int,det (eB A k) cs=(z:Rat):=by
  intro k
  induction k with
  | zero=>exact fun _=>⟨1,rfl⟩
  | succ k ih=>exact fun cs=>jH (hA k) cs _ ih
 exact fun k cs=>jH (hA i) cs _ (key k)
section
noncomputable def barY (A:Nat->Nat->Int) (k i j:Nat):Int:=Classical.choose (pn (A:=fun i j=>(A i j:Rat)) (fun i c=>⟨A i c,rfl⟩) i k (j::cT k))
noncomputable def barP (A:Nat->Nat->Int):Nat->Int
 | 0=>1
 | k+1=>barY A k k k
section
variable {A:Nat->Nat->Int}
theorem eO (k i j:Nat):(barY A k i j:Rat)=det ((fun c=>(A i c:Rat))::eB (fun i j=>(A i j:Rat)) k) (j::cT k):=
 (Classical.choose_spec (pn (A:=fun i j=>(A i j:Rat)) (fun i c=>⟨A i c,I⟩) i k (j::cT k))).symm
theorem oa (i j:Nat):barY A 0 i j=A i j:=by
 have h:=eO (A:=A) 0 i j
 have e:det ((fun c=>(A i c:Rat))::eB (fun i j=>(A i j:Rat)) 0) (j::cT 0)=(A i j:Rat):=by
  show (A i j:Rat)*1-0=_
  grind
 rw [e] at h
 exact Rat.intCast_inj.1 h
theorem rD {k:Nat} (h:∀ t,t<k->barY A t t t≠0):∀ t,t<k->aU (fun i j=>(A i j:Rat)) t t t≠0:=by
 intro t
 induction t using Nat.strongRecOn with
 | ind t ih=>
  intro ht hz
  have e:=eO (A:=A) t t t
  rw [ik (A:=fun i j=>(A i j:Rat)) (k:=t) (i:=t) (j:=t) fun s hs=>ih s hs (by omega),hz,Rat.mul_zero] at e
  exact h t ht (Rat.intCast_inj.1 e)
theorem qV {k:Nat} (h:∀ t,t<k->barY A t t t≠0):(barP A k:Rat)=gb (fun i j=>(A i j:Rat)) k:=by
 cases k with
 | zero=>rfl
 | succ k=>
  have e:=eO (A:=A) k k k
  rw [ik (A:=fun i j=>(A i j:Rat)) (k:=k) (i:=k) (j:=k) fun t ht=>rD h t (by omega)] at e
  show (barY A k k k:Rat)=aU _ k k k*gb _ k
  rw [e,Rat.mul_comm]
theorem kG {k:Nat} (h:∀ t,t<k+1->barY A t t t≠0) (i j:Nat):barY A (k+1) i j*barP A k=barY A k i j*barY A k k k-barY A k i k*barY A k k j:=by
 have hn:=rD h
 have hn' : ∀ t,t<k->aU (fun i j=>(A i j:Rat)) t t t≠0:=fun t ht=>hn t (by omega)
 have e0:∀ i j,(barY A k i j:Rat)=gb (fun i j=>(A i j:Rat)) k*aU (fun i j=>(A i j:Rat)) k i j:=fun i j=>(eO k i j).trans (ik hn')
 have e1:(barY A (k+1) i j:Rat)=gb (fun i j=>(A i j:Rat)) (k+1)*aU (fun i j=>(A i j:Rat)) (k+1) i j:=(eO (k+1) i j).trans (ik hn)
 have ep:=qV (A:=A) (k:=k) fun t ht=>h t (by omega)
 have hk:=hn k (Nat.lt_succ_self k)
 have e2:aU (fun i j=>(A i j:Rat)) (k+1) i j=aU (fun i j=>(A i j:Rat)) k i j-aU (fun i j=>(A i j:Rat)) k i k/aU (fun i j=>(A i j:Rat)) k k k*aU (fun i j=>(A i j:Rat)) k k j:=rfl
 have e3:gb (fun i j=>(A i j:Rat)) (k+1)=aU (fun i j=>(A i j:Rat)) k k k*gb (fun i j=>(A i j:Rat)) k:=rfl
 rw [e2,e3] at e1
 have hx:aU (fun i j=>(A i j:Rat)) k i k/aU (fun i j=>(A i j:Rat)) k k k*aU (fun i j=>(A i j:Rat)) k k k=aU (fun i j=>(A i j:Rat)) k i k:=Rat.div_mul_cancel hk
 refine Rat.intCast_inj.1 ?_
 rw [Rat.intCast_mul,Rat.intCast_sub,Rat.intCast_mul,Rat.intCast_mul,e0 i j,e0 k k,e0 i k,e0 k j,e1,ep]
 generalize aU (fun i j=>(A i j:Rat)) k i k/aU (fun i j=>(A i j:Rat)) k k k=d at hx ⊢
 rw [<- hx]
 grind
theorem nJ {k:Nat} (h:∀ t,t<k+1->barY A t t t≠0) (i j:Nat):(barY A k i j*barY A k k k-barY A k i k*barY A k k j)/barP A k=barY A (k+1) i j:=by
 have h0:barP A k≠0:=by
  cases k with
  | zero=>exact Int.one_ne_zero
  | succ k=>exact h k (by omega)
 rw [<- kG h,Int.mul_ediv_cancel _ h0]
def bQ (f:Nat->Int):Nat->Nat->Int
 | _,0=>0
 | k,m+1=>f k+bQ f (k+1) m
theorem ny (a b:Int) (f g:Nat->Int):∀ m k,bQ (fun j=>a*f j-b*g j) k m=a*bQ f k m-b*bQ g k m
 | 0,_=>by simp [bQ]
 | m+1,k=>by
  have:=ny a b f g m (k+1)
  simp only [bQ]
  rw [this]
  grind
theorem mS (a:Int) (f:Nat->Int):∀ m k,bQ (fun j=>f j*a) k m=bQ f k m*a
 | 0,_=>by simp [bQ]
 | m+1,k=>by
  have:=mS a f m (k+1)
  simp only [bQ]
  rw [this,Int.add_mul]
theorem gy {f g:Nat->Int}:∀ {m k:Nat},(∀ j,f j=g j)->bQ f k m=bQ g k m
 | 0,_,_=>rfl
 | m+1,k,h=>by
  simp only [bQ]
  rw [h,gy h]
theorem my {f:Nat->Int} {i:Nat}:∀ {m k:Nat},(∀ j,j≠i->f j<=0)->0<=bQ f k m->k<=i->i<k+m->0<=f i
 | 0,_,_,_,h1,h2=>by omega
 | m+1,k,h,hs,h1,h2=>by
  by_cases c:k=i
  ·subst c
   have:∀ m k', k<k'->bQ f k' m<=0:=by
    intro m
    induction m with
    | zero=>exact fun _ _=>Int.le_refl _
    | succ m ih=>
     intro k' hk
     have a:=h k' (by omega)
     have b:=ih (k'+1) (by omega)
     simp only [bQ]
     omega
   have:=this m (k+1) (by omega)
   simp only [bQ] at hs
   omega
  ·have a:=h k c
   simp only [bQ] at hs
   exact my (m:=m) (k:=k+1) h (by omega) (by omega) (by omega)
structure Dom (n k:Nat) (y:Nat->Nat->Int):Prop where
 off:∀ i j,i≠j->y i j<=0
 sum:∀ i,k<=i->i<n->0<=bQ (y i) k (n-k)
theorem Dom.diag {n k:Nat} {y:Nat->Nat->Int} (h:Dom n k y) {i:Nat} (h1:k<=i) (h2:i<n):0<=y i i:=
 my (fun j hj=>h.off i j (fun e=>hj e.symm)) (h.sum i h1 h2) h1 (by omega)
end
def re (n k:Nat) (y:Nat->Nat->Int):Nat->Nat->Int:=fun i j=>if k<=i/\i<n/\k<=j/\j<n then y i j else if i=j then 1 else 0
theorem mM {n:Nat} {y:Nat->Nat->Int} {i:Nat}:∀ {m k k0:Nat},k0<=k->k+m<=n->k0<=i->i<n->bQ (re n k0 y i) k m=bQ (y i) k m
 | 0,_,_,_,_,_,_=>rfl
 | m+1,k,k0,h1,h2,h3,h4=>by
  simp only [bQ]
  rw [mM (m:=m) (k:=k+1) (by omega) (by omega) h3 h4]
  unfold re
  rw [if_pos ⟨h3,h4,h1,by omega⟩]
structure DomN (n k:Nat) (y:Nat->Nat->Int):Prop where
 off:∀ i j,k<=i->i<n->k<=j->j<n->i≠j->y i j<=0
 sum:∀ i,k<=i->i<n->0<=bQ (y i) k (n-k)
theorem DomN.diag {n k:Nat} {y:Nat->Nat->Int} (h:DomN n k y) {i:Nat} (h1:k<=i) (h2:i<n):0<=y i i:=by
 have d:Dom n k (re n k y):=by
  refine ⟨fun a b hab=>?_,fun a ha hb=>?_⟩
  ·unfold re
   split
   ·rename_i c
    exact h.off a b c.1 c.2.1 c.2.2.1 c.2.2.2 hab
   ·exact Int.le_refl _
  ·rw [mM (Nat.le_refl k) (by omega) ha hb]
   exact h.sum a ha hb
 have:=d.diag h1 h2
 unfold re at this
 rwa [if_pos ⟨h1,h2,h1,h2⟩] at this
theorem qk {a b c d p:Int} (hp:0<p) (h:a*p<=b*d) (hb:b<=p*c) (hd:0<=d):a<=d*c:=by
 have h1:b*d<=p*c*d:=Int.mul_le_mul_of_nonneg_right hb hd
 have h2:a*p<=d*c*p:=by
  have e:p*c*d=d*c*p:=by grind
  omega
 exact Int.le_of_mul_le_mul_right h2 hp
theorem kA {a p:Int} (hp:0<p) (h:0<=a*p):0<=a:=by
 refine Classical.byContradiction fun hn=>?_
 have:=Int.mul_neg_of_neg_of_pos (show a<0 by omega) hp
 omega
theorem kw {a p:Int} (hp:0<p) (h:a*p<=0):a<=0:=by
 refine Classical.byContradiction fun hn=>?_
 have:=Int.mul_pos (show 0<a by omega) hp
 omega
theorem mg {A:Nat->Nat->Int} {n:Nat} (hA:DomN n 0 A):∀ {k:Nat},k<=n->(∀ t,t<k->barY A t t t≠0) ->
  0<barP A k/\DomN n k (barY A k)/\∀ i,k<=i->i<n->barY A k i i<=barP A k*A i i
 | 0,_,_=>by
  have e:barY A 0=A:=by funext i j; exact oa i j
  rw [e]
  exact ⟨Int.one_pos,hA,fun i _ _=>by show A i i<=1*A i i; omega⟩
 | k+1,hk,h=>by
  obtain ⟨p0,d,b⟩:=mg hA (k:=k) (by omega) fun t ht=>h t (by omega)
  have hkk:=d.diag (Nat.le_refl k) (show k<n by omega)
  have hne:=h k (Nat.lt_succ_self k)
  have pk:0<barY A k k k:=by omega
  have st:=kG (A:=A) (k:=k) h
  have hm:n-k=(n-(k+1))+1:=by omega
  refine ⟨pk,⟨fun i j h1 h2 h3 h4 hij=>?_,fun i h1 h2=>?_⟩,fun i h1 h2=>?_⟩
  ·have a1:=d.off i j (by omega) h2 (by omega) h4 hij
   have a2:=d.off i k (by omega) h2 (Nat.le_refl k) (by omega) (by omega)
   have a3:=d.off k j (Nat.le_refl k) (by omega) (by omega) h4 (by omega)
   have m1:=Int.mul_nonneg_of_nonpos_of_nonpos a2 a3
   have m2:=Int.mul_nonpos_of_nonpos_of_nonneg a1 (Int.le_of_lt pk)
   refine kw p0 ?_
   rw [st]
   omega
  ·have s1:=d.sum i (by omega) h2
   have s2:=d.sum k (Nat.le_refl k) (by omega)
   have a2:=d.off i k (by omega) h2 (Nat.le_refl k) (by omega) (by omega)
   rw [hm] at s1 s2
   simp only [bQ] at s1 s2
   refine kA p0 ?_
   rw [<- mS,gy (g:=fun j=>barY A k k k*barY A k i j-barY A k i k*barY A k k j) fun j=>by rw [st,Int.mul_comm],ny]
   have m1:=Int.mul_nonneg (Int.le_of_lt pk) s1
   have m2:=Int.mul_nonpos_of_nonpos_of_nonneg a2 s2
   rw [Int.mul_add] at m1 m2
   have e:barY A k k k*barY A k i k=barY A k i k*barY A k k k:=Int.mul_comm ..
   omega
  ·have a2:=d.off i k (by omega) h2 (Nat.le_refl k) (by omega) (by omega)
   have a3:=d.off k i (Nat.le_refl k) (by omega) (by omega) h2 (by omega)
   have m1:=Int.mul_nonneg_of_nonpos_of_nonpos a2 a3
   refine qk p0 (b:=barY A k i i) (d:=barY A k k k) ?_ (b i (by omega) h2) (Int.le_of_lt pk)
   rw [st]
   omega
end
section
inductive Cn (E:Lb (Nat×Nat)):Nat->Nat->Prop
 | refl (a:Nat):Cn E a a
 | step {a b c:Nat} (h:Cn E a b) (e:(b,c)∈E∨(c,b)∈E):Cn E a c
section
variable {E F:Lb (Nat×Nat)} {a b c u v:Nat}
theorem Cn.trans (h:Cn E a b) (k:Cn E b c):Cn E a c:=by
 induction k with
 | refl=>exact h
 | step _ e ih=>exact .step ih e
theorem Cn.edge (e:(a,b)∈E):Cn E a b:=.step (.refl a) (.inl e)
theorem Cn.symm (h:Cn E a b):Cn E b a:=by
 induction h with
 | refl=>exact .refl _
 | step _ e ih=>exact Cn.trans (.step (.refl _) e.symm) ih
theorem Cn.mono (h:Cn E a b) (s:∀ e∈E,e∈F):Cn F a b:=by
 induction h with
 | refl=>exact .refl _
 | step _ e ih=>exact .step ih (e.imp (s _) (s _))
theorem Cn.snoc (h:Cn (E++[(u,v)]) a b):Cn E a b∨(Cn E a u/\Cn E v b)∨(Cn E a v/\Cn E u b):=by
 induction h with
 | refl=>exact .inl (.refl _)
 | @step b c _ e ih=>
  have key:((b,c)∈E∨(c,b)∈E)∨(b=u/\c=v)∨(b=v/\c=u):=by
   simp only [List.mem_append,List.mem_singleton,Prod.mk.injEq] at e
   rcases e with (e | e) | (e | e)
   ·exact .inl (.inl e)
   ·exact .inr (.inl e)
   ·exact .inl (.inr e)
   ·exact .inr (.inr ⟨e.2,e.1⟩)
  rcases key with e | ⟨rfl,rfl⟩ | ⟨rfl,rfl⟩
  ·rcases ih with h | ⟨h1,h2⟩ | ⟨h1,h2⟩
   ·exact .inl (.step h e)
   ·exact .inr (.inl ⟨h1,.step h2 e⟩)
   ·exact .inr (.inr ⟨h1,.step h2 e⟩)
  ·rcases ih with h | ⟨h1,h2⟩ | ⟨h1,h2⟩
   ·exact .inr (.inl ⟨h,.refl _⟩)
   ·exact .inr (.inl ⟨h1,.refl _⟩)
   ·exact .inl h1
  ·rcases ih with h | ⟨h1,h2⟩ | ⟨h1,h2⟩
   ·exact .inr (.inr ⟨h,.refl _⟩)
   ·exact .inl h1
   ·exact .inr (.inr ⟨h1,.refl _⟩)
inductive Acyc:Lb (Nat×Nat)->Prop
 | nil:Acyc []
 | snoc {E:Lb (Nat×Nat)} {e:Nat×Nat} (h:Acyc E) (n:¬ Cn E e.1 e.2):Acyc (E++[e])
theorem Acyc.sub (h:Acyc E):∀ {F:Lb (Nat×Nat)},F.Sublist E->Acyc F:=by
 induction h with
 | nil=>
  intro F s
  rw [List.sublist_nil.1 s]
  exact .nil
 | @snoc E e h n ih=>
  intro F s
  obtain ⟨F1,F2,rfl,s1,s2⟩:=List.sublist_append_iff.1 s
  cases F2 with
  | nil=>rw [List.append_nil]; exact ih s1
  | cons x F3=>
   have h3:F3=[]:=by
    have:=s2.length_le
    simp only [leC,leN] at this
    exact List.eq_nil_of_length_eq_zero (by omega)
   subst h3
   obtain rfl:x=e:=by simpa using s2.subset (List.mem_cons_self ..)
   exact .snoc (ih s1) fun hc=>n (hc.mono fun x hx=>s1.subset hx)
def cv (E:Lb (Nat×Nat)) (x:Nat):Prop:=∀ y,y<x->¬ Cn E x y
theorem rJ (E:Lb (Nat×Nat)) (u:Nat):∃ a,Cn E u a/\cv E a/\a<=u:=by
 induction u using Nat.strongRecOn with
 | ind u ih=>
  by_cases h:cv E u
  ·exact ⟨u,.refl _,h,Nat.le_refl _⟩
  ·have:∃ y,y<u/\Cn E u y:=Classical.byContradiction fun hc=>h fun y hy k=>hc ⟨y,hy,k⟩
   obtain ⟨y,hy,k⟩:=this
   obtain ⟨a,h1,h2,h3⟩:=ih y hy
   exact ⟨a,k.trans h1,h2,by omega⟩
theorem gO (h:cv E a) (k:Cn E a b):a<=b:=Classical.byContradiction fun hc=>h b (by omega) k
theorem lZ (h:cv E a) (h' : cv E b) (k:Cn E a b):a=b:=Nat.le_antisymm (gO h k) (gO h' k.symm)
theorem rT (hn:¬ Cn E u v):∃ m,cv E m/\m<=max u v/\∀ x,cv (E++[(u,v)]) x↔cv E x/\x≠m:=by
 obtain ⟨a,a1,a2,a3⟩:=rJ E u
 obtain ⟨b,b1,b2,b3⟩:=rJ E v
 have hab:a≠b:=fun e=>hn (a1.trans (by rw [e]; exact b1.symm))
 have sub:∀ e∈E,e∈E++[(u,v)]:=fun e he=>List.mem_append_left _ he
 have join:Cn (E++[(u,v)]) a b:=((a1.symm.mono sub).trans (.edge (List.mem_append_right _ (List.mem_singleton.2 I)))).trans (b1.mono sub)
 have back:∀ x m,cv E x->(m=max a b)->x≠m->cv (E++[(u,v)]) x:=by
  intro x m hx hm hne y hy hc
  rcases hc.snoc with h | ⟨h1,h2⟩ | ⟨h1,h2⟩
  ·exact hx y hy h
  ·have e1:=lZ hx a2 (h1.trans a1)
   have e2:=gO b2 (b1.symm.trans h2)
   omega
  ·have e1:=lZ hx b2 (h1.trans b1)
   have e2:=gO a2 (a1.symm.trans h2)
   omega
 refine ⟨max a b,?_,by omega,fun x=>⟨fun h=>⟨fun y hy hc=>h y hy (hc.mono sub),fun e=>?_⟩,fun h=>back x _ h.1 I h.2⟩⟩
 ·rcases Nat.le_total a b with c | c
  ·rw [Nat.max_eq_right c]; exact b2
  ·rw [Nat.max_eq_left c]; exact a2
 ·rcases Nat.le_total a b with c | c
  ·rw [Nat.max_eq_right c] at e
   exact h a (by omega) (by rw [e]; exact join.symm)
  ·rw [Nat.max_eq_left c] at e
   exact h b (by omega) (by rw [e]; exact join)
open Classical in
noncomputable def cntR (E:Lb (Nat×Nat)):Nat->Nat
 | 0=>0
 | n+1=>cntR E n+if cv E n then 1 else 0
theorem nG:∀ n,cntR [] n=n
 | 0=>rfl
 | n+1=>by
  have h:cv [] n:=fun y hy hc=>by
   cases hc with
   | refl=>omega
   | step _ e=>rcases e with e | e<;>cases e
  simp only [cntR]
  rw [nG n,if_pos h]
theorem mO {E F:Lb (Nat×Nat)} {m:Nat} (hm:cv E m) (h:∀ x,cv F x↔cv E x/\x≠m):∀ n,cntR F n+(if m<n then 1 else 0)=cntR E n
 | 0=>by simp [cntR]
 | n+1=>by
  have ih:=mO hm h n
  have hx:=h n
  simp only [cntR]
  by_cases c:n=m
  ·subst c
   rw [if_neg (fun hc=>(hx.1 hc).2 I),if_pos hm,if_pos (Nat.lt_succ_self n)]
   rw [if_neg (Nat.lt_irrefl n)] at ih
   omega
  ·by_cases r:cv E n
   ·rw [if_pos (hx.2 ⟨r,c⟩),if_pos r]
    by_cases d:m<n
    ·rw [if_pos d] at ih
     rw [if_pos (by omega)]
     omega
    ·rw [if_neg d] at ih
     rw [if_neg (by omega)]
     omega
   ·rw [if_neg fun hc=>r (hx.1 hc).1,if_neg r]
    by_cases d:m<n
    ·rw [if_pos d] at ih
     rw [if_pos (by omega)]
     omega
    ·rw [if_neg d] at ih
     rw [if_neg (by omega)]
     omega
theorem kc {N:Nat} (h:Acyc E):(∀ e∈E,e.1<N/\e.2<N)->cntR E N+E.length=N:=by
 induction h with
 | nil=>exact fun _=>by rw [nG]; rfl
 | @snoc E e h n ih=>
  intro hE
  obtain ⟨u,v⟩:=e
  have h0:=ih fun x hx=>hE x (List.mem_append_left _ hx)
  have h1:=hE (u,v) (List.mem_append_right _ (List.mem_singleton.2 I))
  simp only at h1 n
  obtain ⟨m,m1,m2,m3⟩:=rT n
  have h2:=mO m1 m3 N
  rw [if_pos (by omega)] at h2
  rw [List.length_append,List.length_singleton]
  omega
end
end
def FU:Nat:=18446744073709552000
theorem gd:18446744073709551616<FU:=by unfold FU; omega
theorem av {k:Nat} (h:k<=1000000000):k<FU:=by unfold FU; omega
def Mat (m:Nat) (A:Nat->Nat->Int) (M:Lb (Lb Tb)):Prop:=M.length=m/\∀ i,i<m->∃ r,M[i]? = some r/\r.length=m/\∀ j,j<m->r[j]? = some (L (A i j))
theorem Mat.congr {m:Nat} {A B:Nat->Nat->Int} {M:Lb (Lb Tb)} (h:Mat m A M) (e:∀ i j,i<m->j<m->A i j=B i j):Mat m B M:=
 ⟨h.1,fun i hi=>by
  obtain ⟨r,h1,h2,h3⟩:=h.2 i hi
  exact ⟨r,h1,h2,fun j hj=>by rw [h3 j hj,e i j hi hj]⟩⟩
theorem Mat.set {m:Nat} {A:Nat->Nat->Int} {M:Lb (Lb Tb)} (h:Mat m A M) {i j:Nat} {r:Lb Tb} (hr:M[i]? = some r) (v:Int) :
  Mat m (fun x y=>if x=i/\y=j then v else A x y) (M.set i (r.set j (L v))):=by
 refine ⟨by rw [List.length_set]; exact h.1,fun x hx=>?_⟩
 by_cases e:x=i
 ·subst e
  obtain ⟨r', h1,h2,h3⟩:=h.2 x hx
  rw [hr] at h1
  cases h1
  refine ⟨r.set j (L v),by rw [List.getElem?_set_self (by rw [h.1]; exact hx)],by rw [List.length_set]; exact h2,fun y hy=>?_⟩
  dsimp only
  by_cases e2:y=j
  ·subst e2
   rw [List.getElem?_set_self (by rw [h2]; exact hy),if_pos ⟨rfl,rfl⟩]
  ·rw [List.getElem?_set_ne (fun q=>e2 q.symm),h3 y hy,if_neg (fun q=>e2 q.2)]
 ·obtain ⟨r', h1,h2,h3⟩:=h.2 x hx
  refine ⟨r', by rw [List.getElem?_set_ne (fun q=>e q.symm)]; exact h1,h2,fun y hy=>?_⟩
  dsimp only
  rw [h3 y hy,if_neg (fun q=>e q.1)]
def cY (A:Nat->Nat->Int) (i j:Nat) (z:Int):Nat->Nat->Int:=fun x y=>if x=i/\y=j then A i j+z else A x y
theorem ig {m:Nat} {A:Nat->Nat->Int} {M:Lb (Lb Tb)} (h:Mat m A M) {i j:Nat} (hi:i<m) (hj:j<m) {z:Int} (hz:Sm z) (hf:Fit 1 (A i j)) :
  ∃ r w,idx M (i:Int)=some r/\idx r (j:Int)=some (L (A i j))/\bg_p FU z=some (L z)/\aw_p FU (L (A i j)) (L z)=some (L (A i j+z))/\put r ((((j:Int).toNat:Nat):Int)) (L (A i j+z))=some w/\Mat m (cY A i j z) (M.set (i:Int).toNat w):=by
 obtain ⟨r,h1,h2,h3⟩:=h.2 i hi
 refine ⟨r,r.set j (L (A i j+z)),by rw [aF]; exact h1,by rw [aF]; exact h3 j hj,fF FU z hz (av (by omega)),eb FU 1 _ _ hf hz.w.fit (av (by omega)) (by omega),?_,?_⟩
 ·rw [Int.toNat_natCast]; exact bc _ (by rw [h2]; exact hj)
 ·rw [Int.toNat_natCast]; exact h.set h1 _
theorem mW (f:Nat->Int) (c:Nat) (z:Int):∀ m k,bQ (fun j=>if j=c then f c+z else f j) k m=bQ f k m+(if k<=c/\c<k+m then z else 0)
 | 0,k=>by
  rw [if_neg (by omega)]
  simp [bQ]
 | m+1,k=>by
  simp only [bQ]
  rw [mW f c z m (k+1)]
  by_cases e:k=c
  ·subst e
   rw [if_pos I,if_neg (by omega),if_pos (by omega)]
   omega
  ·rw [if_neg e]
   by_cases h1:k+1<=c/\c<k+1+m
   ·rw [if_pos h1,if_pos (by omega)]; omega
   ·rw [if_neg h1,if_neg (by omega)]; omega
theorem kZ {f g:Nat->Int} {m k:Nat} (h:∀ j,f j=g j):bQ f k m=bQ g k m:=gy h
theorem gV {m:Nat} (A:Nat->Nat->Int) (i j x:Nat) (z:Int) (hj:j<m):bQ (cY A i j z x) 0 m=bQ (A x) 0 m+(if x=i then z else 0):=by
 by_cases e:x=i
 ·subst e
  rw [if_pos I,<- show _=bQ (A x) 0 m+z from (mW (A x) j z m 0).trans (by rw [if_pos ⟨Nat.zero_le _,by omega⟩])]
  refine kZ fun y=>?_
  unfold cY
  by_cases e2:y=j
  ·rw [if_pos ⟨rfl,e2⟩,if_pos e2]
  ·rw [if_neg (fun q=>e2 q.2),if_neg e2]
 ·rw [if_neg e,Int.add_zero]
  refine kZ fun y=>?_
  unfold cY
  rw [if_neg (fun q=>e q.1)]
structure Lap (m i:Nat) (A:Nat->Nat->Int) (M:List (List Tb)):Prop where
 mat:Mat m A M
 dom:DomN m 0 A
 small:∀ x y,x<m->y<m->(A x y).natAbs<=i
theorem sD {z:Int} {i:Nat} (h:z.natAbs<=i) (hi:i<=1000):Fit 1 z:=by
 unfold Fit; rw [Nat.pow_one]; omega
theorem Lap.both {m i:Nat} {A:Nat->Nat->Int} {M:Lb (Lb Tb)} (h:Lap m i A M) {a b:Nat} (ha:a<m) (hb:b<m) (hab:a≠b) {M' : Lb (Lb Tb)} (hM:Mat m (cY (cY (cY (cY A a a 1) b b 1) a b (-1)) b a (-1)) M'):Lap m (i+1) (cY (cY (cY (cY A a a 1) b b 1) a b (-1)) b a (-1)) M' :=by
 have key:∀ x y,cY (cY (cY (cY A a a 1) b b 1) a b (-1)) b a (-1) x y=A x y+(if x=a/\y=a∨x=b/\y=b then 1 else if x=a/\y=b∨x=b/\y=a then -1 else 0):=fun x y=>by
  unfold cY
  by_cases e1:x=a<;>by_cases e2:x=b<;>by_cases e3:y=a<;>by_cases e4:y=b<;>simp [*]<;>first | omega | (subst_vars; omega) | skip
  all_goals (first | (exfalso; exact hab (by rw [<- e1,<- e2])) | (exfalso; exact hab (by rw [<- e3,<- e4])) | rfl)
 refine ⟨hM,⟨fun x y _ hx _ hy hne=>?_,fun x _ hx=>?_⟩,fun x y hx hy=>?_⟩
 ·rw [key]
  have:=h.dom.off x y (Nat.zero_le _) hx (Nat.zero_le _) hy hne
  split
  ·omega
  ·split<;>omega
 ·rw [Nat.sub_zero,gV _ _ _ _ _ ha,gV _ _ _ _ _ hb,gV _ _ _ _ _ hb,gV _ _ _ _ _ ha]
  have:=h.dom.sum x (Nat.zero_le _) hx
  rw [Nat.sub_zero] at this
  by_cases e1:x=a<;>by_cases e2:x=b<;>simp [e1,e2]<;>(try subst e1)<;>(try subst e2)<;>(try simp [hab,Ne.symm hab])<;>(try omega)
 ·rw [key]
  have:=h.small x y hx hy
  split
  ·omega
  ·split<;>omega
theorem Lap.one {m i:Nat} {A:Nat->Nat->Int} {M:Lb (Lb Tb)} (h:Lap m i A M) {a:Nat} (ha:a<m) {M' : Lb (Lb Tb)} (hM:Mat m (cY A a a 1) M'):Lap m (i+1) (cY A a a 1) M' :=by
 refine ⟨hM,⟨fun x y _ hx _ hy hne=>?_,fun x _ hx=>?_⟩,fun x y hx hy=>?_⟩
 ·unfold cY
  rw [if_neg (fun q=>hne (q.1.trans q.2.symm))]
  exact h.dom.off x y (Nat.zero_le _) hx (Nat.zero_le _) hy hne
 ·rw [Nat.sub_zero,gV _ _ _ _ _ ha]
  have:=h.dom.sum x (Nat.zero_le _) hx
  rw [Nat.sub_zero] at this
  split<;>omega
 ·unfold cY
  have:=h.small x y hx hy
  have:=h.small a a ha ha
  split<;>omega
theorem Lap.mono {m i j:Nat} {A:Nat->Nat->Int} {M:Lb (Lb Tb)} (h:Lap m i A M) (hij:i<=j):Lap m j A M:=⟨h.mat,h.dom,fun x y hx hy=>Nat.le_trans (h.small x y hx hy) hij⟩
theorem has_e (n:Nat) (u:Ua) (a b:Nat):cr_p n u ((a:Int),(b:Int))=some (bit u a&&bit u b):=by
 unfold cr_p
 simp only
 rw [dR,dR]
 simp only [aa]
 by_cases h:shrU u a&&&1=1
 ·rw [if_pos h,(cg u a).1 h,Bool.true_and]
  congr 1
  by_cases h2:shrU u b&&&1=1
  ·rw [decide_eq_true h2,(cg u b).1 h2]
  ·rw [decide_eq_false h2,Bool.eq_false_iff.2 fun e=>h2 ((cg u b).2 e)]
 ·rw [if_neg h,Bool.eq_false_iff.2 fun e=>h ((cg u a).2 e),Bool.false_and]
def eF:Lb Int:=(List.range 64).map fun k:Nat=>(k:Int)
theorem qn {k:Nat} (h:k<64):eF[k]? = some (k:Int):=by unfold eF; simp [h]
theorem oh:ah (ae_l8 FU (List.replicate 64 (0:Int))) FU (0,List.replicate 64 (0:Int))=some eF:=by kernel_rfl
theorem ja {k:Nat} (h:k<64):aA_p FU eF (k:Int)=some (k:Int):=by
 unfold aA_p
 rw [show FU=18446744073709551999+1 from I,bn]
 unfold aA_l1
 simp only
 rw [aF,qn h]
 simp only [aa]
 rw [ifT]
 rfl
theorem mU {κ ν:Type} [DecidableEq κ] {k:κ} {v:ν}:∀ {D:Lb (κ×ν)},(∀ e∈D,e.1≠k)->aH D k v=D++[(k,v)]
 | [],_=>rfl
 | e::D,h=>by
  rw [aH,if_neg (fun q=>h e (List.mem_cons_self ..) q.symm),mU fun x hx=>h x (List.mem_cons_of_mem _ hx)]; rfl
def dO (T:Lb Nat):Lb (Int×Int):=T.zipIdx.map fun p=>((p.1:Int),(p.2:Int))
theorem jx (T:Lb Nat):(dO T).length=T.length:=by simp [dO]
theorem ql (T:Lb Nat) (x:Nat):dO (T++[x])=dO T++[((x:Int),(T.length:Int))]:=by simp [dO,List.zipIdx_append]
theorem sc {T:Lb Nat} {e:Int×Int} (h:e∈dO T):∃ x∈T,e.1=(x:Int):=by
 unfold dO at h
 obtain ⟨⟨x,i⟩,h1,rfl⟩:=List.mem_map.1 h
 have h2:=List.mem_zipIdx' h1
 exact ⟨x,by rw [h2.2]; exact List.getElem_mem _,rfl⟩
theorem jq (x:Nat):∀ (T:Lb Nat) (k:Nat),(x∈T->∃ i,T[i]? = some x/\aP ((T.zipIdx k).map fun p=>((p.1:Int),(p.2:Int))) (x:Int)=some ((i+k:Nat):Int))/\(x∉T->aP ((T.zipIdx k).map fun p=>((p.1:Int),(p.2:Int))) (x:Int)=none)
 | [],k=>⟨fun h=>(by cases h),fun _=>rfl⟩
 | y::T,k=>by
  obtain ⟨h1,h2⟩:=jq x T (k+1)
  rw [List.zipIdx_cons,List.map_cons]
  simp only [aP]
  by_cases e:x=y
  ·subst e
   refine ⟨fun _=>⟨0,rfl,by rw [if_pos rfl]; simp⟩,fun h=>absurd (List.mem_cons_self ..) h⟩
  ·have e' : ¬ ((x:Int)=(y:Int)):=fun q=>e (Int.ofNat_inj.1 q)
   rw [if_neg e']
   refine ⟨fun h=>?_,fun h=>h2 fun q=>h (List.mem_cons_of_mem _ q)⟩
   rcases List.mem_cons.1 h with h | h
   ·exact absurd h e
   ·obtain ⟨i,a1,a2⟩:=h1 h
    exact ⟨i+1,by simpa using a1,by rw [a2]; congr 2; omega⟩
def inT (s:Ua) (i:Nat):Lb Nat:=(List.range i).filter fun x=>bit s x&&decide (x≠low s)
theorem mem_inT {s:Ua} {i x:Nat}:x∈inT s i↔x<i/\bit s x=true/\x≠low s:=by
 unfold inT; rw [List.mem_filter,List.mem_range]; simp
theorem td (s:Ua) (i:Nat):inT s (i+1)=if bit s i=true/\i≠low s then inT s i++[i] else inT s i:=by
 unfold inT
 rw [List.range_succ,List.filter_append]
 by_cases h:bit s i=true/\i≠low s
 ·rw [if_pos h]; simp [h.1,h.2]
 ·rw [if_neg h]
  have:(bit s i&&decide (i≠low s))=false:=by
   rw [Bool.eq_false_iff]
   intro e
   rw [Bool.and_eq_true,decide_eq_true_eq] at e
   exact h e
  rw [List.filter_cons_of_neg (by rw [this]; simp),List.filter_nil,List.append_nil]
theorem inT_len {s:Ua} (h0:s≠0) {N:Nat} (hs:∀ k,bit s k=true->k<N) (hN:N<=64):(inT s 64).length<N:=by
 have e:inT s 64=inT s N:=by
  unfold inT
  exact cX hN fun k hk=>hs k (by rw [Bool.and_eq_true] at hk; exact hk.1)
 rw [e]
 unfold inT
 have h1:=bF h0
 have h2:=hs _ h1
 have:=(List.length_filter_lt_length_iff_exists (l:=List.range N) (p:=fun x=>bit s x&&decide (x≠low s))).2 ⟨low s,List.mem_range.2 h2,by simp⟩
 rwa [List.length_range] at this
theorem nN {s:Ua} (_h0:s≠0):ah (ae_l6 FU s eF ((low s:Nat):Int)) FU (0,([]:Lb (Int×Int)))=some (dO (inT s 64)):=by
 obtain ⟨r,e1,e2⟩:=am (B:=ae_l6 FU s eF ((low s:Nat):Int)) (fun s' =>64-s'.1) (fun s' =>s'.1<=64/\s'.2=dO (inT s s'.1)) (fun r=>r=dO (inT s 64)) (fun ⟨i,D⟩ J ⟨q1,q2⟩ hJ=>by
  simp only at q1 q2
  subst q2
  unfold ae_l6
  simp only
  by_cases hi:i<64
  ·rw [if_pos hi]
   have hsucc:=td s i
   by_cases hb:bit s i=true
   ·rw [if_pos ((cg s i).2 hb),ja hi]
    simp only [aa]
    rw [ifT]
    unfold jn
    simp only
    by_cases hl:i=low s
    ·rw [if_pos (by rw [<- hl])]
     rw [if_neg (fun q=>q.2 hl)] at hsucc
     exact hJ _ ⟨by simp only; omega,by simp only; rw [hsucc]⟩ (by simp only; omega)
    ·rw [if_neg (fun q=>hl (Int.ofNat_inj.1 q))]
     rw [if_pos ⟨hb,hl⟩] at hsucc
     refine hJ _ ⟨by simp only; omega,?_⟩ (by simp only; omega)
     simp only
     rw [hsucc,ql,jx]
     refine mU fun e he=>?_
     obtain ⟨x,h1,h2⟩:=sc he
     rw [h2]
     intro q
     have:=(mem_inT.1 h1).1
     omega
   ·rw [if_neg (fun q=>hb ((cg s i).1 q))]
    rw [if_neg (fun q=>hb q.1)] at hsucc
    exact hJ _ ⟨by simp only; omega,by simp only; rw [hsucc]⟩ (by simp only; omega)
  ·rw [if_neg hi]
   obtain rfl:i=64:=by omega
   exact ⟨_,rfl,rfl⟩) FU (0,[]) ⟨by simp only; omega,rfl⟩ (by simp only; exact av (by omega))
 rw [e1,e2]
theorem L_zero:L 0=⟨false,[]⟩:=by unfold L; rw [show Int.natAbs 0=0 from rfl,dg0]; rfl
theorem ov (m:Nat) (hm:m<=100) (D:Lb (Int×Int)) (hD:D.length=m):∃ M,ah (ae_l5 FU (List.replicate m ([]:Lb Tb)) D) FU (0,List.replicate m ([]:Lb Tb))=some M/\Mat m (fun _ _=>0) M:=by
 refine am (B:=ae_l5 FU (List.replicate m ([]:Lb Tb)) D) (fun s=>m-s.1) (fun s=>s.1<=m/\s.2.length=m/\∀ x,x<s.1->s.2[x]? = some (List.replicate m (L 0))) (fun M=>Mat m (fun _ _=>0) M) (fun ⟨i,M⟩ J ⟨q1,q2,q3⟩ hJ=>?_) FU (0,List.replicate m []) ⟨by simp only; omega,by simp,fun x hx=>by simp only at hx; omega⟩ (by simp only; exact av (by omega))
 simp only at q1 q2 q3
 unfold ae_l5
 simp only [List.length_replicate]
 by_cases hi:i<m
 ·rw [if_pos hi,hD,cF m _ (by omega)]
  simp only [aa]
  rw [geE (by omega)]
  simp only [aa]
  refine hJ _ ⟨by simp only; omega,by simp only [List.length_set]; exact q2,fun x hx=>?_⟩ (by simp only; omega)
  simp only at hx ⊢
  by_cases e:x=i
  ·subst e
   rw [List.getElem?_set_self (by omega),L_zero]
  ·rw [List.getElem?_set_ne (fun q=>e q.symm)]
   exact q3 x (by omega)
 ·rw [if_neg hi]
  obtain rfl:i=m:=by omega
  refine ⟨M,rfl,q2,fun x hx=>⟨_,q3 x hx,by simp,fun j hj=>by simp [hj]⟩⟩
theorem DomN.zero (m:Nat):DomN m 0 (fun _ _=>0):=by
 have:∀ n k,bQ (fun _=>(0:Int)) k n=0:=fun n=>by
  induction n with
  | zero=>intro k; rfl
  | succ n ih=>intro k; simp only [bQ]; rw [ih]; rfl
 exact ⟨fun _ _ _ _ _ _ _=>Int.le_refl _,fun i _ _=>by rw [this]; exact Int.le_refl _⟩
theorem rR {g:Tc} (h:Valid g) {e:Int×Int} (he:e∈g.fo):∃ a b:Nat,e=((a:Int),(b:Int))/\a<b/\(b:Int)<g.fN/\b<64:=by
 obtain ⟨h1,h2,h3⟩:=h.ok e he
 have:=h.n64
 exact ⟨e.1.toNat,e.2.toNat,Prod.ext (by simp only; omega) (by simp only; omega),by omega,by omega,by omega⟩
theorem qg {g:Tc} (h:Valid g) (s:Ua):ah (ae_l7 FU g s) FU 0=some ():=by
 obtain ⟨r,e1,_⟩:=am (B:=ae_l7 FU g s) (fun i=>g.fo.length-i) (fun _=>True) (fun _=>True) (fun i J _ hJ=>by
  unfold ae_l7
  simp only
  by_cases hi:i<g.fo.length
  ·rw [if_pos hi,geE hi]
   simp only [aa]
   obtain ⟨a,b,he,_⟩:=rR h (List.getElem_mem hi)
   rw [he,has_e]
   simp only [aa]
   split
   ·exact hJ _ trivial (by omega)
   ·exact hJ _ trivial (by omega)
  ·rw [if_neg hi]; exact ⟨_,rfl,trivial⟩) FU 0 trivial (av (by have:=h.len; omega))
 exact e1
theorem lH {s:Ua} {x:Nat} (h:x∈inT s 64):∃ i,(inT s 64)[i]? = some x/\i<(inT s 64).length/\(aP (dO (inT s 64)) (x:Int)).isSome=true/\ap (dO (inT s 64)) (x:Int) 0=(i:Int):=by
 obtain ⟨i,h1,h2⟩:=(jq x (inT s 64) 0).1 h
 refine ⟨i,h1,(List.getElem?_eq_some_iff.1 h1).1,?_,?_⟩
 ·show (aP (dO (inT s 64)) (x:Int)).isSome=true
  unfold dO; rw [h2]; rfl
 ·unfold ap dO; rw [h2]; rfl
theorem lP {s:Ua} {x:Nat} (h:x∉inT s 64):(aP (dO (inT s 64)) (x:Int)).isSome=false:=by
 have:=(jq x (inT s 64) 0).2 h
 unfold dO; rw [this]; rfl
theorem sm1:Sm 1:=by unfold Sm; decide
theorem smm1:Sm (-1):=by unfold Sm; decide
theorem sC {g:Tc} (h:Valid g) (s:Ua) (M0:Lb (Lb Tb)) (hM0:Mat (inT s 64).length (fun _ _=>0) M0):∃ M,ah (ae_l4 FU g s eF (dO (inT s 64))) FU (0,M0)=some M/\∃ A,Lap (inT s 64).length g.fo.length A M:=by
 have hlen:=h.len
 refine am (B:=ae_l4 FU g s eF (dO (inT s 64))) (fun s' =>g.fo.length-s'.1) (fun s' =>s'.1<=g.fo.length/\∃ A,Lap (inT s 64).length s'.1 A s'.2) (fun M=>∃ A,Lap (inT s 64).length g.fo.length A M) (fun ⟨i,M⟩ J ⟨q1,A,q2⟩ hJ=>?_) FU (0,M0) ⟨Nat.zero_le _,_,hM0,DomN.zero _,fun _ _ _ _=>Nat.le_refl _⟩ (av (by simp only; omega))
 simp only at q1 q2
 unfold ae_l4
 simp only
 by_cases hi:i<g.fo.length
 ·rw [if_pos hi,geE hi]
  simp only [aa]
  obtain ⟨a,b,he,hab,_,hb64⟩:=rR h (List.getElem_mem hi)
  rw [he,has_e]
  simp only [aa]
  by_cases hin:(bit s a&&bit s b)=true
  ·rw [if_pos hin,ja (by omega),ja hb64]
   simp only [aa]
   rw [if_neg (fun q:(a:Int)=(b:Int)=>by omega)]
   have fit:∀ {B:Nat->Nat->Int} {x y:Nat},(B x y).natAbs<=i+2->Fit 1 (B x y):=fun hh=>sD hh (by omega)
   by_cases ha:a∈inT s 64
   ·obtain ⟨pa,a1,a2,a3,a4⟩:=lH ha
    rw [if_pos a3,a4]
    obtain ⟨r1,w1,e1,e2,e3,e4,e5,m1⟩:=ig q2.mat a2 a2 sm1 (fit (by have:=q2.small pa pa a2 a2; omega))
    rw [e1]; simp only [aa]
    rw [e2]; simp only [aa]
    rw [e3]; simp only [aa]
    rw [e4]; simp only [aa]
    rw [e5]; simp only [aa]
    by_cases hb:b∈inT s 64
    ·obtain ⟨pb,b1,b2,b3,b4⟩:=lH hb
     have hne:pa≠pb:=fun q=>by subst q; rw [a1] at b1; cases b1; omega
     rw [if_pos b3,b4]
     have s1:=q2.small pb pb b2 b2
     have s2:=q2.small pa pb a2 b2
     have s3:=q2.small pb pa b2 a2
     obtain ⟨r2,w2,f1,f2,f3,f4,f5,m2⟩:=ig m1 b2 b2 sm1 (fit (by unfold cY; rw [if_neg (fun q=>hne q.1.symm)]; omega))
     rw [f1]; simp only [aa]
     rw [f2]; simp only [aa]
     rw [f4]; simp only [aa]
     rw [f5]; simp only [aa]
     obtain ⟨r3,w3,g1,g2,g3,g4,g5,m3⟩:=ig m2 a2 b2 smm1 (fit (by unfold cY; rw [if_neg (fun q=>hne q.1),if_neg (fun q=>hne q.2.symm)]; omega))
     rw [g1]; simp only [aa]
     rw [g2]; simp only [aa]
     rw [g3]; simp only [aa]
     rw [g4]; simp only [aa]
     rw [g5]; simp only [aa]
     obtain ⟨r4,w4,k1,k2,k3,k4,k5,m4⟩:=ig m3 b2 a2 smm1 (fit (by unfold cY; rw [if_neg (fun q=>hne q.1.symm),if_neg (fun q=>hne q.2),if_neg (fun q=>hne q.1.symm)]; omega))
     rw [k1]; simp only [aa]
     rw [k2]; simp only [aa]
     rw [k4]; simp only [aa]
     rw [k5]; simp only [aa]
     exact hJ _ ⟨by simp only; omega,_,q2.both a2 b2 hne m4⟩ (by simp only; omega)
    ·rw [if_neg (by rw [lP hb]; simp)]
     exact hJ _ ⟨by simp only; omega,_,q2.one a2 m1⟩ (by simp only; omega)
   ·rw [if_neg (by rw [lP ha]; simp)]
    by_cases hb:b∈inT s 64
    ·obtain ⟨pb,b1,b2,b3,b4⟩:=lH hb
     rw [if_pos b3,b4]
     obtain ⟨r1,w1,e1,e2,e3,e4,e5,m1⟩:=ig q2.mat b2 b2 sm1 (fit (by have:=q2.small pb pb b2 b2; omega))
     rw [e1]; simp only [aa]
     rw [e2]; simp only [aa]
     rw [e3]; simp only [aa]
     rw [e4]; simp only [aa]
     rw [e5]; simp only [aa]
     exact hJ _ ⟨by simp only; omega,_,q2.one b2 m1⟩ (by simp only; omega)
    ·rw [if_neg (by rw [lP hb]; simp)]
     exact hJ _ ⟨by simp only; omega,_,q2.mono (Nat.le_succ i)⟩ (by simp only; omega)
  ·rw [if_neg hin]
   exact hJ _ ⟨by simp only; omega,_,q2.mono (Nat.le_succ i)⟩ (by simp only; omega)
 ·rw [if_neg hi]
  obtain rfl:i=g.fo.length:=by omega
  exact ⟨_,I,_,q2⟩
section
def szw:Nat->Nat
 | 0=>1
 | k+1=>2*szw k+1
theorem szw_le:∀ k,k<=8->szw k<=511:=by decide
theorem sO {a b:Int} (h:b≠0):(a/b).natAbs<=a.natAbs:=by
 have h1:=Int.mul_ediv_add_emod a b
 have h2:=Int.emod_nonneg a h
 have h3:=Int.emod_lt a h
 generalize hq:a/b=q at h1 ⊢
 generalize a%b=r at h1 h2 h3
 by_cases h0:q=0
 ·subst h0; omega
 ·have hm:(b*q).natAbs=b.natAbs*q.natAbs:=Int.natAbs_mul b q
  have hb:1<=b.natAbs:=by omega
  have hq1:1<=q.natAbs:=by omega
  have k1:q.natAbs<=b.natAbs*q.natAbs:=Nat.le_mul_of_pos_left _ hb
  by_cases ha:0<=a
  ·by_cases hbq:0<=b*q
   ·omega
   ·exfalso
    have k2:b.natAbs<=b.natAbs*q.natAbs:=Nat.le_mul_of_pos_right _ hq1
    omega
  ·by_cases hbq:0<=b*q
   ·omega
   ·have k3:b.natAbs*q.natAbs=b.natAbs*(q.natAbs-1)+b.natAbs:=by
     rw [<- Nat.mul_succ]; congr 1; omega
    have k4:q.natAbs-1<=b.natAbs*(q.natAbs-1):=Nat.le_mul_of_pos_left _ hb
    omega
theorem Fit.ediv {l:Nat} {a b:Int} (ha:Fit l a) (h:b≠0):Fit l (a/b):=Nat.lt_of_le_of_lt (sO h) ha
theorem Fit.sub {l:Nat} {a b:Int} (ha:Fit l a) (hb:Fit l b):Fit (l+1) (a-b):=by
 rw [Int.sub_eq_add_neg]; exact ha.add hb.neg
section
variable {A:Nat->Nat->Int} {m:Nat}
theorem oQ {k:Nat} (h:∀ t,t<k->barY A t t t≠0):barP A k≠0:=by
 cases k with
 | zero=>exact Int.one_ne_zero
 | succ k=>exact h k (Nat.lt_succ_self k)
theorem pw (hA:∀ x y,x<m->y<m->Fit 1 (A x y)):∀ k,k<=m->(∀ t,t<k->barY A t t t≠0)->∀ i j,i<m->j<m->Fit (szw k) (barY A k i j)
 | 0,_,_,i,j,hi,hj=>by rw [oa]; exact hA i j hi hj
 | k+1,hk,h,i,j,hi,hj=>by
  have h' : ∀ t,t<k->barY A t t t≠0:=fun t ht=>h t (by omega)
  rw [<- nJ h]
  have ih:=pw hA k (by omega) h'
  refine Fit.ediv ?_ (oQ h')
  have a1:=(ih i j hi hj).mul (ih k k (by omega) (by omega))
  have a2:=(ih i k hi (by omega)).mul (ih k j (by omega) hj)
  have:=a1.sub a2
  exact this.mono (by show szw k+szw k+1<=2*szw k+1; omega)
theorem jV (hA:∀ x y,x<m->y<m->Fit 1 (A x y)) (hm:m<=8) {k:Nat} (hk:k<=m) (h:∀ t,t<k->barY A t t t≠0) {i j:Nat} (hi:i<m) (hj:j<m):Fit 511 (barY A k i j):=
 (pw hA k hk h i j hi hj).mono (szw_le k (by omega))
theorem sF (hA:∀ x y,x<m->y<m->Fit 1 (A x y)) (hm:m<=8) {k:Nat} (hk:k<=m) (h:∀ t,t<k->barY A t t t≠0):Fit 511 (barP A k):=by
 cases k with
 | zero=>exact Fit.mono (l:=1) (show Fit 1 1 by unfold Fit; decide) (by omega)
 | succ k=>exact jV hA hm (by omega) (fun t ht=>h t (by omega)) (by omega) (by omega)
theorem ri (hA:∀ x y,x<m->y<m->Fit 1 (A x y)) (hm:m<=8) {k r:Nat} (hk:k<r) (hr:r<m) (h:∀ t,t<k+1->barY A t t t≠0) (V:Nat->Nat->Int) (hV:∀ i j,k<=i->i<m->k<=j->j<m->(i=k∨r<=i)->V i j=barY A k i j) (M0:Lb (Lb Tb)) (hM:Mat m V M0) :
  ∃ M,ah (ae_l1 FU r k (L (barY A k r k)) (L (barP A k)).fe (L (barP A k)).fk) FU (k,M0)=some M/\Mat m (fun i j=>if i=r/\k<=j then barY A (k+1) r j else V i j) M:=by
 have h' : ∀ t,t<k->barY A t t t≠0:=fun t ht=>h t (by omega)
 refine am (B:=ae_l1 FU r k (L (barY A k r k)) (L (barP A k)).fe (L (barP A k)).fk) (fun s=>m-s.1) (fun s=>k<=s.1/\s.1<=m/\Mat m (fun i j=>if i=r/\k<=j/\j<s.1 then barY A (k+1) r j else V i j) s.2) (fun M=>Mat m (fun i j=>if i=r/\k<=j then barY A (k+1) r j else V i j) M) (fun ⟨c,M⟩ J ⟨q1,q2,q3⟩ hJ=>?_) FU (k,M0) ⟨Nat.le_refl _,by simp only; omega,hM.congr fun i j _ _=>by rw [if_neg (by omega)]⟩ (av (by simp only; omega))
 simp only at q1 q2 q3
 unfold ae_l1
 simp only
 rw [q3.1]
 by_cases hc:c<m
 ·rw [if_pos hc]
  obtain ⟨rr,a1,a2,a3⟩:=q3.2 r hr
  obtain ⟨rk,b1,b2,b3⟩:=q3.2 k (by omega)
  rw [a1]; simp only [aa]
  rw [a3 c hc]; simp only [aa]
  rw [b1]; simp only [aa]
  rw [b3 k (by omega)]; simp only [aa]
  rw [b3 c hc]; simp only [aa]
  rw [if_neg (by omega),if_neg (by omega),if_neg (by omega),hV r c (by omega) hr q1 hc (.inr (Nat.le_refl _)),hV k k (Nat.le_refl _) (by omega) (Nat.le_refl _) (by omega) (.inl I),hV k c (Nat.le_refl _) (by omega) q1 hc (.inl I)]
  have f1:=jV hA hm (show k<=m by omega) h' hr hc
  have f2:=jV hA hm (show k<=m by omega) h' (show k<m by omega) (show k<m by omega)
  have f3:=jV hA hm (show k<=m by omega) h' hr (show k<m by omega)
  have f4:=jV hA hm (show k<=m by omega) h' (show k<m by omega) hc
  have f5:=sF hA hm (show k<=m by omega) h'
  have g1:=(f1.mul f2).mono (m:=1022) (by omega)
  have g2:=(f3.mul f4).mono (m:=1022) (by omega)
  rw [cB FU 511 511 _ _ f1 f2 (av (by omega)) (by omega)]; simp only [aa]
  rw [cB FU 511 511 _ _ f3 f4 (av (by omega)) (by omega)]; simp only [aa]
  rw [sT FU 1022 _ _ g1 g2 (av (by omega)) (by omega)]; simp only [aa]
  rw [show (⟨(L (barP A k)).fe,(L (barP A k)).fk⟩:Tb)=L (barP A k) from I]
  rw [oD FU 1023 _ _ (g1.sub g2) (f5.mono (by omega)) (oQ h') (by omega) gd]; simp only [aa]
  rw [nJ h,bc _ (by rw [a2]; exact hc)]; simp only [aa]
  refine hJ _ ⟨by simp only; omega,by simp only; omega,?_⟩ (by simp only; omega)
  refine (q3.set a1 (barY A (k+1) r c) (j:=c)).congr fun i j _ _=>?_
  dsimp only
  by_cases e:i=r/\j=c
  ·rw [if_pos e,e.2,if_pos ⟨e.1,by omega,by omega⟩]
  ·rw [if_neg e]
   by_cases e2:i=r/\k<=j/\j<c
   ·rw [if_pos e2,if_pos ⟨e2.1,e2.2.1,by omega⟩]
   ·rw [if_neg e2,if_neg (by omega)]
 ·rw [if_neg hc]
  obtain rfl:c=m:=by omega
  refine ⟨M,I,q3.congr fun i j _ hj=>?_⟩
  by_cases e:i=r/\k<=j
  ·rw [if_pos e,if_pos ⟨e.1,e.2,hj⟩]
  ·rw [if_neg e,if_neg (fun q=>e ⟨q.1,q.2.1⟩)]
theorem pU (hA:∀ x y,x<m->y<m->Fit 1 (A x y)) (hm:m<=8) {k:Nat} (hk:k<m) (h:∀ t,t<k+1->barY A t t t≠0) (V:Nat->Nat->Int) (hV:∀ i j,k<=i->i<m->k<=j->j<m->V i j=barY A k i j) (M0:Lb (Lb Tb)) (hM:Mat m V M0) :
  ∃ M,ah (ae_l2 FU k (L (barP A k)).fe (L (barP A k)).fk) FU (k+1,M0)=some M/\Mat m (fun i j=>if k<i/\k<=j then barY A (k+1) i j else V i j) M:=by
 refine am (B:=ae_l2 FU k (L (barP A k)).fe (L (barP A k)).fk) (fun s=>m-s.1) (fun s=>k+1<=s.1/\s.1<=m/\Mat m (fun i j=>if k<i/\i<s.1/\k<=j then barY A (k+1) i j else V i j) s.2) (fun M=>Mat m (fun i j=>if k<i/\k<=j then barY A (k+1) i j else V i j) M) (fun ⟨r,M⟩ J ⟨q1,q2,q3⟩ hJ=>?_) FU (k+1,M0) ⟨Nat.le_refl _,by simp only; omega,hM.congr fun i j _ _=>by rw [if_neg (by omega)]⟩ (av (by simp only; omega))
 simp only at q1 q2 q3
 unfold ae_l2
 simp only
 rw [q3.1]
 by_cases hr:r<m
 ·rw [if_pos hr]
  obtain ⟨rr,a1,a2,a3⟩:=q3.2 r hr
  rw [a1]; simp only [aa]
  rw [a3 k hk]; simp only [aa]
  rw [if_neg (by omega),hV r k (by omega) hr (Nat.le_refl _) hk]
  obtain ⟨M', e1,e2⟩:=ri hA hm (k:=k) (r:=r) (by omega) hr h (fun i j=>if k<i/\i<r/\k<=j then barY A (k+1) i j else V i j) (fun i j h1 h2 h3 h4 h5=>by
   rw [if_neg (by omega)]
   exact hV i j h1 h2 h3 h4) M q3
  rw [e1]; simp only [aa]
  refine hJ _ ⟨by simp only; omega,by simp only; omega,e2.congr fun i j _ _=>?_⟩ (by simp only; omega)
  by_cases e:i=r/\k<=j
  ·rw [if_pos e,e.1,if_pos ⟨by omega,by omega,e.2⟩]
  ·rw [if_neg e]
   by_cases e2:k<i/\i<r/\k<=j
   ·rw [if_pos e2,if_pos ⟨e2.1,by omega,e2.2.2⟩]
   ·rw [if_neg e2,if_neg (by omega)]
 ·rw [if_neg hr]
  obtain rfl:r=m:=by omega
  refine ⟨M,I,q3.congr fun i j hi _=>?_⟩
  by_cases e:k<i/\k<=j
  ·rw [if_pos e,if_pos ⟨e.1,hi,e.2⟩]
  ·rw [if_neg e,if_neg (fun q=>e ⟨q.1,q.2.2⟩)]
theorem rx (hA:∀ x y,x<m->y<m->Fit 1 (A x y)) (hm:m<=8) (M0:Lb (Lb Tb)) (hM:Mat m A M0) :
  ∃ r,ah (ae_l3 FU M0) FU (0,(L 1).fe,(L 1).fk,M0)=some r/\(r=.inl (W8 0,0)∨r=.inr ((L (barP A m)).fe,(L (barP A m)).fk)/\∀ t,t<m->barY A t t t≠0):=by
 refine am (B:=ae_l3 FU M0) (fun s=>m-s.1) (fun s=>s.1<=m/\(∀ t,t<s.1->barY A t t t≠0)/\s.2.1=(L (barP A s.1)).fe/\s.2.2.1=(L (barP A s.1)).fk/\∃ V,Mat m V s.2.2.2/\∀ i j,s.1<=i->i<m->s.1<=j->j<m->V i j=barY A s.1 i j) _ (fun ⟨k,q,xs,M⟩ J ⟨q1,q2,q3,q4,V,q5,q6⟩ hJ=>?_) FU (0,(L 1).fe,(L 1).fk,M0) ⟨Nat.zero_le _,fun t ht=>by simp only at ht; omega,rfl,rfl,A,hM,fun i j _ _ _ _=>(oa i j).symm⟩ (av (by simp only; omega))
 simp only at q1 q2 q3 q4 q5 q6
 subst q3 q4
 unfold ae_l3
 simp only
 rw [hM.1]
 by_cases hk:k<m
 ·rw [if_pos hk]
  obtain ⟨rr,a1,a2,a3⟩:=q5.2 k hk
  rw [a1]; simp only [aa]
  rw [a3 k hk]; simp only [aa]
  rw [q6 k k (Nat.le_refl _) hk (Nat.le_refl _) hk,mq]; simp only [aa]
  by_cases h0:barY A k k k=0
  ·rw [h0,Int.sign_zero,if_pos rfl,fF FU 0 (by unfold Sm; decide) (av (by omega))]; simp only [aa]
   rw [iW FU 0 (by unfold Sm; decide) (av (by omega))]
   exact ⟨_,I,.inl I⟩
  ·rw [if_neg (fun e=>h0 (Int.sign_eq_zero_iff_zero.1 e))]
   have h2:∀ t,t<k+1->barY A t t t≠0:=fun t ht=>by
    rcases Nat.lt_or_ge t k with h3 | h3
    ·exact q2 t h3
    ·obtain rfl:t=k:=by omega
     exact h0
   obtain ⟨M', e1,e2⟩:=pU hA hm hk h2 V q6 M q5
   rw [e1]; simp only [aa]
   obtain ⟨rk,b1,b2,b3⟩:=e2.2 k hk
   rw [b1]; simp only [aa]
   rw [b3 k hk]; simp only [aa]
   rw [if_neg (by omega),q6 k k (Nat.le_refl _) hk (Nat.le_refl _) hk]
   refine hJ _ ⟨by simp only; omega,h2,rfl,rfl,_,e2,fun i j h3 h4 h5 h6=>?_⟩ (by simp only; omega)
   simp only at h3 h5 ⊢
   rw [if_pos ⟨by omega,by omega⟩]
 ·rw [if_neg hk]
  obtain rfl:k=m:=by omega
  exact ⟨_,I,.inr ⟨I,q2⟩⟩
theorem oP {c:Nat} (hA:DomN m 0 A) (hs:∀ x,x<m->(A x x).natAbs<=c):∀ k,k<=m->(∀ t,t<k->barY A t t t≠0)->0<barP A k/\barP A k<=((c^k:Nat):Int)
 | 0,_,_=>⟨by show (0:Int)<1; decide,by show (1:Int)<=_; simp⟩
 | k+1,hk,h=>by
  have h' : ∀ t,t<k->barY A t t t≠0:=fun t ht=>h t (by omega)
  obtain ⟨i1,i2⟩:=oP hA hs k (by omega) h'
  obtain ⟨d0,_,_⟩:=mg hA (k:=k+1) hk h
  obtain ⟨_,_,d2⟩:=mg hA (k:=k) (by omega) h'
  have d3:=d2 k (Nat.le_refl _) (by omega)
  have d4:=hs k (by omega)
  refine ⟨d0,?_⟩
  show barY A k k k<=_
  refine Int.le_trans d3 ?_
  rw [Nat.pow_succ,Int.natCast_mul]
  have h5:barP A k*A k k<=barP A k*(c:Int):=Int.mul_le_mul_of_nonneg_left (by omega) (by omega)
  have h6:barP A k*(c:Int)<=((c^k:Nat):Int)*(c:Int):=Int.mul_le_mul_of_nonneg_right i2 (by omega)
  omega
end
theorem tj {g:Tc} (h:Valid g) {N:Nat} (hN:g.fN=(N:Int)) (h9:N<=9) (he:g.fo.length<=36) {s:Ua} (h0:s≠0) (hs:cS g.fN s):∃ D:Nat,D<=2821109907456/\ae_p FU g s=some (W8 (D:Int),0):=by
 have hs' : ∀ k,bit s k=true->k<N:=fun k hk=>by have:=hs k hk; omega
 have hlen:=inT_len h0 hs' (by omega)
 unfold ae_p cu_p
 rw [h.check (av (by omega))]
 simp only [aa]
 rw [ifT,if_neg h0,rE FU s]
 simp only [aa]
 rw [if_neg (by have:=(ip (N:=g.fN) (u:=s) (by omega)).2 hs; omega)]
 simp only [aa]
 rw [ifT,show (64:Int)=((64:Nat):Int) from I,cF 64 (0:Int) (by omega)]
 simp only [aa]
 rw [oh]
 simp only [aa]
 rw [qg h s]
 simp only [aa]
 rw [nb FU h0]
 simp only [aa]
 have hlow:=dI (bF h0)
 rw [ja hlow]
 simp only [aa]
 rw [nN h0]
 simp only [aa]
 rw [jx,cF _ _ (by omega)]
 simp only [aa]
 obtain ⟨M0,z1,z2⟩:=ov (inT s 64).length (by omega) (dO (inT s 64)) (jx _)
 rw [z1]
 simp only [aa]
 obtain ⟨M,m1,A,lap⟩:=sC h s M0 z2
 rw [m1]
 simp only [aa]
 rw [fF FU 1 sm1 (av (by omega))]
 simp only [aa]
 have hA:∀ x y,x<(inT s 64).length->y<(inT s 64).length->Fit 1 (A x y):=fun x y hx hy=>sD (lap.small x y hx hy) (by omega)
 obtain ⟨r,e1,e2⟩:=rx hA (by omega) M lap.mat
 rw [e1]
 rcases e2 with rfl | ⟨rfl,hne⟩
 ·exact ⟨0,by omega,I⟩
 ·obtain ⟨p1,p2⟩:=oP lap.dom (c:=36) (fun x hx=>Nat.le_trans (lap.small x x hx hx) he) _ (Nat.le_refl _) hne
  have p3:(36:Nat)^(inT s 64).length<=36^8:=Nat.pow_le_pow_right (by decide) (by omega)
  have p4:(36:Nat)^8=2821109907456:=by decide
  refine ⟨(barP A (inT s 64).length).toNat,by omega,?_⟩
  unfold thn
  simp only
  rw [show (⟨(L (barP A (inT s 64).length)).fe,(L (barP A (inT s 64).length)).fk⟩:Tb)=L (barP A (inT s 64).length) from I,iW FU _ (by unfold Sm; omega) (av (by omega))]
  simp only [aa]
  rw [show (((barP A (inT s 64).length).toNat:Nat):Int)=barP A (inT s 64).length by omega]
theorem eM {g:Tc} (b:Td) (h:Valid g) {N:Nat} (hN:g.fN=(N:Int)) (h9:N<=9) (he:g.fo.length<=36) {s:Ua} (h0:s≠0) (hs:cS g.fN s):∃ D:Nat,D<=2821109907456/\bb_p FU ⟨b,g⟩ s=some (Rt ((D:Int):Rat)):=by
 obtain ⟨D,d1,d2⟩:=tj h hN h9 he h0 hs
 refine ⟨D,d1,?_⟩
 unfold bb_p
 simp only
 rw [d2]
 simp only [aa]
 rw [fQ FU _ (by unfold Sm; omega) (av (by omega))]
 simp only [aa]
 unfold cj_p
 rw [fF FU 1 sm1 (av (by omega))]
 rfl
end
structure Fld (g:Tc) (b:Td) (N k:Nat):Prop where
 val:Valid g
 n:g.fN=(N:Int)
 n1:1<=N
 n9:N<=9
 ed:g.fo.length<=36
 wl:b.fu.length=N
 w:∀ x∈b.fu,0<=x/\x<=9
 d:b.fc=(k:Int)
 k1:1<=k
 k4:k<=4
 lo:0<=b.fm
 hi:b.fm<=b.fh
def dm (W:Lb Int) (s:Ua):Int:=((ao s).map fun t=>W[t]?.getD 0).sum
def kz (g:Tc) (b:Td) (s:Ua):Prop:=Joined g s/\b.fm<=dm b.fu s/\dm b.fu s<=b.fh
theorem sm {W:Lb Int} (hW:∀ x∈W,0<=x/\x<=9) {F:Nat->Int->Oa Int} (hF:∀ t x,W[t]? = some x->∀ z,0<=z->z<=100000->F t z=some (z+x)):∀ (ts:Lb Nat) (z:Int),(∀ t∈ts,t<W.length)->0<=z->z+9*ts.length<=100000 ->
  (ts.foldlM (fun z t=>F t z) z:Oa Int)=some (z+(ts.map fun t=>W[t]?.getD 0).sum)/\0<=(ts.map fun t=>W[t]?.getD 0).sum/\(ts.map fun t=>W[t]?.getD 0).sum<=9*ts.length
 | [],z,_,_,_=>by simp
 | t::ts,z,h,h0,h1=>by
  have ht:=h t (List.mem_cons_self ..)
  have hx:=hW W[t] (List.getElem_mem ht)
  have hi:W[t]? = some W[t]:=geE ht
  rw [leC] at h1
  obtain ⟨i1,i2,i3⟩:=sm hW hF ts (z+W[t]) (fun t ht=>h t (List.mem_cons_of_mem _ ht)) (by omega) (by omega)
  rw [List.foldlM_cons,hF t _ hi z h0 (by omega),List.map_cons,List.sum_cons,hi,leC]
  simp only [Option.getD_some]
  refine ⟨?_,by omega,by omega⟩
  show List.foldlM _ _ _=_
  rw [i1]
  congr 1
  omega
theorem wsum_le {g:Tc} {b:Td} {N k:Nat} (F:Fld g b N k) {s:Ua} (hs:cS g.fN s):0<=dm b.fu s/\dm b.fu s<=576:=by
 have hb:∀ t∈ao s,t<b.fu.length:=fun t ht=>by have:=hs t (aT.1 ht); rw [F.n] at this; rw [F.wl]; omega
 have hl:=bG s
 obtain ⟨_,h2,h3⟩:=sm F.w (F:=fun t z=>(b.fu[t]?).map (z+·)) (fun t x e z _ _=>by rw [e]; rfl) (ao s) 0 hb (by omega) (by omega)
 exact ⟨h2,Int.le_trans h3 (by omega)⟩
theorem gt {g:Tc} {b:Td} {N k:Nat} (F:Fld g b N k) {s:Ua} (hs:cS g.fN s):∃ q,az_p FU ⟨b,g⟩ s=some q/\(q=true↔kz g b s):=by
 have hb:∀ t∈ao s,t<b.fu.length:=fun t ht=>by have:=hs t (aT.1 ht); rw [F.n] at this; rw [F.wl]; omega
 have hl:=bG s
 unfold az_p
 rw [kF (B:=az_l1 FU ⟨b,g⟩) (fun z=>z) (fun t z=>(aW_p FU ((t:Nat):Int) ⟨b,g⟩).bind fun y=>chk (z+y)) (fun J u z=>by
  unfold az_l1
  simp only
  by_cases h0:u=0
  ·rw [if_pos h0,if_pos h0]
  ·rw [if_neg h0,if_neg h0,nb FU h0]
   simp only [aa]
   cases aW_p FU ((low u:Nat):Int) ⟨b,g⟩<;>rfl) (ao s).length FU s 0 (Nat.le_refl _) (av (by omega))]
 obtain ⟨h1,h2,h3⟩:=sm F.w (F:=fun t z=>(aW_p FU ((t:Nat):Int) ⟨b,g⟩).bind fun y=>chk (z+y)) (fun t x e z z0 z1=>by
  unfold aW_p
  have:=F.w x (List.mem_of_getElem? e)
  simp only
  rw [aF,e]
  simp only [aa]
  rw [aQ (by omega) (by omega)]) (ao s) 0 hb (by omega) (by omega)
 rw [h1]
 obtain ⟨q,c1,c2⟩:=lM FU g F.val (av (by omega)) s hs
 simp only [Option.map_some,aa,c1,Int.zero_add]
 show ∃ q_1,(if q=true then _ else _)=_/\_
 unfold kz dm
 by_cases hq:q=true
 ·rw [if_pos hq]
  by_cases hlo:b.fm<=((ao s).map fun t=>b.fu[t]?.getD 0).sum
  ·rw [if_pos hlo]
   exact ⟨_,rfl,by rw [decide_eq_true_eq]; exact ⟨fun h=>⟨c2.1 hq,hlo,h⟩,fun h=>h.2.2⟩⟩
  ·rw [if_neg hlo]
   exact ⟨_,rfl,by simp only [Bool.false_eq_true,false_iff]; exact fun h=>hlo h.2.1⟩
 ·rw [if_neg hq]
  exact ⟨_,rfl,by simp only [Bool.false_eq_true,false_iff]; exact fun h=>hq (c2.2 h.1)⟩
theorem rK {α β:Type} {l:Lb α} (P:α->Prop) [DecidablePred P] (e:β) {B:(Nat->Oa (β⊕Unit))->Nat->Oa (β⊕Unit)} (hB:∀ J i,B J i=if h:i<l.length then (if P l[i] then J (i+1) else some (.inl e)) else some (.inr ())) {n:Nat} (hn:l.length<n) :
  ah B n 0=if ∀ x∈l,P x then some (.inr ()) else some (.inl e):=by
 have key:∀ m i,l.length-i<m->ah B m i=if ∀ x∈l.drop i,P x then some (.inr ()) else some (.inl e):=by
  intro m
  induction m with
  | zero=>intro i h; omega
  | succ m ih=>
   intro i h
   rw [bn,hB]
   by_cases hi:i<l.length
   ·rw [dif_pos hi]
    have hd:=List.drop_eq_getElem_cons hi
    by_cases hp:P l[i]
    ·have:(∀ x∈l.drop i,P x)↔∀ x∈l.drop (i+1),P x:=by
      rw [hd]
      exact ⟨fun h2 x hx=>h2 x (List.mem_cons_of_mem _ hx),fun h2 x hx=>(List.mem_cons.1 hx).elim (fun e=>e ▸ hp) (h2 x)⟩
     rw [if_pos hp,ih (i+1) (by omega)]
     simp only [this]
    ·rw [if_neg hp,if_neg fun h2=>hp (h2 _ (by rw [hd]; exact List.mem_cons_self ..))]
   ·rw [dif_neg hi,List.drop_eq_nil_of_le (by omega)]; simp
 have:=key n 0 (by omega)
 simpa using this
theorem sZ {x:Int} (h:0<=x/\x<=9):cm_p FU x=some false/\bR_p FU x=some false:=by
 unfold cm_p bR_p
 rw [if_neg (by omega),decide_eq_false (by omega)]
 exact ⟨I,I⟩
theorem checkB {g:Tc} {b:Td} {N k:Nat} (F:Fld g b N k):bS_p FU g b=some 0:=by
 have h1:=F.n; have h2:=F.n9; have h3:=F.k1; have h4:=F.k4; have h5:=F.d; have h6:=F.wl; have h7:=F.lo; have h8:=F.hi
 unfold bS_p
 rw [F.val.check (av (by omega))]
 simp only [aa]
 rw [ifT,if_pos (by omega),if_neg (by omega),if_neg (by omega),if_neg (by omega),if_neg (by omega)]
 obtain ⟨y,e,rfl⟩:=am (B:=bS_l1 FU b) (fun i:Nat=>b.fu.length-i) (fun _=>True) (fun y=>y=.inr ()) (fun i J _ hJ=>by
  unfold bS_l1
  by_cases hi:i<b.fu.length
  ·rw [if_pos hi,geE hi]
   simp only [aa]
   rw [(sZ (F.w _ (List.getElem_mem hi))).1]
   simp only [aa]
   rw [if_neg (by decide)]
   exact hJ _ trivial (by omega)
  ·rw [if_neg hi]; exact ⟨_,rfl,rfl⟩) FU 0 trivial (av (by omega))
 rw [e]
 rfl
theorem checkE {g:Tc} {b:Td} {N k:Nat} (F:Fld g b N k):bh_p FU g b=some 0:=by
 have h1:=F.n; have h2:=F.n9; have h3:=F.k1; have h4:=F.k4; have h5:=F.d; have h6:=F.wl; have h7:=F.lo; have h8:=F.hi
 unfold bh_p
 rw [F.val.check (av (by omega))]
 simp only [aa]
 rw [ifT,if_neg (by omega),if_pos (by omega)]
 obtain ⟨y,e,rfl⟩:=am (B:=bh_l1 FU b) (fun i:Nat=>b.fu.length-i) (fun _=>True) (fun y=>y=.inr ()) (fun i J _ hJ=>by
  unfold bh_l1
  by_cases hi:i<b.fu.length
  ·rw [if_pos hi,geE hi]
   simp only [aa]
   rw [(sZ (F.w _ (List.getElem_mem hi))).2]
   simp only [aa]
   rw [if_neg (by decide)]
   exact hJ _ trivial (by omega)
  ·rw [if_neg hi]; exact ⟨_,rfl,rfl⟩) FU 0 trivial (av (by omega))
 rw [e]
 unfold thn
 simp only
 rw [if_neg (by omega),if_neg (by omega),if_neg (by omega),if_neg (by omega),if_neg (by omega)]
end Go.Proofs.YtkimkkgicmipbaaGreatDoor
