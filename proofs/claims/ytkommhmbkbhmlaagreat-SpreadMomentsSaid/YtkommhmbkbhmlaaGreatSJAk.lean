/- Plain laws: words, their value, and integers of any length: sum, difference, product. No program in sight but the printed functions. -/
import Derived.Test.YtkommhmbkbhmlaaGreatSJ13
import Derived.Test.YtkommhmbkbhmlaaGreatSMl
namespace Go.Proofs.YtkommhmbkbhmlaaGreat
open Go
theorem aa {α β:Type} (x:α) (f:α -> Oa β):(some x).bind f = f x:=Eq.trans (Eq.refl _) (Eq.refl _)
theorem iN {α β:Type} (B:(α -> Oa β) -> α -> Oa β) (n:Nat) (s:α):ao B (n + 1) s = B (ao B n) s:=rfl
theorem au {α β:Type} {B:(α -> Oa β) -> α -> Oa β} (m:α -> Nat) (I:α -> Prop) (Q:β -> Prop)
  (step:∀ s J,I s -> (∀ s', I s' -> m s' < m s -> ∃ r,J s' = some r/\Q r) -> ∃ r,B J s = some r/\Q r):∀ n s,I s -> m s < n -> ∃ r,ao B n s = some r/\Q r:=by
 intro n
 induction n with
 | zero=>intro s _ h; omega
 | succ n ih=>intro s hI h; exact step s (ao B n) hI fun s' h1 h2=>ih s' h1 (by omega)
theorem aS {x:Int} (h1:-9223372036854775808 <= x) (h2:x <= 9223372036854775807):chk x = some x:=if_pos ⟨h1,h2⟩
theorem bg {α:Type} {xs:Lb α} {i:Int} (h0:0 <= i) (h:i.toNat < xs.length):idx xs i = some xs[i.toNat]:=by unfold idx; rw [if_pos h0,geE h]
theorem cC {α:Type} {xs:Lb α} {i:Nat} (x:α) (h:i < xs.length):put xs (i:Int) x = some (xs.set i x):=by
 unfold put; rw [if_pos ⟨Int.natCast_nonneg _,by omega⟩]; rfl
theorem mz {α:Type} {xs:Lb α} {z:Nat} (h:z <= xs.length):cut xs 0 (z:Int) = some (xs.take z):=by
 unfold cut; rw [if_pos ⟨Int.le_refl _,Int.natCast_nonneg _,by omega⟩]; rfl
theorem iC {α:Type} (n:Nat) (x:α) (h:n <= 4294967296):mk (n:Int) x = some (List.replicate n x):=by
 unfold mk; rw [if_pos ⟨Int.natCast_nonneg _,by omega⟩]; rfl
def val:Lb Ua -> Nat
 | []=>0
 | x :: xs=>x.toNat + 18446744073709551616 * val xs
theorem gn (xs ys:Lb Ua):val (xs ++ ys) = val xs + 18446744073709551616 ^ xs.length * val ys:=by
 induction xs with
 | nil=>simp [val]
 | cons x xs ih=>simp only [List.cons_append,val,ih,leC,Nat.pow_succ]; grind
theorem dq (xs:Lb Ua):val xs < 18446744073709551616 ^ xs.length:=by
 induction xs with
 | nil=>simp [val]
 | cons x xs ih=>
  have:=x.toNat_lt
  have h2:18446744073709551616 * (val xs + 1) <= 18446744073709551616 * 18446744073709551616 ^ xs.length:=Nat.mul_le_mul_left _ ih
  simp only [val,leC,Nat.pow_succ]
  rw [Nat.mul_comm (_ ^ _)]
  omega
theorem cy (a:Lb Ua) {i:Nat} (h:i < a.length):val (a.take (i + 1)) = val (a.take i) + 18446744073709551616 ^ i * a[i].toNat:=by
 rw [<- List.take_append_getElem h,gn,List.length_take,Nat.min_eq_left (Nat.le_of_lt h)]
 simp [val]
theorem pS {xs:Lb Ua} {i:Nat} (s:Ua) (h:i < xs.length):(xs.set i s).take (i + 1) = xs.take i ++ [s]:=by
 rw [<- List.take_append_getElem (by simpa using h),List.take_set_of_le (Nat.le_refl _)]
 simp
theorem gp {xs:Lb Ua} {i:Nat} (s:Ua) (h:i < xs.length):val ((xs.set i s).take (i + 1)) = val (xs.take i) + 18446744073709551616 ^ i * s.toNat:=by
 rw [pS s h,gn,List.length_take,Nat.min_eq_left (Nat.le_of_lt h)]
 simp [val]
theorem cN:∀ (xs:Lb Ua),(∀ x ∈ xs,x = 0) -> val xs = 0
 | [],_=>rfl
 | x :: xs,h=>by
  have h1:=h x (List.mem_cons_self ..)
  have h2:=cN xs fun y hy=>h y (List.mem_cons_of_mem _ hy)
  subst h1; simp [val,h2]
def dg (m:Nat):Lb Ua:=if m = 0 then [] else UInt64.ofNat m :: dg (m / 18446744073709551616)
termination_by m
decreasing_by exact Nat.div_lt_self (by omega) (by omega)
theorem dg0:dg 0 = []:=by unfold dg; simp
theorem jt {m:Nat} (h:m ≠ 0):dg m = UInt64.ofNat m :: dg (m / 18446744073709551616):=by rw [dg]; rw [if_neg h]
theorem aK (m:Nat):val (dg m) = m:=by
 induction m using Nat.strongRecOn with
 | _ m ih=>
  by_cases h:m = 0
  ·subst h; rw [dg0]; rfl
  ·rw [jt h]; simp only [val]
   rw [ih _ (Nat.div_lt_self (by omega) (by omega)),UInt64.toNat_ofNat']
   exact Nat.mod_add_div m 18446744073709551616
def Nm (xs:Lb Ua):Prop:=∀ x,xs.getLast? = some x -> x ≠ 0
theorem Nm.tail {x y:Ua} {xs:Lb Ua} (h:Nm (x :: y :: xs)):Nm (y :: xs):=fun z hz=>h z (by rw [List.getLast?_cons_cons]; exact hz)
theorem ik:∀ {xs:Lb Ua},Nm xs -> xs ≠ [] -> 0 < val xs
 | [],_,h=>absurd I h
 | [x],h,_=>by
  have h1:=h x I
  have:x.toNat ≠ 0:=fun e=>h1 (UInt64.toNat_inj.1 (by simpa using e))
  simp only [val]; omega
 | x :: y :: xs,h,_=>by
  have:=ik h.tail (by simp)
  simp only [val] at this ⊢
  omega
theorem kE:∀ {xs:Lb Ua},Nm xs -> xs ≠ [] -> 18446744073709551616 ^ (xs.length - 1) <= val xs
 | [],_,h=>absurd I h
 | [x],h,_=>by
  have h1:=ik h (by simp)
  show 18446744073709551616 ^ 0 <= _
  rw [Nat.pow_zero]; exact h1
 | x :: y :: xs,h,_=>by
  have h1:=kE h.tail (by simp)
  have h2:18446744073709551616 * 18446744073709551616 ^ xs.length <= 18446744073709551616 * val (y :: xs):=Nat.mul_le_mul_left _ (by simpa using h1)
  show 18446744073709551616 ^ (xs.length + 1) <= x.toNat + 18446744073709551616 * val (y :: xs)
  rw [Nat.pow_succ,Nat.mul_comm]; omega
theorem pX:∀ {xs:Lb Ua},Nm xs -> dg (val xs) = xs
 | [],_=>dg0
 | x :: xs,h=>by
  have hp:=ik h (by simp)
  rw [jt (by omega)]
  have hx:=x.toNat_lt
  have h1:UInt64.ofNat (val (x :: xs)) = x:=UInt64.toNat_inj.1 (by rw [UInt64.toNat_ofNat']; simp only [val]; omega)
  have h2:val (x :: xs) / 18446744073709551616 = val xs:=by simp only [val]; omega
  have h3:Nm xs:=by
   cases xs with
   | nil=>intro z hz; simp at hz
   | cons y ys=>exact h.tail
  rw [h1,h2,pX h3]
theorem jk (m:Nat):Nm (dg m):=by
 induction m using Nat.strongRecOn with
 | _ m ih=>
  intro x hx
  by_cases h:m = 0
  ·subst h; rw [dg0] at hx; cases hx
  ·rw [jt h] at hx
   by_cases h2:m / 18446744073709551616 = 0
   ·rw [h2,dg0] at hx
    simp at hx
    intro e; subst e
    have:=congrArg UInt64.toNat hx
    rw [UInt64.toNat_ofNat'] at this
    simp at this; omega
   ·have h3:=ih (m / 18446744073709551616) (Nat.div_lt_self (by omega) (by omega))
    rw [jt h2] at hx h3
    rw [List.getLast?_cons_cons] at hx
    exact h3 x hx
theorem mN {m l:Nat} (h:m < 18446744073709551616 ^ l):(dg m).length <= l:=by
 by_cases h0:dg m = []
 ·rw [h0]; simp
 ·have h1:=kE (jk m) h0
  rw [aK] at h1
  have h2:=Nat.lt_of_le_of_lt h1 h
  have h3:=(Nat.pow_lt_pow_iff_right (by omega)).1 h2
  omega
theorem aT (n:Nat) (b:Bool) (ws:Lb Ua) (hn:ws.length < n) (hl:ws.length <= 4294967296):aB_p n b ws = some ⟨b && decide (0 < val ws),dg (val ws)⟩:=by
 have h:=au (B:=aB_l1 n ws) (fun z:Int=>z.toNat) (fun z=>0 <= z/\z <= ws.length/\∀ i:Nat,z.toNat <= i -> ∀ h:i < ws.length,ws[i] = 0)
  (fun z=>∃ k:Nat,z = k/\k <= ws.length/\(∀ i:Nat,k <= i -> ∀ h:i < ws.length,ws[i] = 0)/\∀ h:0 < k,∀ h2:k - 1 < ws.length,ws[k - 1] ≠ 0) ?_ n (ws.length:Int) ⟨by omega,by omega,fun i h1 h2=>by omega⟩ (by simpa using hn)
 ·obtain ⟨z,hz,k,rfl,hk,hz0,hz1⟩:=h
  have e:val ws = val (ws.take k):=by
   conv=>lhs; rw [<- List.take_append_drop k ws,gn]
   rw [cN (ws.drop k) fun x hx=>?_]
   ·simp
   ·obtain ⟨i,hi,rfl⟩:=List.getElem_of_mem hx
    rw [List.getElem_drop]
    exact hz0 _ (by omega) _
  have hnm:Nm (ws.take k):=by
   intro x hx
   rw [List.getLast?_eq_getElem?,List.length_take,Nat.min_eq_left hk] at hx
   obtain ⟨h1,rfl⟩:=List.getElem?_eq_some_iff.1 hx
   have h2:k - 1 < ws.length:=by rw [List.length_take] at h1; omega
   by_cases h0:0 < k
   ·rw [List.getElem_take]; exact hz1 h0 h2
   ·rw [List.length_take] at h1; omega
  have e2:dg (val ws) = ws.take k:=by rw [e]; exact pX hnm
  have e3:decide (0 < val ws) = decide (0 < (k:Int)):=by
   rw [decide_eq_decide]
   constructor
   ·intro h0
    by_cases hk0:k = 0
    ·subst hk0; rw [e] at h0; simp [val] at h0
    ·omega
   ·intro h0; rw [e]; refine ik hnm fun h1=>?_
    have:=congrArg List.length h1
    rw [List.length_take,leN] at this; omega
  unfold aB_p jn
  simp only [hz,aa,mz hk]
  cases b
  ·simp [e2]
  ·simp [e2,e3]
 ·intro z J ⟨h1,h2,h3⟩ hJ
  unfold aB_l1
  simp only
  by_cases h0:0 < z
  ·rw [if_pos h0,aS (by omega) (by omega),aa,bg (by omega) (by omega),aa]
   split
   ·rename_i hx
    rw [aa]
    refine hJ (z - 1) ⟨by omega,by omega,fun i h4 h5=>?_⟩ (by omega)
    by_cases h6:i = (z - 1).toNat
    ·subst h6; exact hx
    ·exact h3 i (by omega) h5
   ·rename_i hx
    refine ⟨z,I,z.toNat,by omega,by omega,h3,fun h4 h5=>?_⟩
    have:(z - 1).toNat = z.toNat - 1:=by omega
    simp only [this] at hx
    exact hx
  ·rw [if_neg h0]
   exact ⟨z,I,0,by omega,by omega,fun i h4 h5=>h3 i (by omega) h5,fun h4=>by omega⟩
theorem jd (x y c:Ua) (h:c.toNat <= 1):∃ s d:Ua,add64 x y c = some (s,d)/\s.toNat + 18446744073709551616 * d.toNat = x.toNat + y.toNat + c.toNat/\d.toNat <= 1:=by
 refine ⟨_,_,if_pos h,?_⟩
 have hx:=x.toNat_lt
 have hy:=y.toNat_lt
 rw [UInt64.toNat_ofNat', UInt64.toNat_ofNat']
 omega
theorem bV (x y c:Ua) (h:c.toNat <= 1):∃ s d:Ua,sub64 x y c = some (s,d)/\s.toNat + y.toNat + c.toNat = x.toNat + 18446744073709551616 * d.toNat/\d.toNat <= 1:=by
 refine ⟨_,_,if_pos h,?_⟩
 have hx:=x.toNat_lt
 have hy:=y.toNat_lt
 rw [UInt64.toNat_ofNat']
 split <;> simp <;> omega
theorem bE {α:Type} {l:Lb α} {i:Nat} (h:l.length <= i):l.take i = l:=List.take_of_length_le h
theorem jK (b:Lb Ua) (i:Nat):val (b.take (i + 1)) = val (b.take i) + 18446744073709551616 ^ i * (b[i]?.getD 0).toNat:=by
 by_cases h:i < b.length
 ·rw [cy b h,geE h]; rfl
 ·rw [bE (by omega),bE (by omega),List.getElem?_eq_none (by omega)]; simp
theorem mE (n:Nat) (a b:Lb Ua) (hb:b.length <= a.length) (hn:a.length < n):∃ xs u,ao (cv_l1 n a b) n (0,0,List.replicate (a.length + 1) 0) = some (xs,u)/\xs.length = a.length + 1/\val (xs.take a.length) + 18446744073709551616 ^ a.length * u.toNat = val a + val b:=by
 have h:=au (B:=cv_l1 n a b) (fun s:Ua × Nat × Lb Ua=>a.length - s.2.1) (fun s=>s.2.1 <= a.length/\s.2.2.length = a.length + 1/\s.1.toNat <= 1/\val (s.2.2.take s.2.1) + 18446744073709551616 ^ s.2.1 * s.1.toNat = val (a.take s.2.1) + val (b.take s.2.1))
  (fun r:Lb Ua × Ua=>r.1.length = a.length + 1/\val (r.1.take a.length) + 18446744073709551616 ^ a.length * r.2.toNat = val a + val b) ?_ n (0,0,List.replicate (a.length + 1) 0) ⟨by simp,by simp,by simp,by simp [val]⟩ (by simpa using hn)
 ·obtain ⟨⟨xs,u⟩,h1,h2,h3⟩:=h; exact ⟨xs,u,h1,h2,h3⟩
 ·rintro ⟨u,i,xs⟩ J ⟨h1,h2,h3,h4⟩ hJ
  simp only at h1 h2 h3 h4 hJ
  unfold cv_l1
  simp only
  by_cases hi:i < a.length
  ·rw [if_pos hi,geE hi,aa]
   have key:∀ y:Ua,y = b[i]?.getD 0 -> ∃ r,((add64 a[i] y u).bind fun z198=>(xs[i]?).bind fun x199=>(put xs ((i:Nat):Int) z198.1).bind fun xs212=>J (z198.2,i + 1,xs212)) = some r/\r.1.length = a.length + 1/\val (r.1.take a.length) + 18446744073709551616 ^ a.length * r.2.toNat = val a + val b:=by
    intro y hy
    obtain ⟨s,d,e1,e2,e3⟩:=jd a[i] y u h3
    rw [e1,aa,geE (by omega),aa,cC _ (by omega),aa]
    refine hJ (d,i + 1,xs.set i s) ⟨by show i + 1 <= _; omega,by simpa using h2,e3,?_⟩ (by simp only; omega)
    simp only
    rw [gp s (by omega),cy a hi,jK b i,<- hy,Nat.pow_succ]
    grind
   unfold jn
   simp only
   by_cases hj:i < b.length
   ·rw [if_pos hj,geE hj,aa]; exact key _ (by rw [geE hj]; rfl)
   ·rw [if_neg hj]; exact key _ (by rw [List.getElem?_eq_none (by omega)]; rfl)
  ·rw [if_neg hi]
   have:i = a.length:=by omega
   subst this
   refine ⟨_,I,h2,?_⟩
   simp only
   rw [h4,List.take_length,bE hb]
theorem oQ (n:Nat) (a b:Lb Ua) (hn:a.length < n/\b.length < n) (hl:a.length < 4294967296/\b.length < 4294967296):∃ xs,cv_p n a b = some xs/\xs.length <= max a.length b.length + 1/\val xs = val a + val b:=by
 have key:∀ a b:Lb Ua,b.length <= a.length -> a.length < n -> a.length < 4294967296 -> ∃ xs,((mk ((a.length + 1:Nat):Int) (0:Ua)).bind fun xs17=>Option.bind (ao (cv_l1 n a b) n ((0:Ua),0,xs17)) (fun (xs157,u155)=>(xs157[a.length]?).bind fun x229=>(put xs157 ((a.length:Nat):Int) u155).bind fun xs241=>some xs241)) = some xs/\xs.length = a.length + 1/\val xs = val a + val b:=by
  intro a b hb h1 h2
  obtain ⟨xs,u,e1,e2,e3⟩:=mE n a b hb h1
  rw [iC _ _ (by omega),aa,e1,aa]
  simp only
  rw [geE (by omega),aa,cC _ (by omega),aa]
  refine ⟨_,rfl,by simpa using e2,?_⟩
  rw [<- e3]
  conv=>lhs; rw [<- bE (l:=xs.set a.length u) (i:=a.length + 1) (by simp [e2])]
  exact gp u (by omega)
 unfold cv_p jn
 simp only
 by_cases h:a.length < b.length
 ·rw [if_pos h]
  obtain ⟨xs,e1,e2,e3⟩:=key b a (by omega) hn.2 hl.2
  exact ⟨xs,e1,by omega,by omega⟩
 ·rw [if_neg h]
  obtain ⟨xs,e1,e2,e3⟩:=key a b (by omega) hn.1 hl.1
  exact ⟨xs,e1,by omega,e3⟩
theorem lV (n:Nat) (a b:Lb Ua) (hb:b.length <= a.length) (hv:val b <= val a) (hn:a.length < n) (hl:a.length < 4294967296):∃ xs,cg_p n a b = some xs/\xs.length = a.length/\val xs = val a - val b:=by
 have h:=au (B:=cg_l1 n a b) (fun s:Ua × Nat × Lb Ua=>a.length - s.2.1) (fun s=>s.2.1 <= a.length/\s.2.2.length = a.length/\s.1.toNat <= 1/\val (s.2.2.take s.2.1) + val (b.take s.2.1) = val (a.take s.2.1) + 18446744073709551616 ^ s.2.1 * s.1.toNat)
  (fun r:Lb Ua=>r.length = a.length/\val r = val a - val b) ?_ n (0,0,List.replicate a.length 0) ⟨by simp,by simp,by simp,by simp [val]⟩ (by simpa using hn)
 ·obtain ⟨xs,h1,h2,h3⟩:=h
  refine ⟨xs,?_,h2,h3⟩
  unfold cg_p
  rw [iC _ _ (by omega),aa,h1,aa]
 ·rintro ⟨u,i,xs⟩ J ⟨h1,h2,h3,h4⟩ hJ
  simp only at h1 h2 h3 h4 hJ
  unfold cg_l1
  simp only
  by_cases hi:i < a.length
  ·rw [if_pos hi,geE hi,aa]
   have key:∀ y:Ua,y = b[i]?.getD 0 -> ∃ r,((sub64 a[i] y u).bind fun z184=>(xs[i]?).bind fun x185=>(put xs ((i:Nat):Int) z184.1).bind fun xs198=>J (z184.2,i + 1,xs198)) = some r/\r.length = a.length/\val r = val a - val b:=by
    intro y hy
    obtain ⟨s,d,e1,e2,e3⟩:=bV a[i] y u h3
    rw [e1,aa,geE (by omega),aa,cC _ (by omega),aa]
    refine hJ (d,i + 1,xs.set i s) ⟨by show i + 1 <= _; omega,by simpa using h2,e3,?_⟩ (by simp only; omega)
    simp only
    rw [gp s (by omega),cy a hi,jK b i,<- hy,Nat.pow_succ]
    grind
   unfold jn
   simp only
   by_cases hj:i < b.length
   ·rw [if_pos hj,geE hj,aa]; exact key _ (by rw [geE hj]; rfl)
   ·rw [if_neg hj]; exact key _ (by rw [List.getElem?_eq_none (by omega)]; rfl)
  ·rw [if_neg hi]
   have:i = a.length:=by omega
   subst this
   rw [List.take_length,bE hb,bE (by omega)] at h4
   refine ⟨xs,I,h2,?_⟩
   have h5:=dq xs
   rw [h2] at h5
   by_cases hu:u.toNat = 0
   ·rw [hu] at h4; omega
   ·have:u.toNat = 1:=by omega
    rw [this] at h4; omega
theorem eP (a:Lb Ua) {i:Nat} (h:i < a.length):val a = val (a.take i) + 18446744073709551616 ^ i * a[i].toNat + 18446744073709551616 ^ (i + 1) * val (a.drop (i + 1)):=by
 conv=>lhs; rw [<- List.take_append_drop (i + 1) a,gn]
 rw [cy a h,List.length_take,Nat.min_eq_left (by omega)]
theorem pU {a b:Lb Ua} (hb:Nm b) (h:a.length < b.length):val a < val b:=by
 have h1:=dq a
 have h2:=kE hb (by intro e; rw [e] at h; simp at h)
 have h3:18446744073709551616 ^ a.length <= 18446744073709551616 ^ (b.length - 1):=Nat.pow_le_pow_right (by omega) (by omega)
 omega
theorem im {a b:Lb Ua} {i:Nat} (ha:i < a.length) (hb:i < b.length) (hd:a.drop (i + 1) = b.drop (i + 1)) (h:a[i] < b[i]):val a < val b:=by
 rw [eP a ha,eP b hb,hd]
 have h1:=dq (a.take i)
 rw [List.length_take,Nat.min_eq_left (by omega)] at h1
 have h2:18446744073709551616 ^ i * (a[i].toNat + 1) <= 18446744073709551616 ^ i * b[i].toNat:=Nat.mul_le_mul_left _ (UInt64.lt_iff_toNat_lt.1 h)
 rw [Nat.mul_add] at h2
 omega
theorem gO (n:Nat) (a b:Lb Ua) (ha:Nm a) (hb:Nm b) (hn:a.length < n) (hl:a.length < 4294967296):∃ c,bU_p n a b = some c/\(c < 0 ↔ val a < val b)/\(c = 0 ↔ val a = val b):=by
 unfold bU_p
 by_cases h:a.length = b.length
 ·rw [if_pos h]
  have hh:=au (B:=bU_l1 n a b) (fun z:Int=>(z + 1).toNat) (fun z=>-1 <= z/\z < a.length/\a.drop (z + 1).toNat = b.drop (z + 1).toNat)
   (fun r=>(r = .inl (-1)/\val a < val b) ∨ (r = .inl 1/\val b < val a) ∨ (r = .inr ()/\a = b)) ?_ n ((a.length:Int) - 1) ⟨by omega,by omega,?_⟩ (by omega)
  ·obtain ⟨r,hr,h1 | h1 | h1⟩:=hh
   ·rw [hr,h1.1]; exact ⟨_,rfl,by have:=h1.2; omega,by have:=h1.2; omega⟩
   ·rw [hr,h1.1]; exact ⟨_,rfl,by have:=h1.2; omega,by have:=h1.2; omega⟩
   ·rw [hr,h1.1,h1.2]; exact ⟨_,rfl,by omega,by omega⟩
  ·intro z J ⟨h1,h2,h3⟩ hJ
   unfold bU_l1
   simp only
   by_cases h0:0 <= z
   ·have e1:(z + 1).toNat = z.toNat + 1:=by omega
    rw [e1] at h3
    rw [if_pos h0,bg h0 (by omega),aa,bg h0 (by omega),aa]
    split
    ·rename_i hlt; exact ⟨_,I,.inl ⟨I,im (by omega) (by omega) h3 hlt⟩⟩
    ·rename_i h4
     split
     ·rename_i hlt; exact ⟨_,I,.inr (.inl ⟨I,im (by omega) (by omega) h3.symm hlt⟩)⟩
     ·rename_i h5
      have he:a[z.toNat]'(by omega) = b[z.toNat]'(by omega):=UInt64.toNat_inj.1 (by rw [UInt64.lt_iff_toNat_lt] at h4 h5; omega)
      rw [aS (by omega) (by omega),aa]
      refine hJ (z - 1) ⟨by omega,by omega,?_⟩ (by omega)
      rw [show (z - 1 + 1).toNat = z.toNat by omega,List.drop_eq_getElem_cons (by omega),List.drop_eq_getElem_cons (l:=b) (by omega),h3,he]
   ·rw [if_neg h0]
    have e1:(z + 1).toNat = 0:=by omega
    rw [e1] at h3
    exact ⟨_,rfl,.inr (.inr ⟨rfl,by simpa using h3⟩)⟩
  ·rw [show ((a.length:Int) - 1 + 1).toNat = a.length by omega,List.drop_length,h,List.drop_length]
 ·rw [if_neg h]
  refine ⟨_,I,?_⟩
  by_cases h1:a.length < b.length
  ·have:=pU hb h1; omega
  ·have:=pU (a:=b) ha (by omega); omega
theorem mK (a:Ua):(shrU a 32).toNat = a.toNat / 4294967296:=by
 unfold shrU; rw [if_pos (by decide),UInt64.toNat_ofNat']
 have:=a.toNat_lt
 omega
theorem ph (a:Ua):(a &&& (4294967295:Ua)).toNat = a.toNat % 4294967296:=by
 rw [UInt64.toNat_and]; exact Nat.and_two_pow_sub_one_eq_mod a.toNat 32
theorem oA (x1 x0 y1 y0:Nat) (h1:x1 < 4294967296) (h2:x0 < 4294967296) (h3:y1 < 4294967296) (h4:y0 < 4294967296) :
  ((x1 * y0 + x0 * y0 / 4294967296) < 18446744073709551616)/\((x1 * y0 + x0 * y0 / 4294967296) % 4294967296 + x0 * y1 < 18446744073709551616)/\
  x1 * y1 + (x1 * y0 + x0 * y0 / 4294967296) / 4294967296 + ((x1 * y0 + x0 * y0 / 4294967296) % 4294967296 + x0 * y1) / 4294967296 < 18446744073709551616/\
  (((x1 * 4294967296 + x0) * (y1 * 4294967296 + y0)) % 18446744073709551616) + 18446744073709551616 * (x1 * y1 + (x1 * y0 + x0 * y0 / 4294967296) / 4294967296 + ((x1 * y0 + x0 * y0 / 4294967296) % 4294967296 + x0 * y1) / 4294967296) = (x1 * 4294967296 + x0) * (y1 * 4294967296 + y0):=by
 have e:(x1 * 4294967296 + x0) * (y1 * 4294967296 + y0) = 18446744073709551616 * (x1 * y1) + 4294967296 * (x1 * y0 + x0 * y1) + x0 * y0:=by grind
 have b1:x1 * y1 <= 4294967295 * 4294967295:=Nat.mul_le_mul (by omega) (by omega)
 have b2:x1 * y0 <= 4294967295 * 4294967295:=Nat.mul_le_mul (by omega) (by omega)
 have b3:x0 * y1 <= 4294967295 * 4294967295:=Nat.mul_le_mul (by omega) (by omega)
 have b4:x0 * y0 <= 4294967295 * 4294967295:=Nat.mul_le_mul (by omega) (by omega)
 rw [e]
 generalize x1 * y1 = s at *
 generalize x1 * y0 = q at *
 generalize x0 * y1 = r at *
 generalize x0 * y0 = p at *
 clear e h1 h2 h3 h4
 refine ⟨by omega,by omega,by omega,by omega⟩
theorem pu (n:Nat) (x y:Ua):∃ hi lo,cS_p n x y = some (hi,lo)/\lo.toNat + 18446744073709551616 * hi.toNat = x.toNat * y.toNat:=by
 refine ⟨_,_,I,?_⟩
 have hx:=x.toNat_lt
 have hy:=y.toNat_lt
 have ex:x.toNat = x.toNat / 4294967296 * 4294967296 + x.toNat % 4294967296:=by omega
 have ey:y.toNat = y.toNat / 4294967296 * 4294967296 + y.toNat % 4294967296:=by omega
 obtain ⟨h1,h2,h3,h4⟩:=oA (x.toNat / 4294967296) (x.toNat % 4294967296) (y.toNat / 4294967296) (y.toNat % 4294967296) (by omega) (by omega) (by omega) (by omega)
 rw [<- ex,<- ey] at h4
 have b1:x.toNat / 4294967296 * (y.toNat / 4294967296) < 18446744073709551616:=by omega
 have b2:x.toNat / 4294967296 * (y.toNat % 4294967296) < 18446744073709551616:=by omega
 have b3:x.toNat % 4294967296 * (y.toNat / 4294967296) < 18446744073709551616:=by omega
 have b4:x.toNat % 4294967296 * (y.toNat % 4294967296) < 18446744073709551616:=by
  have:x.toNat % 4294967296 * (y.toNat % 4294967296) <= 4294967295 * 4294967295:=Nat.mul_le_mul (by omega) (by omega)
  omega
 simp only [UInt64.toNat_add,UInt64.toNat_mul,mK,ph,show (2:Nat) ^ 64 = 18446744073709551616 from rfl]
 rw [Nat.mod_eq_of_lt b1,Nat.mod_eq_of_lt b2,Nat.mod_eq_of_lt b3,Nat.mod_eq_of_lt b4,Nat.mod_eq_of_lt h1,Nat.mod_eq_of_lt h2]
 rw [Nat.mod_eq_of_lt (a:=x.toNat / 4294967296 * (y.toNat / 4294967296) + _) (by omega),Nat.mod_eq_of_lt h3]
 exact h4
theorem mult_in (n:Nat) (b:Lb Ua) (x:Ua) (i:Nat) (xs0:Lb Ua) (hi:i + b.length < xs0.length) (hn:b.length < n) :
  ∃ xs u,ao (bq_l1 n b x i) n (0,0,xs0) = some (xs,u)/\xs.length = xs0.length/\val (xs.take (i + b.length)) + 18446744073709551616 ^ (i + b.length) * u.toNat = val (xs0.take (i + b.length)) + x.toNat * val b * 18446744073709551616 ^ i:=by
 have h:=au (B:=bq_l1 n b x i) (fun s:Ua × Nat × Lb Ua=>b.length - s.2.1) (fun s=>s.2.1 <= b.length/\s.2.2.length = xs0.length/\(∀ k,i + s.2.1 <= k -> s.2.2[k]? = xs0[k]?)/\val (s.2.2.take (i + s.2.1)) + 18446744073709551616 ^ (i + s.2.1) * s.1.toNat = val (xs0.take (i + s.2.1)) + x.toNat * val (b.take s.2.1) * 18446744073709551616 ^ i)
  (fun r:Lb Ua × Ua=>r.1.length = xs0.length/\val (r.1.take (i + b.length)) + 18446744073709551616 ^ (i + b.length) * r.2.toNat = val (xs0.take (i + b.length)) + x.toNat * val b * 18446744073709551616 ^ i) ?_ n (0,0,xs0) ⟨by simp,rfl,fun _ _=>rfl,by simp [val]⟩ (by simpa using hn)
 ·obtain ⟨⟨xs,u⟩,h1,h2,h3⟩:=h; exact ⟨xs,u,h1,h2,h3⟩
 ·rintro ⟨u,j,xs⟩ J ⟨h1,h2,h3,h4⟩ hJ
  simp only at h1 h2 h3 h4 hJ
  unfold bq_l1
  simp only
  by_cases hj:j < b.length
  ·obtain ⟨hi', lo,e1,e2⟩:=pu n x b[j]
   have hx0:xs[i + j]'(by omega) = xs0[i + j]'(by omega):=by
    have:=h3 (i + j) (by omega)
    rw [geE (by omega),geE (by omega)] at this
    exact Option.some.inj this
   rw [if_pos hj,geE hj,aa,e1,aa,geE (by omega),aa]
   obtain ⟨s,c,f1,f2,f3⟩:=jd (xs[i + j]'(by omega)) lo 0 (by simp)
   obtain ⟨s', c', g1,g2,g3⟩:=jd s u 0 (by simp)
   simp only [f1,aa,g1]
   rw [cC _ (by omega),aa]
   simp only [UInt64.toNat_zero,Nat.add_zero] at f2 g2
   have bx:x.toNat * b[j].toNat <= 18446744073709551615 * 18446744073709551615:=Nat.mul_le_mul (by have:=x.toNat_lt; omega) (by have:=b[j].toNat_lt; omega)
   have bo:=(xs[i + j]'(by omega)).toNat_lt
   have bu:=u.toNat_lt
   have e3:(hi' + c + c').toNat = hi'.toNat + c.toNat + c'.toNat:=by
    rw [UInt64.toNat_add,UInt64.toNat_add]; omega
   have e4:s'.toNat + 18446744073709551616 * (hi' + c + c').toNat = (xs[i + j]'(by omega)).toNat + x.toNat * b[j].toNat + u.toNat:=by rw [e3]; omega
   refine hJ (hi' + c + c', j + 1,xs.set (i + j) s') ⟨hj,by simpa using h2,fun k hk=>?_,?_⟩ (by simp only; omega)
   ·simp only at hk ⊢
    rw [List.getElem?_set_ne (by omega)]; exact h3 k (by omega)
   ·simp only
    rw [<- Nat.add_assoc,gp s' (by omega),cy xs0 (by omega),cy b hj,<- hx0,Nat.pow_succ]
    rw [Nat.pow_add] at h4 ⊢
    grind
  ·rw [if_neg hj]
   have:j = b.length:=by omega
   subst this
   refine ⟨_,I,h2,?_⟩
   simp only
   rw [h4,List.take_length]
theorem jq (n:Nat) (a b:Lb Ua) (hn:a.length < n/\b.length < n) (hl:a.length + b.length <= 4294967296):∃ xs,bq_p n a b = some xs/\xs.length = a.length + b.length/\val xs = val a * val b:=by
 have h:=au (B:=bq_l2 n a b) (fun s:Nat × Lb Ua=>a.length - s.1) (fun s=>s.1 <= a.length/\s.2.length = a.length + b.length/\val (s.2.take (s.1 + b.length)) = val (a.take s.1) * val b)
  (fun r:Lb Ua=>r.length = a.length + b.length/\val r = val a * val b) ?_ n (0,List.replicate (a.length + b.length) 0) ⟨by simp,by simp,?_⟩ (by simpa using hn.1)
 ·obtain ⟨xs,h1,h2,h3⟩:=h
  refine ⟨xs,?_,h2,h3⟩
  unfold bq_p
  rw [iC _ _ hl,aa,h1,aa]
 ·rintro ⟨i,xs⟩ J ⟨h1,h2,h3⟩ hJ
  simp only at h1 h2 h3 hJ
  unfold bq_l2
  simp only
  by_cases hi:i < a.length
  ·obtain ⟨ys,u,e1,e2,e3⟩:=mult_in n b a[i] i xs (by omega) hn.2
   rw [if_pos hi,geE hi,aa,e1,aa]
   simp only
   rw [geE (by omega),aa,cC _ (by omega),aa]
   refine hJ (i + 1,ys.set (i + b.length) u) ⟨hi,by simp; omega,?_⟩ (by simp only; omega)
   simp only
   rw [show i + 1 + b.length = i + b.length + 1 by omega,gp u (by omega),cy a hi,e3,h3]
   grind
  ·rw [if_neg hi]
   have:i = a.length:=by omega
   subst this
   rw [List.take_length,bE (by omega)] at h3
   exact ⟨xs,I,h2,h3⟩
 ·simp only [List.take_zero,val,Nat.zero_mul]
  exact cN _ fun x hx=>(List.mem_replicate.1 (List.mem_of_mem_take hx)).2
def L (z:Int):Tg:=⟨decide (z < 0),dg z.natAbs⟩
def Fit (l:Nat) (z:Int):Prop:=z.natAbs < 18446744073709551616 ^ l
theorem Fit.len {l:Nat} {z:Int} (h:Fit l z):(dg z.natAbs).length <= l:=mN h
def sg (s:Bool) (m:Nat):Int:=if s = true then -(m:Int) else m
theorem oP (s:Bool) (m:Nat):(⟨s && decide (0 < m),dg m⟩:Tg) = L (sg s m):=by
 unfold L sg
 cases s
 ·simp
 ·simp
theorem nN (z:Int):z = sg (decide (z < 0)) z.natAbs:=by
 unfold sg; split <;> rename_i h <;> simp at h <;> omega
theorem mC (s:Bool) (m:Nat):(sg s m).natAbs = m:=by unfold sg; split <;> omega
theorem eW (n l:Nat) (z:Int) (h:Fit l z) (hn:l < n) (hl:l < 1000000):bJ_p n (L z) = some (L (-z)):=by
 unfold bJ_p
 have h1:=h.len
 rw [aT n _ _ (by show (dg z.natAbs).length < n; omega) (by show (dg z.natAbs).length <= _; omega),aa]
 show some (⟨!decide (z < 0) && decide (0 < val (dg z.natAbs)),dg (val (dg z.natAbs))⟩:Tg) = _
 rw [aK,oP]
 refine congrArg (fun x=>some (L x)) ?_
 unfold sg
 by_cases hz:z < 0 <;> simp [hz] <;> omega
theorem cb (n l m:Nat) (a b:Int) (ha:Fit l a) (hb:Fit m b) (hn:l + m < n) (hl:l + m < 1000000):aP_p n (L a) (L b) = some (L (a * b)):=by
 unfold aP_p
 have h1:=ha.len
 have h2:=hb.len
 obtain ⟨xs,e1,e2,e3⟩:=jq n (L a).fk (L b).fk ⟨by show (dg a.natAbs).length < n; omega,by show (dg b.natAbs).length < n; omega⟩ (by show (dg a.natAbs).length + (dg b.natAbs).length <= _; omega)
 have e4:xs.length = (dg a.natAbs).length + (dg b.natAbs).length:=e2
 rw [e1,aa,aT n _ _ (by omega) (by omega),aa,e3]
 show some (⟨!(decide (a < 0) == decide (b < 0)) && decide (0 < val (dg a.natAbs) * val (dg b.natAbs)),dg (val (dg a.natAbs) * val (dg b.natAbs))⟩:Tg) = _
 rw [aK,aK,oP]
 refine congrArg (fun x=>some (L x)) ?_
 conv=>rhs; rw [nN a,nN b]
 unfold sg
 by_cases h3:a < 0 <;> by_cases h4:b < 0 <;> simp [h3,h4,Int.neg_mul,Int.mul_neg,Int.neg_mul_neg]
theorem ib {a b:Nat} (h:a <= b):(dg a).length <= (dg b).length:=mN (Nat.lt_of_le_of_lt h (by have:=dq (dg b); rwa [aK] at this))
theorem nq (n l a b:Nat) (s:Bool) (h:a <= b) (hl:(dg b).length <= l) (hn:l < n) (hl2:l < 1000000):((cg_p n (dg b) (dg a)).bind fun y67=>(aB_p n s y67).bind fun y75=>some y75) = some (L (sg s (b - a))):=by
 obtain ⟨xs,e1,e2,e3⟩:=lV n (dg b) (dg a) (ib h) (by rw [aK,aK]; exact h) (by omega) (by omega)
 rw [e1,aa,aT n _ _ (by omega) (by omega),aa,e3,aK,aK,oP]
theorem ie (n l:Nat) (a b:Int) (ha:Fit l a) (hb:Fit l b) (hn:l + 1 < n) (hl:l < 1000000):bT_p n (L a) (L b) = some (L (a + b)):=by
 unfold bT_p
 have h1:=ha.len
 have h2:=hb.len
 by_cases h:((L a).fc == (L b).fc) = true
 ·rw [if_pos h]
  obtain ⟨xs,e1,e2,e3⟩:=oQ n (L a).fk (L b).fk ⟨by show (dg a.natAbs).length < n; omega,by show (dg b.natAbs).length < n; omega⟩ ⟨by show (dg a.natAbs).length < _; omega,by show (dg b.natAbs).length < _; omega⟩
  have e4:xs.length <= max (dg a.natAbs).length (dg b.natAbs).length + 1:=e2
  rw [e1,aa,aT n _ _ (by omega) (by omega),aa,e3]
  show some (⟨decide (a < 0) && decide (0 < val (dg a.natAbs) + val (dg b.natAbs)),dg (val (dg a.natAbs) + val (dg b.natAbs))⟩:Tg) = _
  rw [aK,aK,oP]
  refine congrArg (fun x=>some (L x)) ?_
  have h3:decide (a < 0) = decide (b < 0):=eq_of_beq h
  unfold sg
  by_cases h4:a < 0 <;> by_cases h5:b < 0 <;> simp [h4,h5] at h3 ⊢ <;> omega
 ·rw [if_neg h]
  obtain ⟨c,e1,e2,e3⟩:=gO n (L a).fk (L b).fk (jk _) (jk _) (by show (dg a.natAbs).length < n; omega) (by show (dg a.natAbs).length < _; omega)
  have h3:decide (a < 0) ≠ decide (b < 0):=fun e=>h (by rw [beq_iff_eq]; exact e)
  rw [e1,aa]
  unfold jn
  simp only
  have e4:c < 0 ↔ a.natAbs < b.natAbs:=by rw [e2]; show val (dg a.natAbs) < val (dg b.natAbs) ↔ _; rw [aK,aK]
  by_cases hc:c < 0
  ·rw [if_pos hc]
   show ((cg_p n (dg b.natAbs) (dg a.natAbs)).bind fun y67=>(aB_p n (decide (b < 0)) y67).bind fun y75=>some y75) = _
   rw [nq n l _ _ _ (by omega) h2 (by omega) hl]
   refine congrArg (fun x=>some (L x)) ?_
   unfold sg
   by_cases h4:a < 0 <;> by_cases h5:b < 0 <;> simp [h4,h5] at h3 ⊢ <;> omega
  ·rw [if_neg hc]
   show ((cg_p n (dg a.natAbs) (dg b.natAbs)).bind fun y67=>(aB_p n (decide (a < 0)) y67).bind fun y75=>some y75) = _
   rw [nq n l _ _ _ (by omega) h1 (by omega) hl]
   refine congrArg (fun x=>some (L x)) ?_
   unfold sg
   by_cases h4:a < 0 <;> by_cases h5:b < 0 <;> simp [h4,h5] at h3 ⊢ <;> omega
theorem Fit.neg {l:Nat} {z:Int} (h:Fit l z):Fit l (-z):=by unfold Fit at *; rwa [Int.natAbs_neg]
theorem fQ (n l:Nat) (a b:Int) (ha:Fit l a) (hb:Fit l b) (hn:l + 1 < n) (hl:l < 1000000):cL_p n (L a) (L b) = some (L (a - b)):=by
 unfold cL_p
 rw [eW n l b hb (by omega) hl,aa,ie n l a (-b) ha hb.neg hn hl,aa,Int.sub_eq_add_neg]
theorem cK (n:Nat) (a:Int):aW_p n (L a) = some a.sign:=by
 unfold aW_p
 by_cases h:a < 0
 ·rw [if_pos (by simpa [L] using h),Int.sign_eq_neg_one_of_neg h]
 ·rw [if_neg (by simpa [L] using h)]
  by_cases h0:a = 0
  ·subst h0; rw [if_pos (by simp [L,dg0])]; rfl
  ·rw [if_neg,Int.sign_eq_one_of_pos (by omega)]
   show ¬ (dg a.natAbs).length = 0
   rw [jt (by omega)]; simp
theorem dg1 {m:Nat} (h0:m ≠ 0) (h:m < 18446744073709551616):dg m = [UInt64.ofNat m]:=by
 rw [jt h0,show m / 18446744073709551616 = 0 by omega,dg0]
theorem kW {m:Nat} (h:m < 18446744073709551616):(UInt64.ofNat m).toNat = m:=by rw [UInt64.toNat_ofNat']; exact Nat.mod_eq_of_lt h
theorem ka {a b q r:Int} (h:a = b * q + r) (h0:0 <= r) (h1:r < b.natAbs):a / b = q/\a % b = r:=by
 by_cases hb:0 < b
 ·exact (Int.ediv_emod_unique hb).2 ⟨by rw [h]; omega,h0,by omega⟩
 ·have hb2:0 < -b:=by omega
  have h3:a = (-b) * (-q) + r:=by rw [h,Int.neg_mul_neg]
  obtain ⟨e1,e2⟩:=(Int.ediv_emod_unique (a:=a) (r:=r) (q:=-q) hb2).2 ⟨by rw [h3]; omega,h0,by omega⟩
  rw [Int.ediv_neg] at e1
  rw [Int.emod_neg] at e2
  exact ⟨by omega,e2⟩
def W1 (z:Int):Prop:=z.natAbs < 18446744073709551616
def W8 (z:Int):Ua × Ua × Ua × Ua × Ua × Ua × Ua × Ua:=
 if z < 0 then (ae z,18446744073709551615,18446744073709551615,18446744073709551615,18446744073709551615,18446744073709551615,18446744073709551615,18446744073709551615) else (ae z,0,0,0,0,0,0,0)
def Sm (z:Int):Prop:=z.natAbs < 9223372036854775808
theorem Sm.w {z:Int} (h:Sm z):W1 z:=by unfold Sm W1 at *; omega
theorem mS {z:Int} (h:Sm z) (h0:z < 0):(ae z).toNat = 18446744073709551616 - z.natAbs:=by
 unfold ae Sm at *; rw [UInt64.toNat_ofNat']; omega
theorem mT {z:Int} (h:Sm z) (h0:¬ z < 0):ae z = UInt64.ofNat z.natAbs:=by
 unfold ae Sm at *; congr 1; omega
theorem of_ok (n:Nat) (z:Int) (hn:10 < n):cY_p n z = some (W8 z):=by
 obtain ⟨k,rfl⟩:∃ k,n = k + 9:=⟨n - 9,by omega⟩
 unfold cY_p W8
 by_cases h:z < 0
 ·rw [if_pos h,if_pos h]
  simp [iN,cY_l1,ay]
 ·rw [if_neg h,if_neg h]
theorem sub_m1:sub64 0 18446744073709551615 1 = some (0,1):=rfl
theorem read_ok (n:Nat) (z:Int) (h:Sm z):dc_p n (W8 z) = some ⟨decide (z < 0),(UInt64.ofNat z.natAbs,0,0,0,0,0,0,0)⟩:=by
 unfold dc_p W8
 by_cases h0:z < 0
 ·rw [if_pos h0]
  have e:sub64 0 (ae z) 0 = some (UInt64.ofNat z.natAbs,1):=by
   unfold sub64
   rw [if_pos (by decide),mS h h0]
   unfold Sm at h
   rw [if_pos (by simp; omega)]
   congr 2
   simp; congr 1; omega
  rw [if_pos (show shrU 18446744073709551615 63 = 1 from I)]
  unfold bS_p
  simp only [e,aa,sub_m1]
  simp [h0]; rfl
 ·rw [if_neg h0]
  rw [if_neg (show ¬ shrU 0 63 = 1 from by decide),mT h h0]
  simp [h0]; decide
theorem nY (n:Nat) (z:Int) (h:Sm z) (hn:10 < n):bV_p n (W8 z) = some (L z):=by
 unfold bV_p
 rw [read_ok n z h,aa]
 simp only
 rw [show app ([]:Lb Ua) [UInt64.ofNat z.natAbs,0,0,0,0,0,0,0] = some [UInt64.ofNat z.natAbs,0,0,0,0,0,0,0] from rfl,aa,aT n _ _ (by simpa using by omega) (by simp),aa]
 have e:val [UInt64.ofNat z.natAbs,0,0,0,0,0,0,0] = z.natAbs:=by
  have:=h.w; unfold W1 at this
  simp only [val,kW this]; simp
 rw [e]
 unfold L
 by_cases h0:z < 0
 ·simp [h0]; omega
 ·simp [h0]
theorem hS (n:Nat) (z:Int) (h:Sm z) (hn:10 < n):cV_p n z = some (L z):=by
 unfold cV_p; rw [of_ok n z hn,aa,nY n z h hn,aa]
def Rt (q:Rat):Td:=⟨L q.num,L q.den⟩
theorem kw {x y:Int} (hy:0 < y) (hc:x.natAbs.Coprime y.natAbs):(Rat.divInt x y).num = x/\((Rat.divInt x y).den:Int) = y:=by
 have e:Rat.divInt x y = { num:=x,den:=y.natAbs,den_nz:=by omega,reduced:=hc }:=by
  rw [Rat.mk_eq_divInt]; congr 1; omega
 rw [e]; exact ⟨rfl,by simp only; omega⟩
theorem dc {x y:Int} (h:y ≠ 0):cg x y = some (x.tmod y):=if_neg h
theorem bQ {α:Type} (xs ys:Lb α) (h:xs.length + ys.length <= 1000000):app xs ys = some (xs ++ ys):=if_pos (Nat.le_trans h (by decide))
def dv:Lb Int -> Nat
 | []=>0
 | x :: xs=>x.toNat + 4294967296 * dv xs
def Dig (xs:Lb Int):Prop:=∀ x ∈ xs,0 <= x/\x < 4294967296
theorem gh:Dig []:=fun x hx=>by cases hx
theorem iR (xs ys:Lb Int):dv (xs ++ ys) = dv xs + 4294967296 ^ xs.length * dv ys:=by
 induction xs with
 | nil=>simp [dv]
 | cons x xs ih=>simp only [List.cons_append,dv,ih,leC,Nat.pow_succ]; grind
theorem Dig.tl {x:Int} {xs:Lb Int} (h:Dig (x :: xs)):Dig xs:=fun y hy=>h y (List.mem_cons_of_mem _ hy)
theorem dE:∀ {xs:Lb Int},Dig xs -> dv xs < 4294967296 ^ xs.length
 | [],_=>by simp [dv]
 | x :: xs,h=>by
  have h1:=h x (List.mem_cons_self ..)
  have h2:4294967296 * (dv xs + 1) <= 4294967296 * 4294967296 ^ xs.length:=Nat.mul_le_mul_left _ (dE h.tl)
  simp only [dv,leC,Nat.pow_succ]
  rw [Nat.mul_comm (_ ^ _)]
  omega
theorem cm (a:Lb Int) {i:Nat} (h:i < a.length):dv (a.take (i + 1)) = dv (a.take i) + 4294967296 ^ i * a[i].toNat:=by
 rw [<- List.take_append_getElem h,iR,List.length_take,Nat.min_eq_left (Nat.le_of_lt h)]
 simp [dv]
theorem fT (b:Lb Int) (i:Nat):dv (b.take (i + 1)) = dv (b.take i) + 4294967296 ^ i * (b[i]?.getD 0).toNat:=by
 by_cases h:i < b.length
 ·rw [cm b h,geE h]; rfl
 ·rw [bE (by omega),bE (by omega),List.getElem?_eq_none (by omega)]; simp
theorem iz (a:Lb Int) {i:Nat} (h:i < a.length):dv a = dv (a.take i) + 4294967296 ^ i * a[i].toNat + 4294967296 ^ (i + 1) * dv (a.drop (i + 1)):=by
 conv=>lhs; rw [<- List.take_append_drop (i + 1) a,iR]
 rw [cm a h,List.length_take,Nat.min_eq_left (by omega)]
theorem mq:∀ {xs:Lb Int} {j:Nat} (v:Int) (h:j < xs.length),dv (xs.set j v) + 4294967296 ^ j * xs[j].toNat = dv xs + 4294967296 ^ j * v.toNat
 | x :: xs,0,v,_=>by simp only [List.set_cons_zero,dv,List.getElem_cons_zero,Nat.pow_zero]; omega
 | x :: xs,j + 1,v,h=>by
  have:=mq (xs:=xs) (j:=j) v (by simpa using h)
  simp only [List.set_cons_succ,dv,List.getElem_cons_succ,Nat.pow_succ]
  grind
theorem gl:∀ (xs:Lb Int),(∀ x ∈ xs,x = 0) -> dv xs = 0
 | [],_=>rfl
 | x :: xs,h=>by
  have h1:=h x (List.mem_cons_self ..)
  have h2:=gl xs fun y hy=>h y (List.mem_cons_of_mem _ hy)
  subst h1; simp [dv,h2]
def rd (m:Nat):Lb Int:=if m = 0 then [] else ((m % 4294967296:Nat):Int) :: rd (m / 4294967296)
termination_by m
decreasing_by exact Nat.div_lt_self (by omega) (by omega)
theorem rd0:rd 0 = []:=by unfold rd; simp
theorem ju {m:Nat} (h:m ≠ 0):rd m = ((m % 4294967296:Nat):Int) :: rd (m / 4294967296):=by rw [rd]; rw [if_neg h]
theorem aL (m:Nat):dv (rd m) = m:=by
 induction m using Nat.strongRecOn with
 | _ m ih=>
  by_cases h:m = 0
  ·subst h; rw [rd0]; rfl
  ·rw [ju h]; simp only [dv]
   rw [ih _ (Nat.div_lt_self (by omega) (by omega)),Int.toNat_natCast]
   exact Nat.mod_add_div m 4294967296
theorem aG (m:Nat):Dig (rd m):=by
 induction m using Nat.strongRecOn with
 | _ m ih=>
  by_cases h:m = 0
  ·subst h; rw [rd0]; intro x hx; cases hx
  ·rw [ju h]
   intro x hx
   rcases List.mem_cons.1 hx with rfl | hx
   ·omega
   ·exact ih _ (Nat.div_lt_self (by omega) (by omega)) x hx
def Nr (xs:Lb Int):Prop:=∀ x,xs.getLast? = some x -> x ≠ 0
theorem Nr.tail {x y:Int} {xs:Lb Int} (h:Nr (x :: y :: xs)):Nr (y :: xs):=fun z hz=>h z (by rw [List.getLast?_cons_cons]; exact hz)
theorem kY:∀ {xs:Lb Int},Dig xs -> Nr xs -> xs ≠ [] -> 4294967296 ^ (xs.length - 1) <= dv xs
 | [],_,_,h=>absurd I h
 | [x],hd,h,_=>by
  have h1:=h x I
  have h2:=hd x (List.mem_cons_self ..)
  simp only [dv,leC,leN]
  show 4294967296 ^ 0 <= _
  rw [Nat.pow_zero]; omega
 | x :: y :: xs,hd,h,_=>by
  have h1:=kY hd.tl h.tail (by simp)
  have h2:4294967296 * 4294967296 ^ xs.length <= 4294967296 * dv (y :: xs):=Nat.mul_le_mul_left _ (by simpa using h1)
  show 4294967296 ^ (xs.length + 1) <= x.toNat + 4294967296 * dv (y :: xs)
  rw [Nat.pow_succ,Nat.mul_comm]; omega
theorem dv_pos {xs:Lb Int} (hd:Dig xs) (h:Nr xs) (h0:xs ≠ []):0 < dv xs:=by
 have:=kY hd h h0
 have h2:0 < 4294967296 ^ (xs.length - 1):=Nat.pow_pos (by decide)
 omega
theorem oS:∀ {xs:Lb Int},Dig xs -> Nr xs -> rd (dv xs) = xs
 | [],_,_=>rd0
 | x :: xs,hd,h=>by
  have hp:=dv_pos hd h (by simp)
  have hx:=hd x (List.mem_cons_self ..)
  rw [ju (by omega)]
  have h1:((dv (x :: xs) % 4294967296:Nat):Int) = x:=by simp only [dv]; omega
  have h2:dv (x :: xs) / 4294967296 = dv xs:=by simp only [dv]; omega
  have h3:Nr xs:=by
   cases xs with
   | nil=>intro z hz; simp at hz
   | cons y ys=>exact h.tail
  rw [h1,h2,oS hd.tl h3]
theorem gQ (m:Nat):Nr (rd m):=by
 induction m using Nat.strongRecOn with
 | _ m ih=>
  intro x hx
  by_cases h:m = 0
  ·subst h; rw [rd0] at hx; cases hx
  ·rw [ju h] at hx
   by_cases h2:m / 4294967296 = 0
   ·rw [h2,rd0] at hx
    simp at hx
    omega
   ·have h3:=ih (m / 4294967296) (Nat.div_lt_self (by omega) (by omega))
    rw [ju h2] at hx h3
    rw [List.getLast?_cons_cons] at hx
    exact h3 x hx
theorem dA {m l:Nat} (h:m < 4294967296 ^ l):(rd m).length <= l:=by
 by_cases h0:rd m = []
 ·rw [h0]; simp
 ·have h1:=kY (aG m) (gQ m) h0
  rw [aL] at h1
  have h2:=Nat.lt_of_le_of_lt h1 h
  have h3:=(Nat.pow_lt_pow_iff_right (by omega)).1 h2
  omega
theorem ml {m:Nat}:rd m = [] ↔ m = 0:=⟨fun h=>by have:=aL m; rw [h] at this; exact this.symm,fun h=>by rw [h]; exact rd0⟩
theorem dV {a b:Nat} (h:a <= b):(rd a).length <= (rd b).length:=dA (Nat.lt_of_le_of_lt h (by have:=dE (aG b); rwa [aL] at this))
theorem eM (n:Nat) (ws:Lb Int) (hd:Dig ws) (hn:ws.length < n) (hl:ws.length <= 1000000):aC_p n ws = some (rd (dv ws)):=by
 have h:=au (B:=aC_l1 n ws) (fun z:Int=>z.toNat) (fun z=>0 <= z/\z <= ws.length/\∀ i:Nat,z.toNat <= i -> ∀ h:i < ws.length,ws[i] = 0)
  (fun z=>∃ k:Nat,z = k/\k <= ws.length/\(∀ i:Nat,k <= i -> ∀ h:i < ws.length,ws[i] = 0)/\∀ h:0 < k,∀ h2:k - 1 < ws.length,ws[k - 1] ≠ 0) ?_ n (ws.length:Int) ⟨by omega,by omega,fun i h1 h2=>by omega⟩ (by simpa using hn)
 ·obtain ⟨z,hz,k,rfl,hk,hz0,hz1⟩:=h
  have e:dv ws = dv (ws.take k):=by
   conv=>lhs; rw [<- List.take_append_drop k ws,iR]
   rw [gl (ws.drop k) fun x hx=>?_]
   ·simp
   ·obtain ⟨i,hi,rfl⟩:=List.getElem_of_mem hx
    rw [List.getElem_drop]
    exact hz0 _ (by omega) _
  have hnm:Nr (ws.take k):=by
   intro x hx
   rw [List.getLast?_eq_getElem?,List.length_take,Nat.min_eq_left hk] at hx
   obtain ⟨h1,rfl⟩:=List.getElem?_eq_some_iff.1 hx
   have h2:k - 1 < ws.length:=by rw [List.length_take] at h1; omega
   by_cases h0:0 < k
   ·rw [List.getElem_take]; exact hz1 h0 h2
   ·rw [List.length_take] at h1; omega
  have e2:rd (dv ws) = ws.take k:=by rw [e]; exact oS (fun x hx=>hd x (List.mem_of_mem_take hx)) hnm
  unfold aC_p jn
  simp only [hz,aa,mz hk,e2]
 ·intro z J ⟨h1,h2,h3⟩ hJ
  unfold aC_l1
  simp only
  by_cases h0:0 < z
  ·rw [if_pos h0,aS (by omega) (by omega),aa,bg (by omega) (by omega),aa]
   split
   ·rename_i hx
    rw [aa]
    refine hJ (z - 1) ⟨by omega,by omega,fun i h4 h5=>?_⟩ (by omega)
    by_cases h6:i = (z - 1).toNat
    ·subst h6; exact hx
    ·exact h3 i (by omega) h5
   ·rename_i hx
    refine ⟨z,I,z.toNat,by omega,by omega,h3,fun h4 h5=>?_⟩
    have:(z - 1).toNat = z.toNat - 1:=by omega
    simp only [this] at hx
    exact hx
  ·rw [if_neg h0]
   exact ⟨z,I,0,by omega,by omega,fun i h4 h5=>h3 i (by omega) h5,fun h4=>by omega⟩
theorem mX {a b:Lb Int} (ha:Dig a) (hbd:Dig b) (hb:Nr b) (h:a.length < b.length):dv a < dv b:=by
 have h1:=dE ha
 have h2:=kY hbd hb (by intro e; rw [e] at h; simp at h)
 have h3:4294967296 ^ a.length <= 4294967296 ^ (b.length - 1):=Nat.pow_le_pow_right (by omega) (by omega)
 omega
theorem lF {a b:Lb Int} {i:Nat} (hda:Dig a) (hdb:Dig b) (ha:i < a.length) (hb:i < b.length) (hd:a.drop (i + 1) = b.drop (i + 1)) (h:a[i] < b[i]):dv a < dv b:=by
 rw [iz a ha,iz b hb,hd]
 have h1:=dE (xs:=a.take i) fun x hx=>hda x (List.mem_of_mem_take hx)
 rw [List.length_take,Nat.min_eq_left (by omega)] at h1
 have h3:=hda a[i] (List.getElem_mem _)
 have h4:=hdb b[i] (List.getElem_mem _)
 have h2:4294967296 ^ i * (a[i].toNat + 1) <= 4294967296 ^ i * b[i].toNat:=Nat.mul_le_mul_left _ (by omega)
 rw [Nat.mul_add] at h2
 omega
theorem iH (n:Nat) (a b:Lb Int) (hda:Dig a) (hdb:Dig b) (ha:Nr a) (hb:Nr b) (hn:a.length < n) (hl:a.length < 1000000):∃ c,aV_p n a b = some c/\(c < 0 ↔ dv a < dv b)/\(c = 0 ↔ dv a = dv b):=by
 unfold aV_p
 by_cases h:a.length = b.length
 ·rw [if_pos h]
  have hh:=au (B:=aV_l1 n a b) (fun z:Int=>(z + 1).toNat) (fun z=>-1 <= z/\z < a.length/\a.drop (z + 1).toNat = b.drop (z + 1).toNat)
   (fun r=>(∃ c,r = .inl c/\(c < 0/\dv a < dv b ∨ 0 < c/\dv b < dv a)) ∨ (r = .inr ()/\a = b)) ?_ n ((a.length:Int) - 1) ⟨by omega,by omega,?_⟩ (by omega)
  ·obtain ⟨r,hr,⟨c,h1,h2⟩ | h1⟩:=hh
   ·rw [hr,h1]; exact ⟨_,rfl,by omega,by omega⟩
   ·rw [hr,h1.1,h1.2]; exact ⟨_,rfl,by omega,by omega⟩
  ·intro z J ⟨h1,h2,h3⟩ hJ
   unfold aV_l1
   simp only
   by_cases h0:0 <= z
   ·have e1:(z + 1).toNat = z.toNat + 1:=by omega
    rw [e1] at h3
    have d1:=hda (a[z.toNat]'(by omega)) (List.getElem_mem _)
    have d2:=hdb (b[z.toNat]'(by omega)) (List.getElem_mem _)
    rw [if_pos h0,bg h0 (by omega),aa,bg h0 (by omega),aa]
    split
    ·rename_i he
     rw [aS (by omega) (by omega),aa]
     refine hJ (z - 1) ⟨by omega,by omega,?_⟩ (by omega)
     rw [show (z - 1 + 1).toNat = z.toNat by omega,List.drop_eq_getElem_cons (by omega),List.drop_eq_getElem_cons (l:=b) (by omega),h3,he]
    ·rename_i hne
     rw [aS (by omega) (by omega),aa]
     by_cases hlt:a[z.toNat]'(by omega) < b[z.toNat]'(by omega)
     ·exact ⟨_,I,.inl ⟨_,I,.inl ⟨by omega,lF hda hdb (by omega) (by omega) h3 hlt⟩⟩⟩
     ·exact ⟨_,I,.inl ⟨_,I,.inr ⟨by omega,lF hdb hda (by omega) (by omega) h3.symm (by omega)⟩⟩⟩
   ·rw [if_neg h0]
    have e1:(z + 1).toNat = 0:=by omega
    rw [e1] at h3
    exact ⟨_,rfl,.inr ⟨rfl,by simpa using h3⟩⟩
  ·rw [show ((a.length:Int) - 1 + 1).toNat = a.length by omega,List.drop_length,h,List.drop_length]
 ·rw [if_neg h]
  refine ⟨_,I,?_⟩
  by_cases h1:a.length < b.length
  ·have:=mX hda hdb hb h1; omega
  ·have:=mX (a:=b) hdb hda ha (by omega); omega
theorem eB {xs:Lb Int} {x:Int} (h:Dig xs) (hx:0 <= x/\x < 4294967296):Dig (xs ++ [x]):=fun y hy=>(List.mem_append.1 hy).elim (h y) fun e=>by rw [List.mem_singleton.1 e]; exact hx
theorem gk (xs:Lb Int) (x:Int):dv (xs ++ [x]) = dv xs + 4294967296 ^ xs.length * x.toNat:=by rw [iR]; simp [dv]
theorem io (n:Nat) (a b:Lb Int) (hda:Dig a) (hdb:Dig b) (hb:b.length <= a.length) (hv:dv b <= dv a) (hn:a.length < n) (hl:a.length < 100000):av_p n a b = some (rd (dv a - dv b)):=by
 have h:=au (B:=av_l1 n a b) (fun s:Nat × Nat × Lb Int=>a.length - s.2.1) (fun s=>s.2.1 <= a.length/\s.2.2.length = s.2.1/\s.1 <= 1/\Dig s.2.2/\dv s.2.2 + dv (b.take s.2.1) = dv (a.take s.2.1) + 4294967296 ^ s.2.1 * s.1)
  (fun r:Lb Int=>r.length = a.length/\Dig r/\dv r = dv a - dv b) ?_ n (0,0,[]) ⟨by simp,by simp,by simp,gh,by simp [dv]⟩ (by simpa using hn)
 ·obtain ⟨xs,h1,h2,h3,h4⟩:=h
  unfold av_p
  rw [h1,aa,eM n xs h3 (by omega) (by omega),aa,h4]
 ·rintro ⟨u,i,xs⟩ J ⟨h1,h2,h3,h4,h5⟩ hJ
  simp only at h1 h2 h3 h4 h5 hJ
  unfold av_l1
  simp only
  by_cases hi:i < a.length
  ·have da:=hda a[i] (List.getElem_mem _)
   rw [if_pos hi,geE hi,aa,aS (by omega) (by omega),aa]
   have key:∀ y:Int,0 <= y -> y < 4294967296 -> y.toNat = (b[i]?.getD 0).toNat -> ∃ r,(if a[i] - (u:Int) - y < 0 then (chk (a[i] - (u:Int) - y + 4294967296)).bind fun s245=>(app xs ([s245]:Lb Int)).bind fun xs230=>J (1,i + 1,xs230) else (app xs ([a[i] - (u:Int) - y]:Lb Int)).bind fun xs230=>J (0,i + 1,xs230)) = some r/\r.length = a.length/\Dig r/\dv r = dv a - dv b:=by
    intro y y0 y1 hy
    split
    ·rename_i hneg
     rw [aS (by omega) (by omega),aa,bQ _ _ (by simp only [leC,leN]; omega),aa]
     have e:dv (xs ++ [a[i] - (u:Int) - y + 4294967296]) + dv (b.take (i + 1)) = dv (a.take (i + 1)) + 4294967296 ^ (i + 1) * 1:=by
      rw [gk,h2,cm a hi,fT b i,<- hy,Nat.pow_succ]
      have e1:(a[i] - (u:Int) - y + 4294967296).toNat + u + y.toNat = a[i].toNat + 4294967296:=by omega
      have e2:=congrArg (4294967296 ^ i * ·) e1
      simp only [Nat.mul_add] at e2
      omega
     refine hJ (1,i + 1,_) ⟨hi,by simp only [List.length_append,leC,leN]; omega,by simp,eB h4 (by omega),by simpa using e⟩ (by simp only; omega)
    ·rename_i hneg
     rw [bQ _ _ (by simp only [leC,leN]; omega),aa]
     have e:dv (xs ++ [a[i] - (u:Int) - y]) + dv (b.take (i + 1)) = dv (a.take (i + 1)) + 4294967296 ^ (i + 1) * 0:=by
      rw [gk,h2,cm a hi,fT b i,<- hy,Nat.mul_zero]
      have e1:(a[i] - (u:Int) - y).toNat + u + y.toNat = a[i].toNat:=by omega
      have e2:=congrArg (4294967296 ^ i * ·) e1
      simp only [Nat.mul_add] at e2
      omega
     refine hJ (0,i + 1,_) ⟨hi,by simp only [List.length_append,leC,leN]; omega,by simp,eB h4 (by omega),by simpa using e⟩ (by simp only; omega)
   unfold jn
   simp only
   by_cases hj:i < b.length
   ·have db:=hdb b[i] (List.getElem_mem _)
    rw [if_pos hj,geE hj,aa,aS (by omega) (by omega),aa]
    exact key b[i] db.1 db.2 (by rw [geE hj]; rfl)
   ·rw [if_neg hj]
    have:=key 0 (by decide) (by decide) (by rw [List.getElem?_eq_none (by omega)]; rfl)
    rwa [Int.sub_zero] at this
  ·rw [if_neg hi]
   have:i = a.length:=by omega
   subst this
   rw [List.take_length,bE hb] at h5
   refine ⟨xs,I,h2,h4,?_⟩
   have h6:=dE h4
   rw [h2] at h6
   by_cases hu:u = 0
   ·rw [hu] at h5; omega
   ·have:u = 1:=by omega
    rw [this] at h5; omega
theorem nS (n:Nat) (a:Lb Int) (bit:Int) (hda:Dig a) (h0:0 <= bit/\bit <= 1) (hn:a.length + 1 < n) (hl:a.length < 100000):bC_p n a bit = some (rd (2 * dv a + bit.toNat)):=by
 have h:=au (B:=bC_l1 n a) (fun s:Int × Nat × Lb Int=>a.length - s.2.1) (fun s=>s.2.1 <= a.length/\s.2.2.length = s.2.1/\(0 <= s.1/\s.1 <= 1)/\Dig s.2.2/\dv s.2.2 + 4294967296 ^ s.2.1 * s.1.toNat = 2 * dv (a.take s.2.1) + bit.toNat)
  (fun r:Lb Int × Int=>r.1.length = a.length/\Dig r.1/\(0 <= r.2/\r.2 <= 1)/\dv r.1 + 4294967296 ^ a.length * r.2.toNat = 2 * dv a + bit.toNat) ?_ n (bit,0,[]) ⟨by simp,by simp,h0,gh,by simp [dv]⟩ (by simp only; omega)
 ·obtain ⟨⟨xs,c⟩,h1,h2,h3,h4,h5⟩:=h
  simp only at h2 h3 h4 h5
  unfold bC_p
  rw [h1,aa]
  simp only
  rw [bQ _ _ (by simp only [leC,leN]; omega),aa,eM n _ (eB h3 (by omega)) (by simp only [List.length_append,leC,leN]; omega) (by simp only [List.length_append,leC,leN]; omega),aa,gk,h2,h5]
 ·rintro ⟨c,i,xs⟩ J ⟨h1,h2,h3,h4,h5⟩ hJ
  simp only at h1 h2 h3 h4 h5 hJ
  unfold bC_l1
  simp only
  by_cases hi:i < a.length
  ·have da:=hda a[i] (List.getElem_mem _)
   have q0:Int.tdiv (2 * a[i] + c) 4294967296 = (2 * a[i] + c) / 4294967296:=Int.tdiv_eq_ediv_of_nonneg (by omega)
   have m0:Int.tmod (2 * a[i] + c) 4294967296 = (2 * a[i] + c) % 4294967296:=Int.tmod_eq_emod_of_nonneg (by omega)
   rw [if_pos hi,geE hi,aa,aS (by omega) (by omega),aa,aS (by omega) (by omega),aa,dc (by decide),aa,m0,bQ _ _ (by simp only [leC,leN]; omega),aa]
   unfold ej
   rw [if_neg (by decide),q0,aS (by omega) (by omega),aa]
   refine hJ (_,i + 1,_) ⟨hi,by simp only [List.length_append,leC,leN]; omega,by simp only; omega,eB h4 (by omega),?_⟩ (by simp only; omega)
   simp only
   rw [gk,h2,cm a hi,Nat.pow_succ]
   have e1:((2 * a[i] + c) % 4294967296).toNat + 4294967296 * ((2 * a[i] + c) / 4294967296).toNat = 2 * a[i].toNat + c.toNat:=by omega
   have e2:=congrArg (4294967296 ^ i * ·) e1
   simp only [Nat.mul_add] at e2
   rw [Nat.mul_assoc]
   have e3:4294967296 ^ i * (2 * a[i].toNat) = 2 * (4294967296 ^ i * a[i].toNat):=Nat.mul_left_comm ..
   omega
  ·rw [if_neg hi]
   have:i = a.length:=by omega
   subst this
   rw [List.take_length] at h5
   exact ⟨_,I,h2,h4,h3,h5⟩
theorem eR:∀ {xs:Lb Ua} {j:Nat} (v:Ua) (h:j < xs.length),val (xs.set j v) + 18446744073709551616 ^ j * xs[j].toNat = val xs + 18446744073709551616 ^ j * v.toNat
 | x :: xs,0,v,_=>by simp only [List.set_cons_zero,val,List.getElem_cons_zero,Nat.pow_zero]; omega
 | x :: xs,j + 1,v,h=>by
  have:=eR (xs:=xs) (j:=j) v (by simpa using h)
  simp only [List.set_cons_succ,val,List.getElem_cons_succ,Nat.pow_succ]
  grind
theorem mx {a b:Ua} {s:Nat} (ha:a.toNat < 2 ^ s) (hb:2 ^ s ∣ b.toNat):(a ||| b).toNat = a.toNat + b.toNat:=by
 obtain ⟨y,e⟩:=hb
 rw [UInt64.toNat_or,e,Nat.or_comm,<- Nat.two_pow_add_eq_or_of_lt ha,Nat.add_comm]
theorem eY (w:Nat):18446744073709551616 ^ w = 2 ^ (64 * w):=by
 rw [show (18446744073709551616:Nat) = 2 ^ 64 from I,<- Nat.pow_mul]
theorem eO (x:Ua) {s:Nat} (hs:s < 64):(shlU x s).toNat = x.toNat * 2 ^ s % 18446744073709551616:=by
 unfold shlU; rw [if_pos hs,UInt64.toNat_ofNat']
theorem ck (x:Ua) {s:Nat} (hs:s < 64):(shrU x s).toNat = x.toNat / 2 ^ s:=by
 unfold shrU; rw [if_pos hs,UInt64.toNat_ofNat']
 exact Nat.mod_eq_of_lt (Nat.lt_of_le_of_lt (Nat.div_le_self _ _) x.toNat_lt)
theorem split64 {s:Nat} (hs:s <= 64):(18446744073709551616:Nat) = 2 ^ (64 - s) * 2 ^ s:=by
 rw [<- Nat.pow_add,show 64 - s + s = 64 by omega]
theorem jw (x:Ua) {s:Nat} (h0:0 < s) (hs:s < 64):(shlU x s).toNat + 18446744073709551616 * (shrU x (64 - s)).toNat = x.toNat * 2 ^ s/\2 ^ s ∣ (shlU x s).toNat/\(shrU x (64 - s)).toNat < 2 ^ s:=by
 have e:=split64 (s:=s) (by omega)
 have e1:x.toNat * 2 ^ s / 18446744073709551616 = x.toNat / 2 ^ (64 - s):=by
  rw [e]; exact Nat.mul_div_mul_right _ _ (Nat.two_pow_pos s)
 have e2:x.toNat * 2 ^ s % 18446744073709551616 = x.toNat % 2 ^ (64 - s) * 2 ^ s:=by
  rw [e]; exact Nat.mul_mod_mul_right ..
 rw [eO x hs,ck x (by omega)]
 refine ⟨?_,?_,?_⟩
 ·rw [<- e1]; exact Nat.mod_add_div ..
 ·rw [e2]; exact Nat.dvd_mul_left ..
 ·refine Nat.div_lt_of_lt_mul ?_
  rw [<- e]; exact x.toNat_lt
theorem eE (x:Ua):shlU x 0 = x:=by
 refine UInt64.toNat_inj.1 ?_
 rw [eO x (by decide),Nat.pow_zero,Nat.mul_one]
 exact Nat.mod_eq_of_lt x.toNat_lt
theorem gb (x:Ua):(0:Ua) ||| x = x:=by
 refine UInt64.toNat_inj.1 ?_
 rw [UInt64.toNat_or]; simp
theorem bit_add {q:Lb Ua} {k:Nat} (h:k / 64 < q.length) (hd:2 ^ (k + 1) ∣ val q) (hb:(shlU 1 (k % 64)).toNat = 2 ^ (k % 64)):val (q.set (k / 64) (q[k / 64] ||| shlU 1 (k % 64))) = val q + 2 ^ k:=by
 have hs:=eP q h
 have hl:=dq (q.take (k / 64))
 rw [List.length_take,Nat.min_eq_left (by omega)] at hl
 have hk:k = 64 * (k / 64) + k % 64:=by omega
 have hm:k % 64 < 64:=by omega
 have e1:2 ^ (k + 1) = 18446744073709551616 ^ (k / 64) * 2 ^ (k % 64 + 1):=by rw [eY,<- Nat.pow_add]; congr 1; omega
 have e2:(18446744073709551616:Nat) = 2 ^ (k % 64 + 1) * 2 ^ (63 - k % 64):=by rw [<- Nat.pow_add,show k % 64 + 1 + (63 - k % 64) = 64 by omega]
 have h0:val (q.take (k / 64)) = 0:=by
  have h1:18446744073709551616 ^ (k / 64) ∣ val q:=Nat.dvd_trans ⟨_,e1⟩ hd
  rw [hs,Nat.pow_succ,Nat.mul_assoc,Nat.add_assoc,<- Nat.mul_add] at h1
  have h2:=(Nat.dvd_add_left (Nat.dvd_mul_right ..)).1 h1
  exact Nat.eq_zero_of_dvd_of_lt h2 hl
 have h3:2 ^ (k % 64 + 1) ∣ (q[k / 64]).toNat:=by
  rw [e1,hs,h0,Nat.zero_add,show (18446744073709551616:Nat) ^ (k / 64 + 1) = 18446744073709551616 ^ (k / 64) * 18446744073709551616 from Nat.pow_succ ..,Nat.mul_assoc (18446744073709551616 ^ (k / 64)) 18446744073709551616,<- Nat.mul_add] at hd
  have h4:=Nat.dvd_of_mul_dvd_mul_left (Nat.pow_pos (by decide)) hd
  have h5:2 ^ (k % 64 + 1) ∣ 18446744073709551616 * val (q.drop (k / 64 + 1)):=Nat.dvd_trans ⟨_,e2⟩ (Nat.dvd_mul_right ..)
  exact (Nat.dvd_add_left h5).1 h4
 have h6:(q[k / 64] ||| shlU 1 (k % 64)).toNat = 2 ^ (k % 64) + (q[k / 64]).toNat:=by
  rw [UInt64.or_comm]
  have:=mx (a:=shlU 1 (k % 64)) (b:=q[k / 64]) (s:=k % 64 + 1) (by rw [hb]; exact Nat.pow_lt_pow_right (by decide) (by omega)) h3
  rw [this,hb]
 have h7:=eR (q[k / 64] ||| shlU 1 (k % 64)) h
 have e3:2 ^ k = 18446744073709551616 ^ (k / 64) * 2 ^ (k % 64):=by rw [eY,<- Nat.pow_add]; congr 1
 rw [h6,Nat.mul_add,<- e3] at h7
 omega
theorem shl_one {s:Nat} (hs:s < 64):(shlU 1 s).toNat = 2 ^ s:=by
 rw [eO 1 hs]
 have:2 ^ s < 2 ^ 64:=Nat.pow_lt_pow_right (by decide) hs
 simp only [UInt64.toNat_one,Nat.one_mul]
 exact Nat.mod_eq_of_lt (by omega)
theorem pp {a b q r k:Nat} (h1:a = b * q + r) (h2:r < b * 2 ^ (k + 1)) (h3:2 ^ (k + 1) ∣ q) :
  (b * 2 ^ k <= r -> a = b * (q + 2 ^ k) + (r - b * 2 ^ k)/\r - b * 2 ^ k < b * 2 ^ k/\2 ^ k ∣ q + 2 ^ k)/\(r < b * 2 ^ k -> 2 ^ k ∣ q):=by
 have h4:2 ^ k ∣ q:=Nat.dvd_trans ⟨2,by rw [Nat.pow_succ]⟩ h3
 rw [Nat.pow_succ,<- Nat.mul_assoc] at h2
 refine ⟨fun h=>⟨?_,by omega,Nat.dvd_add h4 (Nat.dvd_refl _)⟩,fun _=>h4⟩
 rw [Nat.mul_add]; omega
def eu (x y:Nat):Nat:=if y = 0 then 0 else (if x < y then 1 else 0) + Nat.log2 (x * y) + 1
theorem nC {x y:Nat} (h:y ≠ 0):eu y (x % y) < eu x y:=by
 have hm:x % y < y:=Nat.mod_lt _ (by omega)
 unfold eu
 rw [if_neg h]
 by_cases h0:x % y = 0
 ·rw [if_pos h0]; omega
 ·rw [if_neg h0,if_neg (show ¬ y < x % y by omega)]
  by_cases h1:x < y
  ·rw [if_pos h1,Nat.mod_eq_of_lt h1,Nat.mul_comm y x]; omega
  ·rw [if_neg h1]
   have h2:2 * (x % y) < x ∨ 2 * (x % y) = x:=by
    have h3:=Nat.div_add_mod x y
    have h4:1 <= x / y:=Nat.div_pos (by omega) (by omega)
    have h5:y * 1 <= y * (x / y):=Nat.mul_le_mul_left _ h4
    omega
   have h6:2 * (y * (x % y)) <= x * y:=by
    rw [Nat.mul_comm x y,Nat.mul_left_comm]
    exact Nat.mul_le_mul_left _ (by omega)
   have h7:y * (x % y) ≠ 0:=Nat.mul_ne_zero h h0
   have h8:Nat.log2 (y * (x % y)) + 1 <= Nat.log2 (x * y):=by
    rw [Nat.le_log2 (by omega),Nat.pow_succ]
    have:=Nat.log2_self_le h7
    omega
   omega
theorem eu_le {x y l:Nat} (hx:x < 2 ^ l) (hy:y < 2 ^ l):eu x y <= 2 * l + 2:=by
 unfold eu
 split
 ·omega
 ·rename_i h
  have h1:Nat.log2 (x * y) <= 2 * l:=by
   by_cases h0:x * y = 0
   ·rw [h0]; simp
   ·have:Nat.log2 (x * y) < 2 * l:=by
     rw [Nat.log2_lt h0,Nat.two_mul,Nat.pow_add]
     exact Nat.mul_lt_mul'' hx hy
    omega
  split <;> omega
theorem oT:(List.range 32).all (fun k=>decide (shlS 1 k = (2:Int) ^ k)) = true:=by kernel_rfl
theorem shlS_ok {k:Nat} (h:k < 32):shlS 1 k = (2:Int) ^ k:=of_decide_eq_true (List.all_eq_true.1 oT k (List.mem_range.2 h))
theorem lO (k:Nat):(2:Int) ^ k = ((2 ^ k:Nat):Int):=by norm_cast
theorem bit_ok {x:Int} {k:Nat} (hx:0 <= x) (hk:k < 32):cg (shrS x k) 2 = some ((x.toNat / 2 ^ k % 2:Nat):Int):=by
 obtain ⟨m,rfl⟩:=Int.eq_ofNat_of_zero_le hx
 unfold shrS
 rw [Nat.min_eq_left (by omega),lO,Int.fdiv_eq_ediv_of_nonneg _ (Int.natCast_nonneg _),dc (by decide),<- Int.natCast_ediv,Int.tmod_eq_emod_of_nonneg (Int.natCast_nonneg _),Int.toNat_natCast]
 congr 1
theorem js (w:Nat):4294967296 ^ w = 2 ^ (32 * w):=by
 rw [show (4294967296:Nat) = 2 ^ 32 from I,<- Nat.pow_mul]
theorem pM {xs:Lb Int} (h:Dig xs) (i:Nat) (hi:i <= xs.length):dv xs / 4294967296 ^ i = dv (xs.drop i):=by
 have h1:=dE (xs:=xs.take i) fun x hx=>h x (List.mem_of_mem_take hx)
 rw [List.length_take,Nat.min_eq_left hi] at h1
 have e:dv xs = dv (xs.take i) + 4294967296 ^ i * dv (xs.drop i):=by
  conv=>lhs; rw [<- List.take_append_drop i xs,iR,List.length_take,Nat.min_eq_left hi]
 rw [e,Nat.add_mul_div_left _ _ (Nat.pow_pos (by decide)),Nat.div_eq_of_lt h1,Nat.zero_add]
theorem oB (a i k:Nat) (hk:k < 32) (hi:i < (rd a).length):(rd a)[i].toNat / 2 ^ k % 2 = a / 2 ^ (32 * i + k) % 2:=by
 have h1:=pM (aG a) i (by omega)
 rw [aL,List.drop_eq_getElem_cons hi] at h1
 simp only [dv] at h1
 rw [Nat.pow_add,<- js,<- Nat.div_div_eq_div_mul,h1]
 have e:(4294967296:Nat) = 2 ^ k * (2 * 2 ^ (31 - k)):=by
  rw [<- Nat.pow_succ', <- Nat.pow_add,show k + (31 - k).succ = 32 by omega]
 generalize dv (List.drop (i + 1) (rd a)) = r
 rw [e,Nat.mul_assoc,Nat.add_mul_div_left _ _ (Nat.two_pow_pos k),Nat.mul_assoc]
 omega
theorem dig_dvd {q:Lb Int} {i k:Nat} (hd:Dig q) (h:i < q.length) (hk:k < 32) (hv:2 ^ (32 * i + k + 1) ∣ dv q):2 ^ (k + 1) ∣ q[i].toNat:=by
 have hs:=iz q h
 have hl:=dE (xs:=q.take i) fun x hx=>hd x (List.mem_of_mem_take hx)
 rw [List.length_take,Nat.min_eq_left (by omega)] at hl
 have e1:2 ^ (32 * i + k + 1) = 4294967296 ^ i * 2 ^ (k + 1):=by rw [js,<- Nat.pow_add]; congr 1
 have e2:(4294967296:Nat) = 2 ^ (k + 1) * 2 ^ (31 - k):=by rw [<- Nat.pow_add,show k + 1 + (31 - k) = 32 by omega]
 have h0:dv (q.take i) = 0:=by
  have h1:4294967296 ^ i ∣ dv q:=Nat.dvd_trans ⟨_,e1⟩ hv
  rw [hs,Nat.pow_succ,Nat.mul_assoc,Nat.add_assoc,<- Nat.mul_add] at h1
  have h2:=(Nat.dvd_add_left (Nat.dvd_mul_right ..)).1 h1
  exact Nat.eq_zero_of_dvd_of_lt h2 hl
 rw [e1,hs,h0,Nat.zero_add,show (4294967296:Nat) ^ (i + 1) = 4294967296 ^ i * 4294967296 from Nat.pow_succ ..,Nat.mul_assoc (4294967296 ^ i) 4294967296,<- Nat.mul_add] at hv
 have h4:=Nat.dvd_of_mul_dvd_mul_left (Nat.pow_pos (by decide)) hv
 have h5:2 ^ (k + 1) ∣ 4294967296 * dv (q.drop (i + 1)):=Nat.dvd_trans ⟨_,e2⟩ (Nat.dvd_mul_right ..)
 exact (Nat.dvd_add_left h5).1 h4
theorem dig_set {q:Lb Int} {i:Nat} {v:Int} (h:Dig q) (hv:0 <= v/\v < 4294967296):Dig (q.set i v):=fun x hx=>(List.mem_or_eq_of_mem_set hx).elim (h x) fun e=>e ▸ hv
theorem lX {t k:Nat} (hk:k < 32) (ht:t < 4294967296) (hd:2 ^ (k + 1) ∣ t):t + 2 ^ k < 4294967296:=by
 obtain ⟨c,rfl⟩:=hd
 have e2:(4294967296:Nat) = 2 ^ (k + 1) * 2 ^ (31 - k):=by rw [<- Nat.pow_add,show k + 1 + (31 - k) = 32 by omega]
 rw [e2] at ht
 have h1:=Nat.lt_of_mul_lt_mul_left ht
 have h2:2 ^ (k + 1) * (c + 1) <= 2 ^ (k + 1) * 2 ^ (31 - k):=Nat.mul_le_mul_left _ h1
 rw [<- e2,Nat.mul_add,Nat.pow_succ] at h2
 have:=Nat.two_pow_pos k
 rw [Nat.pow_succ]
 omega
theorem pA (n:Nat) (a b i:Nat) (q:Lb Int) (hb:(rd b).length < 10000) (hi:i < (rd a).length) (hq:i < q.length) (hqd:Dig q) (Q R:Nat) (h1:dv q = 2 ^ (32 * i + 32) * Q) (h2:a / 2 ^ (32 * i + 32) = b * Q + R) (h3:R < b) (hn:20000 < n) :
  ∃ q' Q' R', ao (aF_l1 n (rd a) (i:Int) (rd b)) n (rd R,31,q) = some (rd R', q')/\q'.length = q.length/\Dig q' /\dv q' = 2 ^ (32 * i) * Q' /\a / 2 ^ (32 * i) = b * Q' + R' /\R' < b:=by
 have hh:=au (B:=aF_l1 n (rd a) (i:Int) (rd b)) (fun s:Lb Int × Int × Lb Int=>(s.2.1 + 1).toNat)
  (fun s=>(-1 <= s.2.1/\s.2.1 <= 31)/\s.2.2.length = q.length/\Dig s.2.2/\∃ Q R,s.1 = rd R/\dv s.2.2 = 2 ^ (32 * i + (s.2.1 + 1).toNat) * Q/\a / 2 ^ (32 * i + (s.2.1 + 1).toNat) = b * Q + R/\R < b)
  (fun y=>y.2.length = q.length/\Dig y.2/\∃ Q R,y.1 = rd R/\dv y.2 = 2 ^ (32 * i) * Q/\a / 2 ^ (32 * i) = b * Q + R/\R < b) ?_ n (rd R,31,q) ⟨by simp,rfl,hqd,Q,R,rfl,h1,h2,h3⟩ (by simp only; omega)
 ·obtain ⟨⟨x,q'⟩,e,e1,e2,Q', R', e3,e4,e5,e6⟩:=hh
  simp only at e3
  subst e3
  exact ⟨q', Q', R', e,e1,e2,e4,e5,e6⟩
 ·rintro ⟨xs,z,q⟩ J ⟨a1,a2,a3,Q,R,rfl,a4,a5,a6⟩ hJ
  simp only at a1 a2 a3 a4 a5 hJ
  unfold aF_l1
  simp only
  by_cases hz:0 <= z
  ·obtain ⟨k,rfl⟩:∃ k:Nat,z = k:=⟨z.toNat,by omega⟩
   have hk:k < 32:=by omega
   have e0:(((k:Int) + 1).toNat) = k + 1:=by omega
   rw [e0] at a4 a5
   have hdi:=aG a (rd a)[i] (List.getElem_mem _)
   have hRl:=dV (Nat.le_of_lt a6)
   rw [if_pos hz,bg (by omega) (by rw [Int.toNat_natCast]; exact hi),aa,show bT (k:Int) = some k from by unfold bT; rw [if_pos hz,Int.toNat_natCast],aa]
   simp only [Int.toNat_natCast]
   rw [bit_ok hdi.1 hk,aa,oB a i k hk hi,nS n _ _ (aG R) (by omega) (by omega) (by omega),aa,aL,Int.toNat_natCast]
   have hbit:a / 2 ^ (32 * i + k) % 2 < 2:=Nat.mod_lt _ (by decide)
   have hab:a / 2 ^ (32 * i + k) = b * (2 * Q) + (2 * R + a / 2 ^ (32 * i + k) % 2):=by
    have:a / 2 ^ (32 * i + (k + 1)) = a / 2 ^ (32 * i + k) / 2:=by rw [<- Nat.add_assoc,Nat.pow_succ,Nat.div_div_eq_div_mul]
    rw [this] at a5
    rw [Nat.mul_left_comm]; omega
   have hdq:dv q = 2 ^ (32 * i + k) * (2 * Q):=by rw [a4,<- Nat.add_assoc,Nat.pow_succ,Nat.mul_assoc]
   generalize a / 2 ^ (32 * i + k) % 2 = t at hbit hab ⊢
   obtain ⟨c,ec,c1,c2⟩:=iH n (rd (2 * R + t)) (rd b) (aG _) (aG _) (gQ _) (gQ _) (by have:=dA (m:=2 * R + t) (l:=(rd b).length + 1) (by have:=dE (aG b); rw [aL] at this; rw [Nat.pow_succ]; omega); omega) (by have:=dA (m:=2 * R + t) (l:=(rd b).length + 1) (by have:=dE (aG b); rw [aL] at this; rw [Nat.pow_succ]; omega); omega)
   rw [aL,aL] at c1 c2
   have hl2:(rd (2 * R + t)).length < 10002:=by have:=dA (m:=2 * R + t) (l:=(rd b).length + 1) (by have:=dE (aG b); rw [aL] at this; rw [Nat.pow_succ]; omega); omega
   rw [ec,aa]
   unfold jn
   simp only
   have eN:(((k:Int) - 1 + 1)).toNat = k:=by omega
   by_cases hc:0 <= c
   ·have hge:b <= 2 * R + t:=by omega
    have hdd:=dig_dvd a3 (by omega:i < q.length) hk (by rw [a4]; exact Nat.dvd_mul_right ..)
    have hqi:=a3 (q[i]'(by omega)) (List.getElem_mem _)
    have hroom:=lX hk (by omega) hdd
    have hk2:(2:Nat) ^ k < 4294967296:=by have:=Nat.zero_le (q[i]'(by omega)).toNat; omega
    rw [if_pos hc,io n _ _ (aG _) (aG _) (dV hge) (by rw [aL,aL]; exact hge) (by omega) (by omega),aa,aL,aL,bg (by omega) (by rw [Int.toNat_natCast]; omega),aa]
    simp only [Int.toNat_natCast]
    rw [aa,shlS_ok hk,lO,aS (by omega) (by omega),aa,cC _ (by omega),aa,aS (by omega) (by omega),aa]
    refine hJ (_,_,_) ⟨by simp only; omega,by simpa using a2,dig_set a3 (by omega),2 * Q + 1,2 * R + t - b,rfl,?_,?_,by omega⟩ (by simp only; omega)
    ·simp only
     rw [eN]
     have hp:=mq ((q[i]'(by omega)) + ((2 ^ k:Nat):Int)) (by omega:i < q.length)
     rw [show ((q[i]'(by omega)) + ((2 ^ k:Nat):Int)).toNat = (q[i]'(by omega)).toNat + 2 ^ k by omega,Nat.mul_add] at hp
     have e5:2 ^ (32 * i + k) = 4294967296 ^ i * 2 ^ k:=by rw [js,<- Nat.pow_add]
     rw [Nat.mul_add,Nat.mul_one,<- hdq,e5]
     omega
    ·simp only
     rw [eN,hab,Nat.mul_add]; omega
   ·rw [if_neg hc,aS (by omega) (by omega),aa]
    refine hJ (_,_,_) ⟨by simp only; omega,a2,a3,2 * Q,2 * R + t,rfl,?_,?_,by omega⟩ (by simp only; omega)
    ·simp only; rw [eN]; exact hdq
    ·simp only; rw [eN]; exact hab
  ·rw [if_neg hz]
   have e0:(z + 1).toNat = 0:=by omega
   rw [e0] at a4 a5
   exact ⟨_,I,a2,a3,Q,R,I,a4,a5,a6⟩
theorem jG (n:Nat) (a b:Nat) (h0:b ≠ 0) (ha:(rd a).length < 10000) (hb:(rd b).length < 10000) (hn:20000 < n):aF_p n (rd a) (rd b) = some (rd (a / b),rd (a % b)):=by
 have hbn:rd b ≠ []:=fun e=>h0 (ml.1 e)
 have hbp:=kY (aG b) (gQ b) hbn
 have hal:=dE (aG a)
 rw [aL] at hbp hal
 have hb1:1 <= (rd b).length:=by
  rcases h:rd b with _ | ⟨x,xs⟩
  ·exact absurd h hbn
  ·simp
 unfold aF_p
 by_cases hc:(((rd a).length:Nat):Int) <= (((rd b).length:Nat):Int) - 1
 ·have hab:a < b:=Nat.lt_of_lt_of_le hal (Nat.le_trans (Nat.pow_le_pow_right (by decide) (by omega)) hbp)
  rw [if_pos hc,bQ _ _ (by simp only [leN]; omega),aa,List.nil_append,Nat.div_eq_of_lt hab,Nat.mod_eq_of_lt hab,rd0]
 ·obtain ⟨lq,hlq⟩:∃ lq:Nat,(((rd a).length:Nat):Int) - ((((rd b).length:Nat):Int) - 1) = lq:=⟨(rd a).length - ((rd b).length - 1),by omega⟩
  have hdr:(rd a).drop lq = rd (a / 2 ^ (32 * lq)):=by
   have h1:=pM (aG a) lq (by omega)
   rw [aL,js] at h1
   rw [h1]
   refine (oS (fun x hx=>aG a x (List.mem_of_mem_drop hx)) fun x hx=>?_).symm
   rw [List.getLast?_drop] at hx
   split at hx
   ·cases hx
   ·exact gQ a x hx
  have hR:a / 2 ^ (32 * lq) < b:=by
   rw [<- js]
   refine Nat.lt_of_lt_of_le ?_ hbp
   refine Nat.div_lt_of_lt_mul ?_
   rw [<- Nat.pow_add,show lq + ((rd b).length - 1) = (rd a).length by omega]
   exact hal
  rw [if_neg hc,hlq,iC _ _ (by omega),aa]
  rw [show cut (rd a) (lq:Int) (((rd a).length:Nat):Int) = some ((rd a).drop lq) from by unfold cut; rw [if_pos ⟨by omega,by omega,by omega⟩,Int.toNat_natCast,Int.toNat_natCast,List.take_length],aa,bQ _ _ (by rw [List.length_drop]; simp only [leN]; omega),aa,List.nil_append,hdr,List.length_replicate]
  have hh:=au (B:=aF_l2 n (rd a) (rd b)) (fun s:Lb Int × Int × Lb Int=>(s.2.1 + 1).toNat)
   (fun s=>(-1 <= s.2.1/\s.2.1 < lq)/\s.2.2.length = lq/\Dig s.2.2/\∃ Q R,s.1 = rd R/\dv s.2.2 = 2 ^ (32 * (s.2.1 + 1).toNat) * Q/\a / 2 ^ (32 * (s.2.1 + 1).toNat) = b * Q + R/\R < b)
   (fun y=>y.1.length = lq/\Dig y.1/\dv y.1 = a / b/\y.2 = rd (a % b)) ?_ n (rd (a / 2 ^ (32 * lq)),(lq:Int) - 1,List.replicate lq 0)
   ⟨by simp only; omega,by simp,fun x hx=>by rw [(List.mem_replicate.1 hx).2]; decide,0,a / 2 ^ (32 * lq),rfl,by simp only [Nat.mul_zero]; exact gl _ fun x hx=>(List.mem_replicate.1 hx).2,by simp only [Nat.mul_zero,Nat.zero_add]; congr 2; omega,hR⟩ (by simp only; omega)
  ·obtain ⟨⟨q,r⟩,e,e1,e2,e3,e4⟩:=hh
   simp only at e1 e2 e3 e4
   rw [e,aa]
   simp only
   rw [eM n q e2 (by omega) (by omega),aa,e3,e4]
  ·rintro ⟨xs,z,q⟩ J ⟨a1,a2,a3,Q,R,rfl,a4,a5,a6⟩ hJ
   simp only at a1 a2 a3 a4 a5 hJ
   unfold aF_l2
   simp only
   by_cases hz:0 <= z
   ·obtain ⟨k,rfl⟩:∃ k:Nat,z = k:=⟨z.toNat,by omega⟩
    have e0:32 * (((k:Int) + 1).toNat) = 32 * k + 32:=by omega
    rw [e0] at a4 a5
    obtain ⟨q', Q', R', e,e1,e2,e3,e4,e5⟩:=pA n a b k q hb (by omega) (by omega) a3 Q R a4 a5 a6 hn
    rw [if_pos hz,e,aa]
    simp only
    rw [aS (by omega) (by omega),aa]
    have eN:(((k:Int) - 1 + 1)).toNat = k:=by omega
    refine hJ (_,_,_) ⟨by simp only; omega,by simp only; omega,e2,Q', R', rfl,by simp only; rw [eN]; exact e3,by simp only; rw [eN]; exact e4,e5⟩ (by simp only; omega)
   ·rw [if_neg hz]
    have e0:(z + 1).toNat = 0:=by omega
    rw [e0,Nat.mul_zero,Nat.pow_zero] at a4 a5
    rw [Nat.div_one] at a5
    rw [Nat.one_mul] at a4
    have hu:=(Nat.div_mod_unique (a:=a) (b:=b) (c:=R) (d:=Q) (by omega)).2 ⟨by omega,a6⟩
    exact ⟨_,rfl,a2,a3,by simp only; rw [a4,hu.1],by simp only; rw [hu.2]⟩
theorem iy (n:Nat) (x y:Nat) (s t:Bool) (hx:(rd x).length < 10000) (hy:(rd y).length < 10000) (hn:18446744073709551616 < n):aY_p n ⟨s,rd x⟩ ⟨t,rd y⟩ = some ⟨false,rd (Nat.gcd x y)⟩:=by
 have hxl:=dE (aG x)
 have hyl:=dE (aG y)
 rw [aL,js] at hxl hyl
 obtain ⟨M,hM⟩:∃ M:Nat,M = 320000:=⟨_,I⟩
 have hx2:x < 2 ^ M:=Nat.lt_of_lt_of_le hxl (Nat.pow_le_pow_right (by decide) (by omega))
 have hy2:y < 2 ^ M:=Nat.lt_of_lt_of_le hyl (Nat.pow_le_pow_right (by decide) (by omega))
 have he:=eu_le hx2 hy2
 have hh:=au (B:=aY_l1 n) (fun s:Lb Int × Lb Int=>eu (dv s.1) (dv s.2)) (fun s=>∃ a b,s = (rd a,rd b)/\(rd a).length < 10000/\(rd b).length < 10000/\Nat.gcd a b = Nat.gcd x y)
  (fun r=>r = rd (Nat.gcd x y)) ?_ n (rd x,rd y) ⟨_,_,rfl,hx,hy,rfl⟩ (by simp only [aL]; omega)
 ·obtain ⟨r,h1,rfl⟩:=hh
  unfold aY_p
  simp only
  rw [h1,aa]
 ·rintro _ J ⟨a,b,rfl,h1,h2,h3⟩ hJ
  unfold aY_l1
  simp only
  by_cases h0:b = 0
  ·subst h0
   rw [if_neg (by rw [rd0]; simp)]
   exact ⟨_,rfl,by rw [<- h3,Nat.gcd_zero_right]⟩
  ·have hm:a % b < b:=Nat.mod_lt _ (by omega)
   have hbl:0 < (rd b).length:=by
    rcases h:rd b with _ | ⟨z,zs⟩
    ·exact absurd (ml.1 h) h0
    ·simp
   rw [if_pos hbl,jG n a b h0 h1 h2 (by omega),aa]
   simp only
   refine hJ (rd b,rd (a % b)) ⟨_,_,rfl,h2,Nat.lt_of_le_of_lt (dV (Nat.le_of_lt hm)) h2,?_⟩ (by simp only [aL]; exact nC h0)
   rw [<- h3,Nat.gcd_comm a b,Nat.gcd_rec b a,Nat.gcd_comm]
theorem mp {m:Nat}:0 < (rd m).length ↔ 0 < m:=by
 constructor
 ·intro h
  by_cases h0:m = 0
  ·rw [h0,rd0] at h; simp at h
  ·omega
 ·intro h
  rcases e:rd m with _ | ⟨x,xs⟩
  ·have:=ml.1 e; omega
  ·simp
theorem cM (n:Nat) (b:Bool) (ws:Lb Int) (hd:Dig ws) (hn:ws.length < n) (hl:ws.length <= 1000000):ab_p n b ws = some ⟨b && decide (0 < dv ws),rd (dv ws)⟩:=by
 unfold ab_p
 rw [eM n ws hd hn hl,aa]
 cases b
 ·simp
 ·rw [if_pos I,decide_eq_decide.2 mp,Bool.true_and]
def R8 (z:Int):Te:=⟨decide (z < 0),rd z.natAbs⟩
theorem oV (s:Bool) (m:Nat):(⟨s && decide (0 < m),rd m⟩:Te) = R8 (sg s m):=by
 unfold R8
 rw [mC]
 cases s
 ·simp [sg]
 ·simp [sg]
theorem iE (n:Nat) (z:Int) (h:Sm z) (hn:10 < n):bc_p n z = some (R8 z):=by
 have key:∀ u:Ua,u.toNat = z.natAbs -> ((ab_p n (decide (z < 0)) ([aB (u % (4294967296:Ua)),aB (u / (4294967296:Ua))]:Lb Int)).bind fun y28=>some y28) = some (R8 z):=fun u hu=>by
  unfold Sm at h
  have h1:aB (u % (4294967296:Ua)) = ((z.natAbs % 4294967296:Nat):Int):=by
   unfold aB
   rw [UInt64.toNat_mod,hu]
   rw [if_pos (by simp; omega)]
   rfl
  have h2:aB (u / (4294967296:Ua)) = ((z.natAbs / 4294967296:Nat):Int):=by
   unfold aB
   rw [UInt64.toNat_div,hu]
   rw [if_pos (by simp; omega)]
   rfl
  rw [h1,h2,cM n _ _ (fun x hx=>by
   rcases List.mem_cons.1 hx with rfl | hx
   ·omega
   ·rw [List.mem_singleton.1 hx]; omega) (by simp only [leC,leN]; omega) (by simp),aa]
  have e:dv [((z.natAbs % 4294967296:Nat):Int),((z.natAbs / 4294967296:Nat):Int)] = z.natAbs:=by
   simp only [dv,Int.toNat_natCast]; omega
  rw [e]
  unfold R8
  congr 2
  by_cases hz:z < 0
  ·simp [hz]; omega
  ·simp [hz]
 unfold bc_p jn
 simp only
 by_cases hz:z < 0
 ·rw [if_pos hz]
  refine key _ ?_
  rw [UInt64.toNat_neg,mS h hz,show UInt64.size = 18446744073709551616 from I]
  unfold Sm at h
  omega
 ·rw [if_neg hz]
  refine key _ ?_
  rw [mT h hz,kW h.w]
theorem jg (n:Nat) (z:Int) (h:(rd z.natAbs).length < 10000) (hn:20000 < n):bN_p n (R8 z) = some (R8 (-z)):=by
 unfold bN_p
 rw [show (R8 z).fD = rd z.natAbs from I,cM n _ _ (aG _) (by omega) (by omega),aa,aL]
 unfold R8
 rw [Int.natAbs_neg]
 congr 2
 show (!decide (z < 0) && decide (0 < z.natAbs)) = decide (-z < 0)
 by_cases hz:z < 0
 ·rw [decide_eq_true hz,decide_eq_false (show ¬ -z < 0 by omega)]; rfl
 ·rw [decide_eq_false hz]
  by_cases h0:z = 0
  ·subst h0; rfl
  ·rw [decide_eq_true (by omega),decide_eq_true (by omega)]; rfl
theorem sg_mul (g x:Int) (hg:g ≠ 0):sg (!(decide (g * x < 0) == decide (g < 0))) x.natAbs = x:=by
 unfold sg
 by_cases h1:g < 0
 ·by_cases h2:x < 0
  ·have:=Int.mul_pos_of_neg_of_neg h1 h2
   rw [decide_eq_true h1,decide_eq_false (by omega)]; simp; omega
  ·by_cases h3:x = 0
   ·subst h3; simp
   ·have:=Int.mul_neg_of_neg_of_pos h1 (by omega:0 < x)
    rw [decide_eq_true h1,decide_eq_true this]; simp; omega
 ·by_cases h2:x < 0
  ·have:=Int.mul_neg_of_pos_of_neg (by omega:0 < g) h2
   rw [decide_eq_false h1,decide_eq_true this]; simp; omega
  ·have:=Int.mul_nonneg (by omega:0 <= g) (by omega:0 <= x)
   rw [decide_eq_false h1,decide_eq_false (by omega)]; simp; omega
theorem kG (n:Nat) (a g x:Int) (e:a = g * x) (hg:g ≠ 0) (ha:(rd a.natAbs).length < 10000) (hl:(rd g.natAbs).length < 10000) (hn:20000 < n):bI_p n (R8 a) (R8 g) = some (R8 x,R8 0):=by
 subst e
 have hd:(g * x).natAbs / g.natAbs = x.natAbs:=by rw [Int.natAbs_mul]; exact Nat.mul_div_cancel_left _ (by omega)
 have hm:(g * x).natAbs % g.natAbs = 0:=by rw [Int.natAbs_mul]; exact Nat.mul_mod_right ..
 have hx:(rd x.natAbs).length < 10000:=Nat.lt_of_le_of_lt (dV (by rw [Int.natAbs_mul]; exact Nat.le_mul_of_pos_left _ (by omega))) ha
 unfold bI_p
 rw [show (R8 (g * x)).fD = rd (g * x).natAbs from I,show (R8 g).fD = rd g.natAbs from I,jG n _ _ (by omega) ha hl hn,aa,hd,hm]
 simp only
 rw [cM n _ _ (aG _) (by omega) (by omega),aa,aL,rd0,cM n _ [] gh (by simp; omega) (by simp),aa]
 show (if ((decide (g * x < 0)) && decide (0 < 0)) = true then _ else _) = _
 rw [if_neg (by simp)]
 rw [show (R8 (g * x)).fc = decide (g * x < 0) from I,show (R8 g).fc = decide (g < 0) from I,oV,sg_mul g x hg,show dv [] = 0 from I,oV]
 congr 2
 congr 1
 unfold sg; split <;> simp
theorem kH (n:Nat) (a b:Int) (h0:b ≠ 0) (ha:(rd a.natAbs).length < 10000) (hb:(rd b.natAbs).length < 10000) (hn:18446744073709551616 < n) :
  bg_p n (R8 a) (R8 b) = some ⟨R8 (Rat.divInt a b).num,R8 ((Rat.divInt a b).den:Int)⟩/\(Rat.divInt a b).num.natAbs <= a.natAbs/\(Rat.divInt a b).den <= b.natAbs:=by
 have hg:0 < Nat.gcd a.natAbs b.natAbs:=Nat.gcd_pos_of_pos_right _ (by omega)
 have hgl:(rd (Nat.gcd a.natAbs b.natAbs)).length < 10000:=Nat.lt_of_le_of_lt (dV (Nat.gcd_le_right _ (by omega))) hb
 obtain ⟨x,hx⟩:((Nat.gcd a.natAbs b.natAbs:Nat):Int) ∣ a:=Int.ofNat_dvd_left.2 (Nat.gcd_dvd_left _ _)
 obtain ⟨y,hy⟩:((Nat.gcd a.natAbs b.natAbs:Nat):Int) ∣ b:=Int.ofNat_dvd_left.2 (Nat.gcd_dvd_right _ _)
 have hco:=Nat.coprime_div_gcd_div_gcd hg
 unfold bg_p
 rw [show R8 a = ⟨decide (a < 0),rd a.natAbs⟩ from I,show R8 b = ⟨decide (b < 0),rd b.natAbs⟩ from I,iy n _ _ _ _ ha hb hn,aa,<- show R8 a = ⟨decide (a < 0),rd a.natAbs⟩ from I,<- show R8 b = ⟨decide (b < 0),rd b.natAbs⟩ from I]
 generalize Nat.gcd a.natAbs b.natAbs = g at *
 have hg0:(g:Int) ≠ 0:=by omega
 have e3:a.natAbs = g * x.natAbs:=by rw [hx,Int.natAbs_mul]; rfl
 have e4:b.natAbs = g * y.natAbs:=by rw [hy,Int.natAbs_mul]; rfl
 have hc:x.natAbs.Coprime y.natAbs:=by
  rw [e3,e4,Nat.mul_div_cancel_left _ hg,Nat.mul_div_cancel_left _ hg] at hco; exact hco
 have hxl:x.natAbs <= a.natAbs:=by rw [e3]; exact Nat.le_mul_of_pos_left _ hg
 have hyl:y.natAbs <= b.natAbs:=by rw [e4]; exact Nat.le_mul_of_pos_left _ hg
 have hy0:y ≠ 0:=fun e=>h0 (by rw [hy,e,Int.mul_zero])
 have eq:Rat.divInt a b = Rat.divInt x y:=by
  conv=>lhs; rw [hx,hy]
  exact Rat.divInt_mul_left hg0
 rw [eq]
 have egR:(⟨false,rd g⟩:Te) = R8 (g:Int):=by unfold R8; simp
 unfold jn
 simp only
 by_cases hs:b < 0
 ·have hyn:y < 0:=by
   by_cases hy1:y < 0
   ·exact hy1
   ·have:=Int.mul_nonneg (by omega:(0:Int) <= g) (by omega:0 <= y); omega
  rw [if_pos (show (R8 b).fc = true from decide_eq_true hs),egR,jg n _ (by simpa using hgl) (by omega),aa]
  show (bI_p n (R8 a) (R8 (-(g:Int)))).bind _ = _/\_
  rw [kG n a (-(g:Int)) (-x) (by rw [Int.neg_mul_neg]; exact hx) (by omega) ha (by rw [Int.natAbs_neg]; simpa using hgl) (by omega),aa,kG n b (-(g:Int)) (-y) (by rw [Int.neg_mul_neg]; exact hy) (by omega) hb (by rw [Int.natAbs_neg]; simpa using hgl) (by omega),aa]
  have h5:=kw (x:=-x) (y:=-y) (by omega) (by rwa [Int.natAbs_neg,Int.natAbs_neg])
  rw [Rat.neg_divInt_neg] at h5
  rw [h5.1,h5.2]
  exact ⟨rfl,by rw [Int.natAbs_neg]; exact hxl,by have:=h5.2; omega⟩
 ·have hyp:0 < y:=by
   by_cases hy1:0 < y
   ·exact hy1
   ·have:=Int.mul_neg_of_pos_of_neg (by omega:(0:Int) < g) (by omega:y < 0); omega
  rw [if_neg (show ¬ (R8 b).fc = true from by simpa [R8] using hs)]
  show (bI_p n (R8 a) (⟨false,rd g⟩:Te)).bind _ = _/\_
  rw [egR,kG n a g x hx hg0 ha (by simpa using hgl) (by omega),aa,kG n b g y hy hg0 hb (by simpa using hgl) (by omega),aa]
  have h5:=kw (x:=x) (y:=y) hyp hc
  rw [h5.1,h5.2]
  exact ⟨I,hxl,by have:=h5.2; omega⟩
def bln (m:Nat):Nat:=if m = 0 then 0 else Nat.log2 m + 1
theorem kP (m:Nat):m < 2 ^ bln m:=by
 unfold bln
 split
 ·rename_i h; rw [h]; decide
 ·rename_i h; exact Nat.lt_log2_self
theorem iB {m:Nat} (h:m ≠ 0):2 ^ (bln m - 1) <= m:=by
 unfold bln
 rw [if_neg h]
 exact Nat.log2_self_le h
theorem fX {m:Nat} (h:m ≠ 0):1 <= bln m:=by unfold bln; rw [if_neg h]; omega
theorem pB {m l:Nat} (h1:2 ^ l <= m) (h2:m < 2 ^ (l + 1)):bln m = l + 1:=by
 have h0:m ≠ 0:=fun e=>by have:=Nat.two_pow_pos l; omega
 have h3:=kP m
 have h4:=iB h0
 have h5:=fX h0
 have h6:=(Nat.pow_lt_pow_iff_right (by decide:1 < 2)).1 (Nat.lt_of_le_of_lt h1 h3)
 have h7:=(Nat.pow_lt_pow_iff_right (by decide:1 < 2)).1 (Nat.lt_of_le_of_lt h4 h2)
 omega
theorem eQ {m s:Nat} (h:2 ^ s <= m):bln m = s + bln (m / 2 ^ s):=by
 have hp:=Nat.two_pow_pos s
 have h0:m / 2 ^ s ≠ 0:=fun e=>by have:=Nat.div_pos h hp; omega
 have h1:=kP (m / 2 ^ s)
 have h2:=iB h0
 have h3:=fX h0
 have e1:2 ^ (s + (bln (m / 2 ^ s) - 1)) <= m:=by
  rw [Nat.pow_add,Nat.mul_comm]
  exact (Nat.le_div_iff_mul_le hp).1 h2
 have e2:m < 2 ^ (s + bln (m / 2 ^ s)):=by
  rw [Nat.pow_add,Nat.mul_comm]
  exact (Nat.div_lt_iff_lt_mul hp).1 h1
 have:=pB (l:=s + (bln (m / 2 ^ s) - 1)) e1 (by rw [show s + (bln (m / 2 ^ s) - 1) + 1 = s + bln (m / 2 ^ s) by omega]; exact e2)
 omega
theorem dN {m l:Nat} (h:m < 2 ^ l):bln m <= l:=by
 by_cases h0:m = 0
 ·subst h0; simp [bln]
 ·have h4:=iB h0
  have h7:=(Nat.pow_lt_pow_iff_right (by decide:1 < 2)).1 (Nat.lt_of_le_of_lt h4 h)
  have:=fX h0
  omega
theorem tab_all:(List.range 256).all (fun v=>decide (eF[v]? = some (UInt8.ofNat (bln v)))) = true:=by kernel_rfl
theorem tab_ok {v:Nat} (h:v < 256):eF[v]? = some (UInt8.ofNat (bln v)):=of_decide_eq_true (List.all_eq_true.1 tab_all v (List.mem_range.2 h))
theorem nf (u:Ua) (z:Int) (h:u.toNat < 256) (hz:0 <= z/\z <= 64):((eF[(aq u).toNat]?).bind fun z27=>(chk (z + ((z27.toNat:Nat):Int))).bind fun s29=>some s29) = some (z + bln u.toNat):=by
 have hb:=dN (l:=8) (m:=u.toNat) (by omega)
 have e:(aq u).toNat = u.toNat:=by unfold aq; rw [UInt8.toNat_ofNat']; omega
 have e2:(UInt8.ofNat (bln u.toNat)).toNat = bln u.toNat:=by rw [UInt8.toNat_ofNat']; omega
 rw [e,tab_ok h,aa,e2,aS (by omega) (by omega),aa]
theorem qb (n:Nat) (x:Ua):cq_p n x = some (bln x.toNat:Int):=by
 have hx:=x.toNat_lt
 have k16:∀ (u:Ua) (z:Int),u.toNat < 65536 -> (0 <= z/\z <= 48) -> ((if (256:Ua) <= u then (chk (z + 8)).bind fun s31=>((eF[(aq (shrU u 8)).toNat]?).bind fun z27=>(chk (s31 + ((z27.toNat:Nat):Int))).bind fun s29=>some s29) else ((eF[(aq u).toNat]?).bind fun z27=>(chk (z + ((z27.toNat:Nat):Int))).bind fun s29=>some s29))) = some (z + bln u.toNat):=fun u z hu hz=>by
  by_cases c:(256:Ua) <= u
  ·have c2:256 <= u.toNat:=by rw [UInt64.le_iff_toNat_le] at c; simpa using c
   rw [if_pos c,aS (by omega) (by omega),aa,nf _ _ (by rw [ck _ (by decide)]; omega) (by omega),ck _ (by decide),eQ (m:=u.toNat) (s:=8) (by omega)]
   congr 1; omega
  ·have c2:u.toNat < 256:=by rw [UInt64.le_iff_toNat_le] at c; simpa using c
   rw [if_neg c,nf _ _ c2 (by omega)]
 have k32:∀ (u:Ua) (z:Nat),u.toNat < 4294967296 -> z <= 32 -> ((if (65536:Ua) <= u then (chk ((z:Int) + 16)).bind fun s33=>(if (256:Ua) <= shrU u 16 then (chk (s33 + 8)).bind fun s31=>((eF[(aq (shrU (shrU u 16) 8)).toNat]?).bind fun z27=>(chk (s31 + ((z27.toNat:Nat):Int))).bind fun s29=>some s29) else ((eF[(aq (shrU u 16)).toNat]?).bind fun z27=>(chk (s33 + ((z27.toNat:Nat):Int))).bind fun s29=>some s29)) else (if (256:Ua) <= u then (chk ((z:Int) + 8)).bind fun s31=>((eF[(aq (shrU u 8)).toNat]?).bind fun z27=>(chk (s31 + ((z27.toNat:Nat):Int))).bind fun s29=>some s29) else ((eF[(aq u).toNat]?).bind fun z27=>(chk ((z:Int) + ((z27.toNat:Nat):Int))).bind fun s29=>some s29)))) = some ((z:Int) + bln u.toNat):=fun u z hu hz=>by
  by_cases c:(65536:Ua) <= u
  ·have c2:65536 <= u.toNat:=by rw [UInt64.le_iff_toNat_le] at c; simpa using c
   rw [if_pos c,aS (by omega) (by omega),aa,k16 _ _ (by rw [ck _ (by decide)]; omega) (by omega),ck _ (by decide),eQ (m:=u.toNat) (s:=16) (by omega)]
   congr 1; omega
  ·have c2:u.toNat < 65536:=by rw [UInt64.le_iff_toNat_le] at c; simpa using c
   rw [if_neg c,k16 _ _ c2 (by omega)]
 unfold cq_p jn
 simp only
 by_cases c:(4294967296:Ua) <= x
 ·have c2:4294967296 <= x.toNat:=by rw [UInt64.le_iff_toNat_le] at c; simpa using c
  rw [if_pos c]
  refine (k32 (shrU x 32) 32 (by rw [ck _ (by decide)]; omega) (by omega)).trans ?_
  rw [ck _ (by decide),eQ (m:=x.toNat) (s:=32) (by omega)]
  congr 1
 ·have c2:x.toNat < 4294967296:=by rw [UInt64.le_iff_toNat_le] at c; simpa using c
  rw [if_neg c]
  refine (k32 x 0 c2 (by omega)).trans ?_
  congr 1; omega
theorem lz_ok (n:Nat) (x:Ua):bE_p n x = some (64 - bln x.toNat:Int):=by
 have:=dN (l:=64) (m:=x.toNat) (by have:=x.toNat_lt; omega)
 unfold bE_p
 rw [qb,aa,aS (by omega) (by omega),aa]
theorem div_top {m lo t l:Nat} (hv:m = lo + 18446744073709551616 ^ l * t) (hlow:lo < 18446744073709551616 ^ l):m / 2 ^ (64 * l) = t:=by
 rw [<- eY,hv,Nat.add_mul_div_left _ _ (Nat.lt_of_le_of_lt (Nat.zero_le _) hlow),Nat.div_eq_of_lt hlow,Nat.zero_add]
theorem jJ (n:Nat) (m:Nat) (hl:(dg m).length <= 1000000):cT_p n (dg m) = some (bln m:Int):=by
 unfold cT_p
 by_cases h0:m = 0
 ·subst h0
  rw [dg0,if_pos (show ([]:Lb Ua).length = 0 from I)]
  unfold bln
  rw [if_pos I]; rfl
 ·have hne:dg m ≠ []:=fun e=>h0 (by have:=aK m; rw [e] at this; exact this.symm)
  obtain ⟨l,hl1⟩:∃ l,(dg m).length = l + 1:=⟨(dg m).length - 1,by cases h:dg m with | nil=>exact absurd h hne | cons x xs=>simp⟩
  have hlast:l < (dg m).length:=by omega
  have hv:=eP (dg m) hlast
  rw [List.drop_eq_nil_of_le (by omega),aK,show val ([]:Lb Ua) = 0 from I,Nat.mul_zero,Nat.add_zero] at hv
  have hlow:=dq ((dg m).take l)
  rw [List.length_take,Nat.min_eq_left (by omega)] at hlow
  have htop:(dg m)[l] ≠ 0:=jk m _ (by rw [List.getLast?_eq_getElem?,hl1]; exact geE hlast)
  have ht0:((dg m)[l]).toNat ≠ 0:=fun e=>htop (UInt64.toNat_inj.1 (by simpa using e))
  have hb:bln m = 64 * l + bln ((dg m)[l]).toNat:=by
   have e:m / 2 ^ (64 * l) = ((dg m)[l]).toNat:=div_top hv hlow
   have:=eQ (m:=m) (s:=64 * l) (by
    have h1:2 ^ (64 * l) * 1 <= 2 ^ (64 * l) * ((dg m)[l]).toNat:=Nat.mul_le_mul_left _ (by omega)
    rw [eY] at hv
    omega)
   rw [e] at this
   exact this
  have hbt:=dN (l:=64) (m:=((dg m)[l]).toNat) (by have:=((dg m)[l]).toNat_lt; omega)
  have hi:((((dg m).length:Nat):Int) - 1).toNat = l:=by omega
  rw [if_neg (by omega),aS (by omega) (by omega),aa,bg (by omega) (by omega),aa]
  simp only [hi]
  rw [lz_ok,aa,aS (by omega) (by omega),aa,hb]
  congr 1; omega
theorem pC (k:Nat) (h:k < 1000000000):ej (k:Int) 64 = some ((k / 64:Nat):Int):=by
 unfold ej
 rw [if_neg (by decide),Int.tdiv_eq_ediv_of_nonneg (by omega),aS (by omega) (by omega)]
 congr 1
theorem rem64 (k:Nat):cg (k:Int) 64 = some ((k % 64:Nat):Int):=by
 rw [dc (by decide),Int.tmod_eq_emod_of_nonneg (by omega)]
 congr 1
theorem gB (k:Nat):bT (k:Int) = some k:=by unfold bT; rw [if_pos (Int.natCast_nonneg _),Int.toNat_natCast]
theorem pL {α:Type} {xs:Lb α} {i:Nat} (h:i < xs.length):idx xs (i:Int) = some xs[i]:=by
 rw [bg (by omega) (by rw [Int.toNat_natCast]; exact h)]
 simp only [Int.toNat_natCast]
theorem putN {α:Type} {xs:Lb α} {i:Nat} (x:α) (h:i < xs.length):put xs ((((i:Nat):Int).toNat:Nat):Int) x = some (xs.set i x):=by rw [Int.toNat_natCast]; exact cC x h
theorem pn (n:Nat) (a:Lb Ua) (k:Nat) (hk:k < 1000000) (hl:a.length < 100000) (hn:200000 < n):cK_p n a (k:Int) = some (dg (val a * 2 ^ k)):=by
 have hkw:2 ^ k = 18446744073709551616 ^ (k / 64) * 2 ^ (k % 64):=by rw [eY,<- Nat.pow_add]; congr 1; omega
 have hs:k % 64 < 64:=Nat.mod_lt _ (by decide)
 have hh:=au (B:=cK_l1 n a (k:Int)) (fun s:Nat × Lb Ua=>a.length - s.1) (fun s=>s.1 <= a.length/\∃ hx:s.2.length = a.length + k / 64 + 1,val s.2 = val (a.take s.1) * 2 ^ k/\(∀ j (h:j < s.2.length),s.1 + k / 64 < j -> s.2[j] = 0)/\(s.2[s.1 + k / 64]?.getD 0).toNat < 2 ^ (k % 64))
  (fun xs=>xs.length = a.length + k / 64 + 1/\val xs = val a * 2 ^ k) ?_ n (0,List.replicate (a.length + k / 64 + 1) 0) ⟨Nat.zero_le _,by simp,?_,fun j h _=>by simp,?_⟩ (by simp only; omega)
 ·obtain ⟨xs,e,h1,h2⟩:=hh
  unfold cK_p
  rw [pC k (by omega),aa,aS (by omega) (by omega),aa,aS (by omega) (by omega),aa,show ((a.length:Nat):Int) + ((k / 64:Nat):Int) + 1 = ((a.length + k / 64 + 1:Nat):Int) by omega,iC _ _ (by omega),aa,e,aa,aT n false xs (by omega) (by omega),aa,h2]
 ·rintro ⟨i,xs⟩ J ⟨a1,a2,a3,a4,a5⟩ hJ
  simp only at a1 a2 a3 a4 a5 hJ
  unfold cK_l1
  simp only
  by_cases hi:i < a.length
  ·have hw:i + k / 64 < xs.length:=by omega
   have hw1:i + k / 64 + 1 < xs.length:=by omega
   rw [geE hw] at a5
   have a5' : (xs[i + k / 64]).toNat < 2 ^ (k % 64):=a5
   rw [if_pos hi,geE hi,aa,pC k (by omega),aa,aS (by omega) (by omega),aa,show ((i:Nat):Int) + ((k / 64:Nat):Int) = ((i + k / 64:Nat):Int) by omega,pL hw,aa,rem64,aa,gB,aa,putN _ hw,aa,aa]
   have e0:val (a.take (i + 1)) * 2 ^ k = val (a.take i) * 2 ^ k + 18446744073709551616 ^ (i + k / 64) * (a[i].toNat * 2 ^ (k % 64)):=by
    rw [cy a hi,Nat.add_mul,hkw,Nat.pow_add]
    congr 1
    grind
   by_cases c:0 < k % 64
   ·obtain ⟨s1,s2,s3⟩:=jw a[i] c hs
    have hor:=mx (a:=xs[i + k / 64]) (b:=shlU a[i] (k % 64)) a5' s2
    have v1:=eR (xs[i + k / 64] ||| shlU a[i] (k % 64)) hw
    rw [hor,Nat.mul_add] at v1
    generalize hys:xs.set (i + k / 64) (xs[i + k / 64] ||| shlU a[i] (k % 64)) = ys at *
    have hyl:ys.length = xs.length:=by rw [<- hys,List.length_set]
    have hy1:i + k / 64 + 1 < ys.length:=by omega
    have hy0:ys[i + k / 64 + 1] = 0:=by
     have:=a4 (i + k / 64 + 1) hw1 (by omega)
     simp only [<- hys]
     rw [List.getElem_set_ne (by omega)]; exact this
    have v2:=eR (shrU a[i] (64 - k % 64)) hy1
    rw [hy0] at v2
    rw [if_pos (by omega),aa,aS (by omega) (by omega),aa,aS (by omega) (by omega),aa,aa,aS (by omega) (by omega),aa,show (64:Int) - ((k % 64:Nat):Int) = ((64 - k % 64:Nat):Int) by omega,gB,aa,show ((i:Nat):Int) + ((k / 64:Nat):Int) + 1 = ((i + k / 64 + 1:Nat):Int) by omega,pL hy1,aa,putN _ hy1,aa]
    refine hJ _ ⟨hi,by simp only [List.length_set]; omega,?_,fun j hj hlt=>?_,?_⟩ (by simp only; omega)
    ·simp only
     rw [e0,<- s1,Nat.mul_add,<- Nat.mul_assoc,<- Nat.pow_succ]
     simp only [UInt64.toNat_zero,Nat.mul_zero,Nat.add_zero] at v2
     rw [v2,<- a3]
     show val ys + 18446744073709551616 ^ (i + k / 64 + 1) * _ = val xs + (_ + 18446744073709551616 ^ (i + k / 64 + 1) * _)
     omega
    ·simp only at hj hlt ⊢
     rw [List.getElem_set_ne (by omega)]
     simp only [<- hys]
     rw [List.getElem_set_ne (by omega)]
     exact a4 j (by simpa [<- hys] using hj) (by omega)
    ·simp only
     rw [show i + 1 + k / 64 = i + k / 64 + 1 by omega,List.getElem?_set_self hy1]
     exact s3
   ·have c0:k % 64 = 0:=by omega
    rw [c0,Nat.pow_zero] at a5'
    have hz:xs[i + k / 64] = 0:=UInt64.toNat_inj.1 (by simp; omega)
    have v1:=eR (xs[i + k / 64] ||| shlU a[i] (k % 64)) hw
    rw [hz,gb,c0,eE] at v1
    rw [if_neg (by omega),hz,gb,c0,eE]
    refine hJ _ ⟨hi,by simp only [List.length_set]; omega,?_,fun j hj hlt=>?_,?_⟩ (by simp only; omega)
    ·simp only
     rw [e0,c0,Nat.pow_zero,Nat.mul_one,<- a3]
     simp only [UInt64.toNat_zero,Nat.mul_zero,Nat.add_zero] at v1
     exact v1
    ·simp only at hj hlt ⊢
     rw [List.getElem_set_ne (by omega)]
     exact a4 j (by simpa using hj) (by omega)
    ·simp only
     rw [show i + 1 + k / 64 = i + k / 64 + 1 by omega,List.getElem?_set_ne (by omega),geE hw1,a4 _ hw1 (by omega),c0]
     decide
  ·rw [if_neg hi]
   rw [List.take_of_length_le (by omega)] at a3
   exact ⟨_,I,a2,a3⟩
 ·simp only [List.take_zero,val,Nat.zero_mul]
  exact cN _ fun x hx=>(List.mem_replicate.1 hx).2
 ·simp only
  rw [List.getElem?_replicate]
  split <;> simp <;> exact Nat.two_pow_pos _
set_option maxRecDepth 8000
theorem nT {B:(Ua × Ua -> Oa Ua) -> Ua × Ua -> Oa Ua} {y1 y0 un:Ua}
  (hB:∀ J q rh,B J (q,rh) = if (4294967296:Ua) <= q then (if (4294967296:Ua) <= rh + y1 then some (q - 1) else J (q - 1,rh + y1)) else (if 4294967296 * rh + un < q * y0 then (if (4294967296:Ua) <= rh + y1 then some (q - 1) else J (q - 1,rh + y1)) else some q))
  {U:Nat} (h1:2147483648 <= y1.toNat) (h1' : y1.toNat < 4294967296) (h0:y0.toNat < 4294967296) (hu:un.toNat < 4294967296) (hU:U < y1.toNat * 4294967296 + y0.toNat) (q0 r0:Ua) (e:U = q0.toNat * y1.toNat + r0.toNat) (hr:r0.toNat < y1.toNat) (n:Nat) (hn:4294967300 < n) :
  ∃ q:Ua,ao B n (q0,r0) = some q/\q.toNat = (U * 4294967296 + un.toNat) / (y1.toNat * 4294967296 + y0.toNat):=by
 obtain ⟨V,hV⟩:∃ V,y1.toNat * 4294967296 + y0.toNat = V:=⟨_,I⟩
 obtain ⟨N,hN⟩:∃ N,U * 4294967296 + un.toNat = N:=⟨_,I⟩
 rw [hV] at hU
 rw [hV,hN]
 have hVp:0 < V:=by omega
 obtain ⟨D,hD⟩:∃ D,N / V = D:=⟨_,I⟩
 have hle:∀ x,x <= D ↔ x * V <= N:=fun x=>by rw [<- hD]; exact Nat.le_div_iff_mul_le hVp
 have hlt:∀ x,D < x ↔ N < x * V:=fun x=>by rw [<- hD]; exact Nat.div_lt_iff_lt_mul hVp
 rw [hD]
 have hNV:D < 4294967296:=by
  rw [hlt]
  omega
 have hq0:q0.toNat <= 4294967297:=by
  have h2:q0.toNat * 2147483648 <= q0.toNat * y1.toNat:=Nat.mul_le_mul_left _ h1
  by_cases h3:q0.toNat <= 4294967297
  ·exact h3
  ·exfalso
   have h4:4294967298 * y1.toNat <= q0.toNat * y1.toNat:=Nat.mul_le_mul_right _ (by omega)
   omega
 have up:D <= q0.toNat:=by
  rw [<- hD]
  have h3:N / V <= N / (y1.toNat * 4294967296):=Nat.div_le_div_left (by omega) (by omega)
  have h4:N / (y1.toNat * 4294967296) = U / y1.toNat:=by
   rw [Nat.mul_comm,<- Nat.div_div_eq_div_mul]
   congr 1
   omega
  have h5:U / y1.toNat = q0.toNat:=by
   rw [e,Nat.mul_comm,Nat.add_comm,Nat.add_mul_div_left _ _ (by omega),Nat.div_eq_of_lt hr,Nat.zero_add]
  rw [h4,h5] at h3
  exact h3
 refine au (B:=B) (fun s:Ua × Ua=>s.1.toNat) (fun s=>U = s.1.toNat * y1.toNat + s.2.toNat/\s.2.toNat < 4294967296/\D <= s.1.toNat/\s.1.toNat <= 4294967297) (fun q=>q.toNat = D) ?_ n (q0,r0) ⟨e,by simp only; omega,up,hq0⟩ (by simp only; omega)
 rintro ⟨q,rh⟩ J ⟨i1,i2,i3,i4⟩ hJ
 simp only at i1 i2 i3 i4 hJ
 rw [hB]
 have c32:(4294967296:Ua).toNat = 4294967296:=rfl
 have hrh:(rh + y1).toNat = rh.toNat + y1.toNat:=by rw [UInt64.toNat_add]; omega
 -- what follows once the guess is too great
 have over:D + 1 <= q.toNat -> ∃ r,(if (4294967296:Ua) <= rh + y1 then some (q - 1) else J (q - 1,rh + y1)) = some r/\r.toNat = D:=fun ho=>by
  have hq1:(q - 1).toNat = q.toNat - 1:=by
   rw [UInt64.toNat_sub]
   have:=q.toNat_lt
   simp only [UInt64.toNat_one]
   omega
  have e1:q.toNat * y1.toNat = (q.toNat - 1) * y1.toNat + y1.toNat:=by
   rw [<- Nat.succ_mul]; congr 1; omega
  split
  ·rename_i hbig
   rw [UInt64.le_iff_toNat_le,c32,hrh] at hbig
   refine ⟨_,I,?_⟩
   rw [hq1]
   refine Nat.le_antisymm ?_ (by omega)
   rw [hle,<- hV,Nat.mul_add,<- Nat.mul_assoc]
   have h5:(q.toNat - 1) * y0.toNat <= 4294967296 * 4294967295:=Nat.mul_le_mul (by omega) (by omega)
   omega
  ·rename_i hbig
   rw [UInt64.le_iff_toNat_le,c32,hrh] at hbig
   exact hJ _ ⟨by simp only; rw [hq1,hrh]; omega,by simp only; rw [hrh]; omega,by simp only; rw [hq1]; omega,by simp only; rw [hq1]; omega⟩ (by simp only; rw [hq1]; omega)
 by_cases c:(4294967296:Ua) <= q
 ·rw [if_pos c]
  rw [UInt64.le_iff_toNat_le,c32] at c
  exact over (by omega)
 ·rw [if_neg c]
  rw [UInt64.le_iff_toNat_le,c32] at c
  have m1:(4294967296 * rh + un).toNat = 4294967296 * rh.toNat + un.toNat:=by
   rw [UInt64.toNat_add,UInt64.toNat_mul,c32]; omega
  have m2:(q * y0).toNat = q.toNat * y0.toNat:=by
   rw [UInt64.toNat_mul]
   have:q.toNat * y0.toNat <= 4294967295 * 4294967295:=Nat.mul_le_mul (by omega) (by omega)
   omega
  have eqV:q.toNat * V = q.toNat * y1.toNat * 4294967296 + q.toNat * y0.toNat:=by rw [<- hV,Nat.mul_add,<- Nat.mul_assoc]
  by_cases c2:4294967296 * rh + un < q * y0
  ·rw [if_pos c2]
   rw [UInt64.lt_iff_toNat_lt,m1,m2] at c2
   refine over ?_
   have:D < q.toNat:=by
    rw [hlt,eqV]
    omega
   omega
  ·rw [if_neg c2]
   rw [UInt64.lt_iff_toNat_lt,m1,m2] at c2
   refine ⟨_,I,Nat.le_antisymm ?_ i3⟩
   rw [hle,eqV]
   omega
theorem ny {N M R:Nat} (h:N = M + R) (hR:R < 18446744073709551616):(18446744073709551616 - M % 18446744073709551616 + N % 18446744073709551616) % 18446744073709551616 = R:=by omega
theorem glue2 {hi lo p u t w:Nat} (t1:u = hi * p + t) (t2:w + 18446744073709551616 * t = lo * p):(hi * 18446744073709551616 + lo) * p = u * 18446744073709551616 + w:=by
 rw [Nat.add_mul,Nat.mul_right_comm hi 18446744073709551616 p,t1,<- t2]
 generalize hi * p = z
 omega
theorem glue {P Q R1 R0 u w:Nat} (h1:P + R1 = u * 4294967296 + w / 4294967296) (h2:Q + R0 = R1 * 4294967296 + w % 4294967296):u * 18446744073709551616 + w = P * 4294967296 + Q + R0:=by omega
theorem nR (n:Nat) (hi lo y:Ua) (h:hi.toNat < y.toNat) (hn:4294967300 < n):∃ q r:Ua,bt_p n hi lo y = some (q,r)/\hi.toNat * 18446744073709551616 + lo.toNat = q.toNat * y.toNat + r.toNat/\r.toNat < y.toNat:=by
 have hy:=y.toNat_lt
 have hlo:=lo.toNat_lt
 have hy0:y ≠ 0:=fun e=>by rw [e] at h; simp at h
 unfold bt_p
 rw [if_neg hy0,if_neg (by rw [UInt64.le_iff_toNat_le]; omega)]
 by_cases h0:hi = 0
 ·subst h0
  rw [if_pos I]
  unfold lB pR
  rw [if_neg hy0,aa,if_neg hy0,aa]
  refine ⟨_,_,I,?_,?_⟩
  ·rw [UInt64.toNat_div,UInt64.toNat_mod]
   have:=Nat.div_add_mod lo.toNat y.toNat
   rw [Nat.mul_comm] at this
   simp; omega
  ·rw [UInt64.toNat_mod]; exact Nat.mod_lt _ (by omega)
 ·rw [if_neg h0,lz_ok,aa]
  have hyn:y.toNat ≠ 0:=by omega
  have b1:=fX hyn
  have b2:=dN (l:=64) (m:=y.toNat) (by omega)
  have b3:=kP y.toNat
  have b4:=iB hyn
  obtain ⟨s,hs⟩:∃ s,s = 64 - bln y.toNat:=⟨_,I⟩
  have e1:(ae (64 - (bln y.toNat:Int))).toNat = s:=by unfold ae; rw [UInt64.toNat_ofNat']; omega
  have e2:((64:Ua) - ae (64 - (bln y.toNat:Int))).toNat = 64 - s:=by
   rw [UInt64.toNat_sub,e1]
   simp only [show (64:Ua).toNat = 64 from rfl]
   omega
  have hs64:s < 64:=by omega
  have hps:=Nat.two_pow_pos s
  -- the divisor,moved
  have v2:y.toNat * 2 ^ s < 18446744073709551616:=by
   have:y.toNat * 2 ^ s < 2 ^ bln y.toNat * 2 ^ s:=Nat.mul_lt_mul_of_pos_right b3 hps
   rw [<- Nat.pow_add,show bln y.toNat + s = 64 by omega] at this
   exact this
  have v1:9223372036854775808 <= y.toNat * 2 ^ s:=by
   have:2 ^ (bln y.toNat - 1) * 2 ^ s <= y.toNat * 2 ^ s:=Nat.mul_le_mul_right _ b4
   rw [<- Nat.pow_add,show bln y.toNat - 1 + s = 63 by omega] at this
   exact this
  have hyv:(shlU y s).toNat = y.toNat * 2 ^ s:=by rw [eO y hs64,Nat.mod_eq_of_lt v2]
  have hhi:hi.toNat * 2 ^ s < 18446744073709551616:=Nat.lt_of_le_of_lt (Nat.mul_le_mul_right _ (Nat.le_of_lt h)) v2
  have hhv:(shlU hi s).toNat = hi.toNat * 2 ^ s:=by rw [eO hi hs64,Nat.mod_eq_of_lt hhi]
  -- the dividend,moved
  have hun:∃ t:Nat,(shlU hi s ||| shrU lo (64 - s)).toNat = hi.toNat * 2 ^ s + t/\(shlU lo s).toNat + 18446744073709551616 * t = lo.toNat * 2 ^ s:=by
   by_cases s0:s = 0
   ·subst s0
    refine ⟨0,?_,by rw [eE]; simp⟩
    rw [eE,show shrU lo (64 - 0) = 0 from by unfold shrU; rw [if_neg (by decide)],UInt64.toNat_or]
    simp
   ·obtain ⟨t1,t2,t3⟩:=jw lo (by omega) hs64
    refine ⟨(shrU lo (64 - s)).toNat,?_,t1⟩
    rw [UInt64.or_comm,mx t3 (by rw [hhv]; exact Nat.dvd_mul_left ..),hhv,Nat.add_comm]
  obtain ⟨t,t1,t2⟩:=hun
  rw [e1,e2]
  generalize hyy:shlU y s = yy at *
  generalize hun32:shlU hi s ||| shrU lo (64 - s) = un32 at *
  generalize hun10:shlU lo s = un10 at *
  have hun10l:=un10.toNat_lt
  have hun32l:=un32.toNat_lt
  -- both halves of the divisor
  have w1:(shrU yy 32).toNat = yy.toNat / 4294967296:=mK yy
  have w0:(yy &&& (4294967295:Ua)).toNat = yy.toNat % 4294967296:=ph yy
  have x1:(shrU un10 32).toNat = un10.toNat / 4294967296:=mK un10
  have x0:(un10 &&& (4294967295:Ua)).toNat = un10.toNat % 4294967296:=ph un10
  have hyyl:=yy.toNat_lt
  have hV:(shrU yy 32).toNat * 4294967296 + (yy &&& (4294967295:Ua)).toNat = yy.toNat:=by rw [w1,w0]; omega
  have hy1:2147483648 <= (shrU yy 32).toNat:=by rw [w1]; omega
  have hy1' : (shrU yy 32).toNat < 4294967296:=by rw [w1]; omega
  have hy0' : (yy &&& (4294967295:Ua)).toNat < 4294967296:=by rw [w0]; omega
  have hne:shrU yy 32 ≠ 0:=fun e=>by rw [e] at hy1; simp at hy1
  have hUV:un32.toNat < yy.toNat:=by
   have h5:(hi.toNat * 18446744073709551616 + lo.toNat) * 2 ^ s < y.toNat * 18446744073709551616 * 2 ^ s:=Nat.mul_lt_mul_of_pos_right (by omega) hps
   rw [Nat.add_mul,Nat.mul_right_comm,Nat.mul_right_comm y.toNat] at h5
   omega
  -- the first digit
  have d1:∀ (U:Ua) (hU:U.toNat < yy.toNat) (un:Ua) (hu:un.toNat < 4294967296) (B:(Ua × Ua -> Oa Ua) -> Ua × Ua -> Oa Ua) (hB:∀ J q rh,B J (q,rh) = if (4294967296:Ua) <= q then (if (4294967296:Ua) <= rh + shrU yy 32 then some (q - 1) else J (q - 1,rh + shrU yy 32)) else (if 4294967296 * rh + un < q * (yy &&& (4294967295:Ua)) then (if (4294967296:Ua) <= rh + shrU yy 32 then some (q - 1) else J (q - 1,rh + shrU yy 32)) else some q)),
    ∃ q:Ua,ao B n (U / shrU yy 32,U - U / shrU yy 32 * shrU yy 32) = some q/\q.toNat = (U.toNat * 4294967296 + un.toNat) / yy.toNat:=fun U hU un hu B hB=>by
   have hm:=Nat.div_add_mod U.toNat (shrU yy 32).toNat
   have hml:=Nat.mod_lt U.toNat (show 0 < (shrU yy 32).toNat by omega)
   have hUl:=U.toNat_lt
   have e3:(U - U / shrU yy 32 * shrU yy 32).toNat = U.toNat % (shrU yy 32).toNat:=by
    rw [UInt64.toNat_sub,UInt64.toNat_mul,UInt64.toNat_div]
    rw [Nat.mul_comm] at hm
    have:U.toNat / (shrU yy 32).toNat * (shrU yy 32).toNat <= U.toNat:=by omega
    rw [Nat.mod_eq_of_lt (a:=U.toNat / (shrU yy 32).toNat * (shrU yy 32).toNat) (by omega)]
    omega
   obtain ⟨q,a1,a2⟩:=nT hB (U:=U.toNat) hy1 hy1' hy0' hu (by rw [hV]; exact hU) (U / shrU yy 32) (U - U / shrU yy 32 * shrU yy 32) (by rw [UInt64.toNat_div,e3,Nat.mul_comm]; exact hm.symm) (by rw [e3]; exact hml) n hn
   exact ⟨q,a1,by rw [a2,hV]⟩
  obtain ⟨q1,l2,q1v⟩:=d1 un32 hUV (shrU un10 32) (by rw [x1]; omega) (bt_l2 n y (64 - (bln y.toNat:Int)) lo) (fun J q rh=>by unfold bt_l2; simp only [e1,hyy,hun10])
  have hm1:=Nat.div_add_mod (un32.toNat * 4294967296 + (shrU un10 32).toNat) yy.toNat
  have hml1:=Nat.mod_lt (un32.toNat * 4294967296 + (shrU un10 32).toNat) (show 0 < yy.toNat by omega)
  rw [<- q1v] at hm1
  generalize hR1:(un32.toNat * 4294967296 + (shrU un10 32).toNat) % yy.toNat = R1 at hm1 hml1
  have u21:(un32 * 4294967296 + shrU un10 32 - q1 * yy).toNat = R1:=by
   rw [UInt64.toNat_sub,UInt64.toNat_add,UInt64.toNat_mul,UInt64.toNat_mul]
   rw [show (4294967296:Ua).toNat = 4294967296 from I]
   have:=ny (N:=un32.toNat * 4294967296 + (shrU un10 32).toNat) (M:=q1.toNat * yy.toNat) (R:=R1) (by rw [Nat.mul_comm q1.toNat]; exact hm1.symm) (by omega)
   generalize q1.toNat * yy.toNat = M at *
   omega
  obtain ⟨q0,l1,q0v⟩:=d1 (un32 * 4294967296 + shrU un10 32 - q1 * yy) (by rw [u21]; exact hml1) (un10 &&& (4294967295:Ua)) (by rw [x0]; omega) (bt_l1 n y (64 - (bln y.toNat:Int)) lo) (fun J q rh=>by unfold bt_l1; simp only [e1,hyy,hun10])
  rw [u21] at q0v
  have hm0:=Nat.div_add_mod (R1 * 4294967296 + (un10 &&& (4294967295:Ua)).toNat) yy.toNat
  have hml0:=Nat.mod_lt (R1 * 4294967296 + (un10 &&& (4294967295:Ua)).toNat) (show 0 < yy.toNat by omega)
  rw [<- q0v] at hm0
  generalize hR0:(R1 * 4294967296 + (un10 &&& (4294967295:Ua)).toNat) % yy.toNat = R0 at hm0 hml0
  have u00:((un32 * 4294967296 + shrU un10 32 - q1 * yy) * 4294967296 + (un10 &&& (4294967295:Ua)) - q0 * yy).toNat = R0:=by
   rw [UInt64.toNat_sub,UInt64.toNat_add,UInt64.toNat_mul,UInt64.toNat_mul,u21]
   rw [show (4294967296:Ua).toNat = 4294967296 from I]
   have:=ny (N:=R1 * 4294967296 + (un10 &&& (4294967295:Ua)).toNat) (M:=q0.toNat * yy.toNat) (R:=R0) (by rw [Nat.mul_comm q0.toNat]; exact hm0.symm) (by omega)
   generalize q0.toNat * yy.toNat = M at *
   omega
  have q1l:q1.toNat < 4294967296:=by
   rw [q1v,Nat.div_lt_iff_lt_mul (by omega)]; rw [x1]; omega
  have q0l:q0.toNat < 4294967296:=by
   rw [q0v,Nat.div_lt_iff_lt_mul (by omega)]; rw [x0]; omega
  -- all together
  have all:(hi.toNat * 18446744073709551616 + lo.toNat) * 2 ^ s = (q1.toNat * 4294967296 + q0.toNat) * y.toNat * 2 ^ s + R0:=by
   have a1:(hi.toNat * 18446744073709551616 + lo.toNat) * 2 ^ s = un32.toNat * 18446744073709551616 + un10.toNat:=by
    exact glue2 t1 t2
   have a2:(q1.toNat * 4294967296 + q0.toNat) * y.toNat * 2 ^ s = yy.toNat * q1.toNat * 4294967296 + yy.toNat * q0.toNat:=by
    rw [Nat.mul_assoc,<- hyv]; grind
   rw [a1,a2]
   rw [x1] at hm1
   rw [x0] at hm0
   exact glue hm1 hm0
  have hq:(q1 * 4294967296 + q0).toNat = q1.toNat * 4294967296 + q0.toNat:=by
   rw [UInt64.toNat_add,UInt64.toNat_mul,show (4294967296:Ua).toNat = 4294967296 from I]; omega
  have hd:2 ^ s ∣ R0:=by
   have:=(Nat.dvd_add_right (Nat.dvd_mul_left (2 ^ s) ((q1.toNat * 4294967296 + q0.toNat) * y.toNat))).1 (by rw [<- all]; exact Nat.dvd_mul_left ..)
   exact this
  obtain ⟨rr,hrr⟩:=hd
  have hrv:(shrU ((un32 * 4294967296 + shrU un10 32 - q1 * yy) * 4294967296 + (un10 &&& (4294967295:Ua)) - q0 * yy) s).toNat = rr:=by
   rw [ck _ hs64,u00,hrr,Nat.mul_div_cancel_left _ hps]
  unfold jn lB
  rw [if_neg hne,aa,aa]
  dsimp only
  rw [l2,aa,aa,if_neg hne,aa,aa]
  try dsimp only
  rw [l1,aa,aa,aa]
  refine ⟨_,_,I,?_,?_⟩
  ·rw [hq,hrv]
   rw [hrr,Nat.mul_comm (2 ^ s) rr,<- Nat.add_mul] at all
   exact Nat.mul_right_cancel hps all
  ·rw [hrv]
   rw [hrr,Nat.mul_comm,hyv] at hml0
   exact Nat.lt_of_mul_lt_mul_right hml0
set_option maxRecDepth 8000
theorem pc (a:Nat):bln a <= 64 * (dg a).length:=dN (by
 have:=dq (dg a)
 rw [aK,eY] at this
 exact this)
theorem dg_one {m:Nat} (h:(dg m).length = 1):∃ y:Ua,dg m = [y]/\y.toNat = m:=by
 rcases e:dg m with _ | ⟨y,_ | ⟨z,zs⟩⟩
 ·rw [e] at h; simp at h
 ·refine ⟨y,I,?_⟩
  have:=aK m
  rw [e] at this
  simp only [val] at this
  omega
 ·rw [e] at h; simp at h
theorem jp {xs:Lb Ua} {i:Nat} (v:Ua) (h:i < xs.length):(xs.set i v).drop i = v :: xs.drop (i + 1):=by
 rw [List.drop_eq_getElem_cons (by simpa using h),List.getElem_set_self,List.drop_set_of_lt (by omega)]
theorem mj (n:Nat) (a:Lb Ua) (y:Ua) (hy:0 < y.toNat) (hl:a.length < 100000) (hn:4294967300 < n):∃ u xs,ao (bF_l1 n a [y]) n (0,((a.length:Nat):Int) - 1,List.replicate a.length 0) = some (u,xs)/\xs.length = a.length/\val a = val xs * y.toNat + u.toNat/\u.toNat < y.toNat:=by
 have hh:=au (B:=bF_l1 n a [y]) (fun s:Ua × Int × Lb Ua=>(s.2.1 + 1).toNat) (fun s=>(-1 <= s.2.1/\s.2.1 < a.length)/\s.2.2.length = a.length/\val (a.drop (s.2.1 + 1).toNat) = val (s.2.2.drop (s.2.1 + 1).toNat) * y.toNat + s.1.toNat/\s.1.toNat < y.toNat)
  (fun r=>r.2.length = a.length/\val a = val r.2 * y.toNat + r.1.toNat/\r.1.toNat < y.toNat) ?_ n (0,((a.length:Nat):Int) - 1,List.replicate a.length 0) ⟨by simp only; omega,by simp,?_,by simpa using hy⟩ (by simp only; omega)
 ·obtain ⟨⟨u,xs⟩,e,h1,h2,h3⟩:=hh; exact ⟨u,xs,e,h1,h2,h3⟩
 ·rintro ⟨u,z,xs⟩ J ⟨a1,a2,a3,a4⟩ hJ
  simp only at a1 a2 a3 a4 hJ
  unfold bF_l1
  simp only
  by_cases hz:0 <= z
  ·obtain ⟨k,rfl⟩:∃ k:Nat,z = k:=⟨z.toNat,by omega⟩
   have e0:(((k:Int) + 1).toNat) = k + 1:=by omega
   rw [e0] at a3
   have hka:k < a.length:=by omega
   have hkx:k < xs.length:=by omega
   obtain ⟨q,r,d1,d2,d3⟩:=nR n u a[k] y a4 hn
   rw [if_pos hz,pL hka,aa]
   simp only [List.getElem?_cons_zero,aa]
   rw [d1,aa,pL hkx,aa,putN _ hkx,aa,aS (by omega) (by omega),aa]
   have eN:(((k:Int) - 1 + 1)).toNat = k:=by omega
   refine hJ (_,_,_) ⟨by simp only; omega,by simpa using a2,?_,d3⟩ (by simp only; omega)
   simp only
   rw [eN,jp q hkx,List.drop_eq_getElem_cons hka]
   simp only [val]
   rw [a3,Nat.add_mul,Nat.mul_add,<- Nat.mul_assoc]
   omega
  ·rw [if_neg hz]
   have e0:(z + 1).toNat = 0:=by omega
   rw [e0] at a3
   exact ⟨_,rfl,a2,by simpa using a3,a4⟩
 ·simp only
  rw [show ((((a.length:Nat):Int) - 1 + 1)).toNat = a.length by omega,List.drop_length,List.drop_eq_nil_of_le (by simp)]
  simp [val]
theorem lL (n:Nat) (a b:Nat) (h0:b ≠ 0) (ha:(dg a).length < 10000) (hb:(dg b).length < 10000) (hn:18446744073709551616 < n):∃ q,bF_p n (dg a) (dg b) = some (q,dg (a % b))/\q.length <= (dg a).length/\val q = a / b:=by
 unfold bF_p
 rw [iC _ _ (by omega),aa]
 by_cases h1:(dg b).length = 1
 ·obtain ⟨y,e,hy⟩:=dg_one h1
  obtain ⟨u,xs,l1,l2,l3,l4⟩:=mj n (dg a) y (by omega) (by omega) (by omega)
  rw [e,if_pos (show ([y]:Lb Ua).length = 1 from I),l1,aa]
  simp only
  rw [aT n false _ (by simp only [leC,leN]; omega) (by simp),aa]
  rw [aK,hy] at l3
  rw [hy] at l4
  have hu:=(Nat.div_mod_unique (a:=a) (b:=b) (c:=u.toNat) (d:=val xs) (by omega)).2 ⟨by rw [Nat.mul_comm]; omega,l4⟩
  refine ⟨xs,?_,by omega,hu.1.symm⟩
  simp only [val,Nat.mul_zero,Nat.add_zero]
  rw [hu.2]
 ·rw [if_neg h1,jJ n a (by omega),aa,jJ n b (by omega),aa]
  have bla:=pc a
  have blb:=pc b
  rw [aS (by omega) (by omega),aa]
  have hbp:=fX h0
  have hbg:=iB h0
  have hal:=kP a
  by_cases hK:(bln a:Int) - bln b < 0
  ·obtain ⟨m,rfl⟩:∃ m,n = m + 1:=⟨n - 1,by omega⟩
   have hab:a < b:=Nat.lt_of_lt_of_le hal (Nat.le_trans (Nat.pow_le_pow_right (by decide) (by omega)) hbg)
   rw [iN]
   unfold bF_l2
   simp only
   rw [if_neg (by omega),aa]
   refine ⟨_,by rw [Nat.mod_eq_of_lt hab],by simp,?_⟩
   rw [Nat.div_eq_of_lt hab]
   exact cN _ fun x hx=>(List.mem_replicate.1 hx).2
  ·obtain ⟨K,hKe⟩:∃ K:Nat,(bln a:Int) - bln b = K:=⟨bln a - bln b,by omega⟩
   rw [hKe]
   have hstart:a < b * 2 ^ (K + 1):=by
    have h2:2 ^ bln a <= b * 2 ^ (K + 1):=by
     have:2 ^ (bln b - 1) * 2 ^ (K + 1) <= b * 2 ^ (K + 1):=Nat.mul_le_mul_right _ hbg
     rw [<- Nat.pow_add,show bln b - 1 + (K + 1) = bln a by omega] at this
     exact this
    omega
   have hh:=au (B:=bF_l2 n (dg b)) (fun s:Lb Ua × Int × Lb Ua=>(s.2.1 + 1).toNat)
    (fun s=>(-1 <= s.2.1/\s.2.1 <= K)/\s.2.2.length = (dg a).length/\∃ R,s.1 = dg R/\R <= a/\a = b * val s.2.2 + R/\R < b * 2 ^ (s.2.1 + 1).toNat/\2 ^ (s.2.1 + 1).toNat ∣ val s.2.2)
    (fun r=>r.1.length = (dg a).length/\val r.1 = a / b/\r.2 = dg (a % b)) ?_ n (dg a,(K:Int),List.replicate (dg a).length 0)
    ⟨by simp only; omega,by simp,a,rfl,Nat.le_refl _,?_,?_,?_⟩ (by simp only; omega)
   ·obtain ⟨⟨q,r⟩,e,e1,e2,e3⟩:=hh
    simp only at e1 e2 e3
    rw [e,aa]
    simp only
    rw [e3]
    exact ⟨q,I,by omega,e2⟩
   ·rintro ⟨rw_,z,q⟩ J ⟨a1,a2,R,rfl,a3,a4,a5,a6⟩ hJ
    simp only at a1 a2 a3 a4 a5 a6 hJ
    unfold bF_l2
    simp only
    by_cases hz:0 <= z
    ·obtain ⟨k,rfl⟩:∃ k:Nat,z = k:=⟨z.toNat,by omega⟩
     have e0:(((k:Int) + 1).toNat) = k + 1:=by omega
     rw [e0] at a5 a6
     have eN:(((k:Int) - 1 + 1)).toNat = k:=by omega
     have hRl:=ib a3
     obtain ⟨st1,st2⟩:=pp a4 a5 a6
     rw [if_pos hz,pn n (dg b) k (by omega) (by omega) (by omega),aa,aK]
     obtain ⟨c,ec,c1,c2⟩:=gO n (dg R) (dg (b * 2 ^ k)) (jk _) (jk _) (by omega) (by omega)
     rw [aK,aK] at c1 c2
     rw [ec,aa]
     unfold jn
     simp only
     by_cases hc:0 <= c
     ·have hge:b * 2 ^ k <= R:=by omega
      obtain ⟨g1,g2,g3⟩:=st1 hge
      obtain ⟨xs,t1,t2,t3⟩:=lV n (dg R) (dg (b * 2 ^ k)) (ib hge) (by rw [aK,aK]; exact hge) (by omega) (by omega)
      rw [aK,aK] at t3
      have hkq:k / 64 < q.length:=by
       have h2:2 ^ k < 2 ^ (64 * (dg a).length):=by
        have h3:=dq (dg a)
        rw [aK,eY] at h3
        have h4:1 * 2 ^ k <= b * 2 ^ k:=Nat.mul_le_mul_right _ (by omega)
        omega
       have h5:=(Nat.pow_lt_pow_iff_right (by decide:1 < 2)).1 h2
       omega
      have hbit:=bit_add hkq a6 (shl_one (Nat.mod_lt _ (by decide)))
      rw [if_pos hc,t1,aa,aT n false xs (by omega) (by omega),aa,pC k (by omega),aa,pL hkq,aa,rem64,aa,gB,aa,putN _ hkq,aa]
      simp only
      rw [aS (by omega) (by omega),aa,t3]
      refine hJ (_,_,_) ⟨by simp only; omega,by simpa using a2,R - b * 2 ^ k,rfl,by omega,?_,?_,?_⟩ (by simp only; omega)
      ·simp only; rw [hbit]; exact g1
      ·simp only; rw [eN]; exact g2
      ·simp only; rw [eN,hbit]; exact g3
     ·rw [if_neg hc,aS (by omega) (by omega),aa]
      refine hJ (_,_,_) ⟨by simp only; omega,a2,R,rfl,a3,a4,?_,?_⟩ (by simp only; omega)
      ·simp only; rw [eN]; omega
      ·simp only; rw [eN]; exact st2 (by omega)
    ·rw [if_neg hz]
     have e0:(z + 1).toNat = 0:=by omega
     rw [e0,Nat.pow_zero,Nat.mul_one] at a5
     have hu:=(Nat.div_mod_unique (a:=a) (b:=b) (c:=R) (d:=val q) (by omega)).2 ⟨by omega,a5⟩
     exact ⟨_,rfl,a2,hu.1.symm,by simp only; rw [hu.2]⟩
   ·simp only
    rw [cN _ fun x hx=>(List.mem_replicate.1 hx).2]; omega
   ·simp only
    rw [show (((K:Int) + 1).toNat) = K + 1 by omega]
    exact hstart
   ·simp only
    rw [cN _ fun x hx=>(List.mem_replicate.1 hx).2]
    exact Nat.dvd_zero _
theorem qf (n l:Nat) (a b:Int) (ha:Fit l a) (hb:Fit l b) (h0:b ≠ 0) (hl:l < 5000) (hn:18446744073709551616 < n):cr_p n (L a) (L b) = some (L (a / b),L (a % b)):=by
 have hal:=ha.len
 have hbl:=hb.len
 obtain ⟨q,e1,e2,e3⟩:=lL n a.natAbs b.natAbs (by omega) (by omega) (by omega) hn
 have hm:a.natAbs % b.natAbs < b.natAbs:=Nat.mod_lt _ (by omega)
 have hl2:(dg (a.natAbs % b.natAbs)).length <= l:=mN (Nat.lt_trans hm hb)
 have hdm:=Nat.div_add_mod a.natAbs b.natAbs
 have hq:a.natAbs / b.natAbs <= a.natAbs:=Nat.div_le_self _ _
 unfold cr_p
 rw [show (L a).fk = dg a.natAbs from I,show (L b).fk = dg b.natAbs from I,e1,aa]
 simp only
 rw [aT n _ _ (by omega) (by omega),aa,aT n _ _ (by omega) (by omega),aa,e3,aK]
 generalize hx:a.natAbs / b.natAbs = x at *
 generalize hy:a.natAbs % b.natAbs = y at *
 simp only [oP]
 show (if (decide (a < 0) && decide (0 < y)) = true then _ else _) = _
 have hqf:x < 18446744073709551616 ^ l:=Nat.lt_of_le_of_lt hq ha
 have hyf:y < 18446744073709551616 ^ l:=Nat.lt_trans hm hb
 have hpw:2 * 18446744073709551616 ^ l <= 18446744073709551616 ^ (l + 1):=by rw [Nat.pow_succ,Nat.mul_comm]; exact Nat.mul_le_mul_left _ (by decide)
 have hp1:1 <= 18446744073709551616 ^ l:=Nat.pow_pos (by decide)
 have hbb:b.natAbs < 18446744073709551616 ^ l:=hb
 have hab:(b.natAbs:Int) * x + y = a.natAbs:=by exact_mod_cast hdm
 by_cases hr:a < 0/\0 < y
 ·obtain ⟨h1,h2⟩:=hr
  rw [if_pos (by simp [h1,h2])]
  have f1:(⟨false,dg b.natAbs⟩:Tg) = L b.natAbs:=by unfold L; simp
  have f2:(⟨!(L b).fc,([(1:Ua)]:Lb Ua)⟩:Tg) = L (if b < 0 then 1 else -1):=by
   unfold L
   by_cases hb0:b < 0 <;> simp [hb0] <;> rw [dg1 (by decide) (by decide)] <;> rfl
  rw [f1,f2,ie n (l + 1) _ _ ?_ ?_ (by omega) (by omega),aa,ie n (l + 1) _ _ ?_ ?_ (by omega) (by omega),aa]
  ·have e:sg (!(decide (a < 0) == decide (b < 0))) x + (if b < 0 then 1 else -1) = a / b/\sg (decide (a < 0)) y + b.natAbs = a % b:=by
    have:=ka (a:=a) (b:=b) (q:=sg (!(decide (a < 0) == decide (b < 0))) x + (if b < 0 then 1 else -1)) (r:=sg (decide (a < 0)) y + b.natAbs) ?_ ?_ ?_
    ·exact ⟨this.1.symm,this.2.symm⟩
    ·unfold sg
     by_cases hb0:b < 0
     ·have:(b.natAbs:Int) = -b:=by omega
      rw [this] at hab ⊢
      have h3:(a.natAbs:Int) = -a:=by omega
      simp [h1,hb0]
      rw [Int.mul_add]; grind
     ·have:(b.natAbs:Int) = b:=by omega
      rw [this] at hab ⊢
      have h3:(a.natAbs:Int) = -a:=by omega
      simp [h1,hb0]
      rw [Int.mul_add]; grind
    ·unfold sg; simp [h1]; omega
    ·unfold sg; simp [h1]; omega
   show some (L (sg (!(decide (a < 0) == decide (b < 0))) x + (if b < 0 then 1 else -1)),L (sg (decide (a < 0)) y + b.natAbs)) = _
   rw [e.1,e.2]
  ·unfold Fit; rw [mC]; omega
  ·unfold Fit; split <;> simp <;> omega
  ·unfold Fit; rw [mC]; omega
  ·unfold Fit; rw [Int.natAbs_natCast]; omega
 ·rw [if_neg (by simpa using hr)]
  have e:=ka (a:=a) (b:=b) (q:=sg (!(decide (a < 0) == decide (b < 0))) x) (r:=sg (decide (a < 0)) y) ?_ ?_ ?_
  ·rw [e.1,e.2]; rfl
  ·unfold sg
   by_cases h1:a < 0
   ·have hy0:y = 0:=by omega
    have h3:(a.natAbs:Int) = -a:=by omega
    by_cases hb0:b < 0
    ·have:(b.natAbs:Int) = -b:=by omega
     rw [this] at hab; simp [h1,hb0,hy0] at hab ⊢; grind
    ·have:(b.natAbs:Int) = b:=by omega
     rw [this] at hab; simp [h1,hb0,hy0] at hab ⊢; grind
   ·have h3:(a.natAbs:Int) = a:=by omega
    by_cases hb0:b < 0
    ·have:(b.natAbs:Int) = -b:=by omega
     rw [this] at hab; simp [h1,hb0] at hab ⊢; grind
    ·have:(b.natAbs:Int) = b:=by omega
     rw [this] at hab; simp [h1,hb0] at hab ⊢; grind
  ·unfold sg
   by_cases h1:a < 0
   ·have hy0:y = 0:=by omega
    simp [hy0]
   ·simp [h1]
  ·unfold sg
   by_cases h1:a < 0
   ·have hy0:y = 0:=by omega
    simp [hy0]; omega
   ·simp [h1]; omega
theorem ku (n l:Nat) (a b:Int) (ha:Fit l a) (hb:Fit l b) (hl:l < 5000) (hn:18446744073709551616 < n):bA_p n (L a) (L b) = some (L (Nat.gcd a.natAbs b.natAbs:Nat)):=by
 obtain ⟨M,hM⟩:∃ M:Nat,M = 64 * l:=⟨_,I⟩
 have hx2:a.natAbs < 2 ^ M:=by unfold Fit at ha; rw [eY,<- hM] at ha; exact ha
 have hy2:b.natAbs < 2 ^ M:=by unfold Fit at hb; rw [eY,<- hM] at hb; exact hb
 have he:=eu_le hx2 hy2
 have h:=au (B:=bA_l1 n) (fun s:Lb Ua × Lb Ua=>eu (val s.1) (val s.2)) (fun s=>∃ x y,s = (dg x,dg y)/\(dg x).length < 10000/\(dg y).length < 10000/\Nat.gcd x y = Nat.gcd a.natAbs b.natAbs)
  (fun r=>r = dg (Nat.gcd a.natAbs b.natAbs)) ?_ n (dg a.natAbs,dg b.natAbs) ⟨_,_,rfl,by have:=ha.len; omega,by have:=hb.len; omega,rfl⟩ (by simp only [aK]; omega)
 ·obtain ⟨r,h1,rfl⟩:=h
  unfold bA_p
  rw [show (L a).fk = dg a.natAbs from I,show (L b).fk = dg b.natAbs from I,h1,aa]
  unfold L
  simp
 ·rintro _ J ⟨x,y,rfl,h1,h2,h3⟩ hJ
  unfold bA_l1
  simp only
  by_cases h0:y = 0
  ·subst h0
   rw [if_neg (by rw [dg0]; simp)]
   exact ⟨_,rfl,by rw [<- h3,Nat.gcd_zero_right]⟩
  ·obtain ⟨q,e1,_,_⟩:=lL n x y h0 h1 h2 hn
   have hm:x % y < y:=Nat.mod_lt _ (by omega)
   have hyl:0 < (dg y).length:=by
    rcases e:dg y with _ | ⟨z,zs⟩
    ·have:=aK y; rw [e] at this; exact absurd this.symm h0
    ·simp
   rw [if_pos hyl,e1,aa]
   simp only
   refine hJ (dg y,dg (x % y)) ⟨_,_,rfl,h2,Nat.lt_of_le_of_lt (ib (Nat.le_of_lt hm)) h2,?_⟩ (by simp only [aK]; exact nC h0)
   rw [<- h3,Nat.gcd_comm x y,Nat.gcd_rec y x,Nat.gcd_comm]
theorem nr (n l:Nat) (a b:Int) (ha:Fit l a) (hb:Fit l b) (h0:b ≠ 0) (hl:l < 5000) (hn:18446744073709551616 < n) :
  cj_p n (L a) (L b) = some (Rt (Rat.divInt a b))/\(Rat.divInt a b).num.natAbs <= a.natAbs/\(Rat.divInt a b).den <= b.natAbs:=by
 have hg:0 < Nat.gcd a.natAbs b.natAbs:=Nat.gcd_pos_of_pos_right _ (by omega)
 have hgb:Nat.gcd a.natAbs b.natAbs <= b.natAbs:=Nat.gcd_le_right _ (by omega)
 have hgw:Fit l ((Nat.gcd a.natAbs b.natAbs:Nat):Int):=by unfold Fit at *; rw [Int.natAbs_natCast]; omega
 obtain ⟨x,hx⟩:((Nat.gcd a.natAbs b.natAbs:Nat):Int) ∣ a:=Int.ofNat_dvd_left.2 (Nat.gcd_dvd_left _ _)
 obtain ⟨y,hy⟩:((Nat.gcd a.natAbs b.natAbs:Nat):Int) ∣ b:=Int.ofNat_dvd_left.2 (Nat.gcd_dvd_right _ _)
 have hco:=Nat.coprime_div_gcd_div_gcd hg
 generalize Nat.gcd a.natAbs b.natAbs = g at *
 have hg0:(g:Int) ≠ 0:=by omega
 have e1:a / (g:Int) = x:=by rw [hx]; exact Int.mul_ediv_cancel_left _ hg0
 have e2:b / (g:Int) = y:=by rw [hy]; exact Int.mul_ediv_cancel_left _ hg0
 have e3:a.natAbs = g * x.natAbs:=by rw [hx,Int.natAbs_mul]; rfl
 have e4:b.natAbs = g * y.natAbs:=by rw [hy,Int.natAbs_mul]; rfl
 have hc:x.natAbs.Coprime y.natAbs:=by
  rw [e3,e4,Nat.mul_div_cancel_left _ hg,Nat.mul_div_cancel_left _ hg] at hco; exact hco
 have hxl:x.natAbs <= a.natAbs:=by rw [e3]; exact Nat.le_mul_of_pos_left _ hg
 have hyl:y.natAbs <= b.natAbs:=by rw [e4]; exact Nat.le_mul_of_pos_left _ hg
 have hy0:y ≠ 0:=fun e=>h0 (by rw [hy,e,Int.mul_zero])
 have eq:Rat.divInt a b = Rat.divInt x y:=by
  conv=>lhs; rw [hx,hy]
  exact Rat.divInt_mul_left hg0
 have xw:Fit l x:=Nat.lt_of_le_of_lt hxl ha
 have yw:Fit l y:=Nat.lt_of_le_of_lt hyl hb
 have gc:bA_p n (L a) (L b) = some (L g):=by
  have:=ku n l a b ha hb hl hn
  rw [this]
  have h5:Nat.gcd a.natAbs b.natAbs = g:=by
   rw [e3,e4,Nat.gcd_mul_left,show Nat.gcd x.natAbs y.natAbs = 1 from hc,Nat.mul_one]
  rw [h5]
 unfold cj_p
 rw [gc,aa,qf n l a g ha hgw hg0 hl hn,aa,qf n l b g hb hgw hg0 hl hn,aa,e1,e2]
 simp only
 rw [eq]
 by_cases hs:y < 0
 ·rw [if_pos (by simpa [L] using hs),eW n l x xw (by omega) (by omega),aa,eW n l y yw (by omega) (by omega),aa]
  have h5:=kw (x:=-x) (y:=-y) (by omega) (by rwa [Int.natAbs_neg,Int.natAbs_neg])
  rw [Rat.neg_divInt_neg] at h5
  unfold Rt
  rw [h5.1,h5.2]
  exact ⟨rfl,by rw [Int.natAbs_neg]; exact hxl,by have:=h5.2; omega⟩
 ·rw [if_neg (by simpa [L] using hs)]
  have h5:=kw (x:=x) (y:=y) (by omega) hc
  unfold Rt
  rw [h5.1,h5.2]
  exact ⟨I,hxl,by have:=h5.2; omega⟩
set_option maxRecDepth 8000
abbrev T8:=Ua × Ua × Ua × Ua × Ua × Ua × Ua × Ua
def wv (t:T8):Lb Ua:=[t.1,t.2.1,t.2.2.1,t.2.2.2.1,t.2.2.2.2.1,t.2.2.2.2.2.1,t.2.2.2.2.2.2.1,t.2.2.2.2.2.2.2]
theorem ne:∀ {xs ys:Lb Ua},xs.length = ys.length -> val xs = val ys -> xs = ys
 | [],[],_,_=>rfl
 | x :: xs,[],h,_=>by simp at h
 | [],y :: ys,h,_=>by simp at h
 | x :: xs,y :: ys,h,e=>by
  simp only [val] at e
  have hx:=x.toNat_lt
  have hy:=y.toNat_lt
  have e1:x = y:=UInt64.toNat_inj.1 (by omega)
  have e2:val xs = val ys:=by omega
  rw [e1,ne (by simpa using h) e2]
theorem wv_inj {s t:T8} (h:val (wv s) = val (wv t)):s = t:=by
 have:=ne (by rfl) h
 unfold wv at this
 obtain ⟨s1,s2,s3,s4,s5,s6,s7,s8⟩:=s
 obtain ⟨t1,t2,t3,t4,t5,t6,t7,t8⟩:=t
 simp only [List.cons.injEq,and_true] at this
 simp only [Prod.mk.injEq]
 exact this
def HB:Nat:=9223372036854775808 * 18446744073709551616 ^ 7
def FB:Nat:=18446744073709551616 ^ 8
theorem eH:FB = 2 * HB:=by unfold FB HB; rfl
theorem dB:0 < HB:=by unfold HB; decide
theorem pE (t:T8):val (wv t) < FB:=dq (wv t)
def Wn (m:Nat):T8:=(UInt64.ofNat m,UInt64.ofNat (m / 18446744073709551616),UInt64.ofNat (m / 18446744073709551616 / 18446744073709551616),UInt64.ofNat (m / 18446744073709551616 / 18446744073709551616 / 18446744073709551616),UInt64.ofNat (m / 18446744073709551616 / 18446744073709551616 / 18446744073709551616 / 18446744073709551616),UInt64.ofNat (m / 18446744073709551616 / 18446744073709551616 / 18446744073709551616 / 18446744073709551616 / 18446744073709551616),UInt64.ofNat (m / 18446744073709551616 / 18446744073709551616 / 18446744073709551616 / 18446744073709551616 / 18446744073709551616 / 18446744073709551616),UInt64.ofNat (m / 18446744073709551616 / 18446744073709551616 / 18446744073709551616 / 18446744073709551616 / 18446744073709551616 / 18446744073709551616 / 18446744073709551616))
theorem cR (m:Nat) (xs:Lb Ua) (h:val xs = m / 18446744073709551616):val (UInt64.ofNat m :: xs) = m:=by
 simp only [val]
 rw [UInt64.toNat_ofNat', h]
 exact Nat.mod_add_div m 18446744073709551616
theorem Wn_val {m:Nat} (h:m < FB):val (wv (Wn m)) = m:=by
 unfold wv Wn
 refine cR _ _ (cR _ _ (cR _ _ (cR _ _ (cR _ _ (cR _ _ (cR _ _ ?_))))))
 simp only [val]
 rw [UInt64.toNat_ofNat', Nat.mul_zero,Nat.add_zero]
 refine Nat.mod_eq_of_lt ?_
 simp only [Nat.div_div_eq_div_mul]
 refine Nat.div_lt_of_lt_mul ?_
 exact h
def Fw (z:Int):Prop:=-(HB:Int) <= z/\z < HB
def Wg (z:Int):T8:=Wn (z % (FB:Int)).toNat
theorem fG (z:Int):(val (wv (Wg z)):Int) = z % (FB:Int):=by
 have hp:=dB
 have hf:=eH
 have h0:=Int.emod_nonneg z (b:=(FB:Int)) (by omega)
 have h1:=Int.emod_lt_of_pos z (b:=(FB:Int)) (by omega)
 unfold Wg
 rw [Wn_val (by omega)]
 omega
theorem my {z:Int} (h:Fw z) (h0:0 <= z):val (wv (Wg z)) = z.natAbs:=by
 have hp:=dB
 have hf:=eH
 have:=fG z
 rw [Int.emod_eq_of_lt h0 (by have:=h.2; omega)] at this
 omega
theorem lY {z:Int} (h:Fw z) (h0:z < 0):val (wv (Wg z)) + z.natAbs = FB:=by
 have hp:=dB
 have hf:=eH
 have:=fG z
 have e:z % (FB:Int) = z + FB:=by
  rw [<- Int.add_emod_right]
  exact Int.emod_eq_of_lt (by have:=h.1; omega) (by omega)
 rw [e] at this
 have:=h.1
 omega
theorem cv {s b c a c1 c2 Vs Vb Va K:Nat} (h1:s + b + c = a + 18446744073709551616 * c1) (h2:Vs + Vb + c1 = Va + K * c2):(s + 18446744073709551616 * Vs) + (b + 18446744073709551616 * Vb) + c = (a + 18446744073709551616 * Va) + 18446744073709551616 * K * c2:=by
 rw [Nat.mul_assoc]
 have:=congrArg (18446744073709551616 * ·) h2
 simp only [Nat.mul_add] at this
 omega
theorem jR (n:Nat) (a b:T8):∃ s c,bS_p n a b = some (s,c)/\val (wv s) + val (wv b) = val (wv a) + FB * c.toNat/\c.toNat <= 1:=by
 obtain ⟨a1,a2,a3,a4,a5,a6,a7,a8⟩:=a
 obtain ⟨b1,b2,b3,b4,b5,b6,b7,b8⟩:=b
 obtain ⟨s1,c1,e1,f1,g1⟩:=bV a1 b1 0 (by decide)
 obtain ⟨s2,c2,e2,f2,g2⟩:=bV a2 b2 c1 g1
 obtain ⟨s3,c3,e3,f3,g3⟩:=bV a3 b3 c2 g2
 obtain ⟨s4,c4,e4,f4,g4⟩:=bV a4 b4 c3 g3
 obtain ⟨s5,c5,e5,f5,g5⟩:=bV a5 b5 c4 g4
 obtain ⟨s6,c6,e6,f6,g6⟩:=bV a6 b6 c5 g5
 obtain ⟨s7,c7,e7,f7,g7⟩:=bV a7 b7 c6 g6
 obtain ⟨s8,c8,e8,f8,g8⟩:=bV a8 b8 c7 g7
 refine ⟨(s1,s2,s3,s4,s5,s6,s7,s8),c8,?_,?_,g8⟩
 ·unfold bS_p
  simp only [e1,e2,e3,e4,e5,e6,e7,e8,aa]
 ·have hFB:FB = 18446744073709551616 * (18446744073709551616 * (18446744073709551616 * (18446744073709551616 * (18446744073709551616 * (18446744073709551616 * (18446744073709551616 * (18446744073709551616 * 1))))))):=rfl
  have:=cv f1 (cv f2 (cv f3 (cv f4 (cv f5 (cv f6 (cv f7 (cv f8 (show 0 + 0 + c8.toNat = 0 + 1 * c8.toNat by omega))))))))
  rw [<- hFB,show (0:Ua).toNat = 0 from I,Nat.add_zero] at this
  simp only [wv,val]
  exact this
theorem oo (n:Nat) (a b:T8) (hn:10 < n):∃ c,bK_p n a b = some c/\(c < 0 ↔ val (wv a) < val (wv b))/\(c = 0 ↔ val (wv a) = val (wv b)):=by
 have hh:=au (B:=bK_l1 n a b) (fun z:Int=>(z + 1).toNat) (fun z=>-1 <= z/\z < 8/\(wv a).drop (z + 1).toNat = (wv b).drop (z + 1).toNat)
  (fun r=>(r = .inl (-1)/\val (wv a) < val (wv b)) ∨ (r = .inl 1/\val (wv b) < val (wv a)) ∨ (r = .inr ()/\wv a = wv b)) ?_ n 7 ⟨by omega,by omega,I⟩ (by omega)
 ·obtain ⟨r,hr,h1 | h1 | h1⟩:=hh
  ·unfold bK_p
   rw [hr,h1.1]; exact ⟨_,rfl,by have:=h1.2; omega,by have:=h1.2; omega⟩
  ·unfold bK_p
   rw [hr,h1.1]; exact ⟨_,rfl,by have:=h1.2; omega,by have:=h1.2; omega⟩
  ·unfold bK_p
   rw [hr,h1.1,h1.2]; exact ⟨_,rfl,by omega,by omega⟩
 ·intro z J ⟨h1,h2,h3⟩ hJ
  unfold bK_l1
  simp only
  have la:(wv a).length = 8:=rfl
  have lb:(wv b).length = 8:=rfl
  by_cases h0:0 <= z
  ·have e1:(z + 1).toNat = z.toNat + 1:=by omega
   rw [e1] at h3
   rw [if_pos h0]
   show ∃ r,((idx (wv a) z).bind fun z64=>(idx (wv b) z).bind fun z68=>if z64 = z68 then (chk (z - 1)).bind fun s73=>J s73 else if z64 < z68 then some (Sum.inl (-1:Int)) else some (Sum.inl (1:Int))) = some r/\_
   rw [bg h0 (by omega),aa,bg h0 (by omega),aa]
   split
   ·rename_i he
    rw [aS (by omega) (by omega),aa]
    refine hJ (z - 1) ⟨by omega,by omega,?_⟩ (by omega)
    rw [show (z - 1 + 1).toNat = z.toNat by omega,List.drop_eq_getElem_cons (by omega),List.drop_eq_getElem_cons (l:=wv b) (by omega),h3,he]
   ·rename_i hne
    split
    ·rename_i hlt; exact ⟨_,I,.inl ⟨I,im (by omega) (by omega) h3 hlt⟩⟩
    ·rename_i h5
     refine ⟨_,I,.inr (.inl ⟨I,im (by omega) (by omega) h3.symm ?_⟩)⟩
     rw [UInt64.lt_iff_toNat_lt] at h5 ⊢
     have:((wv a)[z.toNat]'(by omega)).toNat ≠ ((wv b)[z.toNat]'(by omega)).toNat:=fun e=>hne (UInt64.toNat_inj.1 e)
     omega
  ·rw [if_neg h0]
   have e1:(z + 1).toNat = 0:=by omega
   rw [e1] at h3
   exact ⟨_,rfl,.inr (.inr ⟨rfl,by simpa using h3⟩)⟩
theorem gZ (t:T8):shrU t.2.2.2.2.2.2.2 63 = 1 ↔ HB <= val (wv t):=by
 obtain ⟨t1,t2,t3,t4,t5,t6,t7,t8⟩:=t
 have h1:=dq [t1,t2,t3,t4,t5,t6,t7]
 have e:val (wv (t1,t2,t3,t4,t5,t6,t7,t8)) = val [t1,t2,t3,t4,t5,t6,t7] + 18446744073709551616 ^ 7 * t8.toNat:=by
  have:=gn [t1,t2,t3,t4,t5,t6,t7] [t8]
  simp only [leC,leN] at this
  show val ([t1,t2,t3,t4,t5,t6,t7] ++ [t8]) = _
  rw [this]
  simp [val]
 rw [e]
 simp only [leC,leN] at h1
 have h8:=t8.toNat_lt
 have hs:(shrU t8 63).toNat = t8.toNat / 9223372036854775808:=ck t8 (by decide)
 have hsw:shrU t8 63 = 1 ↔ 9223372036854775808 <= t8.toNat:=by
  constructor
  ·intro h
   have:=congrArg UInt64.toNat h
   rw [hs] at this
   simp only [UInt64.toNat_one] at this
   omega
  ·intro h
   refine UInt64.toNat_inj.1 ?_
   rw [hs]
   simp only [UInt64.toNat_one]
   omega
 show shrU t8 63 = 1 ↔ _
 rw [hsw]
 unfold HB
 generalize val [t1,t2,t3,t4,t5,t6,t7] = lo at *
 generalize hP:(18446744073709551616:Nat) ^ 7 = P at *
 constructor
 ·intro h
  have:=Nat.mul_le_mul_left P h
  rw [Nat.mul_comm] at this
  omega
 ·intro h
  by_cases c:9223372036854775808 <= t8.toNat
  ·exact c
  ·exfalso
   have:=Nat.mul_le_mul_left P (show t8.toNat + 1 <= 9223372036854775808 by omega)
   rw [Nat.mul_add,Nat.mul_comm P 9223372036854775808] at this
   omega
theorem ij (n:Nat) (z:Int) (h:Fw z) (hn:10 < n):bV_p n (Wg z) = some (L z):=by
 have hp:=dB
 have hf:=eH
 have fin:∀ (b:Bool) (t:T8),val (wv t) = z.natAbs -> (b && decide (0 < z.natAbs)) = decide (z < 0) -> ((app ([]:Lb Ua) ([t.1,t.2.1,t.2.2.1,t.2.2.2.1,t.2.2.2.2.1,t.2.2.2.2.2.1,t.2.2.2.2.2.2.1,t.2.2.2.2.2.2.2]:Lb Ua)).bind fun xs=>(aB_p n b xs).bind fun y=>some y) = some (L z):=fun b t hv hb=>by
  show ((app ([]:Lb Ua) (wv t)).bind fun xs=>(aB_p n b xs).bind fun y=>some y) = some (L z)
  rw [bQ [] (wv t) (by show 0 + 8 <= 1000000; decide),aa,List.nil_append,aT n b (wv t) (by show 8 < n; omega) (by show 8 <= 4294967296; decide),aa,hv,hb]
  rfl
 unfold bV_p dc_p
 by_cases h0:z < 0
 ·have hv:=lY h h0
  have hge:HB <= val (wv (Wg z)):=by have:=h.1; omega
  obtain ⟨s,c,e,e2,e3⟩:=jR n (0,0,0,0,0,0,0,0) (Wg z)
  have hz:val (wv ((0,0,0,0,0,0,0,0):T8)) = 0:=rfl
  rw [hz] at e2
  have hs:=pE s
  have hc:c.toNat = 1:=by
   by_cases hc0:c.toNat = 0
   ·rw [hc0] at e2; omega
   ·omega
  rw [hc] at e2
  rw [if_pos ((gZ _).2 hge),e,aa,aa]
  exact fin _ s (by omega) (by rw [decide_eq_true ((gZ _).2 hge),decide_eq_true (by omega:0 < z.natAbs),decide_eq_true h0]; rfl)
 ·have hv:=my h (by omega)
  have hlt:¬ shrU (Wg z).2.2.2.2.2.2.2 63 = 1:=fun e=>by have:=(gZ _).1 e; have:=h.2; omega
  rw [if_neg hlt,aa]
  exact fin _ (Wg z) hv (by rw [decide_eq_false hlt,decide_eq_false h0]; rfl)
theorem iL {z:Int} {t:T8} (h:(val (wv t):Int) = z % (FB:Int)):t = Wg z:=wv_inj (by have:=fG z; omega)
theorem oJ {ws:Lb Ua} (h:ws.length <= 8):val (wv (aQ ws 0 0,aQ ws 1 0,aQ ws 2 0,aQ ws 3 0,aQ ws 4 0,aQ ws 5 0,aQ ws 6 0,aQ ws 7 0)) = val ws:=by
 unfold wv aQ
 rcases ws with _ | ⟨a,_ | ⟨b,_ | ⟨c,_ | ⟨d,_ | ⟨e,_ | ⟨f,_ | ⟨g,_ | ⟨i,_ | ⟨j,xs⟩⟩⟩⟩⟩⟩⟩⟩⟩
 any_goals simp [val]
 simp only [leC] at h
 omega
open Classical in
theorem toldG (n:Nat) (z:Int) (hn:10 < n):cu_p n (L z) = some (if Fw z then (Wg z,0) else ((0,0,0,0,0,0,0,0),6)):=by
 have hp:=dB
 have hf:=eH
 have hdg:=aK z.natAbs
 unfold cu_p
 by_cases hl:8 < (dg z.natAbs).length
 ·have h1:=kE (jk z.natAbs) (by intro e; rw [e] at hl; simp at hl)
  have h2:18446744073709551616 ^ 8 <= 18446744073709551616 ^ ((dg z.natAbs).length - 1):=Nat.pow_le_pow_right (by decide) (by omega)
  have hbig:FB <= z.natAbs:=by unfold FB; omega
  rw [if_pos (show 8 < (L z).fk.length from hl),if_neg fun h:Fw z=>by have:=h.1; have:=h.2; omega]
 ·have hv:=oJ (ws:=dg z.natAbs) (by omega)
  rw [if_neg (show ¬ 8 < (L z).fk.length from hl)]
  show ((cG_p n ⟨decide (z < 0),(aQ (dg z.natAbs) 0 0,aQ (dg z.natAbs) 1 0,aQ (dg z.natAbs) 2 0,aQ (dg z.natAbs) 3 0,aQ (dg z.natAbs) 4 0,aQ (dg z.natAbs) 5 0,aQ (dg z.natAbs) 6 0,aQ (dg z.natAbs) 7 0)⟩).bind _) = _
  generalize hT:((aQ (dg z.natAbs) 0 0,aQ (dg z.natAbs) 1 0,aQ (dg z.natAbs) 2 0,aQ (dg z.natAbs) 3 0,aQ (dg z.natAbs) 4 0,aQ (dg z.natAbs) 5 0,aQ (dg z.natAbs) 6 0,aQ (dg z.natAbs) 7 0):T8) = t at *
  rw [hdg] at hv
  unfold cG_p
  obtain ⟨c,ec,c1,c2⟩:=oo n t (0,0,0,0,0,0,0,9223372036854775808) hn
  have hlim:val (wv ((0,0,0,0,0,0,0,9223372036854775808):T8)) = HB:=by decide
  rw [hlim,hv] at c1 c2
  simp only
  rw [ec,aa]
  obtain ⟨s,cc,e,e2,e3⟩:=jR n (0,0,0,0,0,0,0,0) t
  have hz:val (wv ((0,0,0,0,0,0,0,0):T8)) = 0:=rfl
  rw [hz,hv] at e2
  have hs:=pE s
  have neg:z < 0 -> Fw z -> s = Wg z:=fun h0 hw=>by
   refine iL ?_
   have hc:cc.toNat = 1:=by
    by_cases hc0:cc.toNat = 0
    ·rw [hc0] at e2; omega
    ·omega
   rw [hc] at e2
   have e5:z % (FB:Int) = z + FB:=by
    rw [<- Int.add_emod_right]
    exact Int.emod_eq_of_lt (by have:=hw.1; omega) (by omega)
   rw [e5]; omega
  by_cases g1:0 < c
  ·rw [if_pos g1,aa,if_neg fun h:Fw z=>by have:=h.1; have:=h.2; omega]
  ·rw [if_neg g1]
   by_cases g2:c = 0
   ·rw [if_pos g2]
    by_cases h0:z < 0
    ·have hw:Fw z:=⟨by omega,by omega⟩
     rw [if_pos (decide_eq_true h0),e,aa,aa,if_pos hw,neg h0 hw]
    ·rw [if_neg (by simpa using h0),aa,if_neg fun h:Fw z=>by have:=h.2; omega]
   ·rw [if_neg g2]
    by_cases h0:z < 0
    ·have hw:Fw z:=⟨by omega,by omega⟩
     rw [if_pos (decide_eq_true h0),e,aa,aa,if_pos hw,neg h0 hw]
    ·have hw:Fw z:=⟨by omega,by omega⟩
     rw [if_neg (by simpa using h0),aa,if_pos hw]
     rw [show t = Wg z from iL (by rw [Int.emod_eq_of_lt (by omega) (by have:=hw.2; omega)]; omega)]
set_option maxRecDepth 8000
def Sg (q:Rat):Tb:=⟨Wg q.num,Wg q.den⟩
def FQ (q:Rat):Prop:=Fw q.num/\Fw (q.den:Int)
def noS:Tb:=⟨(0,0,0,0,0,0,0,0),(0,0,0,0,0,0,0,0)⟩
theorem Fw.fit {z:Int} (h:Fw z):Fit 8 z:=by
 have h1:=eH
 have h2:=dB
 unfold Fit
 show z.natAbs < FB
 have:=h.1
 have:=h.2
 omega
theorem FQ.n {q:Rat} (h:FQ q):Fit 8 q.num:=h.1.fit
theorem FQ.d {q:Rat} (h:FQ q):Fit 8 (q.den:Int):=h.2.fit
theorem FQ.ndnz {q:Rat}:(q.den:Int) ≠ 0:=by have:=q.den_pos; omega
theorem cS {z:Int} (h:Sm z):Fw z:=by
 have:9223372036854775808 <= HB:=by unfold HB; decide
 unfold Sm at h
 exact ⟨by omega,by omega⟩
theorem mB {x y:Int} (hx:Fw x) (hy:Fw y) (e:Wg x = Wg y):x = y:=by
 have h1:=fG x
 have h2:=fG y
 rw [e,h2] at h1
 have hf:=eH
 have hp:=dB
 have a:=hx.1; have b:=hx.2; have c:=hy.1; have d:=hy.2
 have e3:=Int.emod_eq_emod_iff_emod_sub_eq_zero.1 h1
 obtain ⟨k,hk⟩:=Int.dvd_of_emod_eq_zero e3
 by_cases k0:k = 0
 ·rw [k0,Int.mul_zero] at hk; omega
 ·by_cases kp:1 <= k
  ·have:(FB:Int) * 1 <= FB * k:=Int.mul_le_mul_of_nonneg_left kp (by omega)
   omega
  ·have:(FB:Int) * k <= FB * (-1):=Int.mul_le_mul_of_nonneg_left (show k <= -1 by omega) (by omega)
   omega
theorem kK {x y:Rat} (hx:FQ x) (hy:FQ y) (e:Sg x = Sg y):x = y:=by
 unfold Sg at e
 injection e with e1 e2
 have h1:=mB hx.1 hy.1 e1
 have h2:=mB hx.2 hy.2 e2
 exact Rat.ext h1 (by omega)
theorem dQ (n:Nat) (q:Rat) (h:FQ q) (hn:10 < n):ak_p n (Sg q) = some (Rt q):=by
 unfold ak_p
 rw [show (Sg q).fN = Wg q.num from I,show (Sg q).fD = Wg q.den from I,ij n _ h.1 hn,aa,ij n _ h.2 hn,aa]
 rfl
open Classical in
theorem rtoldG (n:Nat) (q:Rat) (hn:10 < n):ac_p n (Rt q) = some (if FQ q then (Sg q,0) else (noS,6)):=by
 unfold ac_p
 rw [show (Rt q).fj = L q.num from I,show (Rt q).fh = L q.den from I,toldG n _ hn,aa,toldG n _ hn,aa]
 by_cases h1:Fw q.num
 ·by_cases h2:Fw (q.den:Int)
  ·rw [if_pos h1,if_pos h2,if_pos (show FQ q from ⟨h1,h2⟩)]
   rfl
  ·rw [if_pos h1,if_neg h2,if_neg fun h:FQ q=>h2 h.2]
   rfl
 ·rw [if_neg h1,if_neg fun h:FQ q=>h1 h.1]
  rfl
theorem checkG (n:Nat) (q:Rat) (h:FQ q) (hn:18446744073709551616 < n):bY_p n (Sg q) = some 0:=by
 have hd:=q.den_pos
 unfold bY_p
 rw [hS n 1 (by unfold Sm; decide) (by omega),aa,dQ n q h (by omega),aa,show (Rt q).fj = L q.num from I,show (Rt q).fh = L q.den from I,cK,aa,Int.sign_eq_one_of_pos (by omega),if_neg (by decide)]
 rw [ku n 8 _ _ h.n h.d (by decide) hn,aa,show Nat.gcd q.num.natAbs (q.den:Int).natAbs = 1 from q.reduced]
 unfold cn_p
 rw [fQ n 1 _ _ (by unfold Fit; decide) (by unfold Fit; decide) (by omega) (by omega),aa,cK]
 rfl
theorem Fit.mul {l m:Nat} {a b:Int} (ha:Fit l a) (hb:Fit m b):Fit (l + m) (a * b):=by
 unfold Fit at *
 rw [Int.natAbs_mul,Nat.pow_add]
 exact Nat.mul_lt_mul'' ha hb
theorem Fit.add {l:Nat} {a b:Int} (ha:Fit l a) (hb:Fit l b):Fit (l + 1) (a + b):=by
 unfold Fit at *
 have:2 * 18446744073709551616 ^ l <= 18446744073709551616 ^ (l + 1):=by rw [Nat.pow_succ,Nat.mul_comm]; exact Nat.mul_le_mul_left _ (by decide)
 omega
theorem Fit.mono {l m:Nat} {a:Int} (ha:Fit l a) (h:l <= m):Fit m a:=Nat.lt_of_lt_of_le ha (Nat.pow_le_pow_right (by decide) h)
structure RF (l:Nat) (q:Rat):Prop where
 n:Fit l q.num
 d:Fit l (q.den:Int)
theorem FQ.rf {q:Rat} (h:FQ q):RF 8 q:=⟨h.n,h.d⟩
theorem RF.of {l:Nat} {a b:Int} (ha:Fit l a) (hb:Fit l b) (h1:(Rat.divInt a b).num.natAbs <= a.natAbs) (h2:(Rat.divInt a b).den <= b.natAbs):RF l (Rat.divInt a b):=
 ⟨Nat.lt_of_le_of_lt h1 ha,by unfold Fit; rw [Int.natAbs_natCast]; exact Nat.lt_of_le_of_lt h2 hb⟩
theorem RF.neg {l:Nat} {q:Rat} (h:RF l q):RF l (-q):=⟨by rw [Rat.neg_num]; exact h.n.neg,by rw [Rat.neg_den]; exact h.d⟩
theorem na (n l:Nat) (a:Rat) (ha:RF l a) (hl:l < 1000) (hn:18446744073709551616 < n):bW_p n (Rt a) = some (Rt (-a)):=by
 unfold bW_p Rt
 rw [eW n l _ ha.n (by omega) (by omega),aa,Rat.neg_num,Rat.neg_den]
theorem Wg_zero:Wg 0 = (0,0,0,0,0,0,0,0):=(iL (by decide)).symm
set_option maxRecDepth 8000
theorem quoI_ok {x y:Int} (h:y ≠ 0) (h1:-9223372036854775808 <= x.tdiv y) (h2:x.tdiv y <= 9223372036854775807):ej x y = some (x.tdiv y):=by
 unfold ej; rw [if_neg h,aS h1 h2]
theorem pV (n:Nat) (a b:Lb Int) (hda:Dig a) (hdb:Dig b) (hn:a.length + 1 < n/\b.length + 1 < n) (hl:a.length < 100000/\b.length < 100000):∃ xs,bH_p n a b = some xs/\Dig xs/\xs.length <= max a.length b.length + 1/\dv xs = dv a + dv b:=by
 have h:=au (B:=bH_l1 n a b) (fun s:Int × Int × Lb Int=>max a.length b.length + 1 - s.2.2.length)
  (fun s=>s.2.1 = (s.2.2.length:Int)/\s.2.2.length <= max a.length b.length + 1/\(0 <= s.1/\s.1 <= 1)/\Dig s.2.2/\dv s.2.2 + 4294967296 ^ s.2.2.length * s.1.toNat = dv (a.take s.2.2.length) + dv (b.take s.2.2.length)/\(s.2.2.length = max a.length b.length + 1 -> s.1 = 0))
  (fun xs:Lb Int=>Dig xs/\xs.length <= max a.length b.length + 1/\dv xs = dv a + dv b) ?_ n (0,0,[]) ⟨rfl,by simp,by simp,gh,by simp [dv],fun _=>rfl⟩ (by simp only [leN]; omega)
 ·obtain ⟨xs,e,h⟩:=h
  unfold bH_p
  rw [e,aa]
  exact ⟨xs,I,h⟩
 ·rintro ⟨c,z,xs⟩ J ⟨h1,h2,h3,h4,h5,h6⟩ hJ
  simp only at h1 h2 h3 h4 h5 h6 hJ
  subst h1
  unfold bH_l1 jn
  simp only
  have step:∀ v:Int,0 <= v -> v < 8589934592 -> v.toNat = c.toNat + (a[xs.length]?.getD 0).toNat + (b[xs.length]?.getD 0).toNat -> xs.length <= max a.length b.length -> (xs.length = max a.length b.length -> v <= 1) -> ∃ r,J (v / 4294967296,((xs.length:Nat):Int) + 1,xs ++ [v % 4294967296]) = some r/\Dig r/\r.length <= max a.length b.length + 1/\dv r = dv a + dv b:=fun v v0 v1 hv hk hc=>by
   refine hJ _ ⟨by simp,by simp only [List.length_append,leC,leN]; omega,by simp only; omega,eB h4 (by omega),?_,fun e=>?_⟩ (by simp only [List.length_append,leC,leN]; omega)
   ·simp only [List.length_append,leC,leN,Nat.zero_add]
    rw [gk,fT a,fT b,Nat.pow_succ]
    have e1:(v % 4294967296).toNat + 4294967296 * (v / 4294967296).toNat = c.toNat + (a[xs.length]?.getD 0).toNat + (b[xs.length]?.getD 0).toNat:=by omega
    have e2:=congrArg (4294967296 ^ xs.length * ·) e1
    simp only [Nat.mul_add] at e2
    rw [Nat.mul_assoc]
    omega
   ·simp only [List.length_append,leC,leN] at e
    have:=hc (by omega)
    simp only; omega
  have q0:∀ v:Int,0 <= v -> v < 8589934592 -> ej v 4294967296 = some (v / 4294967296):=fun v v0 v1=>by
   have e:v.tdiv 4294967296 = v / 4294967296:=Int.tdiv_eq_ediv_of_nonneg v0
   rw [quoI_ok (by decide) (by rw [e]; omega) (by rw [e]; omega),e]
  have m0:∀ v:Int,0 <= v -> cg v 4294967296 = some (v % 4294967296):=fun v v0=>by
   rw [dc (by decide),Int.tmod_eq_emod_of_nonneg v0]
  have hlen:xs.length + 1 <= 1000000:=by omega
  by_cases ha:xs.length < a.length
  ·have da:=hda a[xs.length] (List.getElem_mem _)
   rw [if_pos (by omega),bg (by omega) (by simpa using ha),aa]
   simp only [Int.toNat_natCast]
   rw [aS (by omega) (by omega),aa]
   by_cases hb:xs.length < b.length
   ·have db:=hdb b[xs.length] (List.getElem_mem _)
    rw [if_pos (by omega),bg (by omega) (by simpa using hb),aa]
    simp only [Int.toNat_natCast]
    rw [aS (by omega) (by omega),aa,m0 _ (by omega),aa,bQ _ _ (by simpa using hlen),aa,q0 _ (by omega) (by omega),aa,aS (by omega) (by omega),aa]
    exact step _ (by omega) (by omega) (by rw [geE ha,geE hb]; simp only [Option.getD_some]; omega) (by omega) (by omega)
   ·rw [if_neg (by omega),m0 _ (by omega),aa,bQ _ _ (by simpa using hlen),aa,q0 _ (by omega) (by omega),aa,aS (by omega) (by omega),aa]
    exact step _ (by omega) (by omega) (by rw [geE ha,List.getElem?_eq_none (by omega)]; simp only [Option.getD_some,Option.getD_none]; omega) (by omega) (by omega)
  ·rw [if_neg (by omega)]
   by_cases hb:xs.length < b.length
   ·have db:=hdb b[xs.length] (List.getElem_mem _)
    rw [if_pos (by omega),bg (by omega) (by simpa using hb),aa]
    simp only [Int.toNat_natCast]
    rw [aS (by omega) (by omega),aa,m0 _ (by omega),aa,bQ _ _ (by simpa using hlen),aa,q0 _ (by omega) (by omega),aa]
    exact step _ (by omega) (by omega) (by rw [List.getElem?_eq_none (by omega),geE hb]; simp only [Option.getD_some,Option.getD_none]; omega) (by omega) (by omega)
   ·rw [if_neg (by omega)]
    by_cases hc:0 < c
    ·rw [if_pos hc,m0 _ (by omega),aa,bQ _ _ (by simpa using hlen),aa,q0 _ (by omega) (by omega),aa,aS (by omega) (by omega),aa]
     exact step _ (by omega) (by omega) (by rw [List.getElem?_eq_none (by omega),List.getElem?_eq_none (by omega)]; simp only [Option.getD_none]; omega) (by omega) (by omega)
    ·rw [if_neg hc]
     have c0:c = 0:=by omega
     rw [c0,List.take_of_length_le (by omega),List.take_of_length_le (by omega)] at h5
     exact ⟨_,rfl,h4,h2,by simpa using h5⟩
def FtR (l:Nat) (z:Int):Prop:=z.natAbs < 4294967296 ^ l
theorem FtR.len {l:Nat} {z:Int} (h:FtR l z):(rd z.natAbs).length <= l:=dA h
theorem FtR.neg {l:Nat} {z:Int} (h:FtR l z):FtR l (-z):=by unfold FtR at *; rwa [Int.natAbs_neg]
theorem FtR.mono {l m:Nat} {z:Int} (h:FtR l z) (hm:l <= m):FtR m z:=Nat.lt_of_lt_of_le h (Nat.pow_le_pow_right (by decide) hm)
theorem FtR.mul {l m:Nat} {a b:Int} (ha:FtR l a) (hb:FtR m b):FtR (l + m) (a * b):=by
 unfold FtR at *
 rw [Int.natAbs_mul,Nat.pow_add]
 exact Nat.mul_lt_mul'' ha hb
theorem FtR.add {l:Nat} {a b:Int} (ha:FtR l a) (hb:FtR l b):FtR (l + 1) (a + b):=by
 unfold FtR at *
 rw [Nat.pow_succ]
 omega
theorem lS (n l a b:Nat) (s:Bool) (h:a <= b) (hl:(rd b).length <= l) (hn:l < n) (hl2:l < 10000):((av_p n (rd b) (rd a)).bind fun y67=>(ab_p n s y67).bind fun y75=>some y75) = some (R8 (sg s (b - a:Nat))):=by
 have hle:=Nat.le_trans (dV (Nat.sub_le b a)) hl
 rw [io n (rd b) (rd a) (aG _) (aG _) (dV h) (by rw [aL,aL]; exact h) (by omega) (by omega),aa,aL,aL,cM n _ _ (aG _) (by omega) (by omega),aa,aL,oV]
theorem iV (n l:Nat) (a b:Int) (ha:FtR l a) (hb:FtR l b) (hn:l + 1 < n) (hl:l < 10000):bB_p n (R8 a) (R8 b) = some (R8 (a + b)):=by
 unfold bB_p
 have h1:=ha.len
 have h2:=hb.len
 by_cases h:((R8 a).fc == (R8 b).fc) = true
 ·rw [if_pos h]
  obtain ⟨xs,e1,e4,e2,e3⟩:=pV n (rd a.natAbs) (rd b.natAbs) (aG _) (aG _) ⟨by omega,by omega⟩ ⟨by omega,by omega⟩
  rw [show (R8 a).fD = rd a.natAbs from I,show (R8 b).fD = rd b.natAbs from I,e1,aa,cM n _ _ e4 (by omega) (by omega),aa,e3,aL,aL,oV]
  refine congrArg (fun x=>some (R8 x)) ?_
  have h3:decide (a < 0) = decide (b < 0):=eq_of_beq h
  show sg (decide (a < 0)) _ = _
  unfold sg
  by_cases h4:a < 0 <;> by_cases h5:b < 0 <;> simp [h4,h5] at h3 ⊢ <;> omega
 ·rw [if_neg h]
  obtain ⟨c,e1,e2,e3⟩:=iH n (rd a.natAbs) (rd b.natAbs) (aG _) (aG _) (gQ _) (gQ _) (by omega) (by omega)
  have h3:decide (a < 0) ≠ decide (b < 0):=fun e=>h (by rw [beq_iff_eq]; exact e)
  rw [aL,aL] at e2
  rw [show (R8 a).fD = rd a.natAbs from I,show (R8 b).fD = rd b.natAbs from I,e1,aa]
  by_cases hc:0 <= c
  ·rw [if_pos hc,lS n l _ _ _ (by omega) h1 (by omega) hl]
   refine congrArg (fun x=>some (R8 x)) ?_
   show sg (decide (a < 0)) _ = _
   unfold sg
   by_cases h4:a < 0 <;> by_cases h5:b < 0 <;> simp [h4,h5] at h3 ⊢ <;> omega
  ·rw [if_neg hc,lS n l _ _ _ (by omega) h2 (by omega) hl]
   refine congrArg (fun x=>some (R8 x)) ?_
   show sg (decide (b < 0)) _ = _
   unfold sg
   by_cases h4:a < 0 <;> by_cases h5:b < 0 <;> simp [h4,h5] at h3 ⊢ <;> omega
/-! ### Products -/
theorem px {xs:Lb Int} {i:Nat} (s:Int) (h:i < xs.length):dv ((xs.set i s).take (i + 1)) = dv (xs.take i) + 4294967296 ^ i * s.toNat:=by
 rw [cm _ (by simpa using h),List.getElem_set_self,List.take_set_of_le (Nat.le_refl _)]
theorem ke (w:Ua):aB (w % (4294967296:Ua)) = ((w.toNat % 4294967296:Nat):Int):=by
 have:=w.toNat_lt
 unfold aB
 rw [UInt64.toNat_mod,if_pos (by simp; omega)]
 rfl
theorem mR (w:Ua):aB (w / (4294967296:Ua)) = ((w.toNat / 4294967296:Nat):Int):=by
 have:=w.toNat_lt
 unfold aB
 rw [UInt64.toNat_div,if_pos (by simp; omega)]
 rfl
theorem ic {x:Int} (h:0 <= x/\x < 4294967296):(ae x).toNat = x.toNat:=by
 unfold ae
 rw [UInt64.toNat_ofNat']; omega
theorem prod_in (n:Nat) (a b:Lb Int) (hda:Dig a) (hdb:Dig b) (i:Nat) (hia:i < a.length) (xs0:Lb Int) (hd0:Dig xs0) (hi:i + b.length < xs0.length) (hn:b.length < n) :
  ∃ xs u,ao (aA_l1 n b i a) n (0,0,xs0) = some (xs,u)/\xs.length = xs0.length/\Dig xs/\u.toNat < 4294967296/\dv (xs.take (i + b.length)) + 4294967296 ^ (i + b.length) * u.toNat = dv (xs0.take (i + b.length)) + a[i].toNat * dv b * 4294967296 ^ i:=by
 have da:=hda a[i] (List.getElem_mem _)
 have h:=au (B:=aA_l1 n b i a) (fun s:Ua × Nat × Lb Int=>b.length - s.2.1) (fun s=>s.2.1 <= b.length/\s.2.2.length = xs0.length/\(∀ k,i + s.2.1 <= k -> s.2.2[k]? = xs0[k]?)/\Dig s.2.2/\s.1.toNat < 4294967296/\dv (s.2.2.take (i + s.2.1)) + 4294967296 ^ (i + s.2.1) * s.1.toNat = dv (xs0.take (i + s.2.1)) + a[i].toNat * dv (b.take s.2.1) * 4294967296 ^ i)
  (fun r:Lb Int × Ua=>r.1.length = xs0.length/\Dig r.1/\r.2.toNat < 4294967296/\dv (r.1.take (i + b.length)) + 4294967296 ^ (i + b.length) * r.2.toNat = dv (xs0.take (i + b.length)) + a[i].toNat * dv b * 4294967296 ^ i) ?_ n (0,0,xs0) ⟨by simp,rfl,fun _ _=>rfl,hd0,by simp,by simp [dv]⟩ (by simpa using hn)
 ·obtain ⟨⟨xs,u⟩,h1,h2⟩:=h; exact ⟨xs,u,h1,h2⟩
 ·rintro ⟨u,j,xs⟩ J ⟨h1,h2,h3,hd,hu,h4⟩ hJ
  simp only at h1 h2 h3 h4 hd hu hJ
  unfold aA_l1
  simp only
  by_cases hj:j < b.length
  ·have db:=hdb b[j] (List.getElem_mem _)
   have hx:i + j < xs.length:=by omega
   have dx:=hd (xs[i + j]'hx) (List.getElem_mem _)
   have hx0:xs[i + j]'hx = xs0[i + j]'(by omega):=by
    have:=h3 (i + j) (by omega)
    rw [geE (by omega),geE (by omega)] at this
    exact Option.some.inj this
   have bx:a[i].toNat * b[j].toNat <= 4294967295 * 4294967295:=Nat.mul_le_mul (by omega) (by omega)
   have ev:((u + ae (xs[i + j]'hx)) + (ae a[i]) * (ae b[j])).toNat = u.toNat + (xs[i + j]'hx).toNat + a[i].toNat * b[j].toNat:=by
    rw [UInt64.toNat_add,UInt64.toNat_add,UInt64.toNat_mul,ic dx,ic da,ic db]
    rw [Nat.mod_eq_of_lt (show a[i].toNat * b[j].toNat < 2 ^ 64 by omega),Nat.mod_eq_of_lt (show u.toNat + (xs[i + j]'hx).toNat < 2 ^ 64 by omega),Nat.mod_eq_of_lt (by omega)]
   rw [if_pos hj,geE hx,aa,geE hia,aa,geE hj,aa,cC _ hx,aa,ke,ev]
   have ed:(((u + ae (xs[i + j]'hx)) + (ae a[i]) * (ae b[j])) / (4294967296:Ua)).toNat = (u.toNat + (xs[i + j]'hx).toNat + a[i].toNat * b[j].toNat) / 4294967296:=by
    rw [UInt64.toNat_div,ev]; rfl
   generalize (u + ae (xs[i + j]'hx) + ae a[i] * ae b[j]) / (4294967296:Ua) = u' at *
   refine hJ (u', j + 1,_) ⟨hj,by simpa using h2,fun k hk=>?_,fun x hxm=>?_,by simp only; omega,?_⟩ (by simp only; omega)
   ·simp only at hk ⊢
    rw [List.getElem?_set_ne (by omega)]; exact h3 k (by omega)
   ·rcases List.mem_or_eq_of_mem_set hxm with hm | rfl
    ·exact hd x hm
    ·omega
   ·simp only
    rw [<- Nat.add_assoc,px _ hx,cm xs0 (by omega),cm b hj,<- hx0,Nat.pow_succ,ed]
    rw [Nat.pow_add] at h4 ⊢
    rw [Int.toNat_natCast]
    generalize (xs[i + j]'hx).toNat = x at *
    generalize a[i].toNat = y at *
    generalize b[j].toNat = w at *
    have hv:=Nat.mod_add_div (u.toNat + x + y * w) 4294967296
    generalize (u.toNat + x + y * w) % 4294967296 = m at *
    generalize (u.toNat + x + y * w) / 4294967296 = q at *
    have e2:=congrArg (4294967296 ^ i * 4294967296 ^ j * ·) hv
    simp only [Nat.mul_add] at e2
    grind
  ·rw [if_neg hj]
   have:j = b.length:=by omega
   subst this
   refine ⟨_,I,h2,hd,hu,?_⟩
   simp only
   rw [h4,List.take_length]
theorem kV (n:Nat) (a b:Lb Int) (hda:Dig a) (hdb:Dig b) (hn:a.length + b.length + 1 < n) (hl:a.length + b.length <= 100000):aA_p n a b = some (rd (dv a * dv b)):=by
 have h:=au (B:=aA_l2 n a b) (fun s:Nat × Lb Int=>a.length - s.1) (fun s=>s.1 <= a.length/\s.2.length = a.length + b.length/\Dig s.2/\dv (s.2.take (s.1 + b.length)) = dv (a.take s.1) * dv b)
  (fun r:Lb Int=>r.length = a.length + b.length/\Dig r/\dv r = dv a * dv b) ?_ n (0,List.replicate (a.length + b.length) 0) ⟨by simp,by simp,fun x hx=>(by rw [(List.mem_replicate.1 hx).2]; exact ⟨Int.le_refl _,by decide⟩),?_⟩ (by simp only; omega)
 ·obtain ⟨xs,h1,h2,h3,h4⟩:=h
  unfold aA_p
  rw [iC _ _ (by omega),aa,h1,aa,eM n xs h3 (by omega) (by omega),aa,h4]
 ·rintro ⟨i,xs⟩ J ⟨h1,h2,hd,h3⟩ hJ
  simp only at h1 h2 h3 hd hJ
  unfold aA_l2
  simp only
  by_cases hi:i < a.length
  ·obtain ⟨ys,u,e1,e2,e3,e4,e5⟩:=prod_in n a b hda hdb i hi xs hd (by omega) (by omega)
   rw [if_pos hi,e1,aa]
   simp only
   have hu:aB u = ((u.toNat:Nat):Int):=by unfold aB; rw [if_pos (by omega)]
   rw [geE (by omega),aa,cC _ (by omega),aa,hu]
   refine hJ (i + 1,ys.set (i + b.length) ((u.toNat:Nat):Int)) ⟨hi,by simp; omega,fun x hxm=>?_,?_⟩ (by simp only; omega)
   ·rcases List.mem_or_eq_of_mem_set hxm with hm | rfl
    ·exact e3 x hm
    ·omega
   ·simp only
    rw [show i + 1 + b.length = i + b.length + 1 by omega,px _ (by omega),cm a hi,Int.toNat_natCast,e5,h3]
    grind
  ·rw [if_neg hi]
   have:i = a.length:=by omega
   subst this
   rw [List.take_length,bE (by omega)] at h3
   exact ⟨xs,I,h2,hd,h3⟩
 ·simp only [List.take_zero,dv,Nat.zero_mul]
  exact gl _ fun x hx=>(List.mem_replicate.1 (List.mem_of_mem_take hx)).2
theorem aY (n l m:Nat) (a b:Int) (ha:FtR l a) (hb:FtR m b) (hn:20000 < n) (hl:l + m < 10000):aK_p n (R8 a) (R8 b) = some (R8 (a * b)):=by
 unfold aK_p
 have h1:=ha.len
 have h2:=hb.len
 have h5:=(ha.mul hb).len
 rw [Int.natAbs_mul] at h5
 rw [show (R8 a).fD = rd a.natAbs from I,show (R8 b).fD = rd b.natAbs from I,kV n _ _ (aG _) (aG _) (by omega) (by omega),aa,aL,aL,cM n _ _ (aG _) (by omega) (by omega),aa,aL,oV]
 refine congrArg (fun x=>some (R8 x)) ?_
 show sg (!(decide (a < 0) == decide (b < 0))) _ = _
 conv=>rhs; rw [nN a,nN b]
 unfold sg
 by_cases h3:a < 0 <;> by_cases h4:b < 0 <;> simp [h3,h4,Int.neg_mul,Int.mul_neg,Int.neg_mul_neg]
set_option maxRecDepth 8000
def hvs:Lb Ua -> Lb Int
 | []=>[]
 | w :: ws=>aB (w % (4294967296:Ua)) :: aB (w / (4294967296:Ua)) :: hvs ws
theorem mW:∀ xs ys:Lb Ua,hvs (xs ++ ys) = hvs xs ++ hvs ys
 | [],_=>rfl
 | x :: xs,ys=>by show _ :: _ :: hvs (xs ++ ys) = _; rw [mW xs ys]; rfl
theorem kL:∀ ws:Lb Ua,Dig (hvs ws)
 | []=>gh
 | w :: ws=>fun x hx=>by
  have hw:=w.toNat_lt
  rcases List.mem_cons.1 hx with rfl | hx
  ·rw [ke]; omega
  ·rcases List.mem_cons.1 hx with rfl | hx
   ·rw [mR]; omega
   ·exact kL ws x hx
theorem mg:∀ ws:Lb Ua,dv (hvs ws) = val ws
 | []=>rfl
 | w :: ws=>by
  show (aB (w % (4294967296:Ua))).toNat + 4294967296 * ((aB (w / (4294967296:Ua))).toNat + 4294967296 * dv (hvs ws)) = w.toNat + 18446744073709551616 * val ws
  rw [mg ws,ke,mR,Int.toNat_natCast,Int.toNat_natCast]
  omega
theorem kJ:∀ ws:Lb Ua,(hvs ws).length = 2 * ws.length
 | []=>rfl
 | w :: ws=>by show (hvs ws).length + 1 + 1 = 2 * (ws.length + 1); rw [kJ ws]; omega
theorem oD (n:Nat) (t:T8) (hn:10 < n):bv_p n t = some (hvs (wv t)):=by
 have hl:(wv t).length = 8:=rfl
 have h:=au (B:=bv_l1 n t) (fun s:Nat × Lb Int=>8 - s.1) (fun s=>s.1 <= 8/\s.2 = hvs ((wv t).take s.1)) (fun r=>r = hvs (wv t)) ?_ n (0,[]) ⟨Nat.zero_le _,rfl⟩ (by simp only; omega)
 ·obtain ⟨y,e,rfl⟩:=h
  unfold bv_p
  rw [e,aa]
 ·rintro ⟨i,xs⟩ J ⟨h1,h2⟩ hJ
  simp only at h1 h2 hJ
  subst h2
  unfold bv_l1
  simp only
  by_cases hi:i < 8
  ·rw [if_pos hi]
   show ∃ r,(((wv t)[i]?).bind fun z90=>(app (hvs ((wv t).take i)) ([aB (z90 % (4294967296:Ua)),aB (z90 / (4294967296:Ua))]:Lb Int)).bind fun xs99=>J (i + 1,xs99)) = some r/\_
   have next:=hJ (i + 1,hvs ((wv t).take (i + 1))) ⟨hi,rfl⟩ (by simp only; omega)
   rw [List.take_succ_eq_append_getElem (by omega),mW] at next
   rw [geE (by omega),aa,bQ _ _ (by rw [kJ,List.length_take]; simp only [leC,leN]; omega),aa]
   exact next
  ·rw [if_neg hi]
   exact ⟨_,rfl,by rw [List.take_of_length_le (by omega)]⟩
theorem pP (t:T8):t.2.2.2.2.2.2.2 < (9223372036854775808:Ua) ↔ val (wv t) < HB:=by
 have h:=gZ t
 have hs:(shrU t.2.2.2.2.2.2.2 63).toNat = t.2.2.2.2.2.2.2.toNat / 9223372036854775808:=ck _ (by decide)
 have ht:=t.2.2.2.2.2.2.2.toNat_lt
 have hsw:shrU t.2.2.2.2.2.2.2 63 = 1 ↔ 9223372036854775808 <= t.2.2.2.2.2.2.2.toNat:=by
  constructor
  ·intro h
   have:=congrArg UInt64.toNat h
   rw [hs] at this
   simp only [UInt64.toNat_one] at this
   omega
  ·intro h
   refine UInt64.toNat_inj.1 ?_
   rw [hs]
   simp only [UInt64.toNat_one]
   omega
 rw [UInt64.lt_iff_toNat_lt,show (9223372036854775808:Ua).toNat = 9223372036854775808 from I]
 rw [hsw] at h
 omega
theorem fH:FB = 4294967296 ^ 16:=by unfold FB; decide
theorem HB_dig:HB = 4294967296 ^ 15 * 2147483648:=by unfold HB; decide
theorem pH (l j:Nat) (v:Int) (h:j < l) (hv:0 <= v/\v < 4294967296):dv ((List.replicate l (0:Int)).set j v) = 4294967296 ^ j * v.toNat/\Dig ((List.replicate l (0:Int)).set j v):=by
 have hz:dv (List.replicate l (0:Int)) = 0:=gl _ fun x hx=>(List.mem_replicate.1 hx).2
 have hp:=mq (xs:=List.replicate l (0:Int)) v (show j < (List.replicate l (0:Int)).length by simpa using h)
 rw [hz,List.getElem_replicate] at hp
 refine ⟨by simpa using hp,fun x hx=>?_⟩
 rcases List.mem_or_eq_of_mem_set hx with hm | rfl
 ·rw [(List.mem_replicate.1 hm).2]; exact ⟨Int.le_refl _,by decide⟩
 ·exact hv
theorem ji {α:Type} (f:Lb Int -> Oa α):((mk 17 (0:Int)).bind fun xs42=>(xs42[16]?).bind fun _=>(put xs42 ((16:Nat):Int) (1:Int)).bind f) = f ((List.replicate 17 (0:Int)).set 16 1):=rfl
theorem fy (n m:Nat) (hm:m <= FB) (h0:0 < m) (hn:20000 < n):av_p n ((List.replicate 17 (0:Int)).set 16 1) (rd m) = some (rd (FB - m)):=by
 obtain ⟨w1,w2⟩:=pH 17 16 1 (by decide) (by decide)
 have e:dv ((List.replicate 17 (0:Int)).set 16 1) = FB:=by rw [w1,fH]; rfl
 have hl:(rd m).length <= 17:=dA (Nat.lt_of_le_of_lt hm (by rw [fH]; decide))
 rw [io n _ _ w2 (aG _) (by rw [List.length_set,List.length_replicate]; exact hl) (by rw [e,aL]; exact hm) (by rw [List.length_set,List.length_replicate]; omega) (by rw [List.length_set,List.length_replicate]; omega),e,aL]
theorem gt (n:Nat) (z:Int) (h:Fw z) (hn:20000 < n):ao_p n (Wg z) = some (R8 z):=by
 have hf:=eH
 have hp:=dB
 have hl:(hvs (wv (Wg z))).length = 16:=kJ _
 unfold ao_p
 rw [oD n _ (by omega),aa]
 by_cases hz:z < 0
 ·have hv:=lY h hz
  have h1:=h.1
  rw [if_neg (fun hc=>by have:=(pP _).1 hc; omega)]
  have hw:=ji (fun xs61=>(aC_p n (hvs (wv (Wg z)))).bind fun y67=>(av_p n xs61 y67).bind fun y76=>(ab_p n true y76).bind fun y90=>some y90)
  refine hw.trans ?_
  rw [eM n _ (kL _) (by omega) (by omega),aa,mg,fy n _ (by omega) (by omega) hn,aa,show FB - val (wv (Wg z)) = z.natAbs by omega,cM n _ _ (aG _) (by have:=dA (m:=z.natAbs) (l:=17) (Nat.lt_of_le_of_lt (show z.natAbs <= FB by omega) (by rw [fH]; decide)); omega) (by have:=dA (m:=z.natAbs) (l:=17) (Nat.lt_of_le_of_lt (show z.natAbs <= FB by omega) (by rw [fH]; decide)); omega),aa,aL]
  unfold R8
  rw [decide_eq_true hz,decide_eq_true (show 0 < z.natAbs by omega)]
  rfl
 ·have hv:=my h (by omega)
  have h1:=h.2
  rw [if_pos ((pP _).2 (by omega)),cM n _ _ (kL _) (by omega) (by omega),aa,mg,hv]
  unfold R8
  rw [decide_eq_false hz]
  rfl
/-! ### Told -/
theorem wv_setA (t:T8) (m:Nat) (hm:m < 8) (v:Ua):wv (ay m 0 v t.1,ay m 1 v t.2.1,ay m 2 v t.2.2.1,ay m 3 v t.2.2.2.1,ay m 4 v t.2.2.2.2.1,ay m 5 v t.2.2.2.2.2.1,ay m 6 v t.2.2.2.2.2.2.1,ay m 7 v t.2.2.2.2.2.2.2) = (wv t).set m v:=by
 obtain ⟨t1,t2,t3,t4,t5,t6,t7,t8⟩:=t
 match m,hm with
 | 0,_=>rfl
 | 1,_=>rfl
 | 2,_=>rfl
 | 3,_=>rfl
 | 4,_=>rfl
 | 5,_=>rfl
 | 6,_=>rfl
 | 7,_=>rfl
theorem kI (m:Nat):4294967296 ^ (2 * m) = 18446744073709551616 ^ m:=by
 rw [Nat.pow_mul]
theorem kT (n:Nat) (ys:Lb Int) (hd:Dig ys) (hl:ys.length <= 16) (hn:20 < n):∃ t:T8,ao (aD_l2 n ys) n (0,(0:Ua),(0:Ua),(0:Ua),(0:Ua),(0:Ua),(0:Ua),(0:Ua),(0:Ua)) = some t/\val (wv t) = dv ys:=by
 refine au (B:=aD_l2 n ys) (fun s:Nat × T8=>ys.length - s.1) (fun s=>s.1 <= ys.length/\val (wv s.2) = dv (ys.take s.1)/\(∀ k (h:k < (wv s.2).length),(s.1 + 1) / 2 <= k -> (wv s.2)[k] = 0)/\(s.1 % 2 = 1 -> ∀ (h:s.1 / 2 < (wv s.2).length),(wv s.2)[s.1 / 2].toNat < 4294967296)) (fun t=>val (wv t) = dv ys) ?_ n (0,((0,0,0,0,0,0,0,0):T8)) ⟨Nat.zero_le _,rfl,fun k hk _=>?_,fun h=>(by cases h)⟩ (by simp only; omega)
 ·rintro ⟨i,t⟩ J ⟨h1,h2,h3,h4⟩ hJ
  simp only at h1 h2 h3 h4 hJ
  obtain ⟨t1,t2,t3,t4,t5,t6,t7,t8⟩:=t
  have e8:(wv (t1,t2,t3,t4,t5,t6,t7,t8)).length = 8:=rfl
  unfold aD_l2
  simp only
  by_cases hi:i < ys.length
  ·have hm:i / 2 < (wv (t1,t2,t3,t4,t5,t6,t7,t8)).length:=by rw [e8]; omega
   have dy:=hd ys[i] (List.getElem_mem _)
   have hu:=ic dy
   have hset:=fun v=>wv_setA (t1,t2,t3,t4,t5,t6,t7,t8) (i / 2) (by omega) v
   rw [if_pos hi]
   show ∃ r,(((wv (t1,t2,t3,t4,t5,t6,t7,t8))[i / 2]?).bind fun z340=>(ys[i]?).bind fun x342=>(chk (32 * ((i % 2:Nat):Int))).bind fun s351=>(bT s351).bind fun k352=>J (i + 1,ay (i / 2) 0 (z340 + (shlU (ae x342) k352)) t1,ay (i / 2) 1 (z340 + (shlU (ae x342) k352)) t2,ay (i / 2) 2 (z340 + (shlU (ae x342) k352)) t3,ay (i / 2) 3 (z340 + (shlU (ae x342) k352)) t4,ay (i / 2) 4 (z340 + (shlU (ae x342) k352)) t5,ay (i / 2) 5 (z340 + (shlU (ae x342) k352)) t6,ay (i / 2) 6 (z340 + (shlU (ae x342) k352)) t7,ay (i / 2) 7 (z340 + (shlU (ae x342) k352)) t8)) = some r/\_
   have key:∀ v:Ua,(wv (t1,t2,t3,t4,t5,t6,t7,t8))[i / 2].toNat <= v.toNat -> 18446744073709551616 ^ (i / 2) * (v.toNat - (wv (t1,t2,t3,t4,t5,t6,t7,t8))[i / 2].toNat) = 4294967296 ^ i * ys[i].toNat -> (i % 2 = 0 -> v.toNat < 4294967296) -> ∃ r,J (i + 1,ay (i / 2) 0 v t1,ay (i / 2) 1 v t2,ay (i / 2) 2 v t3,ay (i / 2) 3 v t4,ay (i / 2) 4 v t5,ay (i / 2) 5 v t6,ay (i / 2) 6 v t7,ay (i / 2) 7 v t8) = some r/\val (wv r) = dv ys:=fun v hv1 hv2 hv3=>by
    refine hJ (i + 1,(ay (i / 2) 0 v t1,ay (i / 2) 1 v t2,ay (i / 2) 2 v t3,ay (i / 2) 3 v t4,ay (i / 2) 4 v t5,ay (i / 2) 5 v t6,ay (i / 2) 6 v t7,ay (i / 2) 7 v t8)) ⟨hi,?_,fun k hk hk2=>?_,fun hp hk=>?_⟩ (by simp only; omega)
    ·have hput:=eR (xs:=wv (t1,t2,t3,t4,t5,t6,t7,t8)) (j:=i / 2) v (by omega)
     have hs:=hset v
     simp only at hs ⊢
     rw [hs,cm ys hi,<- h2,<- hv2]
     have:=Nat.mul_sub (18446744073709551616 ^ (i / 2)) v.toNat (wv (t1,t2,t3,t4,t5,t6,t7,t8))[i / 2].toNat
     have:=Nat.mul_le_mul_left (18446744073709551616 ^ (i / 2)) hv1
     omega
    ·have hs:=hset v
     simp only at hs hk hk2 ⊢
     simp only [hs]
     rw [List.getElem_set_ne (by omega)]
     exact h3 k (by rw [hs,List.length_set] at hk; exact hk) (by omega)
    ·have hs:=hset v
     simp only at hs hk hp ⊢
     have hq:(i + 1) / 2 = i / 2:=by omega
     simp only [hs,hq]
     rw [List.getElem_set_self]
     exact hv3 (by omega)
   rw [geE (by omega),aa,geE hi,aa]
   rcases Nat.mod_two_eq_zero_or_one i with hp | hp
   ·have hw:=h3 (i / 2) (by omega) (by omega)
    rw [hp,show chk (32 * ((0:Nat):Int)) = some 0 from I,aa,show bT 0 = some 0 from I,aa,eE]
    rw [hw] at key ⊢
    rw [UInt64.zero_add]
    refine key _ (by simp) ?_ fun _=>by rw [hu]; omega
    rw [hu,UInt64.toNat_zero,Nat.sub_zero,<- kI,show 2 * (i / 2) = i by omega]
   ·have hw:=h4 hp (by omega)
    rw [hp,show chk (32 * ((1:Nat):Int)) = some 32 from I,aa,show bT 32 = some 32 from I,aa]
    have hv:((wv (t1,t2,t3,t4,t5,t6,t7,t8))[i / 2] + shlU (ae ys[i]) 32).toNat = (wv (t1,t2,t3,t4,t5,t6,t7,t8))[i / 2].toNat + ys[i].toNat * 4294967296:=by
     rw [UInt64.toNat_add,eO _ (by decide),hu]
     omega
    refine key _ (by rw [hv]; omega) ?_ fun h=>by omega
    have hsub:(wv (t1,t2,t3,t4,t5,t6,t7,t8))[i / 2].toNat + ys[i].toNat * 4294967296 - (wv (t1,t2,t3,t4,t5,t6,t7,t8))[i / 2].toNat = ys[i].toNat * 4294967296:=Nat.add_sub_cancel_left ..
    have e:4294967296 ^ i = 18446744073709551616 ^ (i / 2) * 4294967296:=by
     conv=>lhs; rw [show i = 2 * (i / 2) + 1 by omega,Nat.pow_succ,kI]
    rw [hv,hsub,e,Nat.mul_assoc,Nat.mul_comm ys[i].toNat]
  ·rw [if_neg hi]
   refine ⟨_,I,?_⟩
   rw [h2,List.take_of_length_le (by omega)]
 ·match k,hk with
  | 0,_=>rfl
  | 1,_=>rfl
  | 2,_=>rfl
  | 3,_=>rfl
  | 4,_=>rfl
  | 5,_=>rfl
  | 6,_=>rfl
  | 7,_=>rfl
open Classical in
theorem kj (n l:Nat) (z:Int) (h:FtR l z) (hl:l < 10000) (hn:20000 < n):aD_p n (R8 z) = some (if Fw z then (Wg z,0) else ((0,0,0,0,0,0,0,0),6)):=by
 have hf:=eH
 have hp:=dB
 have hlen:=h.len
 obtain ⟨w1,w2⟩:=pH 16 15 2147483648 (by decide) (by decide)
 have hdv:dv ((List.replicate 16 (0:Int)).set 15 2147483648) = HB:=by rw [w1,HB_dig]; rfl
 have hnr:Nr ((List.replicate 16 (0:Int)).set 15 2147483648):=fun x hx=>by
  rw [show ((List.replicate 16 (0:Int)).set 15 2147483648).getLast? = some 2147483648 from I] at hx
  rw [<- Option.some.inj hx]; decide
 obtain ⟨c,e1,e2,e3⟩:=iH n (rd z.natAbs) ((List.replicate 16 (0:Int)).set 15 2147483648) (aG _) w2 (gQ _) hnr (by omega) (by omega)
 rw [aL,hdv] at e2 e3
 have hlim:∀ {α:Type} (f:Lb Int -> Oa α),((mk 16 (0:Int)).bind fun xs21=>(xs21[15]?).bind fun _=>(put xs21 ((15:Nat):Int) (2147483648:Int)).bind f) = f ((List.replicate 16 (0:Int)).set 15 2147483648):=fun f=>rfl
 unfold aD_p
 refine (hlim _).trans ?_
 rw [show (R8 z).fD = rd z.natAbs from I,e1,aa]
 have l12:∀ ys,aD_l1 n ys = aD_l2 n ys:=fun _=>rfl
 have hneg:z < 0 -> Fw z -> ∃ t:T8,ao (aD_l2 n (rd (FB - z.natAbs))) n (0,(0:Ua),(0:Ua),(0:Ua),(0:Ua),(0:Ua),(0:Ua),(0:Ua),(0:Ua)) = some t/\t = Wg z:=fun hz hw=>by
  obtain ⟨t,e,hv⟩:=kT n (rd (FB - z.natAbs)) (aG _) (dA (by rw [<- fH]; omega)) (by omega)
  rw [aL] at hv
  refine ⟨t,e,iL ?_⟩
  have:=lY hw hz
  rw [hv,<- fG]
  omega
 by_cases c1:0 < c
 ·rw [if_pos c1,if_neg (fun hw=>by have:=hw.1; have:=hw.2; omega)]
 ·rw [if_neg c1]
  by_cases c0:c = 0
  ·rw [if_pos c0]
   have hz:=e3.1 c0
   by_cases hb:z < 0
   ·have hw:Fw z:=⟨by omega,by omega⟩
    obtain ⟨t,e,rfl⟩:=hneg hb hw
    rw [if_pos (show (R8 z).fc = true from decide_eq_true hb),if_pos hw]
    refine (ji _).trans ?_
    rw [fy n _ (by omega) (by omega) hn,aa,l12,e,aa]
   ·rw [if_neg (show ¬ (R8 z).fc = true from by simpa [R8] using hb),if_neg (fun hw=>by have:=hw.2; omega)]
  ·rw [if_neg c0]
   have hlt:z.natAbs < HB:=e2.1 (by omega)
   have hw:Fw z:=⟨by omega,by omega⟩
   unfold jn
   simp only
   rw [if_pos hw]
   by_cases hb:z < 0
   ·obtain ⟨t,e,rfl⟩:=hneg hb hw
    rw [if_pos (show (R8 z).fc = true from decide_eq_true hb)]
    refine (ji _).trans ?_
    rw [fy n _ (by omega) (by omega) hn,aa,e,aa]
   ·obtain ⟨t,e,hv⟩:=kT n (rd z.natAbs) (aG _) (dA (by rw [<- fH]; omega)) (by omega)
    rw [aL] at hv
    have:t = Wg z:=iL (by
     have:=my hw (by omega)
     rw [hv,<- fG,this])
    subst this
    rw [if_neg (show ¬ (R8 z).fc = true from by simpa [R8] using hb),e,aa]
section
set_option maxRecDepth 8000
theorem div_num {a b:Int} (hb:b ≠ 0):(Rat.divInt a b).num * b = a * (Rat.divInt a b).den:=by
 have h:=Rat.num_divInt_den (Rat.divInt a b)
 exact (Rat.divInt_eq_divInt_iff FQ.ndnz hb).1 h
theorem pw {a b:Int} (hb:b ≠ 0):(Rat.divInt a b).num.natAbs <= a.natAbs/\(Rat.divInt a b).den <= b.natAbs:=by
 have h:=congrArg Int.natAbs (div_num (a:=a) hb)
 rw [Int.natAbs_mul,Int.natAbs_mul,Int.natAbs_natCast] at h
 have hc:=(Rat.divInt a b).reduced
 have hd:=(Rat.divInt a b).den_pos
 generalize (Rat.divInt a b).num.natAbs = x at *
 generalize (Rat.divInt a b).den = y at *
 have hbp:0 < b.natAbs:=by omega
 constructor
 ·by_cases h0:a.natAbs = 0
  ·rw [h0,Nat.zero_mul] at h
   rcases Nat.mul_eq_zero.1 h with h1 | h1
   ·omega
   ·omega
  ·exact Nat.le_of_dvd (by omega) (hc.dvd_of_dvd_mul_right (by rw [<- h]; exact Nat.dvd_mul_right ..))
 ·exact Nat.le_of_dvd hbp (hc.symm.dvd_of_dvd_mul_left (by rw [h]; exact Nat.dvd_mul_left ..))
def Bt (i j:Nat) (q:Rat):Prop:=q.num.natAbs < 2 ^ i/\q.den < 2 ^ j
theorem Bt.mono {i j i' j' : Nat} {q:Rat} (h:Bt i j q) (hi:i <= i') (hj:j <= j'):Bt i' j' q:=⟨Nat.lt_of_lt_of_le h.1 (Nat.pow_le_pow_right (by decide) hi),Nat.lt_of_lt_of_le h.2 (Nat.pow_le_pow_right (by decide) hj)⟩
theorem hb_pow (w:Nat):9223372036854775808 * 18446744073709551616 ^ w = 2 ^ (63 + 64 * w):=by
 rw [Nat.pow_add,<- eY]
def hbl:Nat:=511
theorem hb_pow' {w l:Nat} (h:l = 63 + 64 * w):9223372036854775808 * 18446744073709551616 ^ w = 2 ^ l:=by subst h; exact hb_pow w
theorem pY:HB = 2 ^ hbl:=hb_pow' (w:=7) (l:=hbl) rfl
theorem Bt.fq {i j:Nat} {q:Rat} (h:Bt i j q) (hi:i <= 500) (hj:j <= 500):FQ q:=by
 have e:hbl = 511:=rfl
 have h1:2 ^ i <= HB:=by rw [pY]; exact Nat.pow_le_pow_right (by decide) (by omega)
 have h2:2 ^ j <= HB:=by rw [pY]; exact Nat.pow_le_pow_right (by decide) (by omega)
 have h3:=h.1
 have h4:=h.2
 exact ⟨⟨by omega,by omega⟩,⟨by omega,by omega⟩⟩
theorem Bt.of {i j:Nat} {a b:Int} (hb:b ≠ 0) (h1:a.natAbs < 2 ^ i) (h2:b.natAbs < 2 ^ j):Bt i j (Rat.divInt a b):=by
 obtain ⟨d1,d2⟩:=pw (a:=a) hb
 exact ⟨by omega,by omega⟩
section
variable {n:Nat} {a b:Rat}
end
end
set_option maxRecDepth 8000
def RR (q:Rat):Tf:=⟨R8 q.num,R8 (q.den:Int)⟩
theorem Fw.r {z:Int} (h:Fw z):FtR 16 z:=by
 have h1:=h.1
 have h2:=h.2
 have h3:=eH
 have hp:=dB
 unfold FtR
 rw [<- fH]
 omega
theorem FtR.of_le {l:Nat} {a b:Int} (h:FtR l b) (hl:a.natAbs <= b.natAbs):FtR l a:=Nat.lt_of_le_of_lt hl h
theorem Sm.r {z:Int} (h:Sm z):FtR 16 z:=(cS h).r
theorem lR (n:Nat) (q:Rat) (h:FQ q) (hn:20000 < n):aG_p n (Sg q) = some (RR q):=by
 unfold aG_p Sg
 simp only
 rw [gt n _ h.1 hn,aa,gt n _ h.2 hn,aa]
 rfl
theorem one_ok (n g:Nat):cB_p n ⟨false,rd g⟩ = some (decide (g = 1)):=by
 unfold cB_p
 simp only
 by_cases h:(rd g).length = 1
 ·have hg:=aL g
  rcases e:rd g with _ | ⟨x,_ | ⟨y,xs⟩⟩
  ·rw [e] at h; simp at h
  ·have hd:=aG g x (by rw [e]; exact List.mem_singleton_self _)
   rw [e] at hg
   simp only [dv,Nat.mul_zero,Nat.add_zero] at hg
   rw [if_pos (show ([x]:Lb Int).length = 1 from I),show ([x]:Lb Int)[0]? = some x from I,aa]
   by_cases hx:x = 1
   ·rw [if_pos hx,decide_eq_true (by omega)]; rfl
   ·rw [if_neg hx,decide_eq_false (by omega)]
  ·rw [e] at h; simp at h
 ·rw [if_neg h,decide_eq_false]
  rintro rfl
  exact h (by rw [ju (by decide),show (1:Nat) / 4294967296 = 0 from I,rd0]; rfl)
theorem jS (n:Nat) (x y:Int) (hx:Fw x) (hy:Fw y) (hn:18446744073709551616 < n):aJ_p n ⟨Wg x,Wg y⟩ = some (decide (0 < y/\Nat.gcd x.natAbs y.natAbs = 1)):=by
 have lx:=hx.r.len
 have ly:=hy.r.len
 unfold aJ_p
 simp only
 rw [gt n _ hx (by omega),aa,gt n _ hy (by omega),aa]
 by_cases h:y < 0
 ·rw [if_pos (show (R8 y).fc = true from decide_eq_true h),decide_eq_false (fun hc=>by omega)]
 ·rw [if_neg (show ¬ (R8 y).fc = true from by simpa [R8] using h)]
  by_cases h0:y = 0
  ·subst h0
   rw [if_neg (show ¬ 0 < (R8 0).fD.length from by show ¬ 0 < (rd 0).length; rw [rd0]; decide),decide_eq_false (fun hc=>by omega)]
  ·rw [if_pos (show 0 < (R8 y).fD.length from mp.2 (by omega))]
   rw [show R8 x = ⟨decide (x < 0),rd x.natAbs⟩ from I,show R8 y = ⟨decide (y < 0),rd y.natAbs⟩ from I,iy n _ _ _ _ (by omega) (by omega) hn,aa,one_ok,aa]
   exact congrArg some (decide_eq_decide.2 ⟨fun hg=>⟨by omega,hg⟩,fun hg=>hg.2⟩)
theorem gN (n:Nat) (q:Rat) (h:FQ q) (hn:18446744073709551616 < n):aJ_p n (Sg q) = some true:=by
 have hd:=q.den_pos
 have e:=jS n q.num (q.den:Int) h.1 h.2 hn
 rw [decide_eq_true (show 0 < (q.den:Int)/\Nat.gcd q.num.natAbs (q.den:Int).natAbs = 1 from ⟨by omega,q.reduced⟩)] at e
 exact e
open Classical in
theorem dJ (n l:Nat) (q:Rat) (h1:FtR l q.num) (h2:FtR l (q.den:Int)) (hl:l < 10000) (hn:20000 < n):ay_p n (RR q) = some (if FQ q then (Sg q,0) else (noS,6)):=by
 unfold ay_p
 rw [show (RR q).fN = R8 q.num from I,show (RR q).fD = R8 (q.den:Int) from I,kj n l _ h1 hl hn,aa,kj n l _ h2 hl hn,aa]
 by_cases f1:Fw q.num
 ·by_cases f2:Fw (q.den:Int)
  ·rw [if_pos f1,if_pos f2,if_pos (show FQ q from ⟨f1,f2⟩)]; rfl
  ·rw [if_pos f1,if_neg f2,if_neg fun h:FQ q=>f2 h.2]; rfl
 ·rw [if_neg f1,if_neg fun h:FQ q=>f1 h.1]; rfl
theorem ix (n l:Nat) (a b:Int) (h0:b ≠ 0) (ha:FtR l a) (hb:FtR l b) (hl:l < 10000) (hn:18446744073709551616 < n):bg_p n (R8 a) (R8 b) = some (RR (Rat.divInt a b))/\FtR l (Rat.divInt a b).num/\FtR l ((Rat.divInt a b).den:Int):=by
 obtain ⟨e,l1,l2⟩:=kH n a b h0 (Nat.lt_of_le_of_lt ha.len hl) (Nat.lt_of_le_of_lt hb.len hl) hn
 exact ⟨e,ha.of_le l1,hb.of_le (by omega)⟩
theorem mu (n:Nat) (a b:Rat) (ha:FQ a) (hb:FQ b) (hn:18446744073709551616 < n):aw_p n (RR a) (RR b) = some (RR (a + b))/\FtR 33 (a + b).num/\FtR 33 ((a + b).den:Int):=by
 have d0:(a.den:Int) * b.den ≠ 0:=Int.mul_ne_zero FQ.ndnz FQ.ndnz
 have e:a + b = Rat.divInt (a.num * b.den + b.num * a.den) (a.den * b.den):=by
  conv=>lhs; rw [<- Rat.num_divInt_den a,<- Rat.num_divInt_den b]
  exact Rat.divInt_add_divInt _ _ FQ.ndnz FQ.ndnz
 have x1:=ha.1.r.mul hb.2.r
 have x2:=hb.1.r.mul ha.2.r
 have x3:=ha.2.r.mul hb.2.r
 obtain ⟨f1,f2,f3⟩:=ix n 33 _ _ d0 (x1.add x2) (x3.mono (by decide)) (by decide) hn
 unfold aw_p RR
 simp only
 rw [aY n 16 16 _ _ ha.1.r hb.2.r (by omega) (by decide),aa,aY n 16 16 _ _ hb.1.r ha.2.r (by omega) (by decide),aa,iV n 32 _ _ x1 x2 (by omega) (by decide),aa,aY n 16 16 _ _ ha.2.r hb.2.r (by omega) (by decide),aa,f1,aa,e]
 exact ⟨I,f2,f3⟩
set_option maxRecDepth 8000
def FU:Nat:=18446744073709552000
theorem aw:(18446744073709551616:Nat) < FU:=by decide
theorem ef {z:Int} (h:z.natAbs < 1000000):Sm z:=by unfold Sm; omega
theorem FQ0:FQ 0:=(Bt.fq (i:=1) (j:=2) ⟨by decide,by decide⟩ (by decide) (by decide))
theorem iT {ε:Type}:∀ {l:Lb ε} {e:ε} {r:Lb ε},(e,r) ∈ dI l -> (e :: r).Perm l
 | [],e,r,h=>by cases h
 | x :: xs,e,r,h=>by
  rw [dI] at h
  rcases List.mem_cons.1 h with h | h
  ·cases h; exact .refl _
  ·obtain ⟨⟨e', r'⟩,h1,h2⟩:=List.mem_map.1 h
   cases h2
   exact (List.Perm.swap x e' r').trans ((iT h1).cons x)
theorem iY {ε γ α:Type} [DecidableEq α] {X:γ -> Oa α} {B:ε -> (γ -> Oa α) -> γ -> Oa α} {D:Lb ε} (f:γ -> ε -> γ) (I:Nat -> γ -> Prop) (r:α)
  (hB:∀ k e J s,I (k + 1) s -> e ∈ D -> B e J s = J (f s e)/\I k (f s e)) :
  ∀ (n:Nat) (l:Lb ε) (s:γ),l.length <= n -> (∀ e ∈ l,e ∈ D) -> I l.length s -> (∀ l' : Lb ε,l'.Perm l -> X (l'.foldl f s) = some r) -> mloop X B n l s = some r
 | n,[],s,_,_,_,h=>by
  have:mloop X B n [] s = X s:=by cases n <;> rfl
  rw [this]
  exact h [] (.refl _)
 | 0,x :: xs,s,hl,_,_,_=>by simp at hl
 | n + 1,x :: xs,s,hl,hm,hI,h=>by
  rw [mloop]
  refine mM (by simp [dI]) fun y hy=>?_
  obtain ⟨⟨e,q⟩,h1,rfl⟩:=List.mem_map.1 hy
  have hp:=iT h1
  have hlen:=hp.length_eq
  rw [leC] at hlen
  rw [<- hlen] at hI
  obtain ⟨h2,h3⟩:=hB q.length e (mloop X B n q) s hI (hm e (hp.mem_iff.1 (List.mem_cons_self ..)))
  simp only
  rw [h2]
  refine iY f I r hB n q (f s e) (by rw [leC] at hl; rw [leC] at hlen; omega) (fun z hz=>hm z (hp.mem_iff.1 (List.mem_cons_of_mem _ hz))) h3 fun l' hl' =>?_
  have:=h (e :: l') ((hl'.cons e).trans hp)
  rw [List.foldl_cons] at this
  exact this
def sW:Lb (Rat × Rat) -> Rat
 | []=>0
 | e :: l=>e.2 + sW l
def wt (x:Rat):Lb (Rat × Rat) -> Rat
 | []=>0
 | e :: l=>(if e.1 = x then e.2 else 0) + wt x l
theorem mA:∀ l m:Lb (Rat × Rat),sW (l ++ m) = sW l + sW m
 | [],m=>by show sW m = 0 + sW m; grind
 | e :: l,m=>by show e.2 + sW (l ++ m) = e.2 + sW l + sW m; rw [mA l m]; grind
theorem ky (x:Rat):∀ l m:Lb (Rat × Rat),wt x (l ++ m) = wt x l + wt x m
 | [],m=>by show wt x m = 0 + wt x m; grind
 | e :: l,m=>by show (if e.1 = x then e.2 else 0) + wt x (l ++ m) = (if e.1 = x then e.2 else 0) + wt x l + wt x m; rw [ky x l m]; grind
theorem dl {x:Rat}:∀ {l:Lb (Rat × Rat)},x ∉ l.map (·.1) -> wt x l = 0
 | [],_=>rfl
 | e :: l,h=>by
  rw [List.map_cons,List.mem_cons,not_or] at h
  show (if e.1 = x then e.2 else 0) + wt x l = 0
  rw [if_neg (fun hc=>h.1 hc.symm),dl h.2]; grind
theorem gG {e:Rat × Rat}:∀ {l:Lb (Rat × Rat)},(l.map (·.1)).Nodup -> e ∈ l -> wt e.1 l = e.2
 | [],_,h=>by cases h
 | d :: l,hn,h=>by
  rw [List.map_cons,List.nodup_cons] at hn
  show (if d.1 = e.1 then d.2 else 0) + wt e.1 l = e.2
  rcases List.mem_cons.1 h with rfl | h
  ·rw [if_pos I,dl hn.1]; grind
  ·rw [if_neg (fun hc:d.1 = e.1=>hn.1 (by rw [hc]; exact List.mem_map.2 ⟨e,h,rfl⟩)),gG hn.2 h]; grind
def kz (D:Lb (Rat × Rat)) (e:Rat × Rat):Lb (Rat × Rat):=aC D e.1 (match bD D e.1 with
 | none=>e.2
 | some o=>e.2 + o)
theorem jc {x y:Rat}:∀ {D:Lb (Rat × Rat)},bD D x = some y -> (x,y) ∈ D
 | [],h=>by cases h
 | d :: D,h=>by
  rw [bD] at h
  split at h
  ·rename_i hx
   cases h
   rw [hx]
   exact List.mem_cons_self ..
  ·exact List.mem_cons_of_mem _ (jc h)
theorem lI {x:Rat}:∀ {D:Lb (Rat × Rat)},bD D x = none ↔ x ∉ D.map (·.1)
 | []=>by simp [bD]
 | d :: D=>by
  rw [bD,List.map_cons,List.mem_cons,not_or]
  by_cases hx:x = d.1
  ·rw [if_pos hx]; simp [hx]
  ·rw [if_neg hx,lI]; simp [hx]
theorem gz (x v y:Rat):∀ D:Lb (Rat × Rat),y ∈ (aC D x v).map (·.1) ↔ y ∈ D.map (·.1) ∨ y = x
 | []=>by simp [aC]
 | d :: D=>by
  rw [aC]
  by_cases hx:x = d.1
  ·rw [if_pos hx,List.map_cons,List.map_cons,List.mem_cons,List.mem_cons]
   constructor
   ·rintro (h | h)
    ·exact .inr h
    ·exact .inl (.inr h)
   ·rintro ((h | h) | h)
    ·exact .inl (h.trans hx.symm)
    ·exact .inr h
    ·exact .inl h
  ·rw [if_neg hx,List.map_cons,List.map_cons,List.mem_cons,List.mem_cons,gz x v y D,or_assoc]
theorem je (x v:Rat):∀ {D:Lb (Rat × Rat)},(D.map (·.1)).Nodup -> ((aC D x v).map (·.1)).Nodup
 | [],_=>by simp [aC]
 | d :: D,h=>by
  rw [aC]
  rw [List.map_cons,List.nodup_cons] at h
  by_cases hx:x = d.1
  ·rw [if_pos hx,List.map_cons,List.nodup_cons]; exact ⟨hx ▸ h.1,h.2⟩
  ·rw [if_neg hx,List.map_cons,List.nodup_cons,gz]
   exact ⟨fun hc=>hc.elim h.1 fun hc=>hx hc.symm,je x v h.2⟩
theorem kS (x v:Rat):∀ D:Lb (Rat × Rat),(aC D x v).length <= D.length + 1
 | []=>by simp [aC]
 | d :: D=>by
  rw [aC]
  split
  ·simp
  ·have:=kS x v D; simp only [leC]; omega
theorem nM (x v y:Rat):∀ {D:Lb (Rat × Rat)},(D.map (·.1)).Nodup -> wt y (aC D x v) = wt y D + (if x = y then v - wt x D else 0)
 | [],_=>by
  show (if x = y then v else 0) + 0 = 0 + (if x = y then v - 0 else 0)
  split <;> grind
 | d :: D,h=>by
  rw [List.map_cons,List.nodup_cons] at h
  rw [aC]
  by_cases hx:x = d.1
  ·rw [if_pos hx]
   show (if x = y then v else 0) + wt y D = (if d.1 = y then d.2 else 0) + wt y D + (if x = y then v - ((if d.1 = x then d.2 else 0) + wt x D) else 0)
   rw [<- hx] at h ⊢
   rw [if_pos I,dl h.1]
   split <;> grind
  ·rw [if_neg hx]
   show (if d.1 = y then d.2 else 0) + wt y (aC D x v) = (if d.1 = y then d.2 else 0) + wt y D + (if x = y then v - ((if d.1 = x then d.2 else 0) + wt x D) else 0)
   rw [nM x v y h.2,if_neg (show ¬ d.1 = x from fun hc=>hx hc.symm)]
   grind
theorem mget_wt {D:Lb (Rat × Rat)} (h:(D.map (·.1)).Nodup) (x:Rat):(match bD D x with
  | none=>(0:Rat)
  | some o=>o) = wt x D:=by
 cases hg:bD D x with
 | none=>exact (dl (lI.1 hg)).symm
 | some o=>exact (gG (e:=(x,o)) h (jc hg)).symm
structure Gat (P D:List (Rat × Rat)):Prop where
 nd:(D.map (·.1)).Nodup
 keys:∀ x,x ∈ D.map (·.1) ↔ x ∈ P.map (·.1)
 wts:∀ x,wt x D = wt x P
 len:D.length <= P.length
theorem Gat.nil:Gat [] []:=⟨by simp,fun x=>by simp,fun x=>rfl,Nat.le_refl _⟩
theorem Gat.add {P D:Lb (Rat × Rat)} (h:Gat P D) (e:Rat × Rat):Gat (P ++ [e]) (kz D e):=by
 have hv:(match bD D e.1 with | none=>e.2 | some o=>e.2 + o) = e.2 + wt e.1 D:=by
  rw [<- mget_wt h.nd e.1]
  cases bD D e.1 with
  | none=>show e.2 = e.2 + 0; grind
  | some o=>rfl
 refine ⟨je _ _ h.nd,fun x=>?_,fun x=>?_,Nat.le_trans (kS _ _ _) (by rw [List.length_append]; exact Nat.add_le_add_right h.len 1)⟩
 ·unfold kz
  rw [gz,h.keys,List.map_append,List.mem_append]
  simp
 ·unfold kz
  rw [hv,nM _ _ _ h.nd,ky,h.wts]
  show wt x P + (if e.1 = x then e.2 + wt e.1 D - wt e.1 D else 0) = wt x P + ((if e.1 = x then e.2 else 0) + 0)
  split <;> grind
theorem Gat.mem {P D:Lb (Rat × Rat)} (h:Gat P D) (e:Rat × Rat):e ∈ D ↔ e.1 ∈ P.map (·.1)/\e.2 = wt e.1 P:=by
 constructor
 ·intro he
  exact ⟨(h.keys _).1 (List.mem_map.2 ⟨e,he,rfl⟩),by rw [<- h.wts,gG h.nd he]⟩
 ·rintro ⟨h1,h2⟩
  obtain ⟨d,hd,he⟩:=List.mem_map.1 ((h.keys _).2 h1)
  have h3:=gG h.nd hd
  rw [he,h.wts,<- h2] at h3
  have:d = e:=Prod.ext he h3.symm
  exact this ▸ hd
def Up (l:Lb (Rat × Rat)):Prop:=l.Pairwise fun a b=>¬ b.1 <= a.1
theorem Up.nodup {l:Lb (Rat × Rat)} (h:Up l):(l.map (·.1)).Nodup:=by
 rw [List.Nodup,List.pairwise_map]
 exact List.Pairwise.imp (fun {a b} h e=>h (by rw [e]; exact Rat.le_refl)) h
set_option maxRecDepth 8000
def sgn (a b:Rat):Int:=(a.num * b.den - b.num * a.den).sign
theorem bH {a b:Rat}:sgn a b < 0 ↔ a < b:=by
 unfold sgn
 rw [Int.sign_neg_iff,Rat.lt_iff]
 omega
theorem cL {a b:Rat}:0 < sgn a b ↔ b < a:=by
 unfold sgn
 rw [Int.sign_pos_iff,Rat.lt_iff]
 omega
theorem aZ {a b:Rat}:sgn a b = 0 ↔ a = b:=by
 unfold sgn
 rw [Int.sign_eq_zero_iff_zero]
 constructor
 ·intro h
  exact Rat.le_antisymm ((Rat.le_iff _ _).2 (by omega)) ((Rat.le_iff _ _).2 (by omega))
 ·rintro rfl; omega
theorem rcmpG {a b:Rat} (ha:FQ a) (hb:FQ b):aN_p FU (Rt a) (Rt b) = some (sgn a b):=by
 have hF:=aw
 unfold aN_p Rt
 rw [cb FU 8 8 _ _ ha.n hb.d (by omega) (by omega),aa,cb FU 8 8 _ _ hb.n ha.d (by omega) (by omega),aa]
 unfold cn_p
 rw [fQ FU 16 _ _ (ha.n.mul hb.d) (hb.n.mul ha.d) (by omega) (by omega),aa,cK]
 rfl
theorem nD (l:Nat) (a b:Int) (ha:FtR l a) (hb:FtR l b) (hl:l < 9000):ck_p FU (R8 a) (R8 b) = some (a - b).sign:=by
 have hF:=aw
 have hm:=ha.add hb.neg
 unfold ck_p ca_p
 rw [jg FU b (by have:=hb.len; omega) (by omega),aa,iV FU l a (-b) ha hb.neg (by omega) (by omega),aa,aa,<- Int.sub_eq_add_neg]
 by_cases h:a - b < 0
 ·rw [if_pos (show (R8 (a - b)).fc = true from decide_eq_true h),Int.sign_eq_neg_one_of_neg h]
 ·rw [if_neg (show ¬ (R8 (a - b)).fc = true from by simpa [R8] using h)]
  by_cases h0:a - b = 0
  ·rw [h0,if_neg (show ¬ 0 < (R8 0).fD.length from by show ¬ 0 < (rd 0).length; rw [rd0]; decide)]; rfl
  ·rw [if_pos (show 0 < (R8 (a - b)).fD.length from mp.2 (by omega)),Int.sign_eq_one_of_pos (by omega)]
theorem oR {a b:Rat} (ha:FQ a) (hb:FQ b):ap_p FU (RR a) (RR b) = some (sgn a b):=by
 have hF:=aw
 unfold ap_p
 rw [show (RR a).fN = R8 a.num from I,show (RR a).fD = R8 (a.den:Int) from I,show (RR b).fN = R8 b.num from I,show (RR b).fD = R8 (b.den:Int) from I,
  aY FU 16 16 _ _ ha.1.r hb.2.r (by omega) (by decide),aa,aY FU 16 16 _ _ hb.1.r ha.2.r (by omega) (by decide),aa,
  nD 32 _ _ (ha.1.r.mul hb.2.r) (hb.1.r.mul ha.2.r) (by decide),aa]
 rfl
theorem kk (n:Nat) (d:Tk):∃ z,aH_p n d = some z/\z.natAbs <= 1000000:=by
 have h:(d.fo % (1000001:UInt32)).toNat <= 1000000:=by
  rw [UInt32.toNat_mod]
  exact Nat.le_of_lt_succ (Nat.mod_lt _ (by decide))
 unfold aH_p
 split
 ·exact ⟨_,I,by omega⟩
 ·exact ⟨_,I,by omega⟩
theorem kD {z:Int} (h:Sm z):aZ_p FU z = some (Wg z):=by
 have hF:=aw
 unfold aZ_p
 rw [iE FU z h (by omega),aa,kj FU 16 z h.r (by decide) (by omega),if_pos (cS h),aa]
theorem nx {a b:Int} (ha:Sm a) (hb:Sm b) (h0:b ≠ 0):bO_p FU (Wg a) (Wg b) = some (Sg (Rat.divInt a b)):=by
 have hF:=aw
 have hz:Wg b ≠ ((0:Ua),(0:Ua),(0:Ua),(0:Ua),(0:Ua),(0:Ua),(0:Ua),(0:Ua)):=by
  rw [<- Wg_zero]
  exact fun hc=>h0 (mB (cS hb) FQ0.1 hc)
 obtain ⟨h1,h2,h3⟩:=ix FU 16 a b h0 ha.r hb.r (by decide) hF
 obtain ⟨d1,d2⟩:=pw (a:=a) h0
 have hq:FQ (Rat.divInt a b):=⟨cS (by unfold Sm at *; omega),cS (by unfold Sm at *; omega)⟩
 unfold bO_p ci_p
 rw [if_neg hz,gt FU a (cS ha) (by omega),aa,gt FU b (cS hb) (by omega),aa,h1,aa,dJ FU 16 _ h2 h3 (by decide) (by omega),if_pos hq,aa,aa,if_pos I]
def Sh1 (q:Rat):Prop:=∃ a b:Int,q = Rat.divInt a b/\a.natAbs < 1000/\1 <= b/\b <= 24
theorem Sh1.bt {q:Rat} (h:Sh1 q):Bt 10 5 q:=by
 obtain ⟨a,b,rfl,h1,h2,h3⟩:=h
 exact Bt.of (by omega) (by omega) (by omega)
theorem Bt.q {q:Rat} (h:Bt 10 5 q):FQ q:=h.fq (by decide) (by decide)
theorem gX {x y:Int} (hy:0 < y):(x.tmod y).natAbs < y.natAbs:=by
 rw [Int.natAbs_tmod]
 exact Nat.mod_lt _ (by omega)
theorem iv {x y:Int} (hx:0 <= x):0 <= x.tmod y:=Int.tmod_nonneg y hx
theorem oU (d:Th):∃ q,bz_p FU d = some (Sg q)/\Sh1 q:=by
 obtain ⟨z1,e1,h1⟩:=kk FU d.fD
 obtain ⟨z2,e2,h2⟩:=kk FU d.fN
 have key:∀ z:Int,0 <= z -> z <= 1000000 -> ∃ q,((aH_p FU d.fN).bind fun y29=>(cg y29 1000).bind fun s30=>(aZ_p FU s30).bind fun y31=>(cg z 24).bind fun s32=>(chk (1 + s32)).bind fun s33=>(aZ_p FU s33).bind fun y34=>(bO_p FU y31 y34).bind fun y35=>some y35) = some (Sg q)/\Sh1 q:=by
  intro z hz hz2
  have t1:=gX (x:=z2) (y:=1000) (by decide)
  have t2:=gX (x:=z) (y:=24) (by decide)
  have t3:=iv (x:=z) (y:=24) hz
  rw [e2,aa,dc (by decide),aa,kD (ef (by omega)),aa,dc (by decide),aa,aS (by omega) (by omega),aa,kD (ef (by omega)),aa,nx (ef (by omega)) (ef (by omega)) (by omega),aa]
  exact ⟨_,I,_,_,I,by omega,by omega,by omega⟩
 unfold bz_p jn
 rw [e1,aa]
 simp only
 by_cases h:z1 < 0
 ·rw [if_pos h,aS (by omega) (by omega),aa]
  exact key _ (by omega) (by omega)
 ·rw [if_neg h]
  exact key _ (by omega) (by omega)
def Sh0 (q:Rat):Prop:=∃ a b:Int,q = Rat.divInt a b/\0 <= a/\a <= b/\1 <= b/\b <= 24
theorem unitD (d:Th):∃ q,bQ_p FU d = some (Sg q)/\Sh0 q:=by
 obtain ⟨z1,e1,h1⟩:=kk FU d.fN
 obtain ⟨z2,e2,h2⟩:=kk FU d.fD
 have key:∀ x z:Int,0 <= x -> x <= 1000000 -> 0 <= z -> z <= 1000000 -> ∃ q,((cg z 24).bind fun s40=>(chk (2 + s40)).bind fun s41=>(cg x s41).bind fun s42=>(aZ_p FU s42).bind fun y43=>(cg z 24).bind fun s44=>(chk (1 + s44)).bind fun s45=>(aZ_p FU s45).bind fun y46=>(bO_p FU y43 y46).bind fun y47=>some y47) = some (Sg q)/\Sh0 q:=by
  intro x z hx hx2 hz hz2
  have t2:=gX (x:=z) (y:=24) (by decide)
  have t3:=iv (x:=z) (y:=24) hz
  have t4:=gX (x:=x) (y:=2 + z.tmod 24) (by omega)
  have t5:=iv (x:=x) (y:=2 + z.tmod 24) hx
  rw [dc (by decide),aa,aS (by omega) (by omega),aa,dc (by omega),aa,kD (ef (by omega)),aa,aa,aS (by omega) (by omega),aa,kD (ef (by omega)),aa,nx (ef (by omega)) (ef (by omega)) (by omega),aa]
  exact ⟨_,I,_,_,I,by omega,by omega,by omega,by omega⟩
 unfold bQ_p jn
 rw [e1,aa,e2,aa]
 simp only
 by_cases h:z1 < 0
 ·rw [if_pos h,aS (by omega) (by omega),aa]
  by_cases h' : z2 < 0
  ·rw [if_pos h', aS (by omega) (by omega),aa]
   exact key _ _ (by omega) (by omega) (by omega) (by omega)
  ·rw [if_neg h']
   exact key _ _ (by omega) (by omega) (by omega) (by omega)
 ·rw [if_neg h]
  by_cases h' : z2 < 0
  ·rw [if_pos h', aS (by omega) (by omega),aa]
   exact key _ _ (by omega) (by omega) (by omega) (by omega)
  ·rw [if_neg h']
   exact key _ _ (by omega) (by omega) (by omega) (by omega)
set_option maxRecDepth 8000
def ms (e:Rat × Rat):Ta:=⟨Sg e.1,Sg e.2⟩
def mr (e:Rat × Rat):Tc:=⟨RR e.1,RR e.2⟩
def bs (x p:Rat):Lb (Rat × Rat) -> Lb (Rat × Rat)
 | []=>[(x,p)]
 | e :: l=>if e.1 = x then (x,e.2 + p) :: l else if x < e.1 then (x,p) :: e :: l else e :: bs x p l
theorem nE (x p y:Rat):∀ T,wt y (bs x p T) = wt y T + (if x = y then p else 0)
 | []=>by show (if x = y then p else 0) + 0 = 0 + _; grind
 | e :: l=>by
  rw [bs]
  split
  ·rename_i h
   show (if x = y then e.2 + p else 0) + wt y l = (if e.1 = y then e.2 else 0) + wt y l + (if x = y then p else 0)
   rw [h]; split <;> grind
  ·split
   ·show (if x = y then p else 0) + wt y (e :: l) = wt y (e :: l) + (if x = y then p else 0)
    grind
   ·show (if e.1 = y then e.2 else 0) + wt y (bs x p l) = (if e.1 = y then e.2 else 0) + wt y l + (if x = y then p else 0)
    rw [nE x p y l]; grind
theorem mV (x p:Rat):∀ T,sW (bs x p T) = sW T + p
 | []=>by show p + 0 = 0 + p; grind
 | e :: l=>by
  rw [bs]
  split
  ·show e.2 + p + sW l = e.2 + sW l + p; grind
  ·split
   ·show p + (e.2 + sW l) = e.2 + sW l + p; grind
   ·show e.2 + sW (bs x p l) = e.2 + sW l + p
    rw [mV x p l]; grind
theorem gH (x p y:Rat):∀ T,y ∈ (bs x p T).map (·.1) ↔ y ∈ T.map (·.1) ∨ y = x
 | []=>by simp [bs]
 | e :: l=>by
  rw [bs]
  split
  ·rename_i h
   simp only [List.map_cons,List.mem_cons,h]
   grind
  ·split
   ·simp only [List.map_cons,List.mem_cons]; grind
   ·simp only [List.map_cons,List.mem_cons]
    rw [gH x p y l]; grind
theorem iP (x p:Rat):∀ T,(bs x p T).length <= T.length + 1
 | []=>by simp [bs]
 | e :: l=>by
  rw [bs]
  split
  ·simp
  ·split
   ·simp
   ·have:=iP x p l; simp only [leC]; omega
theorem Up.cons {e:Rat × Rat} {l:Lb (Rat × Rat)}:Up (e :: l) ↔ (∀ x ∈ l.map (·.1),e.1 < x)/\Up l:=by
 unfold Up
 rw [List.pairwise_cons]
 refine and_congr_left fun _=>⟨fun h x hx=>?_,fun h a ha=>Rat.not_le.2 (h _ (List.mem_map.2 ⟨a,ha,I⟩))⟩
 obtain ⟨a,ha,rfl⟩:=List.mem_map.1 hx
 exact Rat.not_le.1 (h a ha)
theorem il (x p:Rat):∀ {T},Up T -> Up (bs x p T)
 | [],_=>by rw [bs,Up.cons]; exact ⟨fun y hy=>by simp at hy,List.Pairwise.nil⟩
 | e :: l,h=>by
  rw [Up.cons] at h
  rw [bs]
  split
  ·rename_i hx
   rw [Up.cons]
   exact ⟨fun y hy=>hx ▸ h.1 y hy,h.2⟩
  ·rename_i hx
   split
   ·rename_i h2
    rw [Up.cons,Up.cons]
    refine ⟨fun y hy=>?_,h⟩
    rw [List.map_cons] at hy
    rcases List.mem_cons.1 hy with rfl | hy
    ·exact h2
    ·have:=h.1 y hy; grind
   ·rename_i h2
    rw [Up.cons]
    refine ⟨fun y hy=>?_,il x p h.2⟩
    rcases (gH x p y l).1 hy with hy | rfl
    ·exact h.1 y hy
    ·grind
theorem Gat.put {P T:Lb (Rat × Rat)} (h:Gat P T) (u:Up T) (x p:Rat):Gat (P ++ [(x,p)]) (bs x p T):=by
 refine ⟨(il x p u).nodup,fun y=>?_,fun y=>?_,Nat.le_trans (iP x p T) (by rw [List.length_append]; exact Nat.add_le_add_right h.len 1)⟩
 ·rw [gH,h.keys,List.map_append,List.mem_append]; simp
 ·rw [nE,h.wts,ky]
  show _ = wt y P + ((if x = y then p else 0) + 0)
  grind
theorem putR_ok {T:Lb (Rat × Rat)} {x p:Rat} (hT:∀ e ∈ T,FQ e.1/\FQ e.2) (hx:FQ x) (hp:FQ p) (hl:T.length < 1000):aO_p FU (T.map mr) (RR x) (RR p) = some ((bs x p T).map mr):=by
 have hF:=aw
 have hh:=au (B:=aO_l1 FU (T.map mr) (RR x) (RR p)) (fun s:Bool × Nat × Lb Tc=>T.length - s.2.1)
  (fun s=>s.2.1 <= T.length/\s.2.2.length <= s.2.1 + (if s.1 = true then 1 else 0)/\s.2.2 ++ (if s.1 = true then (T.drop s.2.1).map mr else (bs x p (T.drop s.2.1)).map mr) = (bs x p T).map mr)
  (fun r=>r.2.length <= T.length + 1/\(if r.1 = true then r.2 else r.2 ++ [mr (x,p)]) = (bs x p T).map mr) ?_ FU (false,0,[]) ⟨Nat.zero_le _,by simp,by simp⟩ (by simp only; omega)
 ·obtain ⟨⟨q,xs⟩,e,h1,h2⟩:=hh
  unfold aO_p
  rw [e,aa]
  simp only at h1 h2 ⊢
  by_cases hq:q = true
  ·rw [if_pos hq]; rw [if_pos hq] at h2; rw [h2]
  ·rw [if_neg hq]; rw [if_neg hq] at h2
   rw [bQ _ _ (by simp only [leC,leN]; omega),aa]
   exact congrArg some h2
 ·rintro ⟨q,i,xs⟩ J ⟨h1,h2,h3⟩ hJ
  simp only at h1 h2 h3 hJ
  have h2' : xs.length <= i + 1:=by split at h2 <;> omega
  unfold aO_l1
  simp only
  by_cases h0:i < T.length
  ·obtain ⟨f1,f2⟩:=hT T[i] (List.getElem_mem _)
   rw [if_pos (by simpa using h0),geE (by simpa using h0),aa,List.getElem_map]
   rw [List.drop_eq_getElem_cons h0] at h3
   rw [show (mr T[i]).fm = RR T[i].1 from I,oR f1 hx,aa]
   by_cases hq:q = true
   ·rw [if_pos hq] at h2 h3 ⊢
    rw [bQ _ _ (by simp only [leC,leN]; omega),aa]
    refine hJ (q,i + 1,_) ⟨h0,by simp only [List.length_append,leC,leN,if_pos hq]; omega,?_⟩ (by simp only; omega)
    simp only
    rw [if_pos hq,<- h3,List.append_assoc]; rfl
   ·rw [if_neg hq] at h2 h3 ⊢
    rw [bs] at h3
    by_cases c1:T[i].1 = x
    ·rw [if_pos (aZ.2 c1)]
     rw [if_pos c1] at h3
     rw [show (mr T[i]).fP = RR T[i].2 from rfl,(mu FU _ _ f2 hp hF).1,aa,bQ _ _ (by simp only [leC,leN]; omega),aa]
     refine hJ (true,i + 1,_) ⟨h0,by simp only [List.length_append,leC,leN,if_true]; omega,?_⟩ (by simp only; omega)
     simp only
     rw [if_pos trivial,<- h3]; simp [mr]
    ·rw [if_neg (fun hc=>c1 (aZ.1 hc))]
     rw [if_neg c1] at h3
     unfold jn
     simp only
     by_cases c2:x < T[i].1
     ·rw [if_pos (cL.2 c2)]
      rw [if_pos c2] at h3
      rw [bQ _ _ (by simp only [leC,leN]; omega),aa]
      rw [bQ _ _ (by simp only [List.length_append,leC,leN]; omega),aa]
      refine hJ (true,i + 1,_) ⟨h0,by simp only [List.length_append,leC,leN,if_true]; omega,?_⟩ (by simp only; omega)
      simp only
      rw [if_pos trivial,<- h3,List.append_assoc,List.append_assoc]; rfl
     ·rw [if_neg (fun hc=>c2 (cL.1 hc))]
      rw [if_neg c2] at h3
      rw [bQ _ _ (by simp only [leC,leN]; omega),aa]
      refine hJ (q,i + 1,_) ⟨h0,by simp only [List.length_append,leC,leN,if_neg hq]; omega,?_⟩ (by simp only; omega)
      simp only
      rw [if_neg hq,<- h3]; simp
  ·have hi:i = T.length:=by omega
   rw [if_neg (by simpa using h0)]
   refine ⟨_,I,?_⟩
   simp only
   rw [hi,List.drop_length] at h3
   refine ⟨by omega,?_⟩
   by_cases hq:q = true
   ·rw [if_pos hq] at h3 ⊢; simpa using h3
   ·rw [if_neg hq] at h3 ⊢; simpa [bs] using h3
set_option maxRecDepth 8000
theorem iZ {x p:Rat} {e:Rat × Rat}:∀ {T},e ∈ bs x p T -> e ∈ T ∨ e = (x,p) ∨ ∃ d ∈ T,e = (x,d.2 + p)
 | [],h=>.inr (.inl (List.mem_singleton.1 h))
 | d :: l,h=>by
  rw [bs] at h
  split at h
  ·rcases List.mem_cons.1 h with rfl | h
   ·exact .inr (.inr ⟨d,List.mem_cons_self ..,I⟩)
   ·exact .inl (List.mem_cons_of_mem _ h)
  ·split at h
   ·rcases List.mem_cons.1 h with rfl | h
    ·exact .inr (.inl I)
    ·exact .inl h
   ·rcases List.mem_cons.1 h with rfl | h
    ·exact .inl (List.mem_cons_self ..)
    ·rcases iZ h with h | h | ⟨d', h1,h2⟩
     ·exact .inl (List.mem_cons_of_mem _ h)
     ·exact .inr (.inl h)
     ·exact .inr (.inr ⟨d', List.mem_cons_of_mem _ h1,h2⟩)
def un (k N:Nat):Rat:=Rat.divInt k N
theorem mI (a b N:Nat):un a N + un b N = un (a + b) N:=by
 unfold un
 rw [Rat.divInt_eq_div,Rat.divInt_eq_div,Rat.divInt_eq_div,Int.natCast_add,Rat.intCast_add,Rat.div_def,Rat.div_def,Rat.div_def,Rat.add_mul]
theorem un_zero (N:Nat):un 0 N = 0:=by
 unfold un
 rw [Rat.divInt_eq_div,Rat.div_def]
 show (0:Rat) * _ = 0
 rw [Rat.zero_mul]
theorem pz {N:Nat} (h:0 < N):un N N = 1:=by
 unfold un
 exact Rat.divInt_self' (by omega)
theorem un_bt {k N:Nat} (h:0 < N) (hN:N <= 1000000) (hk:k <= 1000000):Bt 20 20 (un k N):=Bt.of (by omega) (by omega) (by omega)
theorem pK {k N:Nat} (h:0 < N) (hN:N <= 1000000) (hk:k <= 1000000):FQ (un k N):=(un_bt h hN hk).fq (by decide) (by decide)
structure Dn (N i:Nat) (T:List (Rat × Rat)):Prop where
 up:Up T
 key:∀ e ∈ T,Sh1 e.1
 wts:∀ e ∈ T,∃ k,0 < k/\k <= i/\e.2 = un k N
 sum:sW T = un i N
 len:T.length <= i
theorem Dn.put {N i:Nat} {T:Lb (Rat × Rat)} (h:Dn N i T) {x:Rat} (hx:Sh1 x):Dn N (i + 1) (bs x (un 1 N) T):=by
 refine ⟨il _ _ h.up,fun e he=>?_,fun e he=>?_,by rw [mV,h.sum,mI],Nat.le_trans (iP _ _ _) (Nat.add_le_add_right h.len 1)⟩
 ·rcases iZ he with h1 | rfl | ⟨d,h1,rfl⟩
  ·exact h.key e h1
  ·exact hx
  ·exact hx
 ·rcases iZ he with h1 | rfl | ⟨d,h1,rfl⟩
  ·obtain ⟨k,k1,k2,k3⟩:=h.wts e h1
   exact ⟨k,k1,by omega,k3⟩
  ·exact ⟨1,by decide,by omega,I⟩
  ·obtain ⟨k,k1,k2,k3⟩:=h.wts d h1
   exact ⟨k + 1,by omega,by omega,by show d.2 + un 1 N = _; rw [k3,mI]⟩
theorem Dn.fq {N i:Nat} {T:Lb (Rat × Rat)} (h:Dn N i T) (h0:0 < N) (hN:N <= 8) (hi:i <= 8):∀ e ∈ T,FQ e.1/\FQ e.2:=fun e he=>by
 obtain ⟨k,k1,k2,k3⟩:=h.wts e he
 exact ⟨(h.key e he).bt.q,by rw [k3]; exact pK h0 (by omega) (by omega)⟩
theorem iu {a b:Int} (ha:Sm a) (hb:Sm b) (h0:b ≠ 0):bf_p FU a b = some (RR (Rat.divInt a b)):=by
 have hF:=aw
 unfold bf_p
 rw [iE FU a ha (by omega),aa,iE FU b hb (by omega),aa,(ix FU 16 a b h0 ha.r hb.r (by decide) hF).1,aa]
theorem sharesR {l:Lb Rat} (h:∀ q ∈ l,FQ q) (hl:l.length < 1000):bw_p FU (l.map Sg) = some true:=by
 have hF:=aw
 have hh:=au (B:=bw_l1 FU (l.map Sg)) (fun i:Nat=>l.length - i) (fun i=>i <= l.length) (fun r=>r = .inr ()) ?_ FU 0 (Nat.zero_le _) (by omega)
 ·obtain ⟨r,e,rfl⟩:=hh
  unfold bw_p
  rw [e]; rfl
 ·intro i J hi hJ
  unfold bw_l1
  simp only
  by_cases h0:i < l.length
  ·rw [if_pos (by simpa using h0),geE (by simpa using h0),aa,List.getElem_map]
   rw [gN FU _ (h l[i] (List.getElem_mem _)) hF,aa,if_pos I]
   exact hJ (i + 1) h0 (by omega)
  ·rw [if_neg (by simpa using h0)]
   exact ⟨_,I,I⟩
theorem outM {T:Lb (Rat × Rat)} (hT:∀ e ∈ T,FQ e.1/\FQ e.2) (hl:T.length <= 400):bL_p FU (T.map mr) = some (T.map ms,0):=by
 have hF:=aw
 have hh:=au (B:=bL_l1 FU (T.map mr)) (fun s:Nat × Lb Ta=>T.length - s.1) (fun s=>s.1 <= T.length/\s.2 = (T.take s.1).map ms) (fun r=>r = .inr (T.map ms)) ?_ FU (0,[]) ⟨Nat.zero_le _,rfl⟩ (by simp only; omega)
 ·obtain ⟨r,e,rfl⟩:=hh
  unfold bL_p
  rw [if_neg (by simpa using hl),e]; rfl
 ·rintro ⟨i,xs⟩ J ⟨hi,hx⟩ hJ
  simp only at hi hx hJ
  unfold bL_l1
  simp only
  by_cases h0:i < T.length
  ·obtain ⟨f1,f2⟩:=hT T[i] (List.getElem_mem _)
   rw [if_pos (by simpa using h0),geE (by simpa using h0),aa,List.getElem_map]
   rw [show (mr T[i]).fm = RR T[i].1 from I,show (mr T[i]).fP = RR T[i].2 from I,dJ FU 16 _ f1.1.r f1.2.r (by decide) (by omega),if_pos f1,aa,dJ FU 16 _ f2.1.r f2.2.r (by decide) (by omega),if_pos f2,aa,if_pos I,if_pos I]
   rw [bQ _ _ (by rw [hx]; simp only [List.length_map,List.length_take,leC,leN]; omega),aa]
   refine hJ (i + 1,_) ⟨h0,?_⟩ (by simp only; omega)
   rw [hx,List.take_succ_eq_append_getElem h0,List.map_append]; rfl
  ·rw [if_neg (by simpa using h0)]
   refine ⟨_,I,?_⟩
   rw [hx,List.take_of_length_le (by omega)]
def lv (N:Nat) (l:Lb Rat):Lb (Rat × Rat):=l.foldl (fun T q=>bs q (un 1 N) T) []
theorem fS (N:Nat) (l:Lb Rat) (h:∀ q ∈ l,Sh1 q):Dn N l.length (lv N l):=by
 suffices ∀ (l:Lb Rat) (i:Nat) (T),(∀ q ∈ l,Sh1 q) -> Dn N i T -> Dn N (i + l.length) (l.foldl (fun T q=>bs q (un 1 N) T) T) by
  have:=this l 0 [] h ⟨List.Pairwise.nil,by simp,by simp,by rw [un_zero]; rfl,by simp⟩
  rwa [Nat.zero_add] at this
 intro l
 induction l with
 | nil=>exact fun i T _ h=>h
 | cons q l ih=>
  intro i T hq h
  have:=ih (i + 1) _ (fun x hx=>hq x (List.mem_cons_of_mem _ hx)) (h.put (hq q (List.mem_cons_self ..)))
  rw [leC,Nat.add_comm l.length 1,<- Nat.add_assoc]
  exact this
theorem pk {l:Lb Rat} (h:∀ q ∈ l,Sh1 q) (h0:0 < l.length) (h8:l.length <= 8):bD_p FU (l.map Sg) = some ((lv l.length l).map ms,0):=by
 have hF:=aw
 have hfq:∀ q ∈ l,FQ q:=fun q hq=>(h q hq).bt.q
 have hh:=au (B:=bD_l1 FU (l.map Sg)) (fun s:Lb Tc × Nat=>l.length - s.2) (fun s=>s.2 <= l.length/\s.1 = (lv l.length (l.take s.2)).map mr) (fun r=>r = (lv l.length l).map mr) ?_ FU ([],0) ⟨Nat.zero_le _,rfl⟩ (by simp only; omega)
 ·obtain ⟨r,e,rfl⟩:=hh
  have hd:=fS l.length l h
  unfold bD_p
  rw [if_neg (by simp only [List.length_map]; omega),sharesR hfq (by omega),aa,if_pos rfl,if_neg (by simp only [List.length_map]; omega),e,aa,outM (hd.fq h0 h8 h8) (by have:=hd.len; omega),aa]
 ·rintro ⟨xs,i⟩ J ⟨hi,hx⟩ hJ
  simp only at hi hx hJ
  unfold bD_l1
  simp only
  by_cases c:i < l.length
  ·have hd:=fS l.length (l.take i) (fun q hq=>h q (List.mem_of_mem_take hq))
   have hl:(l.take i).length <= 8:=by simp only [List.length_take]; omega
   rw [if_pos (by simpa using c),geE (by simpa using c),aa,List.getElem_map]
   rw [lR FU _ (hfq _ (List.getElem_mem c)) (by omega),aa,iu (ef (by decide)) (ef (by simp only [List.length_map]; omega)) (by simp only [List.length_map]; omega),aa,hx,List.length_map]
   rw [show Rat.divInt 1 (l.length:Int) = un 1 l.length from I,putR_ok (hd.fq h0 h8 hl) (hfq _ (List.getElem_mem c)) (pK h0 (by omega) (by decide)) (by have:=hd.len; omega),aa]
   refine hJ (_,i + 1) ⟨c,?_⟩ (by simp only; omega)
   simp only
   rw [List.take_succ_eq_append_getElem c]
   unfold lv
   rw [List.foldl_append]; rfl
  ·rw [if_neg (by simpa using c)]
   refine ⟨_,I,?_⟩
   rw [hx,List.take_of_length_le (by omega)]
structure Dw (N:Nat) (T:List (Rat × Rat)):Prop where
 up:Up T
 key:∀ e ∈ T,Bt 40 40 e.1
 wts:∀ e ∈ T,∃ k,0 < k/\k <= N/\e.2 = un k N
 sum:sW T = un N N
 len:T.length <= 400
def Ds (T:Lb (Rat × Rat)):Prop:=∃ N,0 < N/\N <= 1000000/\Dw N T
theorem Dn.dw {N:Nat} {T:Lb (Rat × Rat)} (h:Dn N N T) (h0:0 < N) (hN:N <= 8):Ds T:=
 ⟨N,h0,by omega,h.up,fun e he=>(h.key e he).bt.mono (by decide) (by decide),h.wts,h.sum,by have:=h.len; omega⟩
theorem nB (d:Ti):∃ N T,am_p FU d = some (T.map ms)/\0 < N/\N <= 8/\Dn N N T:=by
 have hF:=aw
 have hh:=au (B:=am_l1 FU d) (fun s:Nat × Lb Tb=>8 - s.1) (fun s=>s.1 <= 8/\∃ l:Lb Rat,s.2 = l.map Sg/\l.length <= s.1/\∀ q ∈ l,Sh1 q) (fun r=>∃ l:Lb Rat,r = l.map Sg/\l.length <= 8/\∀ q ∈ l,Sh1 q) ?_ FU (0,[]) ⟨Nat.zero_le _,[],rfl,by simp,by simp⟩ (by simp only; omega)
 ·obtain ⟨r,e,l,rfl,h8,hq⟩:=hh
  unfold am_p jn
  rw [e]
  simp only [aa]
  by_cases h0:l.length = 0
  ·rw [if_pos (by simpa using h0)]
   have hl:l = []:=List.eq_nil_of_length_eq_zero h0
   subst hl
   have hz:FQ (Rat.divInt 0 1):=FQ0
   unfold cN_p
   rw [if_neg (by decide),iu (ef (by decide)) (ef (by decide)) (by decide),aa,dJ FU 16 _ hz.1.r hz.2.r (by decide) (by omega),if_pos hz,aa,aa,bQ _ _ (by simp),aa]
   have hb:∀ q ∈ [Rat.divInt 0 1],Sh1 q:=fun q hq=>by rw [List.mem_singleton.1 hq]; exact ⟨0,1,rfl,by decide,by decide,by decide⟩
   have ht:=pk hb (by decide) (by decide)
   rw [show List.map Sg ([]:Lb Rat) ++ [(Sg (Rat.divInt 0 1),(0:Int)).1] = [Rat.divInt 0 1].map Sg from I,ht,aa]
   exact ⟨1,_,I,by decide,by decide,fS 1 _ hb⟩
  ·rw [if_neg (by simpa using h0),pk hq (by omega) h8,aa]
   exact ⟨_,_,I,by omega,h8,fS _ _ hq⟩
 ·rintro ⟨i,xs⟩ J ⟨hi,l,rfl,hl,hq⟩ hJ
  simp only at hi hl hJ
  unfold am_l1
  simp only
  by_cases c:i < d.fL.length
  ·rw [if_pos c]
   by_cases c8:i < 8
   ·rw [if_pos c8,geE c,aa]
    obtain ⟨q,e1,e2⟩:=oU d.fL[i]
    rw [e1,aa,bQ _ _ (by simp only [List.length_map,leC,leN]; omega),aa]
    refine hJ (i + 1,_) ⟨c8,l ++ [q],by rw [List.map_append]; rfl,by simp only [List.length_append,leC,leN]; omega,fun x hx=>?_⟩ (by simp only; omega)
    rcases List.mem_append.1 hx with hx | hx
    ·exact hq x hx
    ·rw [List.mem_singleton.1 hx]; exact e2
   ·rw [if_neg c8]
    exact ⟨_,I,l,I,by omega,hq⟩
  ·rw [if_neg c]
   exact ⟨_,I,l,I,by omega,hq⟩
set_option maxRecDepth 8000
theorem Ds.one {T:Lb (Rat × Rat)} (h:Ds T):sW T = 1:=by
 obtain ⟨N,n1,n2,d⟩:=h
 rw [d.sum,pz n1]
theorem Ds.len {T:Lb (Rat × Rat)} (h:Ds T):0 < T.length/\T.length <= 400:=by
 refine ⟨?_,?_⟩
 ·cases T with
  | nil=>exact absurd h.one (by decide)
  | cons e l=>simp
 ·obtain ⟨N,n1,n2,d⟩:=h
  have:=d.len
  omega
theorem fromG (z:Int) (h:Sm z):aL_p FU z = some ⟨L z,L 1⟩:=by
 have hF:=aw
 unfold aL_p de_p
 rw [hS FU z h (by omega),aa,hS FU 1 (by unfold Sm; decide) (by omega),aa,aa]
theorem jF:aL_p FU 0 = some (Rt 0):=fromG 0 (by unfold Sm; decide)
theorem from1:aL_p FU 1 = some (Rt 1):=fromG 1 (by unfold Sm; decide)
theorem FQ1:FQ 1:=(Bt.fq (i:=1) (j:=2) ⟨by decide,by decide⟩ (by decide) (by decide))
theorem pG {e:Rat × Rat} (h:FQ e.2):bn_p FU (ms e) = some (Rt e.2):=by
 have hF:=aw
 unfold bn_p
 rw [show (ms e).fP = Sg e.2 from I,dQ FU _ h (by omega),aa]
theorem fM {T:Lb (Rat × Rat)} {i:Nat} (h:i < T.length):sW (T.take (i + 1)) = sW (T.take i) + T[i].2:=by
 rw [List.take_succ_eq_append_getElem h,mA]
 show _ + (T[i].2 + 0) = _
 grind
theorem pW {T:Lb (Rat × Rat)} (h:Up T) {i j:Nat} (hj:j < T.length) (hij:i < j):(T[i]'(by omega)).1 < T[j].1:=Rat.not_le.1 (List.pairwise_iff_getElem.1 h i j (by omega) hj hij)
theorem mG {q:Rat} (h:0 < q):0 < q.num:=by
 have h1:=(Rat.lt_iff _ _).1 h
 have e1:(0:Rat).num = 0:=rfl
 have e2:((0:Rat).den:Int) = 1:=rfl
 rw [e1,e2] at h1
 omega
set_option maxRecDepth 8000
structure Qn (T:List (Rat × Rat)) (x:Rat) (j:Nat):Prop where
 lt:sW (T.take j) < x
 le:x <= sW (T.take (j + 1))
def qst (i:Nat) (s:Tb) (q:Rat):Nat × Ua × Ua × Ua × Ua × Ua × Ua × Ua × Ua × Ua × Ua × Ua × Ua × Ua × Ua × Ua × Ua × Bool × (Lb Ua) × Bool × (Lb Ua):=
 (i,s.fN.1,s.fN.2.1,s.fN.2.2.1,s.fN.2.2.2.1,s.fN.2.2.2.2.1,s.fN.2.2.2.2.2.1,s.fN.2.2.2.2.2.2.1,s.fN.2.2.2.2.2.2.2,s.fD.1,s.fD.2.1,s.fD.2.2.1,s.fD.2.2.2.1,s.fD.2.2.2.2.1,s.fD.2.2.2.2.2.1,s.fD.2.2.2.2.2.2.1,s.fD.2.2.2.2.2.2.2,(Rt q).fj.fc,(Rt q).fj.fk,(Rt q).fh.fc,(Rt q).fh.fk)
def qre (s:Tb):Ua × Ua × Ua × Ua × Ua × Ua × Ua × Ua × Ua × Ua × Ua × Ua × Ua × Ua × Ua × Ua:=
 (s.fN.1,s.fN.2.1,s.fN.2.2.1,s.fN.2.2.2.1,s.fN.2.2.2.2.1,s.fN.2.2.2.2.2.1,s.fN.2.2.2.2.2.2.1,s.fN.2.2.2.2.2.2.2,s.fD.1,s.fD.2.1,s.fD.2.2.1,s.fD.2.2.2.1,s.fD.2.2.2.2.1,s.fD.2.2.2.2.2.1,s.fD.2.2.2.2.2.2.1,s.fD.2.2.2.2.2.2.2)
theorem numneg {q:Rat} (h:q <= 0):q.num <= 0:=by
 have h1:=(Rat.le_iff _ _).1 h
 have e1:(0:Rat).num = 0:=rfl
 have e2:((0:Rat).den:Int) = 1:=rfl
 rw [e1,e2] at h1
 omega
set_option maxRecDepth 8000
def cA (P:Lb (Rat × Rat)):Lb (Rat × Rat):=P.foldl kz []
theorem dL (P:Lb (Rat × Rat)):Gat P (cA P):=by
 suffices ∀ (l P D:Lb (Rat × Rat)),Gat P D -> Gat (P ++ l) (l.foldl kz D) from this P [] [] Gat.nil
 intro l
 induction l with
 | nil=>intro P D h; rw [List.append_nil]; exact h
 | cons e l ih=>
  intro P D h
  have:=ih (P ++ [e]) (kz D e) (h.add e)
  rwa [List.append_assoc] at this
theorem nW {P:Lb (Rat × Rat)} {i:Nat} (h:i < P.length):cA (P.take (i + 1)) = kz (cA (P.take i)) P[i]:=by
 unfold cA
 rw [List.take_succ_eq_append_getElem h,List.foldl_append]; rfl
def mk2 (e:Rat × Rat):Tb × Td:=(Sg e.1,Rt e.2)
theorem nk {x:Rat} (hx:FQ x):∀ {D:Lb (Rat × Rat)},(∀ e ∈ D,FQ e.1) -> bD (D.map mk2) (Sg x) = (bD D x).map Rt
 | [],_=>rfl
 | e :: D,h=>by
  rw [List.map_cons,bD,bD]
  by_cases c:x = e.1
  ·rw [if_pos c,if_pos (show Sg x = (mk2 e).1 from congrArg Sg c)]; rfl
  ·rw [if_neg c,if_neg (fun hc:Sg x = (mk2 e).1=>c (kK hx (h e (List.mem_cons_self ..)) hc)),nk hx fun d hd=>h d (List.mem_cons_of_mem _ hd)]
theorem kN {x:Rat} (hx:FQ x) (v:Rat):∀ {D:Lb (Rat × Rat)},(∀ e ∈ D,FQ e.1) -> aC (D.map mk2) (Sg x) (Rt v) = (aC D x v).map mk2
 | [],_=>rfl
 | e :: D,h=>by
  rw [List.map_cons,aC,aC]
  by_cases c:x = e.1
  ·rw [if_pos c,if_pos (show Sg x = (mk2 e).1 from congrArg Sg c)]; rfl
  ·rw [if_neg c,if_neg (fun hc:Sg x = (mk2 e).1=>c (kK hx (h e (List.mem_cons_self ..)) hc)),kN hx v fun d hd=>h d (List.mem_cons_of_mem _ hd)]; rfl
set_option maxRecDepth 8000
def mv (g:Rat -> Rat) (T:Lb (Rat × Rat)):Lb (Rat × Rat):=T.map fun e=>(g e.1,e.2)
def neg (T:Lb (Rat × Rat)):Lb (Rat × Rat):=(mv (fun x=>-1 * x) T).reverse
def cI (x:Rat):Rat:=if 0 < x then x else 0
def dsk (T U:Lb (Rat × Rat)):Lb Rat -> Rat
 | []=>0
 | x :: K=>cI (wt x T - wt x U) + dsk T U K
def bL (f:Rat -> Rat):Lb Rat -> Rat
 | []=>0
 | x :: K=>f x + bL f K
theorem ja (T U:Lb (Rat × Rat)):∀ K,dsk T U K = bL (fun x=>cI (wt x T - wt x U)) K
 | []=>rfl
 | x :: K=>by show _ + dsk T U K = _ + bL _ K; rw [ja T U K]
theorem jL (f:Rat -> Rat) {K L:Lb Rat} (h:K.Perm L):bL f K = bL f L:=by
 induction h with
 | nil=>rfl
 | cons x _ ih=>show f x + _ = f x + _; rw [ih]
 | swap x y l=>show f y + (f x + bL f l) = f x + (f y + bL f l); grind
 | trans _ _ h1 h2=>rw [h1,h2]
theorem lw (f:Rat -> Rat):∀ K L,bL f (K ++ L) = bL f K + bL f L
 | [],L=>by show bL f L = 0 + bL f L; grind
 | x :: K,L=>by show f x + bL f (K ++ L) = f x + bL f K + bL f L; rw [lw f K L]; grind
theorem jN {f:Rat -> Rat}:∀ {K:Lb Rat},(∀ x ∈ K,f x = 0) -> bL f K = 0
 | [],_=>rfl
 | x :: K,h=>by
  show f x + bL f K = 0
  rw [h x (List.mem_cons_self ..),jN fun y hy=>h y (List.mem_cons_of_mem _ hy)]; grind
theorem kb {f:Rat -> Rat} {K L:Lb Rat} (hK:K.Nodup) (hL:L.Nodup) (hs:∀ x ∈ K,x ∈ L) (h0:∀ x ∈ L,x ∉ K -> f x = 0):bL f L = bL f K:=by
 have h1:=List.filter_append_perm (fun x=>decide (x ∈ K)) L
 rw [<- jL f h1,lw,jN (K:=L.filter fun x=>!decide (x ∈ K)) fun x hx=>by
  obtain ⟨a,b⟩:=List.mem_filter.1 hx
  exact h0 x a (by simpa using b)]
 have h2:(L.filter fun x=>decide (x ∈ K)).Perm K:=(List.perm_ext_iff_of_nodup (hL.filter _) hK).2 fun x=>by
  rw [List.mem_filter]
  exact ⟨fun h=>of_decide_eq_true h.2,fun h=>⟨hs x h,decide_eq_true h⟩⟩
 rw [jL f h2]; grind
theorem iS (f g:Rat -> Rat):∀ K:Lb Rat,bL (fun x=>f x + g x) K = bL f K + bL g K
 | []=>by show (0:Rat) = 0 + 0; grind
 | x :: K=>by show f x + g x + bL _ K = f x + bL f K + (g x + bL g K); rw [iS f g K]; grind
theorem ox {T:Lb (Rat × Rat)} (hn:(T.map (·.1)).Nodup):bL (fun x=>wt x T) (T.map (·.1)) = sW T:=by
 suffices ∀ l:Lb (Rat × Rat),(∀ e ∈ l,wt e.1 T = e.2) -> bL (fun x=>wt x T) (l.map (·.1)) = sW l from this T fun e he=>gG hn he
 intro l
 induction l with
 | nil=>exact fun _=>rfl
 | cons e l ih=>
  intro h
  show wt e.1 T + bL _ (l.map (·.1)) = e.2 + sW l
  rw [h e (List.mem_cons_self ..),ih fun d hd=>h d (List.mem_cons_of_mem _ hd)]
theorem nh {T:Lb (Rat × Rat)} {K:Lb Rat} (hn:(T.map (·.1)).Nodup) (hK:K.Nodup) (hs:∀ x ∈ T.map (·.1),x ∈ K):bL (fun x=>wt x T) K = sW T:=by
 rw [kb hn hK hs fun x _ h=>dl h,ox hn]
structure Cov (T:List (Rat × Rat)) (K:List Rat):Prop where
 nt:(T.map (·.1)).Nodup
 nd:K.Nodup
 sub:∀ x ∈ T.map (·.1),x ∈ K
theorem dk_swap {T U:Lb (Rat × Rat)} {K:Lb Rat} (ht:Cov T K) (hu:Cov U K) (h:sW T = sW U):dsk T U K = dsk U T K:=by
 have h1:bL (fun x=>wt x T) K = bL (fun x=>wt x U) K:=by rw [nh ht.nt ht.nd ht.sub,nh hu.nt hu.nd hu.sub,h]
 have h2:bL (fun x=>cI (wt x T - wt x U) + wt x U) K = bL (fun x=>cI (wt x U - wt x T) + wt x T) K:=by
  refine congrArg (fun f=>bL f K) (funext fun x=>?_)
  unfold cI
  split <;> split <;> grind
 rw [iS,iS,<- ja,<- ja] at h2
 grind
theorem dk_more {T U:Lb (Rat × Rat)} {K L:Lb Rat} (ht:Cov T K) (hu:Cov U K) (hL:L.Nodup) (hs:∀ x ∈ K,x ∈ L):dsk T U L = dsk T U K:=by
 rw [ja,ja,kb ht.nd hL hs fun x _ h=>?_]
 rw [dl fun hc=>h (ht.sub x hc),dl fun hc=>h (hu.sub x hc)]
 unfold cI
 rw [if_neg (by grind)]
end Go.Proofs.YtkommhmbkbhmlaaGreat
