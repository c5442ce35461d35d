/- Plain laws: words, their value, and integers of any length: sum, difference, product. No program in sight but the printed functions. -/
import Derived.Test.YtkommhmbkbhmlaaGreatVX12
import Derived.Test.YtkommhmbkbhmlaaGreatVMl
namespace Go.Proofs.YtkommhmbkbhmlaaGreat
open Go
theorem aa {α β:Type} (x:α) (f:α -> Oa β):(some x).bind f = f x:=Eq.trans (Eq.refl _) (Eq.refl _)
theorem iM {α β:Type} (B:(α -> Oa β) -> α -> Oa β) (n:Nat) (s:α):ao B (n + 1) s = B (ao B n) s:=rfl
theorem au {α β:Type} {B:(α -> Oa β) -> α -> Oa β} (m:α -> Nat) (I:α -> Prop) (Q:β -> Prop)
  (step:∀ s J,I s -> (∀ s', I s' -> m s' < m s -> ∃ r,J s' = some r/\Q r) -> ∃ r,B J s = some r/\Q r):∀ n s,I s -> m s < n -> ∃ r,ao B n s = some r/\Q r:=by
 intro n
 induction n with
 | zero=>intro s _ h; omega
 | succ n ih=>intro s hI h; exact step s (ao B n) hI fun s' h1 h2=>ih s' h1 (by omega)
theorem aW {x:Int} (h1:-9223372036854775808 <= x) (h2:x <= 9223372036854775807):chk x = some x:=if_pos ⟨h1,h2⟩
theorem bn {α:Type} {xs:Lb α} {i:Int} (h0:0 <= i) (h:i.toNat < xs.length):idx xs i = some xs[i.toNat]:=by unfold idx; rw [if_pos h0,geE h]
theorem bR {α:Type} {xs:Lb α} {i:Nat} (x:α) (h:i < xs.length):put xs (i:Int) x = some (xs.set i x):=by
 unfold put; rw [if_pos ⟨Int.natCast_nonneg _,by omega⟩]; rfl
theorem lK {α:Type} {xs:Lb α} {z:Nat} (h:z <= xs.length):cut xs 0 (z:Int) = some (xs.take z):=by
 unfold cut; rw [if_pos ⟨Int.le_refl _,Int.natCast_nonneg _,by omega⟩]; rfl
theorem ip {α:Type} (n:Nat) (x:α) (h:n <= 4294967296):mk (n:Int) x = some (List.replicate n x):=by
 unfold mk; rw [if_pos ⟨Int.natCast_nonneg _,by omega⟩]; rfl
def val:Lb Ua -> Nat
 | []=>0
 | x :: xs=>x.toNat + 18446744073709551616 * val xs
theorem fx (xs ys:Lb Ua):val (xs ++ ys) = val xs + 18446744073709551616 ^ xs.length * val ys:=by
 induction xs with
 | nil=>simp [val]
 | cons x xs ih=>simp only [List.cons_append,val,ih,leC,Nat.pow_succ]; grind
theorem cR (xs:Lb Ua):val xs < 18446744073709551616 ^ xs.length:=by
 induction xs with
 | nil=>simp [val]
 | cons x xs ih=>
  have:=x.toNat_lt
  have h2:18446744073709551616 * (val xs + 1) <= 18446744073709551616 * 18446744073709551616 ^ xs.length:=Nat.mul_le_mul_left _ ih
  simp only [val,leC,Nat.pow_succ]
  rw [Nat.mul_comm (_ ^ _)]
  omega
theorem bX (a:Lb Ua) {i:Nat} (h:i < a.length):val (a.take (i + 1)) = val (a.take i) + 18446744073709551616 ^ i * a[i].toNat:=by
 rw [<- List.take_append_getElem h,fx,List.length_take,Nat.min_eq_left (Nat.le_of_lt h)]
 simp [val]
theorem oO {xs:Lb Ua} {i:Nat} (s:Ua) (h:i < xs.length):(xs.set i s).take (i + 1) = xs.take i ++ [s]:=by
 rw [<- List.take_append_getElem (by simpa using h),List.take_set_of_le (Nat.le_refl _)]
 simp
theorem fJ {xs:Lb Ua} {i:Nat} (s:Ua) (h:i < xs.length):val ((xs.set i s).take (i + 1)) = val (xs.take i) + 18446744073709551616 ^ i * s.toNat:=by
 rw [oO s h,fx,List.length_take,Nat.min_eq_left (Nat.le_of_lt h)]
 simp [val]
theorem cC:∀ (xs:Lb Ua),(∀ x ∈ xs,x = 0) -> val xs = 0
 | [],_=>rfl
 | x :: xs,h=>by
  have h1:=h x (List.mem_cons_self ..)
  have h2:=cC xs fun y hy=>h y (List.mem_cons_of_mem _ hy)
  subst h1; simp [val,h2]
def dg (m:Nat):Lb Ua:=if m = 0 then [] else UInt64.ofNat m :: dg (m / 18446744073709551616)
termination_by m
decreasing_by exact Nat.div_lt_self (by omega) (by omega)
theorem dg0:dg 0 = []:=by unfold dg; simp
theorem ju {m:Nat} (h:m ≠ 0):dg m = UInt64.ofNat m :: dg (m / 18446744073709551616):=by rw [dg]; rw [if_neg h]
theorem aJ (m:Nat):val (dg m) = m:=by
 induction m using Nat.strongRecOn with
 | _ m ih=>
  by_cases h:m = 0
  ·subst h; rw [dg0]; rfl
  ·rw [ju h]; simp only [val]
   rw [ih _ (Nat.div_lt_self (by omega) (by omega)),UInt64.toNat_ofNat']
   exact Nat.mod_add_div m 18446744073709551616
def Nm (xs:Lb Ua):Prop:=∀ x,xs.getLast? = some x -> x ≠ 0
theorem Nm.tail {x y:Ua} {xs:Lb Ua} (h:Nm (x :: y :: xs)):Nm (y :: xs):=fun z hz=>h z (by rw [List.getLast?_cons_cons]; exact hz)
theorem gM:∀ {xs:Lb Ua},Nm xs -> xs ≠ [] -> 0 < val xs
 | [],_,h=>absurd I h
 | [x],h,_=>by
  have h1:=h x I
  have:x.toNat ≠ 0:=fun e=>h1 (UInt64.toNat_inj.1 (by simpa using e))
  simp only [val]; omega
 | x :: y :: xs,h,_=>by
  have:=gM h.tail (by simp)
  simp only [val] at this ⊢
  omega
theorem kw:∀ {xs:Lb Ua},Nm xs -> xs ≠ [] -> 18446744073709551616 ^ (xs.length - 1) <= val xs
 | [],_,h=>absurd I h
 | [x],h,_=>by
  have h1:=gM h (by simp)
  show 18446744073709551616 ^ 0 <= _
  rw [Nat.pow_zero]; exact h1
 | x :: y :: xs,h,_=>by
  have h1:=kw h.tail (by simp)
  have h2:18446744073709551616 * 18446744073709551616 ^ xs.length <= 18446744073709551616 * val (y :: xs):=Nat.mul_le_mul_left _ (by simpa using h1)
  show 18446744073709551616 ^ (xs.length + 1) <= x.toNat + 18446744073709551616 * val (y :: xs)
  rw [Nat.pow_succ,Nat.mul_comm]; omega
theorem oC:∀ {xs:Lb Ua},Nm xs -> dg (val xs) = xs
 | [],_=>dg0
 | x :: xs,h=>by
  have hp:=gM h (by simp)
  rw [ju (by omega)]
  have hx:=x.toNat_lt
  have h1:UInt64.ofNat (val (x :: xs)) = x:=UInt64.toNat_inj.1 (by rw [UInt64.toNat_ofNat']; simp only [val]; omega)
  have h2:val (x :: xs) / 18446744073709551616 = val xs:=by simp only [val]; omega
  have h3:Nm xs:=by
   cases xs with
   | nil=>intro z hz; simp at hz
   | cons y ys=>exact h.tail
  rw [h1,h2,oC h3]
theorem ij (m:Nat):Nm (dg m):=by
 induction m using Nat.strongRecOn with
 | _ m ih=>
  intro x hx
  by_cases h:m = 0
  ·subst h; rw [dg0] at hx; cases hx
  ·rw [ju h] at hx
   by_cases h2:m / 18446744073709551616 = 0
   ·rw [h2,dg0] at hx
    simp at hx
    intro e; subst e
    have:=congrArg UInt64.toNat hx
    rw [UInt64.toNat_ofNat'] at this
    simp at this; omega
   ·have h3:=ih (m / 18446744073709551616) (Nat.div_lt_self (by omega) (by omega))
    rw [ju h2] at hx h3
    rw [List.getLast?_cons_cons] at hx
    exact h3 x hx
theorem lz {m l:Nat} (h:m < 18446744073709551616 ^ l):(dg m).length <= l:=by
 by_cases h0:dg m = []
 ·rw [h0]; simp
 ·have h1:=kw (ij m) h0
  rw [aJ] at h1
  have h2:=Nat.lt_of_le_of_lt h1 h
  have h3:=(Nat.pow_lt_pow_iff_right (by omega)).1 h2
  omega
theorem aP (n:Nat) (b:Bool) (ws:Lb Ua) (hn:ws.length < n) (hl:ws.length <= 4294967296):aA_p n b ws = some ⟨b && decide (0 < val ws),dg (val ws)⟩:=by
 have h:=au (B:=aA_l1 n ws) (fun z:Int=>z.toNat) (fun z=>0 <= z/\z <= ws.length/\∀ i:Nat,z.toNat <= i -> ∀ h:i < ws.length,ws[i] = 0)
  (fun z=>∃ k:Nat,z = k/\k <= ws.length/\(∀ i:Nat,k <= i -> ∀ h:i < ws.length,ws[i] = 0)/\∀ h:0 < k,∀ h2:k - 1 < ws.length,ws[k - 1] ≠ 0) ?_ n (ws.length:Int) ⟨by omega,by omega,fun i h1 h2=>by omega⟩ (by simpa using hn)
 ·obtain ⟨z,hz,k,rfl,hk,hz0,hz1⟩:=h
  have e:val ws = val (ws.take k):=by
   conv=>lhs; rw [<- List.take_append_drop k ws,fx]
   rw [cC (ws.drop k) fun x hx=>?_]
   ·simp
   ·obtain ⟨i,hi,rfl⟩:=List.getElem_of_mem hx
    rw [List.getElem_drop]
    exact hz0 _ (by omega) _
  have hnm:Nm (ws.take k):=by
   intro x hx
   rw [List.getLast?_eq_getElem?,List.length_take,Nat.min_eq_left hk] at hx
   obtain ⟨h1,rfl⟩:=List.getElem?_eq_some_iff.1 hx
   have h2:k - 1 < ws.length:=by rw [List.length_take] at h1; omega
   by_cases h0:0 < k
   ·rw [List.getElem_take]; exact hz1 h0 h2
   ·rw [List.length_take] at h1; omega
  have e2:dg (val ws) = ws.take k:=by rw [e]; exact oC hnm
  have e3:decide (0 < val ws) = decide (0 < (k:Int)):=by
   rw [decide_eq_decide]
   constructor
   ·intro h0
    by_cases hk0:k = 0
    ·subst hk0; rw [e] at h0; simp [val] at h0
    ·omega
   ·intro h0; rw [e]; refine gM hnm fun h1=>?_
    have:=congrArg List.length h1
    rw [List.length_take,leN] at this; omega
  unfold aA_p jn
  simp only [hz,aa,lK hk]
  cases b
  ·simp [e2]
  ·simp [e2,e3]
 ·intro z J ⟨h1,h2,h3⟩ hJ
  unfold aA_l1
  simp only
  by_cases h0:0 < z
  ·rw [if_pos h0,aW (by omega) (by omega),aa,bn (by omega) (by omega),aa]
   split
   ·rename_i hx
    rw [aa]
    refine hJ (z - 1) ⟨by omega,by omega,fun i h4 h5=>?_⟩ (by omega)
    by_cases h6:i = (z - 1).toNat
    ·subst h6; exact hx
    ·exact h3 i (by omega) h5
   ·rename_i hx
    refine ⟨z,I,z.toNat,by omega,by omega,h3,fun h4 h5=>?_⟩
    have:(z - 1).toNat = z.toNat - 1:=by omega
    simp only [this] at hx
    exact hx
  ·rw [if_neg h0]
   exact ⟨z,I,0,by omega,by omega,fun i h4 h5=>h3 i (by omega) h5,fun h4=>by omega⟩
theorem im (x y c:Ua) (h:c.toNat <= 1):∃ s d:Ua,add64 x y c = some (s,d)/\s.toNat + 18446744073709551616 * d.toNat = x.toNat + y.toNat + c.toNat/\d.toNat <= 1:=by
 refine ⟨_,_,if_pos h,?_⟩
 have hx:=x.toNat_lt
 have hy:=y.toNat_lt
 rw [UInt64.toNat_ofNat', UInt64.toNat_ofNat']
 omega
theorem bM (x y c:Ua) (h:c.toNat <= 1):∃ s d:Ua,sub64 x y c = some (s,d)/\s.toNat + y.toNat + c.toNat = x.toNat + 18446744073709551616 * d.toNat/\d.toNat <= 1:=by
 refine ⟨_,_,if_pos h,?_⟩
 have hx:=x.toNat_lt
 have hy:=y.toNat_lt
 rw [UInt64.toNat_ofNat']
 split <;> simp <;> omega
theorem bv {α:Type} {l:Lb α} {i:Nat} (h:l.length <= i):l.take i = l:=List.take_of_length_le h
theorem jL (b:Lb Ua) (i:Nat):val (b.take (i + 1)) = val (b.take i) + 18446744073709551616 ^ i * (b[i]?.getD 0).toNat:=by
 by_cases h:i < b.length
 ·rw [bX b h,geE h]; rfl
 ·rw [bv (by omega),bv (by omega),List.getElem?_eq_none (by omega)]; simp
theorem mj (n:Nat) (a b:Lb Ua) (hb:b.length <= a.length) (hn:a.length < n):∃ xs u,ao (cn_l1 n a b) n (0,0,List.replicate (a.length + 1) 0) = some (xs,u)/\xs.length = a.length + 1/\val (xs.take a.length) + 18446744073709551616 ^ a.length * u.toNat = val a + val b:=by
 have h:=au (B:=cn_l1 n a b) (fun s:Ua × Nat × Lb Ua=>a.length - s.2.1) (fun s=>s.2.1 <= a.length/\s.2.2.length = a.length + 1/\s.1.toNat <= 1/\val (s.2.2.take s.2.1) + 18446744073709551616 ^ s.2.1 * s.1.toNat = val (a.take s.2.1) + val (b.take s.2.1))
  (fun r:Lb Ua × Ua=>r.1.length = a.length + 1/\val (r.1.take a.length) + 18446744073709551616 ^ a.length * r.2.toNat = val a + val b) ?_ n (0,0,List.replicate (a.length + 1) 0) ⟨by simp,by simp,by simp,by simp [val]⟩ (by simpa using hn)
 ·obtain ⟨⟨xs,u⟩,h1,h2,h3⟩:=h; exact ⟨xs,u,h1,h2,h3⟩
 ·rintro ⟨u,i,xs⟩ J ⟨h1,h2,h3,h4⟩ hJ
  simp only at h1 h2 h3 h4 hJ
  unfold cn_l1
  simp only
  by_cases hi:i < a.length
  ·rw [if_pos hi,geE hi,aa]
   have key:∀ y:Ua,y = b[i]?.getD 0 -> ∃ r,((add64 a[i] y u).bind fun z198=>(xs[i]?).bind fun x199=>(put xs ((i:Nat):Int) z198.1).bind fun xs212=>J (z198.2,i + 1,xs212)) = some r/\r.1.length = a.length + 1/\val (r.1.take a.length) + 18446744073709551616 ^ a.length * r.2.toNat = val a + val b:=by
    intro y hy
    obtain ⟨s,d,e1,e2,e3⟩:=im a[i] y u h3
    rw [e1,aa,geE (by omega),aa,bR _ (by omega),aa]
    refine hJ (d,i + 1,xs.set i s) ⟨by show i + 1 <= _; omega,by simpa using h2,e3,?_⟩ (by simp only; omega)
    simp only
    rw [fJ s (by omega),bX a hi,jL b i,<- hy,Nat.pow_succ]
    grind
   unfold jn
   simp only
   by_cases hj:i < b.length
   ·rw [if_pos hj,geE hj,aa]; exact key _ (by rw [geE hj]; rfl)
   ·rw [if_neg hj]; exact key _ (by rw [List.getElem?_eq_none (by omega)]; rfl)
  ·rw [if_neg hi]
   have:i = a.length:=by omega
   subst this
   refine ⟨_,I,h2,?_⟩
   simp only
   rw [h4,List.take_length,bv hb]
theorem oF (n:Nat) (a b:Lb Ua) (hn:a.length < n/\b.length < n) (hl:a.length < 4294967296/\b.length < 4294967296):∃ xs,cn_p n a b = some xs/\xs.length <= max a.length b.length + 1/\val xs = val a + val b:=by
 have key:∀ a b:Lb Ua,b.length <= a.length -> a.length < n -> a.length < 4294967296 -> ∃ xs,((mk ((a.length + 1:Nat):Int) (0:Ua)).bind fun xs17=>Option.bind (ao (cn_l1 n a b) n ((0:Ua),0,xs17)) (fun (xs157,u155)=>(xs157[a.length]?).bind fun x229=>(put xs157 ((a.length:Nat):Int) u155).bind fun xs241=>some xs241)) = some xs/\xs.length = a.length + 1/\val xs = val a + val b:=by
  intro a b hb h1 h2
  obtain ⟨xs,u,e1,e2,e3⟩:=mj n a b hb h1
  rw [ip _ _ (by omega),aa,e1,aa]
  simp only
  rw [geE (by omega),aa,bR _ (by omega),aa]
  refine ⟨_,rfl,by simpa using e2,?_⟩
  rw [<- e3]
  conv=>lhs; rw [<- bv (l:=xs.set a.length u) (i:=a.length + 1) (by simp [e2])]
  exact fJ u (by omega)
 unfold cn_p jn
 simp only
 by_cases h:a.length < b.length
 ·rw [if_pos h]
  obtain ⟨xs,e1,e2,e3⟩:=key b a (by omega) hn.2 hl.2
  exact ⟨xs,e1,by omega,by omega⟩
 ·rw [if_neg h]
  obtain ⟨xs,e1,e2,e3⟩:=key a b (by omega) hn.1 hl.1
  exact ⟨xs,e1,by omega,e3⟩
theorem lv (n:Nat) (a b:Lb Ua) (hb:b.length <= a.length) (hv:val b <= val a) (hn:a.length < n) (hl:a.length < 4294967296):∃ xs,bW_p n a b = some xs/\xs.length = a.length/\val xs = val a - val b:=by
 have h:=au (B:=bW_l1 n a b) (fun s:Ua × Nat × Lb Ua=>a.length - s.2.1) (fun s=>s.2.1 <= a.length/\s.2.2.length = a.length/\s.1.toNat <= 1/\val (s.2.2.take s.2.1) + val (b.take s.2.1) = val (a.take s.2.1) + 18446744073709551616 ^ s.2.1 * s.1.toNat)
  (fun r:Lb Ua=>r.length = a.length/\val r = val a - val b) ?_ n (0,0,List.replicate a.length 0) ⟨by simp,by simp,by simp,by simp [val]⟩ (by simpa using hn)
 ·obtain ⟨xs,h1,h2,h3⟩:=h
  refine ⟨xs,?_,h2,h3⟩
  unfold bW_p
  rw [ip _ _ (by omega),aa,h1,aa]
 ·rintro ⟨u,i,xs⟩ J ⟨h1,h2,h3,h4⟩ hJ
  simp only at h1 h2 h3 h4 hJ
  unfold bW_l1
  simp only
  by_cases hi:i < a.length
  ·rw [if_pos hi,geE hi,aa]
   have key:∀ y:Ua,y = b[i]?.getD 0 -> ∃ r,((sub64 a[i] y u).bind fun z184=>(xs[i]?).bind fun x185=>(put xs ((i:Nat):Int) z184.1).bind fun xs198=>J (z184.2,i + 1,xs198)) = some r/\r.length = a.length/\val r = val a - val b:=by
    intro y hy
    obtain ⟨s,d,e1,e2,e3⟩:=bM a[i] y u h3
    rw [e1,aa,geE (by omega),aa,bR _ (by omega),aa]
    refine hJ (d,i + 1,xs.set i s) ⟨by show i + 1 <= _; omega,by simpa using h2,e3,?_⟩ (by simp only; omega)
    simp only
    rw [fJ s (by omega),bX a hi,jL b i,<- hy,Nat.pow_succ]
    grind
   unfold jn
   simp only
   by_cases hj:i < b.length
   ·rw [if_pos hj,geE hj,aa]; exact key _ (by rw [geE hj]; rfl)
   ·rw [if_neg hj]; exact key _ (by rw [List.getElem?_eq_none (by omega)]; rfl)
  ·rw [if_neg hi]
   have:i = a.length:=by omega
   subst this
   rw [List.take_length,bv hb,bv (by omega)] at h4
   refine ⟨xs,I,h2,?_⟩
   have h5:=cR xs
   rw [h2] at h5
   by_cases hu:u.toNat = 0
   ·rw [hu] at h4; omega
   ·have:u.toNat = 1:=by omega
    rw [this] at h4; omega
theorem eB (a:Lb Ua) {i:Nat} (h:i < a.length):val a = val (a.take i) + 18446744073709551616 ^ i * a[i].toNat + 18446744073709551616 ^ (i + 1) * val (a.drop (i + 1)):=by
 conv=>lhs; rw [<- List.take_append_drop (i + 1) a,fx]
 rw [bX a h,List.length_take,Nat.min_eq_left (by omega)]
theorem oE {a b:Lb Ua} (hb:Nm b) (h:a.length < b.length):val a < val b:=by
 have h1:=cR a
 have h2:=kw hb (by intro e; rw [e] at h; simp at h)
 have h3:18446744073709551616 ^ a.length <= 18446744073709551616 ^ (b.length - 1):=Nat.pow_le_pow_right (by omega) (by omega)
 omega
theorem gD {a b:Lb Ua} {i:Nat} (ha:i < a.length) (hb:i < b.length) (hd:a.drop (i + 1) = b.drop (i + 1)) (h:a[i] < b[i]):val a < val b:=by
 rw [eB a ha,eB b hb,hd]
 have h1:=cR (a.take i)
 rw [List.length_take,Nat.min_eq_left (by omega)] at h1
 have h2:18446744073709551616 ^ i * (a[i].toNat + 1) <= 18446744073709551616 ^ i * b[i].toNat:=Nat.mul_le_mul_left _ (UInt64.lt_iff_toNat_lt.1 h)
 rw [Nat.mul_add] at h2
 omega
theorem gy (n:Nat) (a b:Lb Ua) (ha:Nm a) (hb:Nm b) (hn:a.length < n) (hl:a.length < 4294967296):∃ c,bN_p n a b = some c/\(c < 0 ↔ val a < val b)/\(c = 0 ↔ val a = val b):=by
 unfold bN_p
 by_cases h:a.length = b.length
 ·rw [if_pos h]
  have hh:=au (B:=bN_l1 n a b) (fun z:Int=>(z + 1).toNat) (fun z=>-1 <= z/\z < a.length/\a.drop (z + 1).toNat = b.drop (z + 1).toNat)
   (fun r=>(r = .inl (-1)/\val a < val b) ∨ (r = .inl 1/\val b < val a) ∨ (r = .inr ()/\a = b)) ?_ n ((a.length:Int) - 1) ⟨by omega,by omega,?_⟩ (by omega)
  ·obtain ⟨r,hr,h1 | h1 | h1⟩:=hh
   ·rw [hr,h1.1]; exact ⟨_,rfl,by have:=h1.2; omega,by have:=h1.2; omega⟩
   ·rw [hr,h1.1]; exact ⟨_,rfl,by have:=h1.2; omega,by have:=h1.2; omega⟩
   ·rw [hr,h1.1,h1.2]; exact ⟨_,rfl,by omega,by omega⟩
  ·intro z J ⟨h1,h2,h3⟩ hJ
   unfold bN_l1
   simp only
   by_cases h0:0 <= z
   ·have e1:(z + 1).toNat = z.toNat + 1:=by omega
    rw [e1] at h3
    rw [if_pos h0,bn h0 (by omega),aa,bn h0 (by omega),aa]
    split
    ·rename_i hlt; exact ⟨_,I,.inl ⟨I,gD (by omega) (by omega) h3 hlt⟩⟩
    ·rename_i h4
     split
     ·rename_i hlt; exact ⟨_,I,.inr (.inl ⟨I,gD (by omega) (by omega) h3.symm hlt⟩)⟩
     ·rename_i h5
      have he:a[z.toNat]'(by omega) = b[z.toNat]'(by omega):=UInt64.toNat_inj.1 (by rw [UInt64.lt_iff_toNat_lt] at h4 h5; omega)
      rw [aW (by omega) (by omega),aa]
      refine hJ (z - 1) ⟨by omega,by omega,?_⟩ (by omega)
      rw [show (z - 1 + 1).toNat = z.toNat by omega,List.drop_eq_getElem_cons (by omega),List.drop_eq_getElem_cons (l:=b) (by omega),h3,he]
   ·rw [if_neg h0]
    have e1:(z + 1).toNat = 0:=by omega
    rw [e1] at h3
    exact ⟨_,rfl,.inr (.inr ⟨rfl,by simpa using h3⟩)⟩
  ·rw [show ((a.length:Int) - 1 + 1).toNat = a.length by omega,List.drop_length,h,List.drop_length]
 ·rw [if_neg h]
  refine ⟨_,I,?_⟩
  by_cases h1:a.length < b.length
  ·have:=oE hb h1; omega
  ·have:=oE (a:=b) ha (by omega); omega
theorem lF (a:Ua):(shrU a 32).toNat = a.toNat / 4294967296:=by
 unfold shrU; rw [if_pos (by decide),UInt64.toNat_ofNat']
 have:=a.toNat_lt
 omega
theorem ou (a:Ua):(a &&& (4294967295:Ua)).toNat = a.toNat % 4294967296:=by
 rw [UInt64.toNat_and]; exact Nat.and_two_pow_sub_one_eq_mod a.toNat 32
theorem nJ (x1 x0 y1 y0:Nat) (h1:x1 < 4294967296) (h2:x0 < 4294967296) (h3:y1 < 4294967296) (h4:y0 < 4294967296) :
  ((x1 * y0 + x0 * y0 / 4294967296) < 18446744073709551616)/\((x1 * y0 + x0 * y0 / 4294967296) % 4294967296 + x0 * y1 < 18446744073709551616)/\
  x1 * y1 + (x1 * y0 + x0 * y0 / 4294967296) / 4294967296 + ((x1 * y0 + x0 * y0 / 4294967296) % 4294967296 + x0 * y1) / 4294967296 < 18446744073709551616/\
  (((x1 * 4294967296 + x0) * (y1 * 4294967296 + y0)) % 18446744073709551616) + 18446744073709551616 * (x1 * y1 + (x1 * y0 + x0 * y0 / 4294967296) / 4294967296 + ((x1 * y0 + x0 * y0 / 4294967296) % 4294967296 + x0 * y1) / 4294967296) = (x1 * 4294967296 + x0) * (y1 * 4294967296 + y0):=by
 have e:(x1 * 4294967296 + x0) * (y1 * 4294967296 + y0) = 18446744073709551616 * (x1 * y1) + 4294967296 * (x1 * y0 + x0 * y1) + x0 * y0:=by grind
 have b1:x1 * y1 <= 4294967295 * 4294967295:=Nat.mul_le_mul (by omega) (by omega)
 have b2:x1 * y0 <= 4294967295 * 4294967295:=Nat.mul_le_mul (by omega) (by omega)
 have b3:x0 * y1 <= 4294967295 * 4294967295:=Nat.mul_le_mul (by omega) (by omega)
 have b4:x0 * y0 <= 4294967295 * 4294967295:=Nat.mul_le_mul (by omega) (by omega)
 rw [e]
 generalize x1 * y1 = s at *
 generalize x1 * y0 = q at *
 generalize x0 * y1 = r at *
 generalize x0 * y0 = p at *
 clear e h1 h2 h3 h4
 refine ⟨by omega,by omega,by omega,by omega⟩
theorem pc (n:Nat) (x y:Ua):∃ hi lo,cM_p n x y = some (hi,lo)/\lo.toNat + 18446744073709551616 * hi.toNat = x.toNat * y.toNat:=by
 refine ⟨_,_,I,?_⟩
 have hx:=x.toNat_lt
 have hy:=y.toNat_lt
 have ex:x.toNat = x.toNat / 4294967296 * 4294967296 + x.toNat % 4294967296:=by omega
 have ey:y.toNat = y.toNat / 4294967296 * 4294967296 + y.toNat % 4294967296:=by omega
 obtain ⟨h1,h2,h3,h4⟩:=nJ (x.toNat / 4294967296) (x.toNat % 4294967296) (y.toNat / 4294967296) (y.toNat % 4294967296) (by omega) (by omega) (by omega) (by omega)
 rw [<- ex,<- ey] at h4
 have b1:x.toNat / 4294967296 * (y.toNat / 4294967296) < 18446744073709551616:=by omega
 have b2:x.toNat / 4294967296 * (y.toNat % 4294967296) < 18446744073709551616:=by omega
 have b3:x.toNat % 4294967296 * (y.toNat / 4294967296) < 18446744073709551616:=by omega
 have b4:x.toNat % 4294967296 * (y.toNat % 4294967296) < 18446744073709551616:=by
  have:x.toNat % 4294967296 * (y.toNat % 4294967296) <= 4294967295 * 4294967295:=Nat.mul_le_mul (by omega) (by omega)
  omega
 simp only [UInt64.toNat_add,UInt64.toNat_mul,lF,ou,show (2:Nat) ^ 64 = 18446744073709551616 from rfl]
 rw [Nat.mod_eq_of_lt b1,Nat.mod_eq_of_lt b2,Nat.mod_eq_of_lt b3,Nat.mod_eq_of_lt b4,Nat.mod_eq_of_lt h1,Nat.mod_eq_of_lt h2]
 rw [Nat.mod_eq_of_lt (a:=x.toNat / 4294967296 * (y.toNat / 4294967296) + _) (by omega),Nat.mod_eq_of_lt h3]
 exact h4
theorem mult_in (n:Nat) (b:Lb Ua) (x:Ua) (i:Nat) (xs0:Lb Ua) (hi:i + b.length < xs0.length) (hn:b.length < n) :
  ∃ xs u,ao (bf_l1 n b x i) n (0,0,xs0) = some (xs,u)/\xs.length = xs0.length/\val (xs.take (i + b.length)) + 18446744073709551616 ^ (i + b.length) * u.toNat = val (xs0.take (i + b.length)) + x.toNat * val b * 18446744073709551616 ^ i:=by
 have h:=au (B:=bf_l1 n b x i) (fun s:Ua × Nat × Lb Ua=>b.length - s.2.1) (fun s=>s.2.1 <= b.length/\s.2.2.length = xs0.length/\(∀ k,i + s.2.1 <= k -> s.2.2[k]? = xs0[k]?)/\val (s.2.2.take (i + s.2.1)) + 18446744073709551616 ^ (i + s.2.1) * s.1.toNat = val (xs0.take (i + s.2.1)) + x.toNat * val (b.take s.2.1) * 18446744073709551616 ^ i)
  (fun r:Lb Ua × Ua=>r.1.length = xs0.length/\val (r.1.take (i + b.length)) + 18446744073709551616 ^ (i + b.length) * r.2.toNat = val (xs0.take (i + b.length)) + x.toNat * val b * 18446744073709551616 ^ i) ?_ n (0,0,xs0) ⟨by simp,rfl,fun _ _=>rfl,by simp [val]⟩ (by simpa using hn)
 ·obtain ⟨⟨xs,u⟩,h1,h2,h3⟩:=h; exact ⟨xs,u,h1,h2,h3⟩
 ·rintro ⟨u,j,xs⟩ J ⟨h1,h2,h3,h4⟩ hJ
  simp only at h1 h2 h3 h4 hJ
  unfold bf_l1
  simp only
  by_cases hj:j < b.length
  ·obtain ⟨hi', lo,e1,e2⟩:=pc n x b[j]
   have hx0:xs[i + j]'(by omega) = xs0[i + j]'(by omega):=by
    have:=h3 (i + j) (by omega)
    rw [geE (by omega),geE (by omega)] at this
    exact Option.some.inj this
   rw [if_pos hj,geE hj,aa,e1,aa,geE (by omega),aa]
   obtain ⟨s,c,f1,f2,f3⟩:=im (xs[i + j]'(by omega)) lo 0 (by simp)
   obtain ⟨s', c', g1,g2,g3⟩:=im s u 0 (by simp)
   simp only [f1,aa,g1]
   rw [bR _ (by omega),aa]
   simp only [UInt64.toNat_zero,Nat.add_zero] at f2 g2
   have bx:x.toNat * b[j].toNat <= 18446744073709551615 * 18446744073709551615:=Nat.mul_le_mul (by have:=x.toNat_lt; omega) (by have:=b[j].toNat_lt; omega)
   have bo:=(xs[i + j]'(by omega)).toNat_lt
   have bu:=u.toNat_lt
   have e3:(hi' + c + c').toNat = hi'.toNat + c.toNat + c'.toNat:=by
    rw [UInt64.toNat_add,UInt64.toNat_add]; omega
   have e4:s'.toNat + 18446744073709551616 * (hi' + c + c').toNat = (xs[i + j]'(by omega)).toNat + x.toNat * b[j].toNat + u.toNat:=by rw [e3]; omega
   refine hJ (hi' + c + c', j + 1,xs.set (i + j) s') ⟨hj,by simpa using h2,fun k hk=>?_,?_⟩ (by simp only; omega)
   ·simp only at hk ⊢
    rw [List.getElem?_set_ne (by omega)]; exact h3 k (by omega)
   ·simp only
    rw [<- Nat.add_assoc,fJ s' (by omega),bX xs0 (by omega),bX b hj,<- hx0,Nat.pow_succ]
    rw [Nat.pow_add] at h4 ⊢
    grind
  ·rw [if_neg hj]
   have:j = b.length:=by omega
   subst this
   refine ⟨_,I,h2,?_⟩
   simp only
   rw [h4,List.take_length]
theorem jb (n:Nat) (a b:Lb Ua) (hn:a.length < n/\b.length < n) (hl:a.length + b.length <= 4294967296):∃ xs,bf_p n a b = some xs/\xs.length = a.length + b.length/\val xs = val a * val b:=by
 have h:=au (B:=bf_l2 n a b) (fun s:Nat × Lb Ua=>a.length - s.1) (fun s=>s.1 <= a.length/\s.2.length = a.length + b.length/\val (s.2.take (s.1 + b.length)) = val (a.take s.1) * val b)
  (fun r:Lb Ua=>r.length = a.length + b.length/\val r = val a * val b) ?_ n (0,List.replicate (a.length + b.length) 0) ⟨by simp,by simp,?_⟩ (by simpa using hn.1)
 ·obtain ⟨xs,h1,h2,h3⟩:=h
  refine ⟨xs,?_,h2,h3⟩
  unfold bf_p
  rw [ip _ _ hl,aa,h1,aa]
 ·rintro ⟨i,xs⟩ J ⟨h1,h2,h3⟩ hJ
  simp only at h1 h2 h3 hJ
  unfold bf_l2
  simp only
  by_cases hi:i < a.length
  ·obtain ⟨ys,u,e1,e2,e3⟩:=mult_in n b a[i] i xs (by omega) hn.2
   rw [if_pos hi,geE hi,aa,e1,aa]
   simp only
   rw [geE (by omega),aa,bR _ (by omega),aa]
   refine hJ (i + 1,ys.set (i + b.length) u) ⟨hi,by simp; omega,?_⟩ (by simp only; omega)
   simp only
   rw [show i + 1 + b.length = i + b.length + 1 by omega,fJ u (by omega),bX a hi,e3,h3]
   grind
  ·rw [if_neg hi]
   have:i = a.length:=by omega
   subst this
   rw [List.take_length,bv (by omega)] at h3
   exact ⟨xs,I,h2,h3⟩
 ·simp only [List.take_zero,val,Nat.zero_mul]
  exact cC _ fun x hx=>(List.mem_replicate.1 (List.mem_of_mem_take hx)).2
def L (z:Int):Tf:=⟨decide (z < 0),dg z.natAbs⟩
def Fit (l:Nat) (z:Int):Prop:=z.natAbs < 18446744073709551616 ^ l
theorem Fit.len {l:Nat} {z:Int} (h:Fit l z):(dg z.natAbs).length <= l:=lz h
def sg (s:Bool) (m:Nat):Int:=if s = true then -(m:Int) else m
theorem ow (s:Bool) (m:Nat):(⟨s && decide (0 < m),dg m⟩:Tf) = L (sg s m):=by
 unfold L sg
 cases s
 ·simp
 ·simp
theorem my (z:Int):z = sg (decide (z < 0)) z.natAbs:=by
 unfold sg; split <;> rename_i h <;> simp at h <;> omega
theorem mh (s:Bool) (m:Nat):(sg s m).natAbs = m:=by unfold sg; split <;> omega
theorem gp (n l:Nat) (z:Int) (h:Fit l z) (hn:l < n) (hl:l < 1000000):bE_p n (L z) = some (L (-z)):=by
 unfold bE_p
 have h1:=h.len
 rw [aP n _ _ (by show (dg z.natAbs).length < n; omega) (by show (dg z.natAbs).length <= _; omega),aa]
 show some (⟨!decide (z < 0) && decide (0 < val (dg z.natAbs)),dg (val (dg z.natAbs))⟩:Tf) = _
 rw [aJ,ow]
 refine congrArg (fun x=>some (L x)) ?_
 unfold sg
 by_cases hz:z < 0 <;> simp [hz] <;> omega
theorem bK (n l m:Nat) (a b:Int) (ha:Fit l a) (hb:Fit m b) (hn:l + m < n) (hl:l + m < 1000000):aN_p n (L a) (L b) = some (L (a * b)):=by
 unfold aN_p
 have h1:=ha.len
 have h2:=hb.len
 obtain ⟨xs,e1,e2,e3⟩:=jb n (L a).fk (L b).fk ⟨by show (dg a.natAbs).length < n; omega,by show (dg b.natAbs).length < n; omega⟩ (by show (dg a.natAbs).length + (dg b.natAbs).length <= _; omega)
 have e4:xs.length = (dg a.natAbs).length + (dg b.natAbs).length:=e2
 rw [e1,aa,aP n _ _ (by omega) (by omega),aa,e3]
 show some (⟨!(decide (a < 0) == decide (b < 0)) && decide (0 < val (dg a.natAbs) * val (dg b.natAbs)),dg (val (dg a.natAbs) * val (dg b.natAbs))⟩:Tf) = _
 rw [aJ,aJ,ow]
 refine congrArg (fun x=>some (L x)) ?_
 conv=>rhs; rw [my a,my b]
 unfold sg
 by_cases h3:a < 0 <;> by_cases h4:b < 0 <;> simp [h3,h4,Int.neg_mul,Int.mul_neg]
theorem gF {a b:Nat} (h:a <= b):(dg a).length <= (dg b).length:=lz (Nat.lt_of_le_of_lt h (by have:=cR (dg b); rwa [aJ] at this))
theorem mM (n l a b:Nat) (s:Bool) (h:a <= b) (hl:(dg b).length <= l) (hn:l < n) (hl2:l < 1000000):((bW_p n (dg b) (dg a)).bind fun y67=>(aA_p n s y67).bind fun y75=>some y75) = some (L (sg s (b - a))):=by
 obtain ⟨xs,e1,e2,e3⟩:=lv n (dg b) (dg a) (gF h) (by rw [aJ,aJ]; exact h) (by omega) (by omega)
 rw [e1,aa,aP n _ _ (by omega) (by omega),aa,e3,aJ,aJ,ow]
theorem gN (n l:Nat) (a b:Int) (ha:Fit l a) (hb:Fit l b) (hn:l + 1 < n) (hl:l < 1000000):bM_p n (L a) (L b) = some (L (a + b)):=by
 unfold bM_p
 have h1:=ha.len
 have h2:=hb.len
 by_cases h:((L a).fc == (L b).fc) = true
 ·rw [if_pos h]
  obtain ⟨xs,e1,e2,e3⟩:=oF n (L a).fk (L b).fk ⟨by show (dg a.natAbs).length < n; omega,by show (dg b.natAbs).length < n; omega⟩ ⟨by show (dg a.natAbs).length < _; omega,by show (dg b.natAbs).length < _; omega⟩
  have e4:xs.length <= max (dg a.natAbs).length (dg b.natAbs).length + 1:=e2
  rw [e1,aa,aP n _ _ (by omega) (by omega),aa,e3]
  show some (⟨decide (a < 0) && decide (0 < val (dg a.natAbs) + val (dg b.natAbs)),dg (val (dg a.natAbs) + val (dg b.natAbs))⟩:Tf) = _
  rw [aJ,aJ,ow]
  refine congrArg (fun x=>some (L x)) ?_
  have h3:decide (a < 0) = decide (b < 0):=eq_of_beq h
  unfold sg
  by_cases h4:a < 0 <;> by_cases h5:b < 0 <;> simp [h4,h5] at h3 ⊢ <;> omega
 ·rw [if_neg h]
  obtain ⟨c,e1,e2,e3⟩:=gy n (L a).fk (L b).fk (ij _) (ij _) (by show (dg a.natAbs).length < n; omega) (by show (dg a.natAbs).length < _; omega)
  have h3:decide (a < 0) ≠ decide (b < 0):=fun e=>h (by rw [beq_iff_eq]; exact e)
  rw [e1,aa]
  unfold jn
  simp only
  have e4:c < 0 ↔ a.natAbs < b.natAbs:=by rw [e2]; show val (dg a.natAbs) < val (dg b.natAbs) ↔ _; rw [aJ,aJ]
  by_cases hc:c < 0
  ·rw [if_pos hc]
   show ((bW_p n (dg b.natAbs) (dg a.natAbs)).bind fun y67=>(aA_p n (decide (b < 0)) y67).bind fun y75=>some y75) = _
   rw [mM n l _ _ _ (by omega) h2 (by omega) hl]
   refine congrArg (fun x=>some (L x)) ?_
   unfold sg
   by_cases h4:a < 0 <;> by_cases h5:b < 0 <;> simp [h4,h5] at h3 ⊢ <;> omega
  ·rw [if_neg hc]
   show ((bW_p n (dg a.natAbs) (dg b.natAbs)).bind fun y67=>(aA_p n (decide (a < 0)) y67).bind fun y75=>some y75) = _
   rw [mM n l _ _ _ (by omega) h1 (by omega) hl]
   refine congrArg (fun x=>some (L x)) ?_
   unfold sg
   by_cases h4:a < 0 <;> by_cases h5:b < 0 <;> simp [h4,h5] at h3 ⊢ <;> omega
theorem Fit.neg {l:Nat} {z:Int} (h:Fit l z):Fit l (-z):=by unfold Fit at *; rwa [Int.natAbs_neg]
theorem fT (n l:Nat) (a b:Int) (ha:Fit l a) (hb:Fit l b) (hn:l + 1 < n) (hl:l < 1000000):cG_p n (L a) (L b) = some (L (a - b)):=by
 unfold cG_p
 rw [gp n l b hb (by omega) hl,aa,gN n l a (-b) ha hb.neg hn hl,aa,Int.sub_eq_add_neg]
theorem dH (n:Nat) (a:Int):aY_p n (L a) = some a.sign:=by
 unfold aY_p
 by_cases h:a < 0
 ·rw [if_pos (by simpa [L] using h),Int.sign_eq_neg_one_of_neg h]
 ·rw [if_neg (by simpa [L] using h)]
  by_cases h0:a = 0
  ·subst h0; rw [if_pos (by simp [L,dg0])]; rfl
  ·rw [if_neg,Int.sign_eq_one_of_pos (by omega)]
   show ¬ (dg a.natAbs).length = 0
   rw [ju (by omega)]; simp
theorem dg1 {m:Nat} (h0:m ≠ 0) (h:m < 18446744073709551616):dg m = [UInt64.ofNat m]:=by
 rw [ju h0,show m / 18446744073709551616 = 0 by omega,dg0]
theorem kU {m:Nat} (h:m < 18446744073709551616):(UInt64.ofNat m).toNat = m:=by rw [UInt64.toNat_ofNat']; exact Nat.mod_eq_of_lt h
theorem jI {a b q r:Int} (h:a = b * q + r) (h0:0 <= r) (h1:r < b.natAbs):a / b = q/\a % b = r:=by
 by_cases hb:0 < b
 ·exact (Int.ediv_emod_unique hb).2 ⟨by rw [h]; omega,h0,by omega⟩
 ·have hb2:0 < -b:=by omega
  have h3:a = (-b) * (-q) + r:=by rw [h,Int.neg_mul_neg]
  obtain ⟨e1,e2⟩:=(Int.ediv_emod_unique (a:=a) (r:=r) (q:=-q) hb2).2 ⟨by rw [h3]; omega,h0,by omega⟩
  rw [Int.ediv_neg] at e1
  rw [Int.emod_neg] at e2
  exact ⟨by omega,e2⟩
def W1 (z:Int):Prop:=z.natAbs < 18446744073709551616
def W8 (z:Int):Ua × Ua × Ua × Ua × Ua × Ua × Ua × Ua:=
 if z < 0 then (ac z,18446744073709551615,18446744073709551615,18446744073709551615,18446744073709551615,18446744073709551615,18446744073709551615,18446744073709551615) else (ac z,0,0,0,0,0,0,0)
def Sm (z:Int):Prop:=z.natAbs < 9223372036854775808
theorem Sm.w {z:Int} (h:Sm z):W1 z:=by unfold Sm W1 at *; omega
theorem mx {z:Int} (h:Sm z) (h0:z < 0):(ac z).toNat = 18446744073709551616 - z.natAbs:=by
 unfold ac Sm at *; rw [UInt64.toNat_ofNat']; omega
theorem mw {z:Int} (h:Sm z) (h0:¬ z < 0):ac z = UInt64.ofNat z.natAbs:=by
 unfold ac Sm at *; congr 1; omega
theorem of_ok (n:Nat) (z:Int) (hn:10 < n):cU_p n z = some (W8 z):=by
 obtain ⟨k,rfl⟩:∃ k,n = k + 9:=⟨n - 9,by omega⟩
 unfold cU_p W8
 by_cases h:z < 0
 ·rw [if_pos h,if_pos h]
  simp [iM,cU_l1,ax]
 ·rw [if_neg h,if_neg h]
theorem sub_m1:sub64 0 18446744073709551615 1 = some (0,1):=rfl
theorem read_ok (n:Nat) (z:Int) (h:Sm z):cW_p n (W8 z) = some ⟨decide (z < 0),(UInt64.ofNat z.natAbs,0,0,0,0,0,0,0)⟩:=by
 unfold cW_p W8
 by_cases h0:z < 0
 ·rw [if_pos h0]
  have e:sub64 0 (ac z) 0 = some (UInt64.ofNat z.natAbs,1):=by
   unfold sub64
   rw [if_pos (by decide),mx h h0]
   unfold Sm at h
   rw [if_pos (by simp; omega)]
   congr 2
   simp; congr 1; omega
  rw [if_pos (show shrU 18446744073709551615 63 = 1 from I)]
  unfold bK_p
  simp only [e,aa,sub_m1]
  simp [h0]; rfl
 ·rw [if_neg h0]
  rw [if_neg (show ¬ shrU 0 63 = 1 from by decide),mw h h0]
  simp [h0]; decide
theorem nW (n:Nat) (z:Int) (h:Sm z) (hn:10 < n):bO_p n (W8 z) = some (L z):=by
 unfold bO_p
 rw [read_ok n z h,aa]
 simp only
 rw [show app ([]:Lb Ua) [UInt64.ofNat z.natAbs,0,0,0,0,0,0,0] = some [UInt64.ofNat z.natAbs,0,0,0,0,0,0,0] from rfl,aa,aP n _ _ (by simpa using by omega) (by simp),aa]
 have e:val [UInt64.ofNat z.natAbs,0,0,0,0,0,0,0] = z.natAbs:=by
  have:=h.w; unfold W1 at this
  simp only [val,kU this]; simp
 rw [e]
 unfold L
 by_cases h0:z < 0
 ·simp [h0]; omega
 ·simp [h0]
theorem gQ (n:Nat) (z:Int) (h:Sm z) (hn:10 < n):cQ_p n z = some (L z):=by
 unfold cQ_p; rw [of_ok n z hn,aa,nW n z h hn,aa]
def Rt (q:Rat):Td:=⟨L q.num,L q.den⟩
theorem kc {x y:Int} (hy:0 < y) (hc:x.natAbs.Coprime y.natAbs):(Rat.divInt x y).num = x/\((Rat.divInt x y).den:Int) = y:=by
 have e:Rat.divInt x y = { num:=x,den:=y.natAbs,den_nz:=by omega,reduced:=hc }:=by
  rw [Rat.mk_eq_divInt]; congr 1; omega
 rw [e]; exact ⟨rfl,by simp only; omega⟩
theorem eA {x y:Int} (h:y ≠ 0):cK x y = some (x.tmod y):=if_neg h
theorem bp {α:Type} (xs ys:Lb α) (h:xs.length + ys.length <= 1000000):app xs ys = some (xs ++ ys):=if_pos (Nat.le_trans h (by decide))
def dv:Lb Int -> Nat
 | []=>0
 | x :: xs=>x.toNat + 4294967296 * dv xs
def Dig (xs:Lb Int):Prop:=∀ x ∈ xs,0 <= x/\x < 4294967296
theorem fE:Dig []:=fun x hx=>by cases hx
theorem iq (xs ys:Lb Int):dv (xs ++ ys) = dv xs + 4294967296 ^ xs.length * dv ys:=by
 induction xs with
 | nil=>simp [dv]
 | cons x xs ih=>simp only [List.cons_append,dv,ih,leC,Nat.pow_succ]; grind
theorem Dig.tl {x:Int} {xs:Lb Int} (h:Dig (x :: xs)):Dig xs:=fun y hy=>h y (List.mem_cons_of_mem _ hy)
theorem dj:∀ {xs:Lb Int},Dig xs -> dv xs < 4294967296 ^ xs.length
 | [],_=>by simp [dv]
 | x :: xs,h=>by
  have h1:=h x (List.mem_cons_self ..)
  have h2:4294967296 * (dv xs + 1) <= 4294967296 * 4294967296 ^ xs.length:=Nat.mul_le_mul_left _ (dj h.tl)
  simp only [dv,leC,Nat.pow_succ]
  rw [Nat.mul_comm (_ ^ _)]
  omega
theorem bT (a:Lb Int) {i:Nat} (h:i < a.length):dv (a.take (i + 1)) = dv (a.take i) + 4294967296 ^ i * a[i].toNat:=by
 rw [<- List.take_append_getElem h,iq,List.length_take,Nat.min_eq_left (Nat.le_of_lt h)]
 simp [dv]
theorem fC (b:Lb Int) (i:Nat):dv (b.take (i + 1)) = dv (b.take i) + 4294967296 ^ i * (b[i]?.getD 0).toNat:=by
 by_cases h:i < b.length
 ·rw [bT b h,geE h]; rfl
 ·rw [bv (by omega),bv (by omega),List.getElem?_eq_none (by omega)]; simp
theorem iy (a:Lb Int) {i:Nat} (h:i < a.length):dv a = dv (a.take i) + 4294967296 ^ i * a[i].toNat + 4294967296 ^ (i + 1) * dv (a.drop (i + 1)):=by
 conv=>lhs; rw [<- List.take_append_drop (i + 1) a,iq]
 rw [bT a h,List.length_take,Nat.min_eq_left (by omega)]
theorem mm:∀ {xs:Lb Int} {j:Nat} (v:Int) (h:j < xs.length),dv (xs.set j v) + 4294967296 ^ j * xs[j].toNat = dv xs + 4294967296 ^ j * v.toNat
 | x :: xs,0,v,_=>by simp only [List.set_cons_zero,dv,List.getElem_cons_zero,Nat.pow_zero]; omega
 | x :: xs,j + 1,v,h=>by
  have:=mm (xs:=xs) (j:=j) v (by simpa using h)
  simp only [List.set_cons_succ,dv,List.getElem_cons_succ,Nat.pow_succ]
  grind
theorem fK:∀ (xs:Lb Int),(∀ x ∈ xs,x = 0) -> dv xs = 0
 | [],_=>rfl
 | x :: xs,h=>by
  have h1:=h x (List.mem_cons_self ..)
  have h2:=fK xs fun y hy=>h y (List.mem_cons_of_mem _ hy)
  subst h1; simp [dv,h2]
def rd (m:Nat):Lb Int:=if m = 0 then [] else ((m % 4294967296:Nat):Int) :: rd (m / 4294967296)
termination_by m
decreasing_by exact Nat.div_lt_self (by omega) (by omega)
theorem rd0:rd 0 = []:=by unfold rd; simp
theorem jr {m:Nat} (h:m ≠ 0):rd m = ((m % 4294967296:Nat):Int) :: rd (m / 4294967296):=by rw [rd]; rw [if_neg h]
theorem aK (m:Nat):dv (rd m) = m:=by
 induction m using Nat.strongRecOn with
 | _ m ih=>
  by_cases h:m = 0
  ·subst h; rw [rd0]; rfl
  ·rw [jr h]; simp only [dv]
   rw [ih _ (Nat.div_lt_self (by omega) (by omega)),Int.toNat_natCast]
   exact Nat.mod_add_div m 4294967296
theorem aG (m:Nat):Dig (rd m):=by
 induction m using Nat.strongRecOn with
 | _ m ih=>
  by_cases h:m = 0
  ·subst h; rw [rd0]; intro x hx; cases hx
  ·rw [jr h]
   intro x hx
   rcases List.mem_cons.1 hx with rfl | hx
   ·omega
   ·exact ih _ (Nat.div_lt_self (by omega) (by omega)) x hx
def Nr (xs:Lb Int):Prop:=∀ x,xs.getLast? = some x -> x ≠ 0
theorem Nr.tail {x y:Int} {xs:Lb Int} (h:Nr (x :: y :: xs)):Nr (y :: xs):=fun z hz=>h z (by rw [List.getLast?_cons_cons]; exact hz)
theorem kS:∀ {xs:Lb Int},Dig xs -> Nr xs -> xs ≠ [] -> 4294967296 ^ (xs.length - 1) <= dv xs
 | [],_,_,h=>absurd I h
 | [x],hd,h,_=>by
  have h1:=h x I
  have h2:=hd x (List.mem_cons_self ..)
  simp only [dv,leC,leN]
  show 4294967296 ^ 0 <= _
  rw [Nat.pow_zero]; omega
 | x :: y :: xs,hd,h,_=>by
  have h1:=kS hd.tl h.tail (by simp)
  have h2:4294967296 * 4294967296 ^ xs.length <= 4294967296 * dv (y :: xs):=Nat.mul_le_mul_left _ (by simpa using h1)
  show 4294967296 ^ (xs.length + 1) <= x.toNat + 4294967296 * dv (y :: xs)
  rw [Nat.pow_succ,Nat.mul_comm]; omega
theorem dv_pos {xs:Lb Int} (hd:Dig xs) (h:Nr xs) (h0:xs ≠ []):0 < dv xs:=by
 have:=kS hd h h0
 have h2:0 < 4294967296 ^ (xs.length - 1):=Nat.pow_pos (by decide)
 omega
theorem pB:∀ {xs:Lb Int},Dig xs -> Nr xs -> rd (dv xs) = xs
 | [],_,_=>rd0
 | x :: xs,hd,h=>by
  have hp:=dv_pos hd h (by simp)
  have hx:=hd x (List.mem_cons_self ..)
  rw [jr (by omega)]
  have h1:((dv (x :: xs) % 4294967296:Nat):Int) = x:=by simp only [dv]; omega
  have h2:dv (x :: xs) / 4294967296 = dv xs:=by simp only [dv]; omega
  have h3:Nr xs:=by
   cases xs with
   | nil=>intro z hz; simp at hz
   | cons y ys=>exact h.tail
  rw [h1,h2,pB hd.tl h3]
theorem gB (m:Nat):Nr (rd m):=by
 induction m using Nat.strongRecOn with
 | _ m ih=>
  intro x hx
  by_cases h:m = 0
  ·subst h; rw [rd0] at hx; cases hx
  ·rw [jr h] at hx
   by_cases h2:m / 4294967296 = 0
   ·rw [h2,rd0] at hx
    simp at hx
    omega
   ·have h3:=ih (m / 4294967296) (Nat.div_lt_self (by omega) (by omega))
    rw [jr h2] at hx h3
    rw [List.getLast?_cons_cons] at hx
    exact h3 x hx
theorem cS {m l:Nat} (h:m < 4294967296 ^ l):(rd m).length <= l:=by
 by_cases h0:rd m = []
 ·rw [h0]; simp
 ·have h1:=kS (aG m) (gB m) h0
  rw [aK] at h1
  have h2:=Nat.lt_of_le_of_lt h1 h
  have h3:=(Nat.pow_lt_pow_iff_right (by omega)).1 h2
  omega
theorem lA {m:Nat}:rd m = [] ↔ m = 0:=⟨fun h=>by have:=aK m; rw [h] at this; exact this.symm,fun h=>by rw [h]; exact rd0⟩
theorem dB {a b:Nat} (h:a <= b):(rd a).length <= (rd b).length:=cS (Nat.lt_of_le_of_lt h (by have:=dj (aG b); rwa [aK] at this))
theorem eC (n:Nat) (ws:Lb Int) (hd:Dig ws) (hn:ws.length < n) (hl:ws.length <= 1000000):aB_p n ws = some (rd (dv ws)):=by
 have h:=au (B:=aB_l1 n ws) (fun z:Int=>z.toNat) (fun z=>0 <= z/\z <= ws.length/\∀ i:Nat,z.toNat <= i -> ∀ h:i < ws.length,ws[i] = 0)
  (fun z=>∃ k:Nat,z = k/\k <= ws.length/\(∀ i:Nat,k <= i -> ∀ h:i < ws.length,ws[i] = 0)/\∀ h:0 < k,∀ h2:k - 1 < ws.length,ws[k - 1] ≠ 0) ?_ n (ws.length:Int) ⟨by omega,by omega,fun i h1 h2=>by omega⟩ (by simpa using hn)
 ·obtain ⟨z,hz,k,rfl,hk,hz0,hz1⟩:=h
  have e:dv ws = dv (ws.take k):=by
   conv=>lhs; rw [<- List.take_append_drop k ws,iq]
   rw [fK (ws.drop k) fun x hx=>?_]
   ·simp
   ·obtain ⟨i,hi,rfl⟩:=List.getElem_of_mem hx
    rw [List.getElem_drop]
    exact hz0 _ (by omega) _
  have hnm:Nr (ws.take k):=by
   intro x hx
   rw [List.getLast?_eq_getElem?,List.length_take,Nat.min_eq_left hk] at hx
   obtain ⟨h1,rfl⟩:=List.getElem?_eq_some_iff.1 hx
   have h2:k - 1 < ws.length:=by rw [List.length_take] at h1; omega
   by_cases h0:0 < k
   ·rw [List.getElem_take]; exact hz1 h0 h2
   ·rw [List.length_take] at h1; omega
  have e2:rd (dv ws) = ws.take k:=by rw [e]; exact pB (fun x hx=>hd x (List.mem_of_mem_take hx)) hnm
  unfold aB_p jn
  simp only [hz,aa,lK hk,e2]
 ·intro z J ⟨h1,h2,h3⟩ hJ
  unfold aB_l1
  simp only
  by_cases h0:0 < z
  ·rw [if_pos h0,aW (by omega) (by omega),aa,bn (by omega) (by omega),aa]
   split
   ·rename_i hx
    rw [aa]
    refine hJ (z - 1) ⟨by omega,by omega,fun i h4 h5=>?_⟩ (by omega)
    by_cases h6:i = (z - 1).toNat
    ·subst h6; exact hx
    ·exact h3 i (by omega) h5
   ·rename_i hx
    refine ⟨z,I,z.toNat,by omega,by omega,h3,fun h4 h5=>?_⟩
    have:(z - 1).toNat = z.toNat - 1:=by omega
    simp only [this] at hx
    exact hx
  ·rw [if_neg h0]
   exact ⟨z,I,0,by omega,by omega,fun i h4 h5=>h3 i (by omega) h5,fun h4=>by omega⟩
theorem mp {a b:Lb Int} (ha:Dig a) (hbd:Dig b) (hb:Nr b) (h:a.length < b.length):dv a < dv b:=by
 have h1:=dj ha
 have h2:=kS hbd hb (by intro e; rw [e] at h; simp at h)
 have h3:4294967296 ^ a.length <= 4294967296 ^ (b.length - 1):=Nat.pow_le_pow_right (by omega) (by omega)
 omega
theorem lj {a b:Lb Int} {i:Nat} (hda:Dig a) (hdb:Dig b) (ha:i < a.length) (hb:i < b.length) (hd:a.drop (i + 1) = b.drop (i + 1)) (h:a[i] < b[i]):dv a < dv b:=by
 rw [iy a ha,iy b hb,hd]
 have h1:=dj (xs:=a.take i) fun x hx=>hda x (List.mem_of_mem_take hx)
 rw [List.length_take,Nat.min_eq_left (by omega)] at h1
 have h3:=hda a[i] (List.getElem_mem _)
 have h4:=hdb b[i] (List.getElem_mem _)
 have h2:4294967296 ^ i * (a[i].toNat + 1) <= 4294967296 ^ i * b[i].toNat:=Nat.mul_le_mul_left _ (by omega)
 rw [Nat.mul_add] at h2
 omega
theorem il (n:Nat) (a b:Lb Int) (hda:Dig a) (hdb:Dig b) (ha:Nr a) (hb:Nr b) (hn:a.length < n) (hl:a.length < 1000000):∃ c,aR_p n a b = some c/\(c < 0 ↔ dv a < dv b)/\(c = 0 ↔ dv a = dv b):=by
 unfold aR_p
 by_cases h:a.length = b.length
 ·rw [if_pos h]
  have hh:=au (B:=aR_l1 n a b) (fun z:Int=>(z + 1).toNat) (fun z=>-1 <= z/\z < a.length/\a.drop (z + 1).toNat = b.drop (z + 1).toNat)
   (fun r=>(∃ c,r = .inl c/\(c < 0/\dv a < dv b ∨ 0 < c/\dv b < dv a)) ∨ (r = .inr ()/\a = b)) ?_ n ((a.length:Int) - 1) ⟨by omega,by omega,?_⟩ (by omega)
  ·obtain ⟨r,hr,⟨c,h1,h2⟩ | h1⟩:=hh
   ·rw [hr,h1]; exact ⟨_,rfl,by omega,by omega⟩
   ·rw [hr,h1.1,h1.2]; exact ⟨_,rfl,by omega,by omega⟩
  ·intro z J ⟨h1,h2,h3⟩ hJ
   unfold aR_l1
   simp only
   by_cases h0:0 <= z
   ·have e1:(z + 1).toNat = z.toNat + 1:=by omega
    rw [e1] at h3
    have d1:=hda (a[z.toNat]'(by omega)) (List.getElem_mem _)
    have d2:=hdb (b[z.toNat]'(by omega)) (List.getElem_mem _)
    rw [if_pos h0,bn h0 (by omega),aa,bn h0 (by omega),aa]
    split
    ·rename_i he
     rw [aW (by omega) (by omega),aa]
     refine hJ (z - 1) ⟨by omega,by omega,?_⟩ (by omega)
     rw [show (z - 1 + 1).toNat = z.toNat by omega,List.drop_eq_getElem_cons (by omega),List.drop_eq_getElem_cons (l:=b) (by omega),h3,he]
    ·rename_i hne
     rw [aW (by omega) (by omega),aa]
     by_cases hlt:a[z.toNat]'(by omega) < b[z.toNat]'(by omega)
     ·exact ⟨_,I,.inl ⟨_,I,.inl ⟨by omega,lj hda hdb (by omega) (by omega) h3 hlt⟩⟩⟩
     ·exact ⟨_,I,.inl ⟨_,I,.inr ⟨by omega,lj hdb hda (by omega) (by omega) h3.symm (by omega)⟩⟩⟩
   ·rw [if_neg h0]
    have e1:(z + 1).toNat = 0:=by omega
    rw [e1] at h3
    exact ⟨_,rfl,.inr ⟨rfl,by simpa using h3⟩⟩
  ·rw [show ((a.length:Int) - 1 + 1).toNat = a.length by omega,List.drop_length,h,List.drop_length]
 ·rw [if_neg h]
  refine ⟨_,I,?_⟩
  by_cases h1:a.length < b.length
  ·have:=mp hda hdb hb h1; omega
  ·have:=mp (a:=b) hdb hda ha (by omega); omega
theorem dM {xs:Lb Int} {x:Int} (h:Dig xs) (hx:0 <= x/\x < 4294967296):Dig (xs ++ [x]):=fun y hy=>(List.mem_append.1 hy).elim (h y) fun e=>by rw [List.mem_singleton.1 e]; exact hx
theorem eX (xs:Lb Int) (x:Int):dv (xs ++ [x]) = dv xs + 4294967296 ^ xs.length * x.toNat:=by rw [iq]; simp [dv]
theorem gR (n:Nat) (a b:Lb Int) (hda:Dig a) (hdb:Dig b) (hb:b.length <= a.length) (hv:dv b <= dv a) (hn:a.length < n) (hl:a.length < 100000):aq_p n a b = some (rd (dv a - dv b)):=by
 have h:=au (B:=aq_l1 n a b) (fun s:Nat × Nat × Lb Int=>a.length - s.2.1) (fun s=>s.2.1 <= a.length/\s.2.2.length = s.2.1/\s.1 <= 1/\Dig s.2.2/\dv s.2.2 + dv (b.take s.2.1) = dv (a.take s.2.1) + 4294967296 ^ s.2.1 * s.1)
  (fun r:Lb Int=>r.length = a.length/\Dig r/\dv r = dv a - dv b) ?_ n (0,0,[]) ⟨by simp,by simp,by simp,fE,by simp [dv]⟩ (by simpa using hn)
 ·obtain ⟨xs,h1,h2,h3,h4⟩:=h
  unfold aq_p
  rw [h1,aa,eC n xs h3 (by omega) (by omega),aa,h4]
 ·rintro ⟨u,i,xs⟩ J ⟨h1,h2,h3,h4,h5⟩ hJ
  simp only at h1 h2 h3 h4 h5 hJ
  unfold aq_l1
  simp only
  by_cases hi:i < a.length
  ·have da:=hda a[i] (List.getElem_mem _)
   rw [if_pos hi,geE hi,aa,aW (by omega) (by omega),aa]
   have key:∀ y:Int,0 <= y -> y < 4294967296 -> y.toNat = (b[i]?.getD 0).toNat -> ∃ r,(if a[i] - (u:Int) - y < 0 then (chk (a[i] - (u:Int) - y + 4294967296)).bind fun s245=>(app xs ([s245]:Lb Int)).bind fun xs230=>J (1,i + 1,xs230) else (app xs ([a[i] - (u:Int) - y]:Lb Int)).bind fun xs230=>J (0,i + 1,xs230)) = some r/\r.length = a.length/\Dig r/\dv r = dv a - dv b:=by
    intro y y0 y1 hy
    split
    ·rename_i hneg
     rw [aW (by omega) (by omega),aa,bp _ _ (by simp only [leC,leN]; omega),aa]
     have e:dv (xs ++ [a[i] - (u:Int) - y + 4294967296]) + dv (b.take (i + 1)) = dv (a.take (i + 1)) + 4294967296 ^ (i + 1) * 1:=by
      rw [eX,h2,bT a hi,fC b i,<- hy,Nat.pow_succ]
      have e1:(a[i] - (u:Int) - y + 4294967296).toNat + u + y.toNat = a[i].toNat + 4294967296:=by omega
      have e2:=congrArg (4294967296 ^ i * ·) e1
      simp only [Nat.mul_add] at e2
      omega
     refine hJ (1,i + 1,_) ⟨hi,by simp only [List.length_append,leC,leN]; omega,by simp,dM h4 (by omega),by simpa using e⟩ (by simp only; omega)
    ·rename_i hneg
     rw [bp _ _ (by simp only [leC,leN]; omega),aa]
     have e:dv (xs ++ [a[i] - (u:Int) - y]) + dv (b.take (i + 1)) = dv (a.take (i + 1)) + 4294967296 ^ (i + 1) * 0:=by
      rw [eX,h2,bT a hi,fC b i,<- hy,Nat.mul_zero]
      have e1:(a[i] - (u:Int) - y).toNat + u + y.toNat = a[i].toNat:=by omega
      have e2:=congrArg (4294967296 ^ i * ·) e1
      simp only [Nat.mul_add] at e2
      omega
     refine hJ (0,i + 1,_) ⟨hi,by simp only [List.length_append,leC,leN]; omega,by simp,dM h4 (by omega),by simpa using e⟩ (by simp only; omega)
   unfold jn
   simp only
   by_cases hj:i < b.length
   ·have db:=hdb b[i] (List.getElem_mem _)
    rw [if_pos hj,geE hj,aa,aW (by omega) (by omega),aa]
    exact key b[i] db.1 db.2 (by rw [geE hj]; rfl)
   ·rw [if_neg hj]
    have:=key 0 (by decide) (by decide) (by rw [List.getElem?_eq_none (by omega)]; rfl)
    rwa [Int.sub_zero] at this
  ·rw [if_neg hi]
   have:i = a.length:=by omega
   subst this
   rw [List.take_length,bv hb] at h5
   refine ⟨xs,I,h2,h4,?_⟩
   have h6:=dj h4
   rw [h2] at h6
   by_cases hu:u = 0
   ·rw [hu] at h5; omega
   ·have:u = 1:=by omega
    rw [this] at h5; omega
theorem nN (n:Nat) (a:Lb Int) (bit:Int) (hda:Dig a) (h0:0 <= bit/\bit <= 1) (hn:a.length + 1 < n) (hl:a.length < 100000):bv_p n a bit = some (rd (2 * dv a + bit.toNat)):=by
 have h:=au (B:=bv_l1 n a) (fun s:Int × Nat × Lb Int=>a.length - s.2.1) (fun s=>s.2.1 <= a.length/\s.2.2.length = s.2.1/\(0 <= s.1/\s.1 <= 1)/\Dig s.2.2/\dv s.2.2 + 4294967296 ^ s.2.1 * s.1.toNat = 2 * dv (a.take s.2.1) + bit.toNat)
  (fun r:Lb Int × Int=>r.1.length = a.length/\Dig r.1/\(0 <= r.2/\r.2 <= 1)/\dv r.1 + 4294967296 ^ a.length * r.2.toNat = 2 * dv a + bit.toNat) ?_ n (bit,0,[]) ⟨by simp,by simp,h0,fE,by simp [dv]⟩ (by simp only; omega)
 ·obtain ⟨⟨xs,c⟩,h1,h2,h3,h4,h5⟩:=h
  simp only at h2 h3 h4 h5
  unfold bv_p
  rw [h1,aa]
  simp only
  rw [bp _ _ (by simp only [leC,leN]; omega),aa,eC n _ (dM h3 (by omega)) (by simp only [List.length_append,leC,leN]; omega) (by simp only [List.length_append,leC,leN]; omega),aa,eX,h2,h5]
 ·rintro ⟨c,i,xs⟩ J ⟨h1,h2,h3,h4,h5⟩ hJ
  simp only at h1 h2 h3 h4 h5 hJ
  unfold bv_l1
  simp only
  by_cases hi:i < a.length
  ·have da:=hda a[i] (List.getElem_mem _)
   have q0:Int.tdiv (2 * a[i] + c) 4294967296 = (2 * a[i] + c) / 4294967296:=Int.tdiv_eq_ediv_of_nonneg (by omega)
   have m0:Int.tmod (2 * a[i] + c) 4294967296 = (2 * a[i] + c) % 4294967296:=Int.tmod_eq_emod_of_nonneg (by omega)
   rw [if_pos hi,geE hi,aa,aW (by omega) (by omega),aa,aW (by omega) (by omega),aa,eA (by decide),aa,m0,bp _ _ (by simp only [leC,leN]; omega),aa]
   unfold dZ
   rw [if_neg (by decide),q0,aW (by omega) (by omega),aa]
   refine hJ (_,i + 1,_) ⟨hi,by simp only [List.length_append,leC,leN]; omega,by simp only; omega,dM h4 (by omega),?_⟩ (by simp only; omega)
   simp only
   rw [eX,h2,bT a hi,Nat.pow_succ]
   have e1:((2 * a[i] + c) % 4294967296).toNat + 4294967296 * ((2 * a[i] + c) / 4294967296).toNat = 2 * a[i].toNat + c.toNat:=by omega
   have e2:=congrArg (4294967296 ^ i * ·) e1
   simp only [Nat.mul_add] at e2
   rw [Nat.mul_assoc]
   have e3:4294967296 ^ i * (2 * a[i].toNat) = 2 * (4294967296 ^ i * a[i].toNat):=Nat.mul_left_comm ..
   omega
  ·rw [if_neg hi]
   have:i = a.length:=by omega
   subst this
   rw [List.take_length] at h5
   exact ⟨_,I,h2,h4,h3,h5⟩
theorem en:∀ {xs:Lb Ua} {j:Nat} (v:Ua) (h:j < xs.length),val (xs.set j v) + 18446744073709551616 ^ j * xs[j].toNat = val xs + 18446744073709551616 ^ j * v.toNat
 | x :: xs,0,v,_=>by simp only [List.set_cons_zero,val,List.getElem_cons_zero,Nat.pow_zero]; omega
 | x :: xs,j + 1,v,h=>by
  have:=en (xs:=xs) (j:=j) v (by simpa using h)
  simp only [List.set_cons_succ,val,List.getElem_cons_succ,Nat.pow_succ]
  grind
theorem ml {a b:Ua} {s:Nat} (ha:a.toNat < 2 ^ s) (hb:2 ^ s ∣ b.toNat):(a ||| b).toNat = a.toNat + b.toNat:=by
 obtain ⟨y,e⟩:=hb
 rw [UInt64.toNat_or,e,Nat.or_comm,<- Nat.two_pow_add_eq_or_of_lt ha,Nat.add_comm]
theorem eJ (w:Nat):18446744073709551616 ^ w = 2 ^ (64 * w):=by
 rw [show (18446744073709551616:Nat) = 2 ^ 64 from I,<- Nat.pow_mul]
theorem ei (x:Ua) {s:Nat} (hs:s < 64):(shlU x s).toNat = x.toNat * 2 ^ s % 18446744073709551616:=by
 unfold shlU; rw [if_pos hs,UInt64.toNat_ofNat']
theorem bS (x:Ua) {s:Nat} (hs:s < 64):(shrU x s).toNat = x.toNat / 2 ^ s:=by
 unfold shrU; rw [if_pos hs,UInt64.toNat_ofNat']
 exact Nat.mod_eq_of_lt (Nat.lt_of_le_of_lt (Nat.div_le_self _ _) x.toNat_lt)
theorem split64 {s:Nat} (hs:s <= 64):(18446744073709551616:Nat) = 2 ^ (64 - s) * 2 ^ s:=by
 rw [<- Nat.pow_add,show 64 - s + s = 64 by omega]
theorem jv (x:Ua) {s:Nat} (h0:0 < s) (hs:s < 64):(shlU x s).toNat + 18446744073709551616 * (shrU x (64 - s)).toNat = x.toNat * 2 ^ s/\2 ^ s ∣ (shlU x s).toNat/\(shrU x (64 - s)).toNat < 2 ^ s:=by
 have e:=split64 (s:=s) (by omega)
 have e1:x.toNat * 2 ^ s / 18446744073709551616 = x.toNat / 2 ^ (64 - s):=by
  rw [e]; exact Nat.mul_div_mul_right _ _ (Nat.two_pow_pos s)
 have e2:x.toNat * 2 ^ s % 18446744073709551616 = x.toNat % 2 ^ (64 - s) * 2 ^ s:=by
  rw [e]; exact Nat.mul_mod_mul_right ..
 rw [ei x hs,bS x (by omega)]
 refine ⟨?_,?_,?_⟩
 ·rw [<- e1]; exact Nat.mod_add_div ..
 ·rw [e2]; exact Nat.dvd_mul_left ..
 ·refine Nat.div_lt_of_lt_mul ?_
  rw [<- e]; exact x.toNat_lt
theorem dY (x:Ua):shlU x 0 = x:=by
 refine UInt64.toNat_inj.1 ?_
 rw [ei x (by decide),Nat.pow_zero,Nat.mul_one]
 exact Nat.mod_eq_of_lt x.toNat_lt
theorem eZ (x:Ua):(0:Ua) ||| x = x:=by
 refine UInt64.toNat_inj.1 ?_
 rw [UInt64.toNat_or]; simp
theorem bit_add {q:Lb Ua} {k:Nat} (h:k / 64 < q.length) (hd:2 ^ (k + 1) ∣ val q) (hb:(shlU 1 (k % 64)).toNat = 2 ^ (k % 64)):val (q.set (k / 64) (q[k / 64] ||| shlU 1 (k % 64))) = val q + 2 ^ k:=by
 have hs:=eB q h
 have hl:=cR (q.take (k / 64))
 rw [List.length_take,Nat.min_eq_left (by omega)] at hl
 have hk:k = 64 * (k / 64) + k % 64:=by omega
 have hm:k % 64 < 64:=by omega
 have e1:2 ^ (k + 1) = 18446744073709551616 ^ (k / 64) * 2 ^ (k % 64 + 1):=by rw [eJ,<- Nat.pow_add]; congr 1; omega
 have e2:(18446744073709551616:Nat) = 2 ^ (k % 64 + 1) * 2 ^ (63 - k % 64):=by rw [<- Nat.pow_add,show k % 64 + 1 + (63 - k % 64) = 64 by omega]
 have h0:val (q.take (k / 64)) = 0:=by
  have h1:18446744073709551616 ^ (k / 64) ∣ val q:=Nat.dvd_trans ⟨_,e1⟩ hd
  rw [hs,Nat.pow_succ,Nat.mul_assoc,Nat.add_assoc,<- Nat.mul_add] at h1
  have h2:=(Nat.dvd_add_left (Nat.dvd_mul_right ..)).1 h1
  exact Nat.eq_zero_of_dvd_of_lt h2 hl
 have h3:2 ^ (k % 64 + 1) ∣ (q[k / 64]).toNat:=by
  rw [e1,hs,h0,Nat.zero_add,show (18446744073709551616:Nat) ^ (k / 64 + 1) = 18446744073709551616 ^ (k / 64) * 18446744073709551616 from Nat.pow_succ ..,Nat.mul_assoc (18446744073709551616 ^ (k / 64)) 18446744073709551616,<- Nat.mul_add] at hd
  have h4:=Nat.dvd_of_mul_dvd_mul_left (Nat.pow_pos (by decide)) hd
  have h5:2 ^ (k % 64 + 1) ∣ 18446744073709551616 * val (q.drop (k / 64 + 1)):=Nat.dvd_trans ⟨_,e2⟩ (Nat.dvd_mul_right ..)
  exact (Nat.dvd_add_left h5).1 h4
 have h6:(q[k / 64] ||| shlU 1 (k % 64)).toNat = 2 ^ (k % 64) + (q[k / 64]).toNat:=by
  rw [UInt64.or_comm]
  have:=ml (a:=shlU 1 (k % 64)) (b:=q[k / 64]) (s:=k % 64 + 1) (by rw [hb]; exact Nat.pow_lt_pow_right (by decide) (by omega)) h3
  rw [this,hb]
 have h7:=en (q[k / 64] ||| shlU 1 (k % 64)) h
 have e3:2 ^ k = 18446744073709551616 ^ (k / 64) * 2 ^ (k % 64):=by rw [eJ,<- Nat.pow_add]; congr 1
 rw [h6,Nat.mul_add,<- e3] at h7
 omega
theorem shl_one {s:Nat} (hs:s < 64):(shlU 1 s).toNat = 2 ^ s:=by
 rw [ei 1 hs]
 have:2 ^ s < 2 ^ 64:=Nat.pow_lt_pow_right (by decide) hs
 simp only [UInt64.toNat_one,Nat.one_mul]
 exact Nat.mod_eq_of_lt (by omega)
theorem oA {a b q r k:Nat} (h1:a = b * q + r) (h2:r < b * 2 ^ (k + 1)) (h3:2 ^ (k + 1) ∣ q) :
  (b * 2 ^ k <= r -> a = b * (q + 2 ^ k) + (r - b * 2 ^ k)/\r - b * 2 ^ k < b * 2 ^ k/\2 ^ k ∣ q + 2 ^ k)/\(r < b * 2 ^ k -> 2 ^ k ∣ q):=by
 have h4:2 ^ k ∣ q:=Nat.dvd_trans ⟨2,by rw [Nat.pow_succ]⟩ h3
 rw [Nat.pow_succ,<- Nat.mul_assoc] at h2
 refine ⟨fun h=>⟨?_,by omega,Nat.dvd_add h4 (Nat.dvd_refl _)⟩,fun _=>h4⟩
 rw [Nat.mul_add]; omega
def eu (x y:Nat):Nat:=if y = 0 then 0 else (if x < y then 1 else 0) + Nat.log2 (x * y) + 1
theorem mG {x y:Nat} (h:y ≠ 0):eu y (x % y) < eu x y:=by
 have hm:x % y < y:=Nat.mod_lt _ (by omega)
 unfold eu
 rw [if_neg h]
 by_cases h0:x % y = 0
 ·rw [if_pos h0]; omega
 ·rw [if_neg h0,if_neg (show ¬ y < x % y by omega)]
  by_cases h1:x < y
  ·rw [if_pos h1,Nat.mod_eq_of_lt h1,Nat.mul_comm y x]; omega
  ·rw [if_neg h1]
   have h2:2 * (x % y) < x ∨ 2 * (x % y) = x:=by
    have h3:=Nat.div_add_mod x y
    have h4:1 <= x / y:=Nat.div_pos (by omega) (by omega)
    have h5:y * 1 <= y * (x / y):=Nat.mul_le_mul_left _ h4
    omega
   have h6:2 * (y * (x % y)) <= x * y:=by
    rw [Nat.mul_comm x y,Nat.mul_left_comm]
    exact Nat.mul_le_mul_left _ (by omega)
   have h7:y * (x % y) ≠ 0:=Nat.mul_ne_zero h h0
   have h8:Nat.log2 (y * (x % y)) + 1 <= Nat.log2 (x * y):=by
    rw [Nat.le_log2 (by omega),Nat.pow_succ]
    have:=Nat.log2_self_le h7
    omega
   omega
theorem eu_le {x y l:Nat} (hx:x < 2 ^ l) (hy:y < 2 ^ l):eu x y <= 2 * l + 2:=by
 unfold eu
 split
 ·omega
 ·rename_i h
  have h1:Nat.log2 (x * y) <= 2 * l:=by
   by_cases h0:x * y = 0
   ·rw [h0]; simp
   ·have:Nat.log2 (x * y) < 2 * l:=by
     rw [Nat.log2_lt h0,Nat.two_mul,Nat.pow_add]
     exact Nat.mul_lt_mul'' hx hy
    omega
  split <;> omega
theorem pD:(List.range 32).all (fun k=>decide (shlS 1 k = (2:Int) ^ k)) = true:=by kernel_rfl
theorem shlS_ok {k:Nat} (h:k < 32):shlS 1 k = (2:Int) ^ k:=of_decide_eq_true (List.all_eq_true.1 pD k (List.mem_range.2 h))
theorem kT (k:Nat):(2:Int) ^ k = ((2 ^ k:Nat):Int):=by norm_cast
theorem bit_ok {x:Int} {k:Nat} (hx:0 <= x) (hk:k < 32):cK (shrS x k) 2 = some ((x.toNat / 2 ^ k % 2:Nat):Int):=by
 obtain ⟨m,rfl⟩:=Int.eq_ofNat_of_zero_le hx
 unfold shrS
 rw [Nat.min_eq_left (by omega),kT,Int.fdiv_eq_ediv_of_nonneg _ (Int.natCast_nonneg _),eA (by decide),<- Int.natCast_ediv,Int.tmod_eq_emod_of_nonneg (Int.natCast_nonneg _),Int.toNat_natCast]
 congr 1
theorem jJ (w:Nat):4294967296 ^ w = 2 ^ (32 * w):=by
 rw [show (4294967296:Nat) = 2 ^ 32 from I,<- Nat.pow_mul]
theorem pp {xs:Lb Int} (h:Dig xs) (i:Nat) (hi:i <= xs.length):dv xs / 4294967296 ^ i = dv (xs.drop i):=by
 have h1:=dj (xs:=xs.take i) fun x hx=>h x (List.mem_of_mem_take hx)
 rw [List.length_take,Nat.min_eq_left hi] at h1
 have e:dv xs = dv (xs.take i) + 4294967296 ^ i * dv (xs.drop i):=by
  conv=>lhs; rw [<- List.take_append_drop i xs,iq,List.length_take,Nat.min_eq_left hi]
 rw [e,Nat.add_mul_div_left _ _ (Nat.pow_pos (by decide)),Nat.div_eq_of_lt h1,Nat.zero_add]
theorem nS (a i k:Nat) (hk:k < 32) (hi:i < (rd a).length):(rd a)[i].toNat / 2 ^ k % 2 = a / 2 ^ (32 * i + k) % 2:=by
 have h1:=pp (aG a) i (by omega)
 rw [aK,List.drop_eq_getElem_cons hi] at h1
 simp only [dv] at h1
 rw [Nat.pow_add,<- jJ,<- Nat.div_div_eq_div_mul,h1]
 have e:(4294967296:Nat) = 2 ^ k * (2 * 2 ^ (31 - k)):=by
  rw [<- Nat.pow_succ', <- Nat.pow_add,show k + (31 - k).succ = 32 by omega]
 generalize dv (List.drop (i + 1) (rd a)) = r
 rw [e,Nat.mul_assoc,Nat.add_mul_div_left _ _ (Nat.two_pow_pos k),Nat.mul_assoc]
 omega
theorem dig_dvd {q:Lb Int} {i k:Nat} (hd:Dig q) (h:i < q.length) (hk:k < 32) (hv:2 ^ (32 * i + k + 1) ∣ dv q):2 ^ (k + 1) ∣ q[i].toNat:=by
 have hs:=iy q h
 have hl:=dj (xs:=q.take i) fun x hx=>hd x (List.mem_of_mem_take hx)
 rw [List.length_take,Nat.min_eq_left (by omega)] at hl
 have e1:2 ^ (32 * i + k + 1) = 4294967296 ^ i * 2 ^ (k + 1):=by rw [jJ,<- Nat.pow_add]; congr 1
 have e2:(4294967296:Nat) = 2 ^ (k + 1) * 2 ^ (31 - k):=by rw [<- Nat.pow_add,show k + 1 + (31 - k) = 32 by omega]
 have h0:dv (q.take i) = 0:=by
  have h1:4294967296 ^ i ∣ dv q:=Nat.dvd_trans ⟨_,e1⟩ hv
  rw [hs,Nat.pow_succ,Nat.mul_assoc,Nat.add_assoc,<- Nat.mul_add] at h1
  have h2:=(Nat.dvd_add_left (Nat.dvd_mul_right ..)).1 h1
  exact Nat.eq_zero_of_dvd_of_lt h2 hl
 rw [e1,hs,h0,Nat.zero_add,show (4294967296:Nat) ^ (i + 1) = 4294967296 ^ i * 4294967296 from Nat.pow_succ ..,Nat.mul_assoc (4294967296 ^ i) 4294967296,<- Nat.mul_add] at hv
 have h4:=Nat.dvd_of_mul_dvd_mul_left (Nat.pow_pos (by decide)) hv
 have h5:2 ^ (k + 1) ∣ 4294967296 * dv (q.drop (i + 1)):=Nat.dvd_trans ⟨_,e2⟩ (Nat.dvd_mul_right ..)
 exact (Nat.dvd_add_left h5).1 h4
theorem dig_set {q:Lb Int} {i:Nat} {v:Int} (h:Dig q) (hv:0 <= v/\v < 4294967296):Dig (q.set i v):=fun x hx=>(List.mem_or_eq_of_mem_set hx).elim (h x) fun e=>e ▸ hv
theorem lC {t k:Nat} (hk:k < 32) (ht:t < 4294967296) (hd:2 ^ (k + 1) ∣ t):t + 2 ^ k < 4294967296:=by
 obtain ⟨c,rfl⟩:=hd
 have e2:(4294967296:Nat) = 2 ^ (k + 1) * 2 ^ (31 - k):=by rw [<- Nat.pow_add,show k + 1 + (31 - k) = 32 by omega]
 rw [e2] at ht
 have h1:=Nat.lt_of_mul_lt_mul_left ht
 have h2:2 ^ (k + 1) * (c + 1) <= 2 ^ (k + 1) * 2 ^ (31 - k):=Nat.mul_le_mul_left _ h1
 rw [<- e2,Nat.mul_add,Nat.pow_succ] at h2
 have:=Nat.two_pow_pos k
 rw [Nat.pow_succ]
 omega
theorem px (n:Nat) (a b i:Nat) (q:Lb Int) (hb:(rd b).length < 10000) (hi:i < (rd a).length) (hq:i < q.length) (hqd:Dig q) (Q R:Nat) (h1:dv q = 2 ^ (32 * i + 32) * Q) (h2:a / 2 ^ (32 * i + 32) = b * Q + R) (h3:R < b) (hn:20000 < n) :
  ∃ q' Q' R', ao (aF_l1 n (rd a) (i:Int) (rd b)) n (rd R,31,q) = some (rd R', q')/\q'.length = q.length/\Dig q' /\dv q' = 2 ^ (32 * i) * Q' /\a / 2 ^ (32 * i) = b * Q' + R' /\R' < b:=by
 have hh:=au (B:=aF_l1 n (rd a) (i:Int) (rd b)) (fun s:Lb Int × Int × Lb Int=>(s.2.1 + 1).toNat)
  (fun s=>(-1 <= s.2.1/\s.2.1 <= 31)/\s.2.2.length = q.length/\Dig s.2.2/\∃ Q R,s.1 = rd R/\dv s.2.2 = 2 ^ (32 * i + (s.2.1 + 1).toNat) * Q/\a / 2 ^ (32 * i + (s.2.1 + 1).toNat) = b * Q + R/\R < b)
  (fun y=>y.2.length = q.length/\Dig y.2/\∃ Q R,y.1 = rd R/\dv y.2 = 2 ^ (32 * i) * Q/\a / 2 ^ (32 * i) = b * Q + R/\R < b) ?_ n (rd R,31,q) ⟨by simp,rfl,hqd,Q,R,rfl,h1,h2,h3⟩ (by simp only; omega)
 ·obtain ⟨⟨x,q'⟩,e,e1,e2,Q', R', e3,e4,e5,e6⟩:=hh
  simp only at e3
  subst e3
  exact ⟨q', Q', R', e,e1,e2,e4,e5,e6⟩
 ·rintro ⟨xs,z,q⟩ J ⟨a1,a2,a3,Q,R,rfl,a4,a5,a6⟩ hJ
  simp only at a1 a2 a3 a4 a5 hJ
  unfold aF_l1
  simp only
  by_cases hz:0 <= z
  ·obtain ⟨k,rfl⟩:∃ k:Nat,z = k:=⟨z.toNat,by omega⟩
   have hk:k < 32:=by omega
   have e0:(((k:Int) + 1).toNat) = k + 1:=by omega
   rw [e0] at a4 a5
   have hdi:=aG a (rd a)[i] (List.getElem_mem _)
   have hRl:=dB (Nat.le_of_lt a6)
   rw [if_pos hz,bn (by omega) (by rw [Int.toNat_natCast]; exact hi),aa,show bH (k:Int) = some k from by unfold bH; rw [if_pos hz,Int.toNat_natCast],aa]
   simp only [Int.toNat_natCast]
   rw [bit_ok hdi.1 hk,aa,nS a i k hk hi,nN n _ _ (aG R) (by omega) (by omega) (by omega),aa,aK,Int.toNat_natCast]
   have hbit:a / 2 ^ (32 * i + k) % 2 < 2:=Nat.mod_lt _ (by decide)
   have hab:a / 2 ^ (32 * i + k) = b * (2 * Q) + (2 * R + a / 2 ^ (32 * i + k) % 2):=by
    have:a / 2 ^ (32 * i + (k + 1)) = a / 2 ^ (32 * i + k) / 2:=by rw [<- Nat.add_assoc,Nat.pow_succ,Nat.div_div_eq_div_mul]
    rw [this] at a5
    rw [Nat.mul_left_comm]; omega
   have hdq:dv q = 2 ^ (32 * i + k) * (2 * Q):=by rw [a4,<- Nat.add_assoc,Nat.pow_succ,Nat.mul_assoc]
   generalize a / 2 ^ (32 * i + k) % 2 = t at hbit hab ⊢
   obtain ⟨c,ec,c1,c2⟩:=il n (rd (2 * R + t)) (rd b) (aG _) (aG _) (gB _) (gB _) (by have:=cS (m:=2 * R + t) (l:=(rd b).length + 1) (by have:=dj (aG b); rw [aK] at this; rw [Nat.pow_succ]; omega); omega) (by have:=cS (m:=2 * R + t) (l:=(rd b).length + 1) (by have:=dj (aG b); rw [aK] at this; rw [Nat.pow_succ]; omega); omega)
   rw [aK,aK] at c1 c2
   have hl2:(rd (2 * R + t)).length < 10002:=by have:=cS (m:=2 * R + t) (l:=(rd b).length + 1) (by have:=dj (aG b); rw [aK] at this; rw [Nat.pow_succ]; omega); omega
   rw [ec,aa]
   unfold jn
   simp only
   have eN:(((k:Int) - 1 + 1)).toNat = k:=by omega
   by_cases hc:0 <= c
   ·have hge:b <= 2 * R + t:=by omega
    have hdd:=dig_dvd a3 (by omega:i < q.length) hk (by rw [a4]; exact Nat.dvd_mul_right ..)
    have hqi:=a3 (q[i]'(by omega)) (List.getElem_mem _)
    have hroom:=lC hk (by omega) hdd
    have hk2:(2:Nat) ^ k < 4294967296:=by have:=Nat.zero_le (q[i]'(by omega)).toNat; omega
    rw [if_pos hc,gR n _ _ (aG _) (aG _) (dB hge) (by rw [aK,aK]; exact hge) (by omega) (by omega),aa,aK,aK,bn (by omega) (by rw [Int.toNat_natCast]; omega),aa]
    simp only [Int.toNat_natCast]
    rw [aa,shlS_ok hk,kT,aW (by omega) (by omega),aa,bR _ (by omega),aa,aW (by omega) (by omega),aa]
    refine hJ (_,_,_) ⟨by simp only; omega,by simpa using a2,dig_set a3 (by omega),2 * Q + 1,2 * R + t - b,rfl,?_,?_,by omega⟩ (by simp only; omega)
    ·simp only
     rw [eN]
     have hp:=mm ((q[i]'(by omega)) + ((2 ^ k:Nat):Int)) (by omega:i < q.length)
     rw [show ((q[i]'(by omega)) + ((2 ^ k:Nat):Int)).toNat = (q[i]'(by omega)).toNat + 2 ^ k by omega,Nat.mul_add] at hp
     have e5:2 ^ (32 * i + k) = 4294967296 ^ i * 2 ^ k:=by rw [jJ,<- Nat.pow_add]
     rw [Nat.mul_add,Nat.mul_one,<- hdq,e5]
     omega
    ·simp only
     rw [eN,hab,Nat.mul_add]; omega
   ·rw [if_neg hc,aW (by omega) (by omega),aa]
    refine hJ (_,_,_) ⟨by simp only; omega,a2,a3,2 * Q,2 * R + t,rfl,?_,?_,by omega⟩ (by simp only; omega)
    ·simp only; rw [eN]; exact hdq
    ·simp only; rw [eN]; exact hab
  ·rw [if_neg hz]
   have e0:(z + 1).toNat = 0:=by omega
   rw [e0] at a4 a5
   exact ⟨_,I,a2,a3,Q,R,I,a4,a5,a6⟩
theorem jg (n:Nat) (a b:Nat) (h0:b ≠ 0) (ha:(rd a).length < 10000) (hb:(rd b).length < 10000) (hn:20000 < n):aF_p n (rd a) (rd b) = some (rd (a / b),rd (a % b)):=by
 have hbn:rd b ≠ []:=fun e=>h0 (lA.1 e)
 have hbp:=kS (aG b) (gB b) hbn
 have hal:=dj (aG a)
 rw [aK] at hbp hal
 have hb1:1 <= (rd b).length:=by
  rcases h:rd b with _ | ⟨x,xs⟩
  ·exact absurd h hbn
  ·simp
 unfold aF_p
 by_cases hc:(((rd a).length:Nat):Int) <= (((rd b).length:Nat):Int) - 1
 ·have hab:a < b:=Nat.lt_of_lt_of_le hal (Nat.le_trans (Nat.pow_le_pow_right (by decide) (by omega)) hbp)
  rw [if_pos hc,bp _ _ (by simp only [leN]; omega),aa,List.nil_append,Nat.div_eq_of_lt hab,Nat.mod_eq_of_lt hab,rd0]
 ·obtain ⟨lq,hlq⟩:∃ lq:Nat,(((rd a).length:Nat):Int) - ((((rd b).length:Nat):Int) - 1) = lq:=⟨(rd a).length - ((rd b).length - 1),by omega⟩
  have hdr:(rd a).drop lq = rd (a / 2 ^ (32 * lq)):=by
   have h1:=pp (aG a) lq (by omega)
   rw [aK,jJ] at h1
   rw [h1]
   refine (pB (fun x hx=>aG a x (List.mem_of_mem_drop hx)) fun x hx=>?_).symm
   rw [List.getLast?_drop] at hx
   split at hx
   ·cases hx
   ·exact gB a x hx
  have hR:a / 2 ^ (32 * lq) < b:=by
   rw [<- jJ]
   refine Nat.lt_of_lt_of_le ?_ hbp
   refine Nat.div_lt_of_lt_mul ?_
   rw [<- Nat.pow_add,show lq + ((rd b).length - 1) = (rd a).length by omega]
   exact hal
  rw [if_neg hc,hlq,ip _ _ (by omega),aa]
  rw [show cut (rd a) (lq:Int) (((rd a).length:Nat):Int) = some ((rd a).drop lq) from by unfold cut; rw [if_pos ⟨by omega,by omega,by omega⟩,Int.toNat_natCast,Int.toNat_natCast,List.take_length],aa,bp _ _ (by rw [List.length_drop]; simp only [leN]; omega),aa,List.nil_append,hdr,List.length_replicate]
  have hh:=au (B:=aF_l2 n (rd a) (rd b)) (fun s:Lb Int × Int × Lb Int=>(s.2.1 + 1).toNat)
   (fun s=>(-1 <= s.2.1/\s.2.1 < lq)/\s.2.2.length = lq/\Dig s.2.2/\∃ Q R,s.1 = rd R/\dv s.2.2 = 2 ^ (32 * (s.2.1 + 1).toNat) * Q/\a / 2 ^ (32 * (s.2.1 + 1).toNat) = b * Q + R/\R < b)
   (fun y=>y.1.length = lq/\Dig y.1/\dv y.1 = a / b/\y.2 = rd (a % b)) ?_ n (rd (a / 2 ^ (32 * lq)),(lq:Int) - 1,List.replicate lq 0)
   ⟨by simp only; omega,by simp,fun x hx=>by rw [(List.mem_replicate.1 hx).2]; decide,0,a / 2 ^ (32 * lq),rfl,by simp only [Nat.mul_zero]; exact fK _ fun x hx=>(List.mem_replicate.1 hx).2,by simp only [Nat.mul_zero,Nat.zero_add]; congr 2; omega,hR⟩ (by simp only; omega)
  ·obtain ⟨⟨q,r⟩,e,e1,e2,e3,e4⟩:=hh
   simp only at e1 e2 e3 e4
   rw [e,aa]
   simp only
   rw [eC n q e2 (by omega) (by omega),aa,e3,e4]
  ·rintro ⟨xs,z,q⟩ J ⟨a1,a2,a3,Q,R,rfl,a4,a5,a6⟩ hJ
   simp only at a1 a2 a3 a4 a5 hJ
   unfold aF_l2
   simp only
   by_cases hz:0 <= z
   ·obtain ⟨k,rfl⟩:∃ k:Nat,z = k:=⟨z.toNat,by omega⟩
    have e0:32 * (((k:Int) + 1).toNat) = 32 * k + 32:=by omega
    rw [e0] at a4 a5
    obtain ⟨q', Q', R', e,e1,e2,e3,e4,e5⟩:=px n a b k q hb (by omega) (by omega) a3 Q R a4 a5 a6 hn
    rw [if_pos hz,e,aa]
    simp only
    rw [aW (by omega) (by omega),aa]
    have eN:(((k:Int) - 1 + 1)).toNat = k:=by omega
    refine hJ (_,_,_) ⟨by simp only; omega,by simp only; omega,e2,Q', R', rfl,by simp only; rw [eN]; exact e3,by simp only; rw [eN]; exact e4,e5⟩ (by simp only; omega)
   ·rw [if_neg hz]
    have e0:(z + 1).toNat = 0:=by omega
    rw [e0,Nat.mul_zero,Nat.pow_zero] at a4 a5
    rw [Nat.div_one] at a5
    rw [Nat.one_mul] at a4
    have hu:=(Nat.div_mod_unique (a:=a) (b:=b) (c:=R) (d:=Q) (by omega)).2 ⟨by omega,a6⟩
    exact ⟨_,rfl,a2,a3,by simp only; rw [a4,hu.1],by simp only; rw [hu.2]⟩
theorem iT (n:Nat) (x y:Nat) (s t:Bool) (hx:(rd x).length < 10000) (hy:(rd y).length < 10000) (hn:18446744073709551616 < n):aT_p n ⟨s,rd x⟩ ⟨t,rd y⟩ = some ⟨false,rd (Nat.gcd x y)⟩:=by
 have hxl:=dj (aG x)
 have hyl:=dj (aG y)
 rw [aK,jJ] at hxl hyl
 obtain ⟨M,hM⟩:∃ M:Nat,M = 320000:=⟨_,I⟩
 have hx2:x < 2 ^ M:=Nat.lt_of_lt_of_le hxl (Nat.pow_le_pow_right (by decide) (by omega))
 have hy2:y < 2 ^ M:=Nat.lt_of_lt_of_le hyl (Nat.pow_le_pow_right (by decide) (by omega))
 have he:=eu_le hx2 hy2
 have hh:=au (B:=aT_l1 n) (fun s:Lb Int × Lb Int=>eu (dv s.1) (dv s.2)) (fun s=>∃ a b,s = (rd a,rd b)/\(rd a).length < 10000/\(rd b).length < 10000/\Nat.gcd a b = Nat.gcd x y)
  (fun r=>r = rd (Nat.gcd x y)) ?_ n (rd x,rd y) ⟨_,_,rfl,hx,hy,rfl⟩ (by simp only [aK]; omega)
 ·obtain ⟨r,h1,rfl⟩:=hh
  unfold aT_p
  simp only
  rw [h1,aa]
 ·rintro _ J ⟨a,b,rfl,h1,h2,h3⟩ hJ
  unfold aT_l1
  simp only
  by_cases h0:b = 0
  ·subst h0
   rw [if_neg (by rw [rd0]; simp)]
   exact ⟨_,rfl,by rw [<- h3,Nat.gcd_zero_right]⟩
  ·have hm:a % b < b:=Nat.mod_lt _ (by omega)
   have hbl:0 < (rd b).length:=by
    rcases h:rd b with _ | ⟨z,zs⟩
    ·exact absurd (lA.1 h) h0
    ·simp
   rw [if_pos hbl,jg n a b h0 h1 h2 (by omega),aa]
   simp only
   refine hJ (rd b,rd (a % b)) ⟨_,_,rfl,h2,Nat.lt_of_le_of_lt (dB (Nat.le_of_lt hm)) h2,?_⟩ (by simp only [aK]; exact mG h0)
   rw [<- h3,Nat.gcd_comm a b,Nat.gcd_rec b a,Nat.gcd_comm]
theorem lw {m:Nat}:0 < (rd m).length ↔ 0 < m:=by
 constructor
 ·intro h
  by_cases h0:m = 0
  ·rw [h0,rd0] at h; simp at h
  ·omega
 ·intro h
  rcases e:rd m with _ | ⟨x,xs⟩
  ·have:=lA.1 e; omega
  ·simp
theorem ct (n:Nat) (b:Bool) (ws:Lb Int) (hd:Dig ws) (hn:ws.length < n) (hl:ws.length <= 1000000):ae_p n b ws = some ⟨b && decide (0 < dv ws),rd (dv ws)⟩:=by
 unfold ae_p
 rw [eC n ws hd hn hl,aa]
 cases b
 ·simp
 ·rw [if_pos I,decide_eq_decide.2 lw,Bool.true_and]
def R8 (z:Int):Te:=⟨decide (z < 0),rd z.natAbs⟩
theorem pw (s:Bool) (m:Nat):(⟨s && decide (0 < m),rd m⟩:Te) = R8 (sg s m):=by
 unfold R8
 rw [mh]
 cases s
 ·simp [sg]
 ·simp [sg]
theorem ik (n:Nat) (z:Int) (h:Sm z) (hn:10 < n):aU_p n z = some (R8 z):=by
 have key:∀ u:Ua,u.toNat = z.natAbs -> ((ae_p n (decide (z < 0)) ([aB (u % (4294967296:Ua)),aB (u / (4294967296:Ua))]:Lb Int)).bind fun y28=>some y28) = some (R8 z):=fun u hu=>by
  unfold Sm at h
  have h1:aB (u % (4294967296:Ua)) = ((z.natAbs % 4294967296:Nat):Int):=by
   unfold aB
   rw [UInt64.toNat_mod,hu]
   rw [if_pos (by simp; omega)]
   rfl
  have h2:aB (u / (4294967296:Ua)) = ((z.natAbs / 4294967296:Nat):Int):=by
   unfold aB
   rw [UInt64.toNat_div,hu]
   rw [if_pos (by simp; omega)]
   rfl
  rw [h1,h2,ct n _ _ (fun x hx=>by
   rcases List.mem_cons.1 hx with rfl | hx
   ·omega
   ·rw [List.mem_singleton.1 hx]; omega) (by simp only [leC,leN]; omega) (by simp),aa]
  have e:dv [((z.natAbs % 4294967296:Nat):Int),((z.natAbs / 4294967296:Nat):Int)] = z.natAbs:=by
   simp only [dv,Int.toNat_natCast]; omega
  rw [e]
  unfold R8
  congr 2
  by_cases hz:z < 0
  ·simp [hz]; omega
  ·simp [hz]
 unfold aU_p jn
 simp only
 by_cases hz:z < 0
 ·rw [if_pos hz]
  refine key _ ?_
  rw [UInt64.toNat_neg,mx h hz,show UInt64.size = 18446744073709551616 from I]
  unfold Sm at h
  omega
 ·rw [if_neg hz]
  refine key _ ?_
  rw [mw h hz,kU h.w]
theorem lc (n:Nat) (z:Int) (h:(rd z.natAbs).length < 10000) (hn:20000 < n):bP_p n (R8 z) = some (R8 (-z)):=by
 unfold bP_p
 rw [show (R8 z).fD = rd z.natAbs from I,ct n _ _ (aG _) (by omega) (by omega),aa,aK]
 unfold R8
 rw [Int.natAbs_neg]
 congr 2
 show (!decide (z < 0) && decide (0 < z.natAbs)) = decide (-z < 0)
 by_cases hz:z < 0
 ·rw [decide_eq_true hz,decide_eq_false (show ¬ -z < 0 by omega)]; rfl
 ·rw [decide_eq_false hz]
  by_cases h0:z = 0
  ·subst h0; rfl
  ·rw [decide_eq_true (by omega),decide_eq_true (by omega)]; rfl
theorem sg_mul (g x:Int) (hg:g ≠ 0):sg (!(decide (g * x < 0) == decide (g < 0))) x.natAbs = x:=by
 unfold sg
 by_cases h1:g < 0
 ·by_cases h2:x < 0
  ·have:=Int.mul_pos_of_neg_of_neg h1 h2
   rw [decide_eq_true h1,decide_eq_false (by omega)]; simp; omega
  ·by_cases h3:x = 0
   ·subst h3; simp
   ·have:=Int.mul_neg_of_neg_of_pos h1 (by omega:0 < x)
    rw [decide_eq_true h1,decide_eq_true this]; simp; omega
 ·by_cases h2:x < 0
  ·have:=Int.mul_neg_of_pos_of_neg (by omega:0 < g) h2
   rw [decide_eq_false h1,decide_eq_true this]; simp; omega
  ·have:=Int.mul_nonneg (by omega:0 <= g) (by omega:0 <= x)
   rw [decide_eq_false h1,decide_eq_false (by omega)]; simp; omega
theorem kz (n:Nat) (a g x:Int) (e:a = g * x) (hg:g ≠ 0) (ha:(rd a.natAbs).length < 10000) (hl:(rd g.natAbs).length < 10000) (hn:20000 < n):bD_p n (R8 a) (R8 g) = some (R8 x,R8 0):=by
 subst e
 have hd:(g * x).natAbs / g.natAbs = x.natAbs:=by rw [Int.natAbs_mul]; exact Nat.mul_div_cancel_left _ (by omega)
 have hm:(g * x).natAbs % g.natAbs = 0:=by rw [Int.natAbs_mul]; exact Nat.mul_mod_right ..
 have hx:(rd x.natAbs).length < 10000:=Nat.lt_of_le_of_lt (dB (by rw [Int.natAbs_mul]; exact Nat.le_mul_of_pos_left _ (by omega))) ha
 unfold bD_p
 rw [show (R8 (g * x)).fD = rd (g * x).natAbs from I,show (R8 g).fD = rd g.natAbs from I,jg n _ _ (by omega) ha hl hn,aa,hd,hm]
 simp only
 rw [ct n _ _ (aG _) (by omega) (by omega),aa,aK,rd0,ct n _ [] fE (by simp; omega) (by simp),aa]
 show (if ((decide (g * x < 0)) && decide (0 < 0)) = true then _ else _) = _
 rw [if_neg (by simp)]
 rw [show (R8 (g * x)).fc = decide (g * x < 0) from I,show (R8 g).fc = decide (g < 0) from I,pw,sg_mul g x hg,show dv [] = 0 from I,pw]
 congr 2
 congr 1
 unfold sg; split <;> simp
theorem kx (n:Nat) (a b:Int) (h0:b ≠ 0) (ha:(rd a.natAbs).length < 10000) (hb:(rd b.natAbs).length < 10000) (hn:18446744073709551616 < n) :
  aW_p n (R8 a) (R8 b) = some ⟨R8 (Rat.divInt a b).num,R8 ((Rat.divInt a b).den:Int)⟩/\(Rat.divInt a b).num.natAbs <= a.natAbs/\(Rat.divInt a b).den <= b.natAbs:=by
 have hg:0 < Nat.gcd a.natAbs b.natAbs:=Nat.gcd_pos_of_pos_right _ (by omega)
 have hgl:(rd (Nat.gcd a.natAbs b.natAbs)).length < 10000:=Nat.lt_of_le_of_lt (dB (Nat.gcd_le_right _ (by omega))) hb
 obtain ⟨x,hx⟩:((Nat.gcd a.natAbs b.natAbs:Nat):Int) ∣ a:=Int.ofNat_dvd_left.2 (Nat.gcd_dvd_left _ _)
 obtain ⟨y,hy⟩:((Nat.gcd a.natAbs b.natAbs:Nat):Int) ∣ b:=Int.ofNat_dvd_left.2 (Nat.gcd_dvd_right _ _)
 have hco:=Nat.coprime_div_gcd_div_gcd hg
 unfold aW_p
 rw [show R8 a = ⟨decide (a < 0),rd a.natAbs⟩ from I,show R8 b = ⟨decide (b < 0),rd b.natAbs⟩ from I,iT n _ _ _ _ ha hb hn,aa,<- show R8 a = ⟨decide (a < 0),rd a.natAbs⟩ from I,<- show R8 b = ⟨decide (b < 0),rd b.natAbs⟩ from I]
 generalize Nat.gcd a.natAbs b.natAbs = g at *
 have hg0:(g:Int) ≠ 0:=by omega
 have e3:a.natAbs = g * x.natAbs:=by rw [hx,Int.natAbs_mul]; rfl
 have e4:b.natAbs = g * y.natAbs:=by rw [hy,Int.natAbs_mul]; rfl
 have hc:x.natAbs.Coprime y.natAbs:=by
  rw [e3,e4,Nat.mul_div_cancel_left _ hg,Nat.mul_div_cancel_left _ hg] at hco; exact hco
 have hxl:x.natAbs <= a.natAbs:=by rw [e3]; exact Nat.le_mul_of_pos_left _ hg
 have hyl:y.natAbs <= b.natAbs:=by rw [e4]; exact Nat.le_mul_of_pos_left _ hg
 have hy0:y ≠ 0:=fun e=>h0 (by rw [hy,e,Int.mul_zero])
 have eq:Rat.divInt a b = Rat.divInt x y:=by
  conv=>lhs; rw [hx,hy]
  exact Rat.divInt_mul_left hg0
 rw [eq]
 have egR:(⟨false,rd g⟩:Te) = R8 (g:Int):=by unfold R8; simp
 unfold jn
 simp only
 by_cases hs:b < 0
 ·have hyn:y < 0:=by
   by_cases hy1:y < 0
   ·exact hy1
   ·have:=Int.mul_nonneg (by omega:(0:Int) <= g) (by omega:0 <= y); omega
  rw [if_pos (show (R8 b).fc = true from decide_eq_true hs),egR,lc n _ (by simpa using hgl) (by omega),aa]
  show (bD_p n (R8 a) (R8 (-(g:Int)))).bind _ = _/\_
  rw [kz n a (-(g:Int)) (-x) (by rw [Int.neg_mul_neg]; exact hx) (by omega) ha (by rw [Int.natAbs_neg]; simpa using hgl) (by omega),aa,kz n b (-(g:Int)) (-y) (by rw [Int.neg_mul_neg]; exact hy) (by omega) hb (by rw [Int.natAbs_neg]; simpa using hgl) (by omega),aa]
  have h5:=kc (x:=-x) (y:=-y) (by omega) (by rwa [Int.natAbs_neg,Int.natAbs_neg])
  rw [Rat.neg_divInt_neg] at h5
  rw [h5.1,h5.2]
  exact ⟨rfl,by rw [Int.natAbs_neg]; exact hxl,by have:=h5.2; omega⟩
 ·have hyp:0 < y:=by
   by_cases hy1:0 < y
   ·exact hy1
   ·have:=Int.mul_neg_of_pos_of_neg (by omega:(0:Int) < g) (by omega:y < 0); omega
  rw [if_neg (show ¬ (R8 b).fc = true from by simpa [R8] using hs)]
  show (bD_p n (R8 a) (⟨false,rd g⟩:Te)).bind _ = _/\_
  rw [egR,kz n a g x hx hg0 ha (by simpa using hgl) (by omega),aa,kz n b g y hy hg0 hb (by simpa using hgl) (by omega),aa]
  have h5:=kc (x:=x) (y:=y) hyp hc
  rw [h5.1,h5.2]
  exact ⟨I,hxl,by have:=h5.2; omega⟩
def bln (m:Nat):Nat:=if m = 0 then 0 else Nat.log2 m + 1
theorem kj (m:Nat):m < 2 ^ bln m:=by
 unfold bln
 split
 ·rename_i h; rw [h]; decide
 ·rename_i h; exact Nat.lt_log2_self
theorem ir {m:Nat} (h:m ≠ 0):2 ^ (bln m - 1) <= m:=by
 unfold bln
 rw [if_neg h]
 exact Nat.log2_self_le h
theorem fO {m:Nat} (h:m ≠ 0):1 <= bln m:=by unfold bln; rw [if_neg h]; omega
theorem pl {m l:Nat} (h1:2 ^ l <= m) (h2:m < 2 ^ (l + 1)):bln m = l + 1:=by
 have h0:m ≠ 0:=fun e=>by have:=Nat.two_pow_pos l; omega
 have h3:=kj m
 have h4:=ir h0
 have h5:=fO h0
 have h6:=(Nat.pow_lt_pow_iff_right (by decide:1 < 2)).1 (Nat.lt_of_le_of_lt h1 h3)
 have h7:=(Nat.pow_lt_pow_iff_right (by decide:1 < 2)).1 (Nat.lt_of_le_of_lt h4 h2)
 omega
theorem ew {m s:Nat} (h:2 ^ s <= m):bln m = s + bln (m / 2 ^ s):=by
 have hp:=Nat.two_pow_pos s
 have h0:m / 2 ^ s ≠ 0:=fun e=>by have:=Nat.div_pos h hp; omega
 have h1:=kj (m / 2 ^ s)
 have h2:=ir h0
 have h3:=fO h0
 have e1:2 ^ (s + (bln (m / 2 ^ s) - 1)) <= m:=by
  rw [Nat.pow_add,Nat.mul_comm]
  exact (Nat.le_div_iff_mul_le hp).1 h2
 have e2:m < 2 ^ (s + bln (m / 2 ^ s)):=by
  rw [Nat.pow_add,Nat.mul_comm]
  exact (Nat.div_lt_iff_lt_mul hp).1 h1
 have:=pl (l:=s + (bln (m / 2 ^ s) - 1)) e1 (by rw [show s + (bln (m / 2 ^ s) - 1) + 1 = s + bln (m / 2 ^ s) by omega]; exact e2)
 omega
theorem dc {m l:Nat} (h:m < 2 ^ l):bln m <= l:=by
 by_cases h0:m = 0
 ·subst h0; simp [bln]
 ·have h4:=ir h0
  have h7:=(Nat.pow_lt_pow_iff_right (by decide:1 < 2)).1 (Nat.lt_of_le_of_lt h4 h)
  have:=fO h0
  omega
theorem tab_all:(List.range 256).all (fun v=>decide (dR[v]? = some (UInt8.ofNat (bln v)))) = true:=by kernel_rfl
theorem tab_ok {v:Nat} (h:v < 256):dR[v]? = some (UInt8.ofNat (bln v)):=of_decide_eq_true (List.all_eq_true.1 tab_all v (List.mem_range.2 h))
theorem mN (u:Ua) (z:Int) (h:u.toNat < 256) (hz:0 <= z/\z <= 64):((dR[(aq u).toNat]?).bind fun z27=>(chk (z + ((z27.toNat:Nat):Int))).bind fun s29=>some s29) = some (z + bln u.toNat):=by
 have hb:=dc (l:=8) (m:=u.toNat) (by omega)
 have e:(aq u).toNat = u.toNat:=by unfold aq; rw [UInt8.toNat_ofNat']; omega
 have e2:(UInt8.ofNat (bln u.toNat)).toNat = bln u.toNat:=by rw [UInt8.toNat_ofNat']; omega
 rw [e,tab_ok h,aa,e2,aW (by omega) (by omega),aa]
theorem pz (n:Nat) (x:Ua):ci_p n x = some (bln x.toNat:Int):=by
 have hx:=x.toNat_lt
 have k16:∀ (u:Ua) (z:Int),u.toNat < 65536 -> (0 <= z/\z <= 48) -> ((if (256:Ua) <= u then (chk (z + 8)).bind fun s31=>((dR[(aq (shrU u 8)).toNat]?).bind fun z27=>(chk (s31 + ((z27.toNat:Nat):Int))).bind fun s29=>some s29) else ((dR[(aq u).toNat]?).bind fun z27=>(chk (z + ((z27.toNat:Nat):Int))).bind fun s29=>some s29))) = some (z + bln u.toNat):=fun u z hu hz=>by
  by_cases c:(256:Ua) <= u
  ·have c2:256 <= u.toNat:=by rw [UInt64.le_iff_toNat_le] at c; simpa using c
   rw [if_pos c,aW (by omega) (by omega),aa,mN _ _ (by rw [bS _ (by decide)]; omega) (by omega),bS _ (by decide),ew (m:=u.toNat) (s:=8) (by omega)]
   congr 1; omega
  ·have c2:u.toNat < 256:=by rw [UInt64.le_iff_toNat_le] at c; simpa using c
   rw [if_neg c,mN _ _ c2 (by omega)]
 have k32:∀ (u:Ua) (z:Nat),u.toNat < 4294967296 -> z <= 32 -> ((if (65536:Ua) <= u then (chk ((z:Int) + 16)).bind fun s33=>(if (256:Ua) <= shrU u 16 then (chk (s33 + 8)).bind fun s31=>((dR[(aq (shrU (shrU u 16) 8)).toNat]?).bind fun z27=>(chk (s31 + ((z27.toNat:Nat):Int))).bind fun s29=>some s29) else ((dR[(aq (shrU u 16)).toNat]?).bind fun z27=>(chk (s33 + ((z27.toNat:Nat):Int))).bind fun s29=>some s29)) else (if (256:Ua) <= u then (chk ((z:Int) + 8)).bind fun s31=>((dR[(aq (shrU u 8)).toNat]?).bind fun z27=>(chk (s31 + ((z27.toNat:Nat):Int))).bind fun s29=>some s29) else ((dR[(aq u).toNat]?).bind fun z27=>(chk ((z:Int) + ((z27.toNat:Nat):Int))).bind fun s29=>some s29)))) = some ((z:Int) + bln u.toNat):=fun u z hu hz=>by
  by_cases c:(65536:Ua) <= u
  ·have c2:65536 <= u.toNat:=by rw [UInt64.le_iff_toNat_le] at c; simpa using c
   rw [if_pos c,aW (by omega) (by omega),aa,k16 _ _ (by rw [bS _ (by decide)]; omega) (by omega),bS _ (by decide),ew (m:=u.toNat) (s:=16) (by omega)]
   congr 1; omega
  ·have c2:u.toNat < 65536:=by rw [UInt64.le_iff_toNat_le] at c; simpa using c
   rw [if_neg c,k16 _ _ c2 (by omega)]
 unfold ci_p jn
 simp only
 by_cases c:(4294967296:Ua) <= x
 ·have c2:4294967296 <= x.toNat:=by rw [UInt64.le_iff_toNat_le] at c; simpa using c
  rw [if_pos c]
  refine (k32 (shrU x 32) 32 (by rw [bS _ (by decide)]; omega) (by omega)).trans ?_
  rw [bS _ (by decide),ew (m:=x.toNat) (s:=32) (by omega)]
  congr 1
 ·have c2:x.toNat < 4294967296:=by rw [UInt64.le_iff_toNat_le] at c; simpa using c
  rw [if_neg c]
  refine (k32 x 0 c2 (by omega)).trans ?_
  congr 1; omega
theorem lz_ok (n:Nat) (x:Ua):bz_p n x = some (64 - bln x.toNat:Int):=by
 have:=dc (l:=64) (m:=x.toNat) (by have:=x.toNat_lt; omega)
 unfold bz_p
 rw [pz,aa,aW (by omega) (by omega),aa]
theorem div_top {m lo t l:Nat} (hv:m = lo + 18446744073709551616 ^ l * t) (hlow:lo < 18446744073709551616 ^ l):m / 2 ^ (64 * l) = t:=by
 rw [<- eJ,hv,Nat.add_mul_div_left _ _ (Nat.lt_of_le_of_lt (Nat.zero_le _) hlow),Nat.div_eq_of_lt hlow,Nat.zero_add]
theorem jx (n:Nat) (m:Nat) (hl:(dg m).length <= 1000000):cN_p n (dg m) = some (bln m:Int):=by
 unfold cN_p
 by_cases h0:m = 0
 ·subst h0
  rw [dg0,if_pos (show ([]:Lb Ua).length = 0 from I)]
  unfold bln
  rw [if_pos I]; rfl
 ·have hne:dg m ≠ []:=fun e=>h0 (by have:=aJ m; rw [e] at this; exact this.symm)
  obtain ⟨l,hl1⟩:∃ l,(dg m).length = l + 1:=⟨(dg m).length - 1,by cases h:dg m with | nil=>exact absurd h hne | cons x xs=>simp⟩
  have hlast:l < (dg m).length:=by omega
  have hv:=eB (dg m) hlast
  rw [List.drop_eq_nil_of_le (by omega),aJ,show val ([]:Lb Ua) = 0 from I,Nat.mul_zero,Nat.add_zero] at hv
  have hlow:=cR ((dg m).take l)
  rw [List.length_take,Nat.min_eq_left (by omega)] at hlow
  have htop:(dg m)[l] ≠ 0:=ij m _ (by rw [List.getLast?_eq_getElem?,hl1]; exact geE hlast)
  have ht0:((dg m)[l]).toNat ≠ 0:=fun e=>htop (UInt64.toNat_inj.1 (by simpa using e))
  have hb:bln m = 64 * l + bln ((dg m)[l]).toNat:=by
   have e:m / 2 ^ (64 * l) = ((dg m)[l]).toNat:=div_top hv hlow
   have:=ew (m:=m) (s:=64 * l) (by
    have h1:2 ^ (64 * l) * 1 <= 2 ^ (64 * l) * ((dg m)[l]).toNat:=Nat.mul_le_mul_left _ (by omega)
    rw [eJ] at hv
    omega)
   rw [e] at this
   exact this
  have hbt:=dc (l:=64) (m:=((dg m)[l]).toNat) (by have:=((dg m)[l]).toNat_lt; omega)
  have hi:((((dg m).length:Nat):Int) - 1).toNat = l:=by omega
  rw [if_neg (by omega),aW (by omega) (by omega),aa,bn (by omega) (by omega),aa]
  simp only [hi]
  rw [lz_ok,aa,aW (by omega) (by omega),aa,hb]
  congr 1; omega
theorem py (k:Nat) (h:k < 1000000000):dZ (k:Int) 64 = some ((k / 64:Nat):Int):=by
 unfold dZ
 rw [if_neg (by decide),Int.tdiv_eq_ediv_of_nonneg (by omega),aW (by omega) (by omega)]
 congr 1
theorem rem64 (k:Nat):cK (k:Int) 64 = some ((k % 64:Nat):Int):=by
 rw [eA (by decide),Int.tmod_eq_emod_of_nonneg (by omega)]
 congr 1
theorem gg (k:Nat):bH (k:Int) = some k:=by unfold bH; rw [if_pos (Int.natCast_nonneg _),Int.toNat_natCast]
theorem idxN {α:Type} {xs:Lb α} {i:Nat} (h:i < xs.length):idx xs (i:Int) = some xs[i]:=by
 rw [bn (by omega) (by rw [Int.toNat_natCast]; exact h)]
 simp only [Int.toNat_natCast]
theorem putN {α:Type} {xs:Lb α} {i:Nat} (x:α) (h:i < xs.length):put xs ((((i:Nat):Int).toNat:Nat):Int) x = some (xs.set i x):=by rw [Int.toNat_natCast]; exact bR x h
theorem oT (n:Nat) (a:Lb Ua) (k:Nat) (hk:k < 1000000) (hl:a.length < 100000) (hn:200000 < n):cF_p n a (k:Int) = some (dg (val a * 2 ^ k)):=by
 have hkw:2 ^ k = 18446744073709551616 ^ (k / 64) * 2 ^ (k % 64):=by rw [eJ,<- Nat.pow_add]; congr 1; omega
 have hs:k % 64 < 64:=Nat.mod_lt _ (by decide)
 have hh:=au (B:=cF_l1 n a (k:Int)) (fun s:Nat × Lb Ua=>a.length - s.1) (fun s=>s.1 <= a.length/\∃ hx:s.2.length = a.length + k / 64 + 1,val s.2 = val (a.take s.1) * 2 ^ k/\(∀ j (h:j < s.2.length),s.1 + k / 64 < j -> s.2[j] = 0)/\(s.2[s.1 + k / 64]?.getD 0).toNat < 2 ^ (k % 64))
  (fun xs=>xs.length = a.length + k / 64 + 1/\val xs = val a * 2 ^ k) ?_ n (0,List.replicate (a.length + k / 64 + 1) 0) ⟨Nat.zero_le _,by simp,?_,fun j h _=>by simp,?_⟩ (by simp only; omega)
 ·obtain ⟨xs,e,h1,h2⟩:=hh
  unfold cF_p
  rw [py k (by omega),aa,aW (by omega) (by omega),aa,aW (by omega) (by omega),aa,show ((a.length:Nat):Int) + ((k / 64:Nat):Int) + 1 = ((a.length + k / 64 + 1:Nat):Int) by omega,ip _ _ (by omega),aa,e,aa,aP n false xs (by omega) (by omega),aa,h2]
 ·rintro ⟨i,xs⟩ J ⟨a1,a2,a3,a4,a5⟩ hJ
  simp only at a1 a2 a3 a4 a5 hJ
  unfold cF_l1
  simp only
  by_cases hi:i < a.length
  ·have hw:i + k / 64 < xs.length:=by omega
   have hw1:i + k / 64 + 1 < xs.length:=by omega
   rw [geE hw] at a5
   have a5' : (xs[i + k / 64]).toNat < 2 ^ (k % 64):=a5
   rw [if_pos hi,geE hi,aa,py k (by omega),aa,aW (by omega) (by omega),aa,show ((i:Nat):Int) + ((k / 64:Nat):Int) = ((i + k / 64:Nat):Int) by omega,idxN hw,aa,rem64,aa,gg,aa,putN _ hw,aa,aa]
   have e0:val (a.take (i + 1)) * 2 ^ k = val (a.take i) * 2 ^ k + 18446744073709551616 ^ (i + k / 64) * (a[i].toNat * 2 ^ (k % 64)):=by
    rw [bX a hi,Nat.add_mul,hkw,Nat.pow_add]
    congr 1
    grind
   by_cases c:0 < k % 64
   ·obtain ⟨s1,s2,s3⟩:=jv a[i] c hs
    have hor:=ml (a:=xs[i + k / 64]) (b:=shlU a[i] (k % 64)) a5' s2
    have v1:=en (xs[i + k / 64] ||| shlU a[i] (k % 64)) hw
    rw [hor,Nat.mul_add] at v1
    generalize hys:xs.set (i + k / 64) (xs[i + k / 64] ||| shlU a[i] (k % 64)) = ys at *
    have hyl:ys.length = xs.length:=by rw [<- hys,List.length_set]
    have hy1:i + k / 64 + 1 < ys.length:=by omega
    have hy0:ys[i + k / 64 + 1] = 0:=by
     have:=a4 (i + k / 64 + 1) hw1 (by omega)
     simp only [<- hys]
     rw [List.getElem_set_ne (by omega)]; exact this
    have v2:=en (shrU a[i] (64 - k % 64)) hy1
    rw [hy0] at v2
    rw [if_pos (by omega),aa,aW (by omega) (by omega),aa,aW (by omega) (by omega),aa,aa,aW (by omega) (by omega),aa,show (64:Int) - ((k % 64:Nat):Int) = ((64 - k % 64:Nat):Int) by omega,gg,aa,show ((i:Nat):Int) + ((k / 64:Nat):Int) + 1 = ((i + k / 64 + 1:Nat):Int) by omega,idxN hy1,aa,putN _ hy1,aa]
    refine hJ _ ⟨hi,by simp only [List.length_set]; omega,?_,fun j hj hlt=>?_,?_⟩ (by simp only; omega)
    ·simp only
     rw [e0,<- s1,Nat.mul_add,<- Nat.mul_assoc,<- Nat.pow_succ]
     simp only [UInt64.toNat_zero,Nat.mul_zero,Nat.add_zero] at v2
     rw [v2,<- a3]
     show val ys + 18446744073709551616 ^ (i + k / 64 + 1) * _ = val xs + (_ + 18446744073709551616 ^ (i + k / 64 + 1) * _)
     omega
    ·simp only at hj hlt ⊢
     rw [List.getElem_set_ne (by omega)]
     simp only [<- hys]
     rw [List.getElem_set_ne (by omega)]
     exact a4 j (by simpa [<- hys] using hj) (by omega)
    ·simp only
     rw [show i + 1 + k / 64 = i + k / 64 + 1 by omega,List.getElem?_set_self hy1]
     exact s3
   ·have c0:k % 64 = 0:=by omega
    rw [c0,Nat.pow_zero] at a5'
    have hz:xs[i + k / 64] = 0:=UInt64.toNat_inj.1 (by simp; omega)
    have v1:=en (xs[i + k / 64] ||| shlU a[i] (k % 64)) hw
    rw [hz,eZ,c0,dY] at v1
    rw [if_neg (by omega),hz,eZ,c0,dY]
    refine hJ _ ⟨hi,by simp only [List.length_set]; omega,?_,fun j hj hlt=>?_,?_⟩ (by simp only; omega)
    ·simp only
     rw [e0,c0,Nat.pow_zero,Nat.mul_one,<- a3]
     simp only [UInt64.toNat_zero,Nat.mul_zero,Nat.add_zero] at v1
     exact v1
    ·simp only at hj hlt ⊢
     rw [List.getElem_set_ne (by omega)]
     exact a4 j (by simpa using hj) (by omega)
    ·simp only
     rw [show i + 1 + k / 64 = i + k / 64 + 1 by omega,List.getElem?_set_ne (by omega),geE hw1,a4 _ hw1 (by omega),c0]
     decide
  ·rw [if_neg hi]
   rw [List.take_of_length_le (by omega)] at a3
   exact ⟨_,I,a2,a3⟩
 ·simp only [List.take_zero,val,Nat.zero_mul]
  exact cC _ fun x hx=>(List.mem_replicate.1 hx).2
 ·simp only
  rw [List.getElem?_replicate]
  split <;> simp <;> exact Nat.two_pow_pos _
set_option maxRecDepth 8000
theorem nM {B:(Ua × Ua -> Oa Ua) -> Ua × Ua -> Oa Ua} {y1 y0 un:Ua}
  (hB:∀ J q rh,B J (q,rh) = if (4294967296:Ua) <= q then (if (4294967296:Ua) <= rh + y1 then some (q - 1) else J (q - 1,rh + y1)) else (if 4294967296 * rh + un < q * y0 then (if (4294967296:Ua) <= rh + y1 then some (q - 1) else J (q - 1,rh + y1)) else some q))
  {U:Nat} (h1:2147483648 <= y1.toNat) (h1' : y1.toNat < 4294967296) (h0:y0.toNat < 4294967296) (hu:un.toNat < 4294967296) (hU:U < y1.toNat * 4294967296 + y0.toNat) (q0 r0:Ua) (e:U = q0.toNat * y1.toNat + r0.toNat) (hr:r0.toNat < y1.toNat) (n:Nat) (hn:4294967300 < n) :
  ∃ q:Ua,ao B n (q0,r0) = some q/\q.toNat = (U * 4294967296 + un.toNat) / (y1.toNat * 4294967296 + y0.toNat):=by
 obtain ⟨V,hV⟩:∃ V,y1.toNat * 4294967296 + y0.toNat = V:=⟨_,I⟩
 obtain ⟨N,hN⟩:∃ N,U * 4294967296 + un.toNat = N:=⟨_,I⟩
 rw [hV] at hU
 rw [hV,hN]
 have hVp:0 < V:=by omega
 obtain ⟨D,hD⟩:∃ D,N / V = D:=⟨_,I⟩
 have hle:∀ x,x <= D ↔ x * V <= N:=fun x=>by rw [<- hD]; exact Nat.le_div_iff_mul_le hVp
 have hlt:∀ x,D < x ↔ N < x * V:=fun x=>by rw [<- hD]; exact Nat.div_lt_iff_lt_mul hVp
 rw [hD]
 have hNV:D < 4294967296:=by
  rw [hlt]
  omega
 have hq0:q0.toNat <= 4294967297:=by
  have h2:q0.toNat * 2147483648 <= q0.toNat * y1.toNat:=Nat.mul_le_mul_left _ h1
  by_cases h3:q0.toNat <= 4294967297
  ·exact h3
  ·exfalso
   have h4:4294967298 * y1.toNat <= q0.toNat * y1.toNat:=Nat.mul_le_mul_right _ (by omega)
   omega
 have up:D <= q0.toNat:=by
  rw [<- hD]
  have h3:N / V <= N / (y1.toNat * 4294967296):=Nat.div_le_div_left (by omega) (by omega)
  have h4:N / (y1.toNat * 4294967296) = U / y1.toNat:=by
   rw [Nat.mul_comm,<- Nat.div_div_eq_div_mul]
   congr 1
   omega
  have h5:U / y1.toNat = q0.toNat:=by
   rw [e,Nat.mul_comm,Nat.add_comm,Nat.add_mul_div_left _ _ (by omega),Nat.div_eq_of_lt hr,Nat.zero_add]
  rw [h4,h5] at h3
  exact h3
 refine au (B:=B) (fun s:Ua × Ua=>s.1.toNat) (fun s=>U = s.1.toNat * y1.toNat + s.2.toNat/\s.2.toNat < 4294967296/\D <= s.1.toNat/\s.1.toNat <= 4294967297) (fun q=>q.toNat = D) ?_ n (q0,r0) ⟨e,by simp only; omega,up,hq0⟩ (by simp only; omega)
 rintro ⟨q,rh⟩ J ⟨i1,i2,i3,i4⟩ hJ
 simp only at i1 i2 i3 i4 hJ
 rw [hB]
 have c32:(4294967296:Ua).toNat = 4294967296:=rfl
 have hrh:(rh + y1).toNat = rh.toNat + y1.toNat:=by rw [UInt64.toNat_add]; omega
 -- what follows once the guess is too great
 have over:D + 1 <= q.toNat -> ∃ r,(if (4294967296:Ua) <= rh + y1 then some (q - 1) else J (q - 1,rh + y1)) = some r/\r.toNat = D:=fun ho=>by
  have hq1:(q - 1).toNat = q.toNat - 1:=by
   rw [UInt64.toNat_sub]
   have:=q.toNat_lt
   simp only [UInt64.toNat_one]
   omega
  have e1:q.toNat * y1.toNat = (q.toNat - 1) * y1.toNat + y1.toNat:=by
   rw [<- Nat.succ_mul]; congr 1; omega
  split
  ·rename_i hbig
   rw [UInt64.le_iff_toNat_le,c32,hrh] at hbig
   refine ⟨_,I,?_⟩
   rw [hq1]
   refine Nat.le_antisymm ?_ (by omega)
   rw [hle,<- hV,Nat.mul_add,<- Nat.mul_assoc]
   have h5:(q.toNat - 1) * y0.toNat <= 4294967296 * 4294967295:=Nat.mul_le_mul (by omega) (by omega)
   omega
  ·rename_i hbig
   rw [UInt64.le_iff_toNat_le,c32,hrh] at hbig
   exact hJ _ ⟨by simp only; rw [hq1,hrh]; omega,by simp only; rw [hrh]; omega,by simp only; rw [hq1]; omega,by simp only; rw [hq1]; omega⟩ (by simp only; rw [hq1]; omega)
 by_cases c:(4294967296:Ua) <= q
 ·rw [if_pos c]
  rw [UInt64.le_iff_toNat_le,c32] at c
  exact over (by omega)
 ·rw [if_neg c]
  rw [UInt64.le_iff_toNat_le,c32] at c
  have m1:(4294967296 * rh + un).toNat = 4294967296 * rh.toNat + un.toNat:=by
   rw [UInt64.toNat_add,UInt64.toNat_mul,c32]; omega
  have m2:(q * y0).toNat = q.toNat * y0.toNat:=by
   rw [UInt64.toNat_mul]
   have:q.toNat * y0.toNat <= 4294967295 * 4294967295:=Nat.mul_le_mul (by omega) (by omega)
   omega
  have eqV:q.toNat * V = q.toNat * y1.toNat * 4294967296 + q.toNat * y0.toNat:=by rw [<- hV,Nat.mul_add,<- Nat.mul_assoc]
  by_cases c2:4294967296 * rh + un < q * y0
  ·rw [if_pos c2]
   rw [UInt64.lt_iff_toNat_lt,m1,m2] at c2
   refine over ?_
   have:D < q.toNat:=by
    rw [hlt,eqV]
    omega
   omega
  ·rw [if_neg c2]
   rw [UInt64.lt_iff_toNat_lt,m1,m2] at c2
   refine ⟨_,I,Nat.le_antisymm ?_ i3⟩
   rw [hle,eqV]
   omega
theorem mZ {N M R:Nat} (h:N = M + R) (hR:R < 18446744073709551616):(18446744073709551616 - M % 18446744073709551616 + N % 18446744073709551616) % 18446744073709551616 = R:=by omega
theorem glue2 {hi lo p u t w:Nat} (t1:u = hi * p + t) (t2:w + 18446744073709551616 * t = lo * p):(hi * 18446744073709551616 + lo) * p = u * 18446744073709551616 + w:=by
 rw [Nat.add_mul,Nat.mul_right_comm hi 18446744073709551616 p,t1,<- t2]
 generalize hi * p = z
 omega
theorem glue {P Q R1 R0 u w:Nat} (h1:P + R1 = u * 4294967296 + w / 4294967296) (h2:Q + R0 = R1 * 4294967296 + w % 4294967296):u * 18446744073709551616 + w = P * 4294967296 + Q + R0:=by omega
theorem nP (n:Nat) (hi lo y:Ua) (h:hi.toNat < y.toNat) (hn:4294967300 < n):∃ q r:Ua,bh_p n hi lo y = some (q,r)/\hi.toNat * 18446744073709551616 + lo.toNat = q.toNat * y.toNat + r.toNat/\r.toNat < y.toNat:=by
 have hy:=y.toNat_lt
 have hlo:=lo.toNat_lt
 have hy0:y ≠ 0:=fun e=>by rw [e] at h; simp at h
 unfold bh_p
 rw [if_neg hy0,if_neg (by rw [UInt64.le_iff_toNat_le]; omega)]
 by_cases h0:hi = 0
 ·subst h0
  rw [if_pos I]
  unfold kG oQ
  rw [if_neg hy0,aa,if_neg hy0,aa]
  refine ⟨_,_,I,?_,?_⟩
  ·rw [UInt64.toNat_div,UInt64.toNat_mod]
   have:=Nat.div_add_mod lo.toNat y.toNat
   rw [Nat.mul_comm] at this
   simp; omega
  ·rw [UInt64.toNat_mod]; exact Nat.mod_lt _ (by omega)
 ·rw [if_neg h0,lz_ok,aa]
  have hyn:y.toNat ≠ 0:=by omega
  have b1:=fO hyn
  have b2:=dc (l:=64) (m:=y.toNat) (by omega)
  have b3:=kj y.toNat
  have b4:=ir hyn
  obtain ⟨s,hs⟩:∃ s,s = 64 - bln y.toNat:=⟨_,I⟩
  have e1:(ac (64 - (bln y.toNat:Int))).toNat = s:=by unfold ac; rw [UInt64.toNat_ofNat']; omega
  have e2:((64:Ua) - ac (64 - (bln y.toNat:Int))).toNat = 64 - s:=by
   rw [UInt64.toNat_sub,e1]
   simp only [show (64:Ua).toNat = 64 from rfl]
   omega
  have hs64:s < 64:=by omega
  have hps:=Nat.two_pow_pos s
  -- the divisor,moved
  have v2:y.toNat * 2 ^ s < 18446744073709551616:=by
   have:y.toNat * 2 ^ s < 2 ^ bln y.toNat * 2 ^ s:=Nat.mul_lt_mul_of_pos_right b3 hps
   rw [<- Nat.pow_add,show bln y.toNat + s = 64 by omega] at this
   exact this
  have v1:9223372036854775808 <= y.toNat * 2 ^ s:=by
   have:2 ^ (bln y.toNat - 1) * 2 ^ s <= y.toNat * 2 ^ s:=Nat.mul_le_mul_right _ b4
   rw [<- Nat.pow_add,show bln y.toNat - 1 + s = 63 by omega] at this
   exact this
  have hyv:(shlU y s).toNat = y.toNat * 2 ^ s:=by rw [ei y hs64,Nat.mod_eq_of_lt v2]
  have hhi:hi.toNat * 2 ^ s < 18446744073709551616:=Nat.lt_of_le_of_lt (Nat.mul_le_mul_right _ (Nat.le_of_lt h)) v2
  have hhv:(shlU hi s).toNat = hi.toNat * 2 ^ s:=by rw [ei hi hs64,Nat.mod_eq_of_lt hhi]
  -- the dividend,moved
  have hun:∃ t:Nat,(shlU hi s ||| shrU lo (64 - s)).toNat = hi.toNat * 2 ^ s + t/\(shlU lo s).toNat + 18446744073709551616 * t = lo.toNat * 2 ^ s:=by
   by_cases s0:s = 0
   ·subst s0
    refine ⟨0,?_,by rw [dY]; simp⟩
    rw [dY,show shrU lo (64 - 0) = 0 from by unfold shrU; rw [if_neg (by decide)],UInt64.toNat_or]
    simp
   ·obtain ⟨t1,t2,t3⟩:=jv lo (by omega) hs64
    refine ⟨(shrU lo (64 - s)).toNat,?_,t1⟩
    rw [UInt64.or_comm,ml t3 (by rw [hhv]; exact Nat.dvd_mul_left ..),hhv,Nat.add_comm]
  obtain ⟨t,t1,t2⟩:=hun
  rw [e1,e2]
  generalize hyy:shlU y s = yy at *
  generalize hun32:shlU hi s ||| shrU lo (64 - s) = un32 at *
  generalize hun10:shlU lo s = un10 at *
  have hun10l:=un10.toNat_lt
  have hun32l:=un32.toNat_lt
  -- both halves of the divisor
  have w1:(shrU yy 32).toNat = yy.toNat / 4294967296:=lF yy
  have w0:(yy &&& (4294967295:Ua)).toNat = yy.toNat % 4294967296:=ou yy
  have x1:(shrU un10 32).toNat = un10.toNat / 4294967296:=lF un10
  have x0:(un10 &&& (4294967295:Ua)).toNat = un10.toNat % 4294967296:=ou un10
  have hyyl:=yy.toNat_lt
  have hV:(shrU yy 32).toNat * 4294967296 + (yy &&& (4294967295:Ua)).toNat = yy.toNat:=by rw [w1,w0]; omega
  have hy1:2147483648 <= (shrU yy 32).toNat:=by rw [w1]; omega
  have hy1' : (shrU yy 32).toNat < 4294967296:=by rw [w1]; omega
  have hy0' : (yy &&& (4294967295:Ua)).toNat < 4294967296:=by rw [w0]; omega
  have hne:shrU yy 32 ≠ 0:=fun e=>by rw [e] at hy1; simp at hy1
  have hUV:un32.toNat < yy.toNat:=by
   have h5:(hi.toNat * 18446744073709551616 + lo.toNat) * 2 ^ s < y.toNat * 18446744073709551616 * 2 ^ s:=Nat.mul_lt_mul_of_pos_right (by omega) hps
   rw [Nat.add_mul,Nat.mul_right_comm,Nat.mul_right_comm y.toNat] at h5
   omega
  -- the first digit
  have d1:∀ (U:Ua) (hU:U.toNat < yy.toNat) (un:Ua) (hu:un.toNat < 4294967296) (B:(Ua × Ua -> Oa Ua) -> Ua × Ua -> Oa Ua) (hB:∀ J q rh,B J (q,rh) = if (4294967296:Ua) <= q then (if (4294967296:Ua) <= rh + shrU yy 32 then some (q - 1) else J (q - 1,rh + shrU yy 32)) else (if 4294967296 * rh + un < q * (yy &&& (4294967295:Ua)) then (if (4294967296:Ua) <= rh + shrU yy 32 then some (q - 1) else J (q - 1,rh + shrU yy 32)) else some q)),
    ∃ q:Ua,ao B n (U / shrU yy 32,U - U / shrU yy 32 * shrU yy 32) = some q/\q.toNat = (U.toNat * 4294967296 + un.toNat) / yy.toNat:=fun U hU un hu B hB=>by
   have hm:=Nat.div_add_mod U.toNat (shrU yy 32).toNat
   have hml:=Nat.mod_lt U.toNat (show 0 < (shrU yy 32).toNat by omega)
   have hUl:=U.toNat_lt
   have e3:(U - U / shrU yy 32 * shrU yy 32).toNat = U.toNat % (shrU yy 32).toNat:=by
    rw [UInt64.toNat_sub,UInt64.toNat_mul,UInt64.toNat_div]
    rw [Nat.mul_comm] at hm
    have:U.toNat / (shrU yy 32).toNat * (shrU yy 32).toNat <= U.toNat:=by omega
    rw [Nat.mod_eq_of_lt (a:=U.toNat / (shrU yy 32).toNat * (shrU yy 32).toNat) (by omega)]
    omega
   obtain ⟨q,a1,a2⟩:=nM hB (U:=U.toNat) hy1 hy1' hy0' hu (by rw [hV]; exact hU) (U / shrU yy 32) (U - U / shrU yy 32 * shrU yy 32) (by rw [UInt64.toNat_div,e3,Nat.mul_comm]; exact hm.symm) (by rw [e3]; exact hml) n hn
   exact ⟨q,a1,by rw [a2,hV]⟩
  obtain ⟨q1,l2,q1v⟩:=d1 un32 hUV (shrU un10 32) (by rw [x1]; omega) (bh_l2 n y (64 - (bln y.toNat:Int)) lo) (fun J q rh=>by unfold bh_l2; simp only [e1,hyy,hun10])
  have hm1:=Nat.div_add_mod (un32.toNat * 4294967296 + (shrU un10 32).toNat) yy.toNat
  have hml1:=Nat.mod_lt (un32.toNat * 4294967296 + (shrU un10 32).toNat) (show 0 < yy.toNat by omega)
  rw [<- q1v] at hm1
  generalize hR1:(un32.toNat * 4294967296 + (shrU un10 32).toNat) % yy.toNat = R1 at hm1 hml1
  have u21:(un32 * 4294967296 + shrU un10 32 - q1 * yy).toNat = R1:=by
   rw [UInt64.toNat_sub,UInt64.toNat_add,UInt64.toNat_mul,UInt64.toNat_mul]
   rw [show (4294967296:Ua).toNat = 4294967296 from I]
   have:=mZ (N:=un32.toNat * 4294967296 + (shrU un10 32).toNat) (M:=q1.toNat * yy.toNat) (R:=R1) (by rw [Nat.mul_comm q1.toNat]; exact hm1.symm) (by omega)
   generalize q1.toNat * yy.toNat = M at *
   omega
  obtain ⟨q0,l1,q0v⟩:=d1 (un32 * 4294967296 + shrU un10 32 - q1 * yy) (by rw [u21]; exact hml1) (un10 &&& (4294967295:Ua)) (by rw [x0]; omega) (bh_l1 n y (64 - (bln y.toNat:Int)) lo) (fun J q rh=>by unfold bh_l1; simp only [e1,hyy,hun10])
  rw [u21] at q0v
  have hm0:=Nat.div_add_mod (R1 * 4294967296 + (un10 &&& (4294967295:Ua)).toNat) yy.toNat
  have hml0:=Nat.mod_lt (R1 * 4294967296 + (un10 &&& (4294967295:Ua)).toNat) (show 0 < yy.toNat by omega)
  rw [<- q0v] at hm0
  generalize hR0:(R1 * 4294967296 + (un10 &&& (4294967295:Ua)).toNat) % yy.toNat = R0 at hm0 hml0
  have u00:((un32 * 4294967296 + shrU un10 32 - q1 * yy) * 4294967296 + (un10 &&& (4294967295:Ua)) - q0 * yy).toNat = R0:=by
   rw [UInt64.toNat_sub,UInt64.toNat_add,UInt64.toNat_mul,UInt64.toNat_mul,u21]
   rw [show (4294967296:Ua).toNat = 4294967296 from I]
   have:=mZ (N:=R1 * 4294967296 + (un10 &&& (4294967295:Ua)).toNat) (M:=q0.toNat * yy.toNat) (R:=R0) (by rw [Nat.mul_comm q0.toNat]; exact hm0.symm) (by omega)
   generalize q0.toNat * yy.toNat = M at *
   omega
  have q1l:q1.toNat < 4294967296:=by
   rw [q1v,Nat.div_lt_iff_lt_mul (by omega)]; rw [x1]; omega
  have q0l:q0.toNat < 4294967296:=by
   rw [q0v,Nat.div_lt_iff_lt_mul (by omega)]; rw [x0]; omega
  -- all together
  have all:(hi.toNat * 18446744073709551616 + lo.toNat) * 2 ^ s = (q1.toNat * 4294967296 + q0.toNat) * y.toNat * 2 ^ s + R0:=by
   have a1:(hi.toNat * 18446744073709551616 + lo.toNat) * 2 ^ s = un32.toNat * 18446744073709551616 + un10.toNat:=by
    exact glue2 t1 t2
   have a2:(q1.toNat * 4294967296 + q0.toNat) * y.toNat * 2 ^ s = yy.toNat * q1.toNat * 4294967296 + yy.toNat * q0.toNat:=by
    rw [Nat.mul_assoc,<- hyv]; grind
   rw [a1,a2]
   rw [x1] at hm1
   rw [x0] at hm0
   exact glue hm1 hm0
  have hq:(q1 * 4294967296 + q0).toNat = q1.toNat * 4294967296 + q0.toNat:=by
   rw [UInt64.toNat_add,UInt64.toNat_mul,show (4294967296:Ua).toNat = 4294967296 from I]; omega
  have hd:2 ^ s ∣ R0:=by
   have:=(Nat.dvd_add_right (Nat.dvd_mul_left (2 ^ s) ((q1.toNat * 4294967296 + q0.toNat) * y.toNat))).1 (by rw [<- all]; exact Nat.dvd_mul_left ..)
   exact this
  obtain ⟨rr,hrr⟩:=hd
  have hrv:(shrU ((un32 * 4294967296 + shrU un10 32 - q1 * yy) * 4294967296 + (un10 &&& (4294967295:Ua)) - q0 * yy) s).toNat = rr:=by
   rw [bS _ hs64,u00,hrr,Nat.mul_div_cancel_left _ hps]
  unfold jn kG
  rw [if_neg hne,aa,aa]
  dsimp only
  rw [l2,aa,aa,if_neg hne,aa,aa]
  try dsimp only
  rw [l1,aa,aa,aa]
  refine ⟨_,_,I,?_,?_⟩
  ·rw [hq,hrv]
   rw [hrr,Nat.mul_comm (2 ^ s) rr,<- Nat.add_mul] at all
   exact Nat.mul_right_cancel hps all
  ·rw [hrv]
   rw [hrr,Nat.mul_comm,hyv] at hml0
   exact Nat.lt_of_mul_lt_mul_right hml0
set_option maxRecDepth 8000
theorem pm (a:Nat):bln a <= 64 * (dg a).length:=dc (by
 have:=cR (dg a)
 rw [aJ,eJ] at this
 exact this)
theorem dg_one {m:Nat} (h:(dg m).length = 1):∃ y:Ua,dg m = [y]/\y.toNat = m:=by
 rcases e:dg m with _ | ⟨y,_ | ⟨z,zs⟩⟩
 ·rw [e] at h; simp at h
 ·refine ⟨y,I,?_⟩
  have:=aJ m
  rw [e] at this
  simp only [val] at this
  omega
 ·rw [e] at h; simp at h
theorem je {xs:Lb Ua} {i:Nat} (v:Ua) (h:i < xs.length):(xs.set i v).drop i = v :: xs.drop (i + 1):=by
 rw [List.drop_eq_getElem_cons (by simpa using h),List.getElem_set_self,List.drop_set_of_lt (by omega)]
theorem lP (n:Nat) (a:Lb Ua) (y:Ua) (hy:0 < y.toNat) (hl:a.length < 100000) (hn:4294967300 < n):∃ u xs,ao (bA_l1 n a [y]) n (0,((a.length:Nat):Int) - 1,List.replicate a.length 0) = some (u,xs)/\xs.length = a.length/\val a = val xs * y.toNat + u.toNat/\u.toNat < y.toNat:=by
 have hh:=au (B:=bA_l1 n a [y]) (fun s:Ua × Int × Lb Ua=>(s.2.1 + 1).toNat) (fun s=>(-1 <= s.2.1/\s.2.1 < a.length)/\s.2.2.length = a.length/\val (a.drop (s.2.1 + 1).toNat) = val (s.2.2.drop (s.2.1 + 1).toNat) * y.toNat + s.1.toNat/\s.1.toNat < y.toNat)
  (fun r=>r.2.length = a.length/\val a = val r.2 * y.toNat + r.1.toNat/\r.1.toNat < y.toNat) ?_ n (0,((a.length:Nat):Int) - 1,List.replicate a.length 0) ⟨by simp only; omega,by simp,?_,by simpa using hy⟩ (by simp only; omega)
 ·obtain ⟨⟨u,xs⟩,e,h1,h2,h3⟩:=hh; exact ⟨u,xs,e,h1,h2,h3⟩
 ·rintro ⟨u,z,xs⟩ J ⟨a1,a2,a3,a4⟩ hJ
  simp only at a1 a2 a3 a4 hJ
  unfold bA_l1
  simp only
  by_cases hz:0 <= z
  ·obtain ⟨k,rfl⟩:∃ k:Nat,z = k:=⟨z.toNat,by omega⟩
   have e0:(((k:Int) + 1).toNat) = k + 1:=by omega
   rw [e0] at a3
   have hka:k < a.length:=by omega
   have hkx:k < xs.length:=by omega
   obtain ⟨q,r,d1,d2,d3⟩:=nP n u a[k] y a4 hn
   rw [if_pos hz,idxN hka,aa]
   simp only [List.getElem?_cons_zero,aa]
   rw [d1,aa,idxN hkx,aa,putN _ hkx,aa,aW (by omega) (by omega),aa]
   have eN:(((k:Int) - 1 + 1)).toNat = k:=by omega
   refine hJ (_,_,_) ⟨by simp only; omega,by simpa using a2,?_,d3⟩ (by simp only; omega)
   simp only
   rw [eN,je q hkx,List.drop_eq_getElem_cons hka]
   simp only [val]
   rw [a3,Nat.add_mul,Nat.mul_add,<- Nat.mul_assoc]
   omega
  ·rw [if_neg hz]
   have e0:(z + 1).toNat = 0:=by omega
   rw [e0] at a3
   exact ⟨_,rfl,a2,by simpa using a3,a4⟩
 ·simp only
  rw [show ((((a.length:Nat):Int) - 1 + 1)).toNat = a.length by omega,List.drop_length,List.drop_eq_nil_of_le (by simp)]
  simp [val]
theorem kQ (n:Nat) (a b:Nat) (h0:b ≠ 0) (ha:(dg a).length < 10000) (hb:(dg b).length < 10000) (hn:18446744073709551616 < n):∃ q,bA_p n (dg a) (dg b) = some (q,dg (a % b))/\q.length <= (dg a).length/\val q = a / b:=by
 unfold bA_p
 rw [ip _ _ (by omega),aa]
 by_cases h1:(dg b).length = 1
 ·obtain ⟨y,e,hy⟩:=dg_one h1
  obtain ⟨u,xs,l1,l2,l3,l4⟩:=lP n (dg a) y (by omega) (by omega) (by omega)
  rw [e,if_pos (show ([y]:Lb Ua).length = 1 from I),l1,aa]
  simp only
  rw [aP n false _ (by simp only [leC,leN]; omega) (by simp),aa]
  rw [aJ,hy] at l3
  rw [hy] at l4
  have hu:=(Nat.div_mod_unique (a:=a) (b:=b) (c:=u.toNat) (d:=val xs) (by omega)).2 ⟨by rw [Nat.mul_comm]; omega,l4⟩
  refine ⟨xs,?_,by omega,hu.1.symm⟩
  simp only [val,Nat.mul_zero,Nat.add_zero]
  rw [hu.2]
 ·rw [if_neg h1,jx n a (by omega),aa,jx n b (by omega),aa]
  have bla:=pm a
  have blb:=pm b
  rw [aW (by omega) (by omega),aa]
  have hbp:=fO h0
  have hbg:=ir h0
  have hal:=kj a
  by_cases hK:(bln a:Int) - bln b < 0
  ·obtain ⟨m,rfl⟩:∃ m,n = m + 1:=⟨n - 1,by omega⟩
   have hab:a < b:=Nat.lt_of_lt_of_le hal (Nat.le_trans (Nat.pow_le_pow_right (by decide) (by omega)) hbg)
   rw [iM]
   unfold bA_l2
   simp only
   rw [if_neg (by omega),aa]
   refine ⟨_,by rw [Nat.mod_eq_of_lt hab],by simp,?_⟩
   rw [Nat.div_eq_of_lt hab]
   exact cC _ fun x hx=>(List.mem_replicate.1 hx).2
  ·obtain ⟨K,hKe⟩:∃ K:Nat,(bln a:Int) - bln b = K:=⟨bln a - bln b,by omega⟩
   rw [hKe]
   have hstart:a < b * 2 ^ (K + 1):=by
    have h2:2 ^ bln a <= b * 2 ^ (K + 1):=by
     have:2 ^ (bln b - 1) * 2 ^ (K + 1) <= b * 2 ^ (K + 1):=Nat.mul_le_mul_right _ hbg
     rw [<- Nat.pow_add,show bln b - 1 + (K + 1) = bln a by omega] at this
     exact this
    omega
   have hh:=au (B:=bA_l2 n (dg b)) (fun s:Lb Ua × Int × Lb Ua=>(s.2.1 + 1).toNat)
    (fun s=>(-1 <= s.2.1/\s.2.1 <= K)/\s.2.2.length = (dg a).length/\∃ R,s.1 = dg R/\R <= a/\a = b * val s.2.2 + R/\R < b * 2 ^ (s.2.1 + 1).toNat/\2 ^ (s.2.1 + 1).toNat ∣ val s.2.2)
    (fun r=>r.1.length = (dg a).length/\val r.1 = a / b/\r.2 = dg (a % b)) ?_ n (dg a,(K:Int),List.replicate (dg a).length 0)
    ⟨by simp only; omega,by simp,a,rfl,Nat.le_refl _,?_,?_,?_⟩ (by simp only; omega)
   ·obtain ⟨⟨q,r⟩,e,e1,e2,e3⟩:=hh
    simp only at e1 e2 e3
    rw [e,aa]
    simp only
    rw [e3]
    exact ⟨q,I,by omega,e2⟩
   ·rintro ⟨rw_,z,q⟩ J ⟨a1,a2,R,rfl,a3,a4,a5,a6⟩ hJ
    simp only at a1 a2 a3 a4 a5 a6 hJ
    unfold bA_l2
    simp only
    by_cases hz:0 <= z
    ·obtain ⟨k,rfl⟩:∃ k:Nat,z = k:=⟨z.toNat,by omega⟩
     have e0:(((k:Int) + 1).toNat) = k + 1:=by omega
     rw [e0] at a5 a6
     have eN:(((k:Int) - 1 + 1)).toNat = k:=by omega
     have hRl:=gF a3
     obtain ⟨st1,st2⟩:=oA a4 a5 a6
     rw [if_pos hz,oT n (dg b) k (by omega) (by omega) (by omega),aa,aJ]
     obtain ⟨c,ec,c1,c2⟩:=gy n (dg R) (dg (b * 2 ^ k)) (ij _) (ij _) (by omega) (by omega)
     rw [aJ,aJ] at c1 c2
     rw [ec,aa]
     unfold jn
     simp only
     by_cases hc:0 <= c
     ·have hge:b * 2 ^ k <= R:=by omega
      obtain ⟨g1,g2,g3⟩:=st1 hge
      obtain ⟨xs,t1,t2,t3⟩:=lv n (dg R) (dg (b * 2 ^ k)) (gF hge) (by rw [aJ,aJ]; exact hge) (by omega) (by omega)
      rw [aJ,aJ] at t3
      have hkq:k / 64 < q.length:=by
       have h2:2 ^ k < 2 ^ (64 * (dg a).length):=by
        have h3:=cR (dg a)
        rw [aJ,eJ] at h3
        have h4:1 * 2 ^ k <= b * 2 ^ k:=Nat.mul_le_mul_right _ (by omega)
        omega
       have h5:=(Nat.pow_lt_pow_iff_right (by decide:1 < 2)).1 h2
       omega
      have hbit:=bit_add hkq a6 (shl_one (Nat.mod_lt _ (by decide)))
      rw [if_pos hc,t1,aa,aP n false xs (by omega) (by omega),aa,py k (by omega),aa,idxN hkq,aa,rem64,aa,gg,aa,putN _ hkq,aa]
      simp only
      rw [aW (by omega) (by omega),aa,t3]
      refine hJ (_,_,_) ⟨by simp only; omega,by simpa using a2,R - b * 2 ^ k,rfl,by omega,?_,?_,?_⟩ (by simp only; omega)
      ·simp only; rw [hbit]; exact g1
      ·simp only; rw [eN]; exact g2
      ·simp only; rw [eN,hbit]; exact g3
     ·rw [if_neg hc,aW (by omega) (by omega),aa]
      refine hJ (_,_,_) ⟨by simp only; omega,a2,R,rfl,a3,a4,?_,?_⟩ (by simp only; omega)
      ·simp only; rw [eN]; omega
      ·simp only; rw [eN]; exact st2 (by omega)
    ·rw [if_neg hz]
     have e0:(z + 1).toNat = 0:=by omega
     rw [e0,Nat.pow_zero,Nat.mul_one] at a5
     have hu:=(Nat.div_mod_unique (a:=a) (b:=b) (c:=R) (d:=val q) (by omega)).2 ⟨by omega,a5⟩
     exact ⟨_,rfl,a2,hu.1.symm,by simp only; rw [hu.2]⟩
   ·simp only
    rw [cC _ fun x hx=>(List.mem_replicate.1 hx).2]; omega
   ·simp only
    rw [show (((K:Int) + 1).toNat) = K + 1 by omega]
    exact hstart
   ·simp only
    rw [cC _ fun x hx=>(List.mem_replicate.1 hx).2]
    exact Nat.dvd_zero _
theorem oV (n l:Nat) (a b:Int) (ha:Fit l a) (hb:Fit l b) (h0:b ≠ 0) (hl:l < 5000) (hn:18446744073709551616 < n):cj_p n (L a) (L b) = some (L (a / b),L (a % b)):=by
 have hal:=ha.len
 have hbl:=hb.len
 obtain ⟨q,e1,e2,e3⟩:=kQ n a.natAbs b.natAbs (by omega) (by omega) (by omega) hn
 have hm:a.natAbs % b.natAbs < b.natAbs:=Nat.mod_lt _ (by omega)
 have hl2:(dg (a.natAbs % b.natAbs)).length <= l:=lz (Nat.lt_trans hm hb)
 have hdm:=Nat.div_add_mod a.natAbs b.natAbs
 have hq:a.natAbs / b.natAbs <= a.natAbs:=Nat.div_le_self _ _
 unfold cj_p
 rw [show (L a).fk = dg a.natAbs from I,show (L b).fk = dg b.natAbs from I,e1,aa]
 simp only
 rw [aP n _ _ (by omega) (by omega),aa,aP n _ _ (by omega) (by omega),aa,e3,aJ]
 generalize hx:a.natAbs / b.natAbs = x at *
 generalize hy:a.natAbs % b.natAbs = y at *
 simp only [ow]
 show (if (decide (a < 0) && decide (0 < y)) = true then _ else _) = _
 have hqf:x < 18446744073709551616 ^ l:=Nat.lt_of_le_of_lt hq ha
 have hyf:y < 18446744073709551616 ^ l:=Nat.lt_trans hm hb
 have hpw:2 * 18446744073709551616 ^ l <= 18446744073709551616 ^ (l + 1):=by rw [Nat.pow_succ,Nat.mul_comm]; exact Nat.mul_le_mul_left _ (by decide)
 have hp1:1 <= 18446744073709551616 ^ l:=Nat.pow_pos (by decide)
 have hbb:b.natAbs < 18446744073709551616 ^ l:=hb
 have hab:(b.natAbs:Int) * x + y = a.natAbs:=by exact_mod_cast hdm
 by_cases hr:a < 0/\0 < y
 ·obtain ⟨h1,h2⟩:=hr
  rw [if_pos (by simp [h1,h2])]
  have f1:(⟨false,dg b.natAbs⟩:Tf) = L b.natAbs:=by unfold L; simp
  have f2:(⟨!(L b).fc,([(1:Ua)]:Lb Ua)⟩:Tf) = L (if b < 0 then 1 else -1):=by
   unfold L
   by_cases hb0:b < 0 <;> simp [hb0] <;> rw [dg1 (by decide) (by decide)] <;> rfl
  rw [f1,f2,gN n (l + 1) _ _ ?_ ?_ (by omega) (by omega),aa,gN n (l + 1) _ _ ?_ ?_ (by omega) (by omega),aa]
  ·have e:sg (!(decide (a < 0) == decide (b < 0))) x + (if b < 0 then 1 else -1) = a / b/\sg (decide (a < 0)) y + b.natAbs = a % b:=by
    have:=jI (a:=a) (b:=b) (q:=sg (!(decide (a < 0) == decide (b < 0))) x + (if b < 0 then 1 else -1)) (r:=sg (decide (a < 0)) y + b.natAbs) ?_ ?_ ?_
    ·exact ⟨this.1.symm,this.2.symm⟩
    ·unfold sg
     by_cases hb0:b < 0
     ·have:(b.natAbs:Int) = -b:=by omega
      rw [this] at hab ⊢
      have h3:(a.natAbs:Int) = -a:=by omega
      simp [h1,hb0]
      rw [Int.mul_add]; grind
     ·have:(b.natAbs:Int) = b:=by omega
      rw [this] at hab ⊢
      have h3:(a.natAbs:Int) = -a:=by omega
      simp [h1,hb0]
      rw [Int.mul_add]; grind
    ·unfold sg; simp [h1]; omega
    ·unfold sg; simp [h1]; omega
   show some (L (sg (!(decide (a < 0) == decide (b < 0))) x + (if b < 0 then 1 else -1)),L (sg (decide (a < 0)) y + b.natAbs)) = _
   rw [e.1,e.2]
  ·unfold Fit; rw [mh]; omega
  ·unfold Fit; split <;> simp <;> omega
  ·unfold Fit; rw [mh]; omega
  ·unfold Fit; rw [Int.natAbs_natCast]; omega
 ·rw [if_neg (by simpa using hr)]
  have e:=jI (a:=a) (b:=b) (q:=sg (!(decide (a < 0) == decide (b < 0))) x) (r:=sg (decide (a < 0)) y) ?_ ?_ ?_
  ·rw [e.1,e.2]; rfl
  ·unfold sg
   by_cases h1:a < 0
   ·have hy0:y = 0:=by omega
    have h3:(a.natAbs:Int) = -a:=by omega
    by_cases hb0:b < 0
    ·have:(b.natAbs:Int) = -b:=by omega
     rw [this] at hab; simp [h1,hb0,hy0] at hab ⊢; grind
    ·have:(b.natAbs:Int) = b:=by omega
     rw [this] at hab; simp [h1,hb0,hy0] at hab ⊢; grind
   ·have h3:(a.natAbs:Int) = a:=by omega
    by_cases hb0:b < 0
    ·have:(b.natAbs:Int) = -b:=by omega
     rw [this] at hab; simp [h1,hb0] at hab ⊢; grind
    ·have:(b.natAbs:Int) = b:=by omega
     rw [this] at hab; simp [h1,hb0] at hab ⊢; grind
  ·unfold sg
   by_cases h1:a < 0
   ·have hy0:y = 0:=by omega
    simp [hy0]
   ·simp [h1]
  ·unfold sg
   by_cases h1:a < 0
   ·have hy0:y = 0:=by omega
    simp [hy0]; omega
   ·simp [h1]; omega
theorem jW (n l:Nat) (a b:Int) (ha:Fit l a) (hb:Fit l b) (hl:l < 5000) (hn:18446744073709551616 < n):bs_p n (L a) (L b) = some (L (Nat.gcd a.natAbs b.natAbs:Nat)):=by
 obtain ⟨M,hM⟩:∃ M:Nat,M = 64 * l:=⟨_,I⟩
 have hx2:a.natAbs < 2 ^ M:=by unfold Fit at ha; rw [eJ,<- hM] at ha; exact ha
 have hy2:b.natAbs < 2 ^ M:=by unfold Fit at hb; rw [eJ,<- hM] at hb; exact hb
 have he:=eu_le hx2 hy2
 have h:=au (B:=bs_l1 n) (fun s:Lb Ua × Lb Ua=>eu (val s.1) (val s.2)) (fun s=>∃ x y,s = (dg x,dg y)/\(dg x).length < 10000/\(dg y).length < 10000/\Nat.gcd x y = Nat.gcd a.natAbs b.natAbs)
  (fun r=>r = dg (Nat.gcd a.natAbs b.natAbs)) ?_ n (dg a.natAbs,dg b.natAbs) ⟨_,_,rfl,by have:=ha.len; omega,by have:=hb.len; omega,rfl⟩ (by simp only [aJ]; omega)
 ·obtain ⟨r,h1,rfl⟩:=h
  unfold bs_p
  rw [show (L a).fk = dg a.natAbs from I,show (L b).fk = dg b.natAbs from I,h1,aa]
  unfold L
  simp
 ·rintro _ J ⟨x,y,rfl,h1,h2,h3⟩ hJ
  unfold bs_l1
  simp only
  by_cases h0:y = 0
  ·subst h0
   rw [if_neg (by rw [dg0]; simp)]
   exact ⟨_,rfl,by rw [<- h3,Nat.gcd_zero_right]⟩
  ·obtain ⟨q,e1,_,_⟩:=kQ n x y h0 h1 h2 hn
   have hm:x % y < y:=Nat.mod_lt _ (by omega)
   have hyl:0 < (dg y).length:=by
    rcases e:dg y with _ | ⟨z,zs⟩
    ·have:=aJ y; rw [e] at this; exact absurd this.symm h0
    ·simp
   rw [if_pos hyl,e1,aa]
   simp only
   refine hJ (dg y,dg (x % y)) ⟨_,_,rfl,h2,Nat.lt_of_le_of_lt (gF (Nat.le_of_lt hm)) h2,?_⟩ (by simp only [aJ]; exact mG h0)
   rw [<- h3,Nat.gcd_comm x y,Nat.gcd_rec y x,Nat.gcd_comm]
theorem mL (n l:Nat) (a b:Int) (ha:Fit l a) (hb:Fit l b) (h0:b ≠ 0) (hl:l < 5000) (hn:18446744073709551616 < n) :
  ca_p n (L a) (L b) = some (Rt (Rat.divInt a b))/\(Rat.divInt a b).num.natAbs <= a.natAbs/\(Rat.divInt a b).den <= b.natAbs:=by
 have hg:0 < Nat.gcd a.natAbs b.natAbs:=Nat.gcd_pos_of_pos_right _ (by omega)
 have hgb:Nat.gcd a.natAbs b.natAbs <= b.natAbs:=Nat.gcd_le_right _ (by omega)
 have hgw:Fit l ((Nat.gcd a.natAbs b.natAbs:Nat):Int):=by unfold Fit at *; rw [Int.natAbs_natCast]; omega
 obtain ⟨x,hx⟩:((Nat.gcd a.natAbs b.natAbs:Nat):Int) ∣ a:=Int.ofNat_dvd_left.2 (Nat.gcd_dvd_left _ _)
 obtain ⟨y,hy⟩:((Nat.gcd a.natAbs b.natAbs:Nat):Int) ∣ b:=Int.ofNat_dvd_left.2 (Nat.gcd_dvd_right _ _)
 have hco:=Nat.coprime_div_gcd_div_gcd hg
 generalize Nat.gcd a.natAbs b.natAbs = g at *
 have hg0:(g:Int) ≠ 0:=by omega
 have e1:a / (g:Int) = x:=by rw [hx]; exact Int.mul_ediv_cancel_left _ hg0
 have e2:b / (g:Int) = y:=by rw [hy]; exact Int.mul_ediv_cancel_left _ hg0
 have e3:a.natAbs = g * x.natAbs:=by rw [hx,Int.natAbs_mul]; rfl
 have e4:b.natAbs = g * y.natAbs:=by rw [hy,Int.natAbs_mul]; rfl
 have hc:x.natAbs.Coprime y.natAbs:=by
  rw [e3,e4,Nat.mul_div_cancel_left _ hg,Nat.mul_div_cancel_left _ hg] at hco; exact hco
 have hxl:x.natAbs <= a.natAbs:=by rw [e3]; exact Nat.le_mul_of_pos_left _ hg
 have hyl:y.natAbs <= b.natAbs:=by rw [e4]; exact Nat.le_mul_of_pos_left _ hg
 have hy0:y ≠ 0:=fun e=>h0 (by rw [hy,e,Int.mul_zero])
 have eq:Rat.divInt a b = Rat.divInt x y:=by
  conv=>lhs; rw [hx,hy]
  exact Rat.divInt_mul_left hg0
 have xw:Fit l x:=Nat.lt_of_le_of_lt hxl ha
 have yw:Fit l y:=Nat.lt_of_le_of_lt hyl hb
 have gc:bs_p n (L a) (L b) = some (L g):=by
  have:=jW n l a b ha hb hl hn
  rw [this]
  have h5:Nat.gcd a.natAbs b.natAbs = g:=by
   rw [e3,e4,Nat.gcd_mul_left,show Nat.gcd x.natAbs y.natAbs = 1 from hc,Nat.mul_one]
  rw [h5]
 unfold ca_p
 rw [gc,aa,oV n l a g ha hgw hg0 hl hn,aa,oV n l b g hb hgw hg0 hl hn,aa,e1,e2]
 simp only
 rw [eq]
 by_cases hs:y < 0
 ·rw [if_pos (by simpa [L] using hs),gp n l x xw (by omega) (by omega),aa,gp n l y yw (by omega) (by omega),aa]
  have h5:=kc (x:=-x) (y:=-y) (by omega) (by rwa [Int.natAbs_neg,Int.natAbs_neg])
  rw [Rat.neg_divInt_neg] at h5
  unfold Rt
  rw [h5.1,h5.2]
  exact ⟨rfl,by rw [Int.natAbs_neg]; exact hxl,by have:=h5.2; omega⟩
 ·rw [if_neg (by simpa [L] using hs)]
  have h5:=kc (x:=x) (y:=y) (by omega) hc
  unfold Rt
  rw [h5.1,h5.2]
  exact ⟨I,hxl,by have:=h5.2; omega⟩
set_option maxRecDepth 8000
abbrev T8:=Ua × Ua × Ua × Ua × Ua × Ua × Ua × Ua
def wv (t:T8):Lb Ua:=[t.1,t.2.1,t.2.2.1,t.2.2.2.1,t.2.2.2.2.1,t.2.2.2.2.2.1,t.2.2.2.2.2.2.1,t.2.2.2.2.2.2.2]
theorem ne:∀ {xs ys:Lb Ua},xs.length = ys.length -> val xs = val ys -> xs = ys
 | [],[],_,_=>rfl
 | x :: xs,[],h,_=>by simp at h
 | [],y :: ys,h,_=>by simp at h
 | x :: xs,y :: ys,h,e=>by
  simp only [val] at e
  have hx:=x.toNat_lt
  have hy:=y.toNat_lt
  have e1:x = y:=UInt64.toNat_inj.1 (by omega)
  have e2:val xs = val ys:=by omega
  rw [e1,ne (by simpa using h) e2]
theorem wv_inj {s t:T8} (h:val (wv s) = val (wv t)):s = t:=by
 have:=ne (by rfl) h
 unfold wv at this
 obtain ⟨s1,s2,s3,s4,s5,s6,s7,s8⟩:=s
 obtain ⟨t1,t2,t3,t4,t5,t6,t7,t8⟩:=t
 simp only [List.cons.injEq,and_true] at this
 simp only [Prod.mk.injEq]
 exact this
def HB:Nat:=9223372036854775808 * 18446744073709551616 ^ 7
def FB:Nat:=18446744073709551616 ^ 8
theorem eh:FB = 2 * HB:=by unfold FB HB; rfl
theorem cT:0 < HB:=by unfold HB; decide
theorem po (t:T8):val (wv t) < FB:=cR (wv t)
def Wn (m:Nat):T8:=(UInt64.ofNat m,UInt64.ofNat (m / 18446744073709551616),UInt64.ofNat (m / 18446744073709551616 / 18446744073709551616),UInt64.ofNat (m / 18446744073709551616 / 18446744073709551616 / 18446744073709551616),UInt64.ofNat (m / 18446744073709551616 / 18446744073709551616 / 18446744073709551616 / 18446744073709551616),UInt64.ofNat (m / 18446744073709551616 / 18446744073709551616 / 18446744073709551616 / 18446744073709551616 / 18446744073709551616),UInt64.ofNat (m / 18446744073709551616 / 18446744073709551616 / 18446744073709551616 / 18446744073709551616 / 18446744073709551616 / 18446744073709551616),UInt64.ofNat (m / 18446744073709551616 / 18446744073709551616 / 18446744073709551616 / 18446744073709551616 / 18446744073709551616 / 18446744073709551616 / 18446744073709551616))
theorem cD (m:Nat) (xs:Lb Ua) (h:val xs = m / 18446744073709551616):val (UInt64.ofNat m :: xs) = m:=by
 simp only [val]
 rw [UInt64.toNat_ofNat', h]
 exact Nat.mod_add_div m 18446744073709551616
theorem Wn_val {m:Nat} (h:m < FB):val (wv (Wn m)) = m:=by
 unfold wv Wn
 refine cD _ _ (cD _ _ (cD _ _ (cD _ _ (cD _ _ (cD _ _ (cD _ _ ?_))))))
 simp only [val]
 rw [UInt64.toNat_ofNat', Nat.mul_zero,Nat.add_zero]
 refine Nat.mod_eq_of_lt ?_
 simp only [Nat.div_div_eq_div_mul]
 refine Nat.div_lt_of_lt_mul ?_
 exact h
def Fw (z:Int):Prop:=-(HB:Int) <= z/\z < HB
def Wg (z:Int):T8:=Wn (z % (FB:Int)).toNat
theorem eR (z:Int):(val (wv (Wg z)):Int) = z % (FB:Int):=by
 have hp:=cT
 have hf:=eh
 have h0:=Int.emod_nonneg z (b:=(FB:Int)) (by omega)
 have h1:=Int.emod_lt_of_pos z (b:=(FB:Int)) (by omega)
 unfold Wg
 rw [Wn_val (by omega)]
 omega
theorem lB {z:Int} (h:Fw z) (h0:0 <= z):val (wv (Wg z)) = z.natAbs:=by
 have hp:=cT
 have hf:=eh
 have:=eR z
 rw [Int.emod_eq_of_lt h0 (by have:=h.2; omega)] at this
 omega
theorem md {z:Int} (h:Fw z) (h0:z < 0):val (wv (Wg z)) + z.natAbs = FB:=by
 have hp:=cT
 have hf:=eh
 have:=eR z
 have e:z % (FB:Int) = z + FB:=by
  rw [<- Int.add_emod_right]
  exact Int.emod_eq_of_lt (by have:=h.1; omega) (by omega)
 rw [e] at this
 have:=h.1
 omega
theorem bZ {s b c a c1 c2 Vs Vb Va K:Nat} (h1:s + b + c = a + 18446744073709551616 * c1) (h2:Vs + Vb + c1 = Va + K * c2):(s + 18446744073709551616 * Vs) + (b + 18446744073709551616 * Vb) + c = (a + 18446744073709551616 * Va) + 18446744073709551616 * K * c2:=by
 rw [Nat.mul_assoc]
 have:=congrArg (18446744073709551616 * ·) h2
 simp only [Nat.mul_add] at this
 omega
theorem jH (n:Nat) (a b:T8):∃ s c,bK_p n a b = some (s,c)/\val (wv s) + val (wv b) = val (wv a) + FB * c.toNat/\c.toNat <= 1:=by
 obtain ⟨a1,a2,a3,a4,a5,a6,a7,a8⟩:=a
 obtain ⟨b1,b2,b3,b4,b5,b6,b7,b8⟩:=b
 obtain ⟨s1,c1,e1,f1,g1⟩:=bM a1 b1 0 (by decide)
 obtain ⟨s2,c2,e2,f2,g2⟩:=bM a2 b2 c1 g1
 obtain ⟨s3,c3,e3,f3,g3⟩:=bM a3 b3 c2 g2
 obtain ⟨s4,c4,e4,f4,g4⟩:=bM a4 b4 c3 g3
 obtain ⟨s5,c5,e5,f5,g5⟩:=bM a5 b5 c4 g4
 obtain ⟨s6,c6,e6,f6,g6⟩:=bM a6 b6 c5 g5
 obtain ⟨s7,c7,e7,f7,g7⟩:=bM a7 b7 c6 g6
 obtain ⟨s8,c8,e8,f8,g8⟩:=bM a8 b8 c7 g7
 refine ⟨(s1,s2,s3,s4,s5,s6,s7,s8),c8,?_,?_,g8⟩
 ·unfold bK_p
  simp only [e1,e2,e3,e4,e5,e6,e7,e8,aa]
 ·have hFB:FB = 18446744073709551616 * (18446744073709551616 * (18446744073709551616 * (18446744073709551616 * (18446744073709551616 * (18446744073709551616 * (18446744073709551616 * (18446744073709551616 * 1))))))):=rfl
  have:=bZ f1 (bZ f2 (bZ f3 (bZ f4 (bZ f5 (bZ f6 (bZ f7 (bZ f8 (show 0 + 0 + c8.toNat = 0 + 1 * c8.toNat by omega))))))))
  rw [<- hFB,show (0:Ua).toNat = 0 from I,Nat.add_zero] at this
  simp only [wv,val]
  exact this
theorem nU (n:Nat) (a b:T8) (hn:10 < n):∃ c,bG_p n a b = some c/\(c < 0 ↔ val (wv a) < val (wv b))/\(c = 0 ↔ val (wv a) = val (wv b)):=by
 have hh:=au (B:=bG_l1 n a b) (fun z:Int=>(z + 1).toNat) (fun z=>-1 <= z/\z < 8/\(wv a).drop (z + 1).toNat = (wv b).drop (z + 1).toNat)
  (fun r=>(r = .inl (-1)/\val (wv a) < val (wv b)) ∨ (r = .inl 1/\val (wv b) < val (wv a)) ∨ (r = .inr ()/\wv a = wv b)) ?_ n 7 ⟨by omega,by omega,I⟩ (by omega)
 ·obtain ⟨r,hr,h1 | h1 | h1⟩:=hh
  ·unfold bG_p
   rw [hr,h1.1]; exact ⟨_,rfl,by have:=h1.2; omega,by have:=h1.2; omega⟩
  ·unfold bG_p
   rw [hr,h1.1]; exact ⟨_,rfl,by have:=h1.2; omega,by have:=h1.2; omega⟩
  ·unfold bG_p
   rw [hr,h1.1,h1.2]; exact ⟨_,rfl,by omega,by omega⟩
 ·intro z J ⟨h1,h2,h3⟩ hJ
  unfold bG_l1
  simp only
  have la:(wv a).length = 8:=rfl
  have lb:(wv b).length = 8:=rfl
  by_cases h0:0 <= z
  ·have e1:(z + 1).toNat = z.toNat + 1:=by omega
   rw [e1] at h3
   rw [if_pos h0]
   show ∃ r,((idx (wv a) z).bind fun z64=>(idx (wv b) z).bind fun z68=>if z64 = z68 then (chk (z - 1)).bind fun s73=>J s73 else if z64 < z68 then some (Sum.inl (-1:Int)) else some (Sum.inl (1:Int))) = some r/\_
   rw [bn h0 (by omega),aa,bn h0 (by omega),aa]
   split
   ·rename_i he
    rw [aW (by omega) (by omega),aa]
    refine hJ (z - 1) ⟨by omega,by omega,?_⟩ (by omega)
    rw [show (z - 1 + 1).toNat = z.toNat by omega,List.drop_eq_getElem_cons (by omega),List.drop_eq_getElem_cons (l:=wv b) (by omega),h3,he]
   ·rename_i hne
    split
    ·rename_i hlt; exact ⟨_,I,.inl ⟨I,gD (by omega) (by omega) h3 hlt⟩⟩
    ·rename_i h5
     refine ⟨_,I,.inr (.inl ⟨I,gD (by omega) (by omega) h3.symm ?_⟩)⟩
     rw [UInt64.lt_iff_toNat_lt] at h5 ⊢
     have:((wv a)[z.toNat]'(by omega)).toNat ≠ ((wv b)[z.toNat]'(by omega)).toNat:=fun e=>hne (UInt64.toNat_inj.1 e)
     omega
  ·rw [if_neg h0]
   have e1:(z + 1).toNat = 0:=by omega
   rw [e1] at h3
   exact ⟨_,rfl,.inr (.inr ⟨rfl,by simpa using h3⟩)⟩
theorem gJ (t:T8):shrU t.2.2.2.2.2.2.2 63 = 1 ↔ HB <= val (wv t):=by
 obtain ⟨t1,t2,t3,t4,t5,t6,t7,t8⟩:=t
 have h1:=cR [t1,t2,t3,t4,t5,t6,t7]
 have e:val (wv (t1,t2,t3,t4,t5,t6,t7,t8)) = val [t1,t2,t3,t4,t5,t6,t7] + 18446744073709551616 ^ 7 * t8.toNat:=by
  have:=fx [t1,t2,t3,t4,t5,t6,t7] [t8]
  simp only [leC,leN] at this
  show val ([t1,t2,t3,t4,t5,t6,t7] ++ [t8]) = _
  rw [this]
  simp [val]
 rw [e]
 simp only [leC,leN] at h1
 have h8:=t8.toNat_lt
 have hs:(shrU t8 63).toNat = t8.toNat / 9223372036854775808:=bS t8 (by decide)
 have hsw:shrU t8 63 = 1 ↔ 9223372036854775808 <= t8.toNat:=by
  constructor
  ·intro h
   have:=congrArg UInt64.toNat h
   rw [hs] at this
   simp only [UInt64.toNat_one] at this
   omega
  ·intro h
   refine UInt64.toNat_inj.1 ?_
   rw [hs]
   simp only [UInt64.toNat_one]
   omega
 show shrU t8 63 = 1 ↔ _
 rw [hsw]
 unfold HB
 generalize val [t1,t2,t3,t4,t5,t6,t7] = lo at *
 generalize hP:(18446744073709551616:Nat) ^ 7 = P at *
 constructor
 ·intro h
  have:=Nat.mul_le_mul_left P h
  rw [Nat.mul_comm] at this
  omega
 ·intro h
  by_cases c:9223372036854775808 <= t8.toNat
  ·exact c
  ·exfalso
   have:=Nat.mul_le_mul_left P (show t8.toNat + 1 <= 9223372036854775808 by omega)
   rw [Nat.mul_add,Nat.mul_comm P 9223372036854775808] at this
   omega
theorem gE (n:Nat) (z:Int) (h:Fw z) (hn:10 < n):bO_p n (Wg z) = some (L z):=by
 have hp:=cT
 have hf:=eh
 have fin:∀ (b:Bool) (t:T8),val (wv t) = z.natAbs -> (b && decide (0 < z.natAbs)) = decide (z < 0) -> ((app ([]:Lb Ua) ([t.1,t.2.1,t.2.2.1,t.2.2.2.1,t.2.2.2.2.1,t.2.2.2.2.2.1,t.2.2.2.2.2.2.1,t.2.2.2.2.2.2.2]:Lb Ua)).bind fun xs=>(aA_p n b xs).bind fun y=>some y) = some (L z):=fun b t hv hb=>by
  show ((app ([]:Lb Ua) (wv t)).bind fun xs=>(aA_p n b xs).bind fun y=>some y) = some (L z)
  rw [bp [] (wv t) (by show 0 + 8 <= 1000000; decide),aa,List.nil_append,aP n b (wv t) (by show 8 < n; omega) (by show 8 <= 4294967296; decide),aa,hv,hb]
  rfl
 unfold bO_p cW_p
 by_cases h0:z < 0
 ·have hv:=md h h0
  have hge:HB <= val (wv (Wg z)):=by have:=h.1; omega
  obtain ⟨s,c,e,e2,e3⟩:=jH n (0,0,0,0,0,0,0,0) (Wg z)
  have hz:val (wv ((0,0,0,0,0,0,0,0):T8)) = 0:=rfl
  rw [hz] at e2
  have hs:=po s
  have hc:c.toNat = 1:=by
   by_cases hc0:c.toNat = 0
   ·rw [hc0] at e2; omega
   ·omega
  rw [hc] at e2
  rw [if_pos ((gJ _).2 hge),e,aa,aa]
  exact fin _ s (by omega) (by rw [decide_eq_true ((gJ _).2 hge),decide_eq_true (by omega:0 < z.natAbs),decide_eq_true h0]; rfl)
 ·have hv:=lB h (by omega)
  have hlt:¬ shrU (Wg z).2.2.2.2.2.2.2 63 = 1:=fun e=>by have:=(gJ _).1 e; have:=h.2; omega
  rw [if_neg hlt,aa]
  exact fin _ (Wg z) hv (by rw [decide_eq_false hlt,decide_eq_false h0]; rfl)
theorem iK {z:Int} {t:T8} (h:(val (wv t):Int) = z % (FB:Int)):t = Wg z:=wv_inj (by have:=eR z; omega)
theorem oI {ws:Lb Ua} (h:ws.length <= 8):val (wv (aN ws 0 0,aN ws 1 0,aN ws 2 0,aN ws 3 0,aN ws 4 0,aN ws 5 0,aN ws 6 0,aN ws 7 0)) = val ws:=by
 unfold wv aN
 rcases ws with _ | ⟨a,_ | ⟨b,_ | ⟨c,_ | ⟨d,_ | ⟨e,_ | ⟨f,_ | ⟨g,_ | ⟨i,_ | ⟨j,xs⟩⟩⟩⟩⟩⟩⟩⟩⟩
 any_goals simp [val]
 simp only [leC] at h
 omega
open Classical in
theorem toldG (n:Nat) (z:Int) (hn:10 < n):cm_p n (L z) = some (if Fw z then (Wg z,0) else ((0,0,0,0,0,0,0,0),6)):=by
 have hp:=cT
 have hf:=eh
 have hdg:=aJ z.natAbs
 unfold cm_p
 by_cases hl:8 < (dg z.natAbs).length
 ·have h1:=kw (ij z.natAbs) (by intro e; rw [e] at hl; simp at hl)
  have h2:18446744073709551616 ^ 8 <= 18446744073709551616 ^ ((dg z.natAbs).length - 1):=Nat.pow_le_pow_right (by decide) (by omega)
  have hbig:FB <= z.natAbs:=by unfold FB; omega
  rw [if_pos (show 8 < (L z).fk.length from hl),if_neg fun h:Fw z=>by have:=h.1; have:=h.2; omega]
 ·have hv:=oI (ws:=dg z.natAbs) (by omega)
  rw [if_neg (show ¬ 8 < (L z).fk.length from hl)]
  show ((cB_p n ⟨decide (z < 0),(aN (dg z.natAbs) 0 0,aN (dg z.natAbs) 1 0,aN (dg z.natAbs) 2 0,aN (dg z.natAbs) 3 0,aN (dg z.natAbs) 4 0,aN (dg z.natAbs) 5 0,aN (dg z.natAbs) 6 0,aN (dg z.natAbs) 7 0)⟩).bind _) = _
  generalize hT:((aN (dg z.natAbs) 0 0,aN (dg z.natAbs) 1 0,aN (dg z.natAbs) 2 0,aN (dg z.natAbs) 3 0,aN (dg z.natAbs) 4 0,aN (dg z.natAbs) 5 0,aN (dg z.natAbs) 6 0,aN (dg z.natAbs) 7 0):T8) = t at *
  rw [hdg] at hv
  unfold cB_p
  obtain ⟨c,ec,c1,c2⟩:=nU n t (0,0,0,0,0,0,0,9223372036854775808) hn
  have hlim:val (wv ((0,0,0,0,0,0,0,9223372036854775808):T8)) = HB:=by decide
  rw [hlim,hv] at c1 c2
  simp only
  rw [ec,aa]
  obtain ⟨s,cc,e,e2,e3⟩:=jH n (0,0,0,0,0,0,0,0) t
  have hz:val (wv ((0,0,0,0,0,0,0,0):T8)) = 0:=rfl
  rw [hz,hv] at e2
  have hs:=po s
  have neg:z < 0 -> Fw z -> s = Wg z:=fun h0 hw=>by
   refine iK ?_
   have hc:cc.toNat = 1:=by
    by_cases hc0:cc.toNat = 0
    ·rw [hc0] at e2; omega
    ·omega
   rw [hc] at e2
   have e5:z % (FB:Int) = z + FB:=by
    rw [<- Int.add_emod_right]
    exact Int.emod_eq_of_lt (by have:=hw.1; omega) (by omega)
   rw [e5]; omega
  by_cases g1:0 < c
  ·rw [if_pos g1,aa,if_neg fun h:Fw z=>by have:=h.1; have:=h.2; omega]
  ·rw [if_neg g1]
   by_cases g2:c = 0
   ·rw [if_pos g2]
    by_cases h0:z < 0
    ·have hw:Fw z:=⟨by omega,by omega⟩
     rw [if_pos (decide_eq_true h0),e,aa,aa,if_pos hw,neg h0 hw]
    ·rw [if_neg (by simpa using h0),aa,if_neg fun h:Fw z=>by have:=h.2; omega]
   ·rw [if_neg g2]
    by_cases h0:z < 0
    ·have hw:Fw z:=⟨by omega,by omega⟩
     rw [if_pos (decide_eq_true h0),e,aa,aa,if_pos hw,neg h0 hw]
    ·have hw:Fw z:=⟨by omega,by omega⟩
     rw [if_neg (by simpa using h0),aa,if_pos hw]
     rw [show t = Wg z from iK (by rw [Int.emod_eq_of_lt (by omega) (by have:=hw.2; omega)]; omega)]
set_option maxRecDepth 8000
def Sg (q:Rat):Tb:=⟨Wg q.num,Wg q.den⟩
def FQ (q:Rat):Prop:=Fw q.num/\Fw (q.den:Int)
def noS:Tb:=⟨(0,0,0,0,0,0,0,0),(0,0,0,0,0,0,0,0)⟩
theorem Fw.fit {z:Int} (h:Fw z):Fit 8 z:=by
 have h1:=eh
 have h2:=cT
 unfold Fit
 show z.natAbs < FB
 have:=h.1
 have:=h.2
 omega
theorem FQ.n {q:Rat} (h:FQ q):Fit 8 q.num:=h.1.fit
theorem FQ.d {q:Rat} (h:FQ q):Fit 8 (q.den:Int):=h.2.fit
theorem FQ.ndnz {q:Rat}:(q.den:Int) ≠ 0:=by have:=q.den_pos; omega
theorem cB {z:Int} (h:Sm z):Fw z:=by
 have:9223372036854775808 <= HB:=by unfold HB; decide
 unfold Sm at h
 exact ⟨by omega,by omega⟩
theorem me {x y:Int} (hx:Fw x) (hy:Fw y) (e:Wg x = Wg y):x = y:=by
 have h1:=eR x
 have h2:=eR y
 rw [e,h2] at h1
 have hf:=eh
 have hp:=cT
 have a:=hx.1; have b:=hx.2; have c:=hy.1; have d:=hy.2
 have e3:=Int.emod_eq_emod_iff_emod_sub_eq_zero.1 h1
 obtain ⟨k,hk⟩:=Int.dvd_of_emod_eq_zero e3
 by_cases k0:k = 0
 ·rw [k0,Int.mul_zero] at hk; omega
 ·by_cases kp:1 <= k
  ·have:(FB:Int) * 1 <= FB * k:=Int.mul_le_mul_of_nonneg_left kp (by omega)
   omega
  ·have:(FB:Int) * k <= FB * (-1):=Int.mul_le_mul_of_nonneg_left (show k <= -1 by omega) (by omega)
   omega
theorem kb {x y:Rat} (hx:FQ x) (hy:FQ y) (e:Sg x = Sg y):x = y:=by
 unfold Sg at e
 injection e with e1 e2
 have h1:=me hx.1 hy.1 e1
 have h2:=me hx.2 hy.2 e2
 exact Rat.ext h1 (by omega)
theorem cg (n:Nat) (q:Rat) (h:FQ q) (hn:10 < n):al_p n (Sg q) = some (Rt q):=by
 unfold al_p
 rw [show (Sg q).fN = Wg q.num from I,show (Sg q).fD = Wg q.den from I,gE n _ h.1 hn,aa,gE n _ h.2 hn,aa]
 rfl
open Classical in
theorem rtoldG (n:Nat) (q:Rat) (hn:10 < n):ac_p n (Rt q) = some (if FQ q then (Sg q,0) else (noS,6)):=by
 unfold ac_p
 rw [show (Rt q).fj = L q.num from I,show (Rt q).fh = L q.den from I,toldG n _ hn,aa,toldG n _ hn,aa]
 by_cases h1:Fw q.num
 ·by_cases h2:Fw (q.den:Int)
  ·rw [if_pos h1,if_pos h2,if_pos (show FQ q from ⟨h1,h2⟩)]
   rfl
  ·rw [if_pos h1,if_neg h2,if_neg fun h:FQ q=>h2 h.2]
   rfl
 ·rw [if_neg h1,if_neg fun h:FQ q=>h1 h.1]
  rfl
theorem checkG (n:Nat) (q:Rat) (h:FQ q) (hn:18446744073709551616 < n):bT_p n (Sg q) = some 0:=by
 have hd:=q.den_pos
 unfold bT_p
 rw [gQ n 1 (by unfold Sm; decide) (by omega),aa,cg n q h (by omega),aa,show (Rt q).fj = L q.num from I,show (Rt q).fh = L q.den from I,dH,aa,Int.sign_eq_one_of_pos (by omega),if_neg (by decide)]
 rw [jW n 8 _ _ h.n h.d (by decide) hn,aa,show Nat.gcd q.num.natAbs (q.den:Int).natAbs = 1 from q.reduced]
 unfold cg_p
 rw [fT n 1 _ _ (by unfold Fit; decide) (by unfold Fit; decide) (by omega) (by omega),aa,dH]
 rfl
theorem Fit.mul {l m:Nat} {a b:Int} (ha:Fit l a) (hb:Fit m b):Fit (l + m) (a * b):=by
 unfold Fit at *
 rw [Int.natAbs_mul,Nat.pow_add]
 exact Nat.mul_lt_mul'' ha hb
theorem Fit.add {l:Nat} {a b:Int} (ha:Fit l a) (hb:Fit l b):Fit (l + 1) (a + b):=by
 unfold Fit at *
 have:2 * 18446744073709551616 ^ l <= 18446744073709551616 ^ (l + 1):=by rw [Nat.pow_succ,Nat.mul_comm]; exact Nat.mul_le_mul_left _ (by decide)
 omega
theorem Fit.mono {l m:Nat} {a:Int} (ha:Fit l a) (h:l <= m):Fit m a:=Nat.lt_of_lt_of_le ha (Nat.pow_le_pow_right (by decide) h)
structure RF (l:Nat) (q:Rat):Prop where
 n:Fit l q.num
 d:Fit l (q.den:Int)
theorem FQ.rf {q:Rat} (h:FQ q):RF 8 q:=⟨h.n,h.d⟩
theorem RF.of {l:Nat} {a b:Int} (ha:Fit l a) (hb:Fit l b) (h1:(Rat.divInt a b).num.natAbs <= a.natAbs) (h2:(Rat.divInt a b).den <= b.natAbs):RF l (Rat.divInt a b):=
 ⟨Nat.lt_of_le_of_lt h1 ha,by unfold Fit; rw [Int.natAbs_natCast]; exact Nat.lt_of_le_of_lt h2 hb⟩
theorem Wg_zero:Wg 0 = (0,0,0,0,0,0,0,0):=(iK (by decide)).symm
set_option maxRecDepth 8000
theorem quoI_ok {x y:Int} (h:y ≠ 0) (h1:-9223372036854775808 <= x.tdiv y) (h2:x.tdiv y <= 9223372036854775807):dZ x y = some (x.tdiv y):=by
 unfold dZ; rw [if_neg h,aW h1 h2]
theorem pE (n:Nat) (a b:Lb Int) (hda:Dig a) (hdb:Dig b) (hn:a.length + 1 < n/\b.length + 1 < n) (hl:a.length < 100000/\b.length < 100000):∃ xs,bC_p n a b = some xs/\Dig xs/\xs.length <= max a.length b.length + 1/\dv xs = dv a + dv b:=by
 have h:=au (B:=bC_l1 n a b) (fun s:Int × Int × Lb Int=>max a.length b.length + 1 - s.2.2.length)
  (fun s=>s.2.1 = (s.2.2.length:Int)/\s.2.2.length <= max a.length b.length + 1/\(0 <= s.1/\s.1 <= 1)/\Dig s.2.2/\dv s.2.2 + 4294967296 ^ s.2.2.length * s.1.toNat = dv (a.take s.2.2.length) + dv (b.take s.2.2.length)/\(s.2.2.length = max a.length b.length + 1 -> s.1 = 0))
  (fun xs:Lb Int=>Dig xs/\xs.length <= max a.length b.length + 1/\dv xs = dv a + dv b) ?_ n (0,0,[]) ⟨rfl,by simp,by simp,fE,by simp [dv],fun _=>rfl⟩ (by simp only [leN]; omega)
 ·obtain ⟨xs,e,h⟩:=h
  unfold bC_p
  rw [e,aa]
  exact ⟨xs,I,h⟩
 ·rintro ⟨c,z,xs⟩ J ⟨h1,h2,h3,h4,h5,h6⟩ hJ
  simp only at h1 h2 h3 h4 h5 h6 hJ
  subst h1
  unfold bC_l1 jn
  simp only
  have step:∀ v:Int,0 <= v -> v < 8589934592 -> v.toNat = c.toNat + (a[xs.length]?.getD 0).toNat + (b[xs.length]?.getD 0).toNat -> xs.length <= max a.length b.length -> (xs.length = max a.length b.length -> v <= 1) -> ∃ r,J (v / 4294967296,((xs.length:Nat):Int) + 1,xs ++ [v % 4294967296]) = some r/\Dig r/\r.length <= max a.length b.length + 1/\dv r = dv a + dv b:=fun v v0 v1 hv hk hc=>by
   refine hJ _ ⟨by simp,by simp only [List.length_append,leC,leN]; omega,by simp only; omega,dM h4 (by omega),?_,fun e=>?_⟩ (by simp only [List.length_append,leC,leN]; omega)
   ·simp only [List.length_append,leC,leN,Nat.zero_add]
    rw [eX,fC a,fC b,Nat.pow_succ]
    have e1:(v % 4294967296).toNat + 4294967296 * (v / 4294967296).toNat = c.toNat + (a[xs.length]?.getD 0).toNat + (b[xs.length]?.getD 0).toNat:=by omega
    have e2:=congrArg (4294967296 ^ xs.length * ·) e1
    simp only [Nat.mul_add] at e2
    rw [Nat.mul_assoc]
    omega
   ·simp only [List.length_append,leC,leN] at e
    have:=hc (by omega)
    simp only; omega
  have q0:∀ v:Int,0 <= v -> v < 8589934592 -> dZ v 4294967296 = some (v / 4294967296):=fun v v0 v1=>by
   have e:v.tdiv 4294967296 = v / 4294967296:=Int.tdiv_eq_ediv_of_nonneg v0
   rw [quoI_ok (by decide) (by rw [e]; omega) (by rw [e]; omega),e]
  have m0:∀ v:Int,0 <= v -> cK v 4294967296 = some (v % 4294967296):=fun v v0=>by
   rw [eA (by decide),Int.tmod_eq_emod_of_nonneg v0]
  have hlen:xs.length + 1 <= 1000000:=by omega
  by_cases ha:xs.length < a.length
  ·have da:=hda a[xs.length] (List.getElem_mem _)
   rw [if_pos (by omega),bn (by omega) (by simpa using ha),aa]
   simp only [Int.toNat_natCast]
   rw [aW (by omega) (by omega),aa]
   by_cases hb:xs.length < b.length
   ·have db:=hdb b[xs.length] (List.getElem_mem _)
    rw [if_pos (by omega),bn (by omega) (by simpa using hb),aa]
    simp only [Int.toNat_natCast]
    rw [aW (by omega) (by omega),aa,m0 _ (by omega),aa,bp _ _ (by simpa using hlen),aa,q0 _ (by omega) (by omega),aa,aW (by omega) (by omega),aa]
    exact step _ (by omega) (by omega) (by rw [geE ha,geE hb]; simp only [Option.getD_some]; omega) (by omega) (by omega)
   ·rw [if_neg (by omega),m0 _ (by omega),aa,bp _ _ (by simpa using hlen),aa,q0 _ (by omega) (by omega),aa,aW (by omega) (by omega),aa]
    exact step _ (by omega) (by omega) (by rw [geE ha,List.getElem?_eq_none (by omega)]; simp only [Option.getD_some,Option.getD_none]; omega) (by omega) (by omega)
  ·rw [if_neg (by omega)]
   by_cases hb:xs.length < b.length
   ·have db:=hdb b[xs.length] (List.getElem_mem _)
    rw [if_pos (by omega),bn (by omega) (by simpa using hb),aa]
    simp only [Int.toNat_natCast]
    rw [aW (by omega) (by omega),aa,m0 _ (by omega),aa,bp _ _ (by simpa using hlen),aa,q0 _ (by omega) (by omega),aa]
    exact step _ (by omega) (by omega) (by rw [List.getElem?_eq_none (by omega),geE hb]; simp only [Option.getD_some,Option.getD_none]; omega) (by omega) (by omega)
   ·rw [if_neg (by omega)]
    by_cases hc:0 < c
    ·rw [if_pos hc,m0 _ (by omega),aa,bp _ _ (by simpa using hlen),aa,q0 _ (by omega) (by omega),aa,aW (by omega) (by omega),aa]
     exact step _ (by omega) (by omega) (by rw [List.getElem?_eq_none (by omega),List.getElem?_eq_none (by omega)]; simp only [Option.getD_none]; omega) (by omega) (by omega)
    ·rw [if_neg hc]
     have c0:c = 0:=by omega
     rw [c0,List.take_of_length_le (by omega),List.take_of_length_le (by omega)] at h5
     exact ⟨_,rfl,h4,h2,by simpa using h5⟩
def FtR (l:Nat) (z:Int):Prop:=z.natAbs < 4294967296 ^ l
theorem FtR.len {l:Nat} {z:Int} (h:FtR l z):(rd z.natAbs).length <= l:=cS h
theorem FtR.neg {l:Nat} {z:Int} (h:FtR l z):FtR l (-z):=by unfold FtR at *; rwa [Int.natAbs_neg]
theorem FtR.mono {l m:Nat} {z:Int} (h:FtR l z) (hm:l <= m):FtR m z:=Nat.lt_of_lt_of_le h (Nat.pow_le_pow_right (by decide) hm)
theorem FtR.mul {l m:Nat} {a b:Int} (ha:FtR l a) (hb:FtR m b):FtR (l + m) (a * b):=by
 unfold FtR at *
 rw [Int.natAbs_mul,Nat.pow_add]
 exact Nat.mul_lt_mul'' ha hb
theorem FtR.add {l:Nat} {a b:Int} (ha:FtR l a) (hb:FtR l b):FtR (l + 1) (a + b):=by
 unfold FtR at *
 rw [Nat.pow_succ]
 omega
theorem kP (n l a b:Nat) (s:Bool) (h:a <= b) (hl:(rd b).length <= l) (hn:l < n) (hl2:l < 10000):((aq_p n (rd b) (rd a)).bind fun y67=>(ae_p n s y67).bind fun y75=>some y75) = some (R8 (sg s (b - a:Nat))):=by
 have hle:=Nat.le_trans (dB (Nat.sub_le b a)) hl
 rw [gR n (rd b) (rd a) (aG _) (aG _) (dB h) (by rw [aK,aK]; exact h) (by omega) (by omega),aa,aK,aK,ct n _ _ (aG _) (by omega) (by omega),aa,aK,pw]
theorem iD (n l:Nat) (a b:Int) (ha:FtR l a) (hb:FtR l b) (hn:l + 1 < n) (hl:l < 10000):bt_p n (R8 a) (R8 b) = some (R8 (a + b)):=by
 unfold bt_p
 have h1:=ha.len
 have h2:=hb.len
 by_cases h:((R8 a).fc == (R8 b).fc) = true
 ·rw [if_pos h]
  obtain ⟨xs,e1,e4,e2,e3⟩:=pE n (rd a.natAbs) (rd b.natAbs) (aG _) (aG _) ⟨by omega,by omega⟩ ⟨by omega,by omega⟩
  rw [show (R8 a).fD = rd a.natAbs from I,show (R8 b).fD = rd b.natAbs from I,e1,aa,ct n _ _ e4 (by omega) (by omega),aa,e3,aK,aK,pw]
  refine congrArg (fun x=>some (R8 x)) ?_
  have h3:decide (a < 0) = decide (b < 0):=eq_of_beq h
  show sg (decide (a < 0)) _ = _
  unfold sg
  by_cases h4:a < 0 <;> by_cases h5:b < 0 <;> simp [h4,h5] at h3 ⊢ <;> omega
 ·rw [if_neg h]
  obtain ⟨c,e1,e2,e3⟩:=il n (rd a.natAbs) (rd b.natAbs) (aG _) (aG _) (gB _) (gB _) (by omega) (by omega)
  have h3:decide (a < 0) ≠ decide (b < 0):=fun e=>h (by rw [beq_iff_eq]; exact e)
  rw [aK,aK] at e2
  rw [show (R8 a).fD = rd a.natAbs from I,show (R8 b).fD = rd b.natAbs from I,e1,aa]
  by_cases hc:0 <= c
  ·rw [if_pos hc,kP n l _ _ _ (by omega) h1 (by omega) hl]
   refine congrArg (fun x=>some (R8 x)) ?_
   show sg (decide (a < 0)) _ = _
   unfold sg
   by_cases h4:a < 0 <;> by_cases h5:b < 0 <;> simp [h4,h5] at h3 ⊢ <;> omega
  ·rw [if_neg hc,kP n l _ _ _ (by omega) h2 (by omega) hl]
   refine congrArg (fun x=>some (R8 x)) ?_
   show sg (decide (b < 0)) _ = _
   unfold sg
   by_cases h4:a < 0 <;> by_cases h5:b < 0 <;> simp [h4,h5] at h3 ⊢ <;> omega
/-! ### Products -/
theorem oG {xs:Lb Int} {i:Nat} (s:Int) (h:i < xs.length):dv ((xs.set i s).take (i + 1)) = dv (xs.take i) + 4294967296 ^ i * s.toNat:=by
 rw [bT _ (by simpa using h),List.getElem_set_self,List.take_set_of_le (Nat.le_refl _)]
theorem jQ (w:Ua):aB (w % (4294967296:Ua)) = ((w.toNat % 4294967296:Nat):Int):=by
 have:=w.toNat_lt
 unfold aB
 rw [UInt64.toNat_mod,if_pos (by simp; omega)]
 rfl
theorem mK (w:Ua):aB (w / (4294967296:Ua)) = ((w.toNat / 4294967296:Nat):Int):=by
 have:=w.toNat_lt
 unfold aB
 rw [UInt64.toNat_div,if_pos (by simp; omega)]
 rfl
theorem gP {x:Int} (h:0 <= x/\x < 4294967296):(ac x).toNat = x.toNat:=by
 unfold ac
 rw [UInt64.toNat_ofNat']; omega
theorem prod_in (n:Nat) (a b:Lb Int) (hda:Dig a) (hdb:Dig b) (i:Nat) (hia:i < a.length) (xs0:Lb Int) (hd0:Dig xs0) (hi:i + b.length < xs0.length) (hn:b.length < n) :
  ∃ xs u,ao (az_l1 n b i a) n (0,0,xs0) = some (xs,u)/\xs.length = xs0.length/\Dig xs/\u.toNat < 4294967296/\dv (xs.take (i + b.length)) + 4294967296 ^ (i + b.length) * u.toNat = dv (xs0.take (i + b.length)) + a[i].toNat * dv b * 4294967296 ^ i:=by
 have da:=hda a[i] (List.getElem_mem _)
 have h:=au (B:=az_l1 n b i a) (fun s:Ua × Nat × Lb Int=>b.length - s.2.1) (fun s=>s.2.1 <= b.length/\s.2.2.length = xs0.length/\(∀ k,i + s.2.1 <= k -> s.2.2[k]? = xs0[k]?)/\Dig s.2.2/\s.1.toNat < 4294967296/\dv (s.2.2.take (i + s.2.1)) + 4294967296 ^ (i + s.2.1) * s.1.toNat = dv (xs0.take (i + s.2.1)) + a[i].toNat * dv (b.take s.2.1) * 4294967296 ^ i)
  (fun r:Lb Int × Ua=>r.1.length = xs0.length/\Dig r.1/\r.2.toNat < 4294967296/\dv (r.1.take (i + b.length)) + 4294967296 ^ (i + b.length) * r.2.toNat = dv (xs0.take (i + b.length)) + a[i].toNat * dv b * 4294967296 ^ i) ?_ n (0,0,xs0) ⟨by simp,rfl,fun _ _=>rfl,hd0,by simp,by simp [dv]⟩ (by simpa using hn)
 ·obtain ⟨⟨xs,u⟩,h1,h2⟩:=h; exact ⟨xs,u,h1,h2⟩
 ·rintro ⟨u,j,xs⟩ J ⟨h1,h2,h3,hd,hu,h4⟩ hJ
  simp only at h1 h2 h3 h4 hd hu hJ
  unfold az_l1
  simp only
  by_cases hj:j < b.length
  ·have db:=hdb b[j] (List.getElem_mem _)
   have hx:i + j < xs.length:=by omega
   have dx:=hd (xs[i + j]'hx) (List.getElem_mem _)
   have hx0:xs[i + j]'hx = xs0[i + j]'(by omega):=by
    have:=h3 (i + j) (by omega)
    rw [geE (by omega),geE (by omega)] at this
    exact Option.some.inj this
   have bx:a[i].toNat * b[j].toNat <= 4294967295 * 4294967295:=Nat.mul_le_mul (by omega) (by omega)
   have ev:((u + ac (xs[i + j]'hx)) + (ac a[i]) * (ac b[j])).toNat = u.toNat + (xs[i + j]'hx).toNat + a[i].toNat * b[j].toNat:=by
    rw [UInt64.toNat_add,UInt64.toNat_add,UInt64.toNat_mul,gP dx,gP da,gP db]
    rw [Nat.mod_eq_of_lt (show a[i].toNat * b[j].toNat < 2 ^ 64 by omega),Nat.mod_eq_of_lt (show u.toNat + (xs[i + j]'hx).toNat < 2 ^ 64 by omega),Nat.mod_eq_of_lt (by omega)]
   rw [if_pos hj,geE hx,aa,geE hia,aa,geE hj,aa,bR _ hx,aa,jQ,ev]
   have ed:(((u + ac (xs[i + j]'hx)) + (ac a[i]) * (ac b[j])) / (4294967296:Ua)).toNat = (u.toNat + (xs[i + j]'hx).toNat + a[i].toNat * b[j].toNat) / 4294967296:=by
    rw [UInt64.toNat_div,ev]; rfl
   generalize (u + ac (xs[i + j]'hx) + ac a[i] * ac b[j]) / (4294967296:Ua) = u' at *
   refine hJ (u', j + 1,_) ⟨hj,by simpa using h2,fun k hk=>?_,fun x hxm=>?_,by simp only; omega,?_⟩ (by simp only; omega)
   ·simp only at hk ⊢
    rw [List.getElem?_set_ne (by omega)]; exact h3 k (by omega)
   ·rcases List.mem_or_eq_of_mem_set hxm with hm | rfl
    ·exact hd x hm
    ·omega
   ·simp only
    rw [<- Nat.add_assoc,oG _ hx,bT xs0 (by omega),bT b hj,<- hx0,Nat.pow_succ,ed]
    rw [Nat.pow_add] at h4 ⊢
    rw [Int.toNat_natCast]
    generalize (xs[i + j]'hx).toNat = x at *
    generalize a[i].toNat = y at *
    generalize b[j].toNat = w at *
    have hv:=Nat.mod_add_div (u.toNat + x + y * w) 4294967296
    generalize (u.toNat + x + y * w) % 4294967296 = m at *
    generalize (u.toNat + x + y * w) / 4294967296 = q at *
    have e2:=congrArg (4294967296 ^ i * 4294967296 ^ j * ·) hv
    simp only [Nat.mul_add] at e2
    grind
  ·rw [if_neg hj]
   have:j = b.length:=by omega
   subst this
   refine ⟨_,I,h2,hd,hu,?_⟩
   simp only
   rw [h4,List.take_length]
theorem kN (n:Nat) (a b:Lb Int) (hda:Dig a) (hdb:Dig b) (hn:a.length + b.length + 1 < n) (hl:a.length + b.length <= 100000):az_p n a b = some (rd (dv a * dv b)):=by
 have h:=au (B:=az_l2 n a b) (fun s:Nat × Lb Int=>a.length - s.1) (fun s=>s.1 <= a.length/\s.2.length = a.length + b.length/\Dig s.2/\dv (s.2.take (s.1 + b.length)) = dv (a.take s.1) * dv b)
  (fun r:Lb Int=>r.length = a.length + b.length/\Dig r/\dv r = dv a * dv b) ?_ n (0,List.replicate (a.length + b.length) 0) ⟨by simp,by simp,fun x hx=>(by rw [(List.mem_replicate.1 hx).2]; exact ⟨Int.le_refl _,by decide⟩),?_⟩ (by simp only; omega)
 ·obtain ⟨xs,h1,h2,h3,h4⟩:=h
  unfold az_p
  rw [ip _ _ (by omega),aa,h1,aa,eC n xs h3 (by omega) (by omega),aa,h4]
 ·rintro ⟨i,xs⟩ J ⟨h1,h2,hd,h3⟩ hJ
  simp only at h1 h2 h3 hd hJ
  unfold az_l2
  simp only
  by_cases hi:i < a.length
  ·obtain ⟨ys,u,e1,e2,e3,e4,e5⟩:=prod_in n a b hda hdb i hi xs hd (by omega) (by omega)
   rw [if_pos hi,e1,aa]
   simp only
   have hu:aB u = ((u.toNat:Nat):Int):=by unfold aB; rw [if_pos (by omega)]
   rw [geE (by omega),aa,bR _ (by omega),aa,hu]
   refine hJ (i + 1,ys.set (i + b.length) ((u.toNat:Nat):Int)) ⟨hi,by simp; omega,fun x hxm=>?_,?_⟩ (by simp only; omega)
   ·rcases List.mem_or_eq_of_mem_set hxm with hm | rfl
    ·exact e3 x hm
    ·omega
   ·simp only
    rw [show i + 1 + b.length = i + b.length + 1 by omega,oG _ (by omega),bT a hi,Int.toNat_natCast,e5,h3]
    grind
  ·rw [if_neg hi]
   have:i = a.length:=by omega
   subst this
   rw [List.take_length,bv (by omega)] at h3
   exact ⟨xs,I,h2,hd,h3⟩
 ·simp only [List.take_zero,dv,Nat.zero_mul]
  exact fK _ fun x hx=>(List.mem_replicate.1 (List.mem_of_mem_take hx)).2
theorem aV (n l m:Nat) (a b:Int) (ha:FtR l a) (hb:FtR m b) (hn:20000 < n) (hl:l + m < 10000):aH_p n (R8 a) (R8 b) = some (R8 (a * b)):=by
 unfold aH_p
 have h1:=ha.len
 have h2:=hb.len
 have h5:=(ha.mul hb).len
 rw [Int.natAbs_mul] at h5
 rw [show (R8 a).fD = rd a.natAbs from I,show (R8 b).fD = rd b.natAbs from I,kN n _ _ (aG _) (aG _) (by omega) (by omega),aa,aK,aK,ct n _ _ (aG _) (by omega) (by omega),aa,aK,pw]
 refine congrArg (fun x=>some (R8 x)) ?_
 show sg (!(decide (a < 0) == decide (b < 0))) _ = _
 conv=>rhs; rw [my a,my b]
 unfold sg
 by_cases h3:a < 0 <;> by_cases h4:b < 0 <;> simp [h3,h4,Int.neg_mul,Int.mul_neg]
set_option maxRecDepth 8000
def hvs:Lb Ua -> Lb Int
 | []=>[]
 | w :: ws=>aB (w % (4294967296:Ua)) :: aB (w / (4294967296:Ua)) :: hvs ws
theorem mz:∀ xs ys:Lb Ua,hvs (xs ++ ys) = hvs xs ++ hvs ys
 | [],_=>rfl
 | x :: xs,ys=>by show _ :: _ :: hvs (xs ++ ys) = _; rw [mz xs ys]; rfl
theorem jY:∀ ws:Lb Ua,Dig (hvs ws)
 | []=>fE
 | w :: ws=>fun x hx=>by
  have hw:=w.toNat_lt
  rcases List.mem_cons.1 hx with rfl | hx
  ·rw [jQ]; omega
  ·rcases List.mem_cons.1 hx with rfl | hx
   ·rw [mK]; omega
   ·exact jY ws x hx
theorem lQ:∀ ws:Lb Ua,dv (hvs ws) = val ws
 | []=>rfl
 | w :: ws=>by
  show (aB (w % (4294967296:Ua))).toNat + 4294967296 * ((aB (w / (4294967296:Ua))).toNat + 4294967296 * dv (hvs ws)) = w.toNat + 18446744073709551616 * val ws
  rw [lQ ws,jQ,mK,Int.toNat_natCast,Int.toNat_natCast]
  omega
theorem ky:∀ ws:Lb Ua,(hvs ws).length = 2 * ws.length
 | []=>rfl
 | w :: ws=>by show (hvs ws).length + 1 + 1 = 2 * (ws.length + 1); rw [ky ws]; omega
theorem nH (n:Nat) (t:T8) (hn:10 < n):bj_p n t = some (hvs (wv t)):=by
 have hl:(wv t).length = 8:=rfl
 have h:=au (B:=bj_l1 n t) (fun s:Nat × Lb Int=>8 - s.1) (fun s=>s.1 <= 8/\s.2 = hvs ((wv t).take s.1)) (fun r=>r = hvs (wv t)) ?_ n (0,[]) ⟨Nat.zero_le _,rfl⟩ (by simp only; omega)
 ·obtain ⟨y,e,rfl⟩:=h
  unfold bj_p
  rw [e,aa]
 ·rintro ⟨i,xs⟩ J ⟨h1,h2⟩ hJ
  simp only at h1 h2 hJ
  subst h2
  unfold bj_l1
  simp only
  by_cases hi:i < 8
  ·rw [if_pos hi]
   show ∃ r,(((wv t)[i]?).bind fun z90=>(app (hvs ((wv t).take i)) ([aB (z90 % (4294967296:Ua)),aB (z90 / (4294967296:Ua))]:Lb Int)).bind fun xs99=>J (i + 1,xs99)) = some r/\_
   have next:=hJ (i + 1,hvs ((wv t).take (i + 1))) ⟨hi,rfl⟩ (by simp only; omega)
   rw [List.take_succ_eq_append_getElem (by omega),mz] at next
   rw [geE (by omega),aa,bp _ _ (by rw [ky,List.length_take]; simp only [leC,leN]; omega),aa]
   exact next
  ·rw [if_neg hi]
   exact ⟨_,rfl,by rw [List.take_of_length_le (by omega)]⟩
theorem og (t:T8):t.2.2.2.2.2.2.2 < (9223372036854775808:Ua) ↔ val (wv t) < HB:=by
 have h:=gJ t
 have hs:(shrU t.2.2.2.2.2.2.2 63).toNat = t.2.2.2.2.2.2.2.toNat / 9223372036854775808:=bS _ (by decide)
 have ht:=t.2.2.2.2.2.2.2.toNat_lt
 have hsw:shrU t.2.2.2.2.2.2.2 63 = 1 ↔ 9223372036854775808 <= t.2.2.2.2.2.2.2.toNat:=by
  constructor
  ·intro h
   have:=congrArg UInt64.toNat h
   rw [hs] at this
   simp only [UInt64.toNat_one] at this
   omega
  ·intro h
   refine UInt64.toNat_inj.1 ?_
   rw [hs]
   simp only [UInt64.toNat_one]
   omega
 rw [UInt64.lt_iff_toNat_lt,show (9223372036854775808:Ua).toNat = 9223372036854775808 from I]
 rw [hsw] at h
 omega
theorem eM:FB = 4294967296 ^ 16:=by unfold FB; decide
theorem HB_dig:HB = 4294967296 ^ 15 * 2147483648:=by unfold HB; decide
theorem oo (l j:Nat) (v:Int) (h:j < l) (hv:0 <= v/\v < 4294967296):dv ((List.replicate l (0:Int)).set j v) = 4294967296 ^ j * v.toNat/\Dig ((List.replicate l (0:Int)).set j v):=by
 have hz:dv (List.replicate l (0:Int)) = 0:=fK _ fun x hx=>(List.mem_replicate.1 hx).2
 have hp:=mm (xs:=List.replicate l (0:Int)) v (show j < (List.replicate l (0:Int)).length by simpa using h)
 rw [hz,List.getElem_replicate] at hp
 refine ⟨by simpa using hp,fun x hx=>?_⟩
 rcases List.mem_or_eq_of_mem_set hx with hm | rfl
 ·rw [(List.mem_replicate.1 hm).2]; exact ⟨Int.le_refl _,by decide⟩
 ·exact hv
theorem iz {α:Type} (f:Lb Int -> Oa α):((mk 17 (0:Int)).bind fun xs42=>(xs42[16]?).bind fun _=>(put xs42 ((16:Nat):Int) (1:Int)).bind f) = f ((List.replicate 17 (0:Int)).set 16 1):=rfl
theorem eS (n m:Nat) (hm:m <= FB) (_h0:0 < m) (hn:20000 < n):aq_p n ((List.replicate 17 (0:Int)).set 16 1) (rd m) = some (rd (FB - m)):=by
 obtain ⟨w1,w2⟩:=oo 17 16 1 (by decide) (by decide)
 have e:dv ((List.replicate 17 (0:Int)).set 16 1) = FB:=by rw [w1,eM]; rfl
 have hl:(rd m).length <= 17:=cS (Nat.lt_of_le_of_lt hm (by rw [eM]; decide))
 rw [gR n _ _ w2 (aG _) (by rw [List.length_set,List.length_replicate]; exact hl) (by rw [e,aK]; exact hm) (by rw [List.length_set,List.length_replicate]; omega) (by rw [List.length_set,List.length_replicate]; omega),e,aK]
theorem gj (n:Nat) (z:Int) (h:Fw z) (hn:20000 < n):ao_p n (Wg z) = some (R8 z):=by
 have hf:=eh
 have hp:=cT
 have hl:(hvs (wv (Wg z))).length = 16:=ky _
 unfold ao_p
 rw [nH n _ (by omega),aa]
 by_cases hz:z < 0
 ·have hv:=md h hz
  have h1:=h.1
  rw [if_neg (fun hc=>by have:=(og _).1 hc; omega)]
  have hw:=iz (fun xs61=>(aB_p n (hvs (wv (Wg z)))).bind fun y67=>(aq_p n xs61 y67).bind fun y76=>(ae_p n true y76).bind fun y90=>some y90)
  refine hw.trans ?_
  rw [eC n _ (jY _) (by omega) (by omega),aa,lQ,eS n _ (by omega) (by omega) hn,aa,show FB - val (wv (Wg z)) = z.natAbs by omega,ct n _ _ (aG _) (by have:=cS (m:=z.natAbs) (l:=17) (Nat.lt_of_le_of_lt (show z.natAbs <= FB by omega) (by rw [eM]; decide)); omega) (by have:=cS (m:=z.natAbs) (l:=17) (Nat.lt_of_le_of_lt (show z.natAbs <= FB by omega) (by rw [eM]; decide)); omega),aa,aK]
  unfold R8
  rw [decide_eq_true hz,decide_eq_true (show 0 < z.natAbs by omega)]
  rfl
 ·have hv:=lB h (by omega)
  have h1:=h.2
  rw [if_pos ((og _).2 (by omega)),ct n _ _ (jY _) (by omega) (by omega),aa,lQ,hv]
  unfold R8
  rw [decide_eq_false hz]
  rfl
/-! ### Told -/
theorem wv_setA (t:T8) (m:Nat) (hm:m < 8) (v:Ua):wv (ax m 0 v t.1,ax m 1 v t.2.1,ax m 2 v t.2.2.1,ax m 3 v t.2.2.2.1,ax m 4 v t.2.2.2.2.1,ax m 5 v t.2.2.2.2.2.1,ax m 6 v t.2.2.2.2.2.2.1,ax m 7 v t.2.2.2.2.2.2.2) = (wv t).set m v:=by
 obtain ⟨t1,t2,t3,t4,t5,t6,t7,t8⟩:=t
 match m,hm with
 | 0,_=>rfl
 | 1,_=>rfl
 | 2,_=>rfl
 | 3,_=>rfl
 | 4,_=>rfl
 | 5,_=>rfl
 | 6,_=>rfl
 | 7,_=>rfl
theorem kl (m:Nat):4294967296 ^ (2 * m) = 18446744073709551616 ^ m:=by
 rw [Nat.pow_mul]
theorem kL (n:Nat) (ys:Lb Int) (hd:Dig ys) (hl:ys.length <= 16) (hn:20 < n):∃ t:T8,ao (aC_l2 n ys) n (0,(0:Ua),(0:Ua),(0:Ua),(0:Ua),(0:Ua),(0:Ua),(0:Ua),(0:Ua)) = some t/\val (wv t) = dv ys:=by
 refine au (B:=aC_l2 n ys) (fun s:Nat × T8=>ys.length - s.1) (fun s=>s.1 <= ys.length/\val (wv s.2) = dv (ys.take s.1)/\(∀ k (h:k < (wv s.2).length),(s.1 + 1) / 2 <= k -> (wv s.2)[k] = 0)/\(s.1 % 2 = 1 -> ∀ (h:s.1 / 2 < (wv s.2).length),(wv s.2)[s.1 / 2].toNat < 4294967296)) (fun t=>val (wv t) = dv ys) ?_ n (0,((0,0,0,0,0,0,0,0):T8)) ⟨Nat.zero_le _,rfl,fun k hk _=>?_,fun h=>(by cases h)⟩ (by simp only; omega)
 ·rintro ⟨i,t⟩ J ⟨h1,h2,h3,h4⟩ hJ
  simp only at h1 h2 h3 h4 hJ
  obtain ⟨t1,t2,t3,t4,t5,t6,t7,t8⟩:=t
  have e8:(wv (t1,t2,t3,t4,t5,t6,t7,t8)).length = 8:=rfl
  unfold aC_l2
  simp only
  by_cases hi:i < ys.length
  ·have hm:i / 2 < (wv (t1,t2,t3,t4,t5,t6,t7,t8)).length:=by rw [e8]; omega
   have dy:=hd ys[i] (List.getElem_mem _)
   have hu:=gP dy
   have hset:=fun v=>wv_setA (t1,t2,t3,t4,t5,t6,t7,t8) (i / 2) (by omega) v
   rw [if_pos hi]
   show ∃ r,(((wv (t1,t2,t3,t4,t5,t6,t7,t8))[i / 2]?).bind fun z340=>(ys[i]?).bind fun x342=>(chk (32 * ((i % 2:Nat):Int))).bind fun s351=>(bH s351).bind fun k352=>J (i + 1,ax (i / 2) 0 (z340 + (shlU (ac x342) k352)) t1,ax (i / 2) 1 (z340 + (shlU (ac x342) k352)) t2,ax (i / 2) 2 (z340 + (shlU (ac x342) k352)) t3,ax (i / 2) 3 (z340 + (shlU (ac x342) k352)) t4,ax (i / 2) 4 (z340 + (shlU (ac x342) k352)) t5,ax (i / 2) 5 (z340 + (shlU (ac x342) k352)) t6,ax (i / 2) 6 (z340 + (shlU (ac x342) k352)) t7,ax (i / 2) 7 (z340 + (shlU (ac x342) k352)) t8)) = some r/\_
   have key:∀ v:Ua,(wv (t1,t2,t3,t4,t5,t6,t7,t8))[i / 2].toNat <= v.toNat -> 18446744073709551616 ^ (i / 2) * (v.toNat - (wv (t1,t2,t3,t4,t5,t6,t7,t8))[i / 2].toNat) = 4294967296 ^ i * ys[i].toNat -> (i % 2 = 0 -> v.toNat < 4294967296) -> ∃ r,J (i + 1,ax (i / 2) 0 v t1,ax (i / 2) 1 v t2,ax (i / 2) 2 v t3,ax (i / 2) 3 v t4,ax (i / 2) 4 v t5,ax (i / 2) 5 v t6,ax (i / 2) 6 v t7,ax (i / 2) 7 v t8) = some r/\val (wv r) = dv ys:=fun v hv1 hv2 hv3=>by
    refine hJ (i + 1,(ax (i / 2) 0 v t1,ax (i / 2) 1 v t2,ax (i / 2) 2 v t3,ax (i / 2) 3 v t4,ax (i / 2) 4 v t5,ax (i / 2) 5 v t6,ax (i / 2) 6 v t7,ax (i / 2) 7 v t8)) ⟨hi,?_,fun k hk hk2=>?_,fun hp hk=>?_⟩ (by simp only; omega)
    ·have hput:=en (xs:=wv (t1,t2,t3,t4,t5,t6,t7,t8)) (j:=i / 2) v (by omega)
     have hs:=hset v
     simp only at hs ⊢
     rw [hs,bT ys hi,<- h2,<- hv2]
     have:=Nat.mul_sub (18446744073709551616 ^ (i / 2)) v.toNat (wv (t1,t2,t3,t4,t5,t6,t7,t8))[i / 2].toNat
     have:=Nat.mul_le_mul_left (18446744073709551616 ^ (i / 2)) hv1
     omega
    ·have hs:=hset v
     simp only at hs hk hk2 ⊢
     simp only [hs]
     rw [List.getElem_set_ne (by omega)]
     exact h3 k (by rw [hs,List.length_set] at hk; exact hk) (by omega)
    ·have hs:=hset v
     simp only at hs hk hp ⊢
     have hq:(i + 1) / 2 = i / 2:=by omega
     simp only [hs,hq]
     rw [List.getElem_set_self]
     exact hv3 (by omega)
   rw [geE (by omega),aa,geE hi,aa]
   rcases Nat.mod_two_eq_zero_or_one i with hp | hp
   ·have hw:=h3 (i / 2) (by omega) (by omega)
    rw [hp,show chk (32 * ((0:Nat):Int)) = some 0 from I,aa,show bH 0 = some 0 from I,aa,dY]
    rw [hw] at key ⊢
    rw [UInt64.zero_add]
    refine key _ (by simp) ?_ fun _=>by rw [hu]; omega
    rw [hu,UInt64.toNat_zero,Nat.sub_zero,<- kl,show 2 * (i / 2) = i by omega]
   ·have hw:=h4 hp (by omega)
    rw [hp,show chk (32 * ((1:Nat):Int)) = some 32 from I,aa,show bH 32 = some 32 from I,aa]
    have hv:((wv (t1,t2,t3,t4,t5,t6,t7,t8))[i / 2] + shlU (ac ys[i]) 32).toNat = (wv (t1,t2,t3,t4,t5,t6,t7,t8))[i / 2].toNat + ys[i].toNat * 4294967296:=by
     rw [UInt64.toNat_add,ei _ (by decide),hu]
     omega
    refine key _ (by rw [hv]; omega) ?_ fun h=>by omega
    have hsub:(wv (t1,t2,t3,t4,t5,t6,t7,t8))[i / 2].toNat + ys[i].toNat * 4294967296 - (wv (t1,t2,t3,t4,t5,t6,t7,t8))[i / 2].toNat = ys[i].toNat * 4294967296:=Nat.add_sub_cancel_left ..
    have e:4294967296 ^ i = 18446744073709551616 ^ (i / 2) * 4294967296:=by
     conv=>lhs; rw [show i = 2 * (i / 2) + 1 by omega,Nat.pow_succ,kl]
    rw [hv,hsub,e,Nat.mul_assoc,Nat.mul_comm ys[i].toNat]
  ·rw [if_neg hi]
   refine ⟨_,I,?_⟩
   rw [h2,List.take_of_length_le (by omega)]
 ·match k,hk with
  | 0,_=>rfl
  | 1,_=>rfl
  | 2,_=>rfl
  | 3,_=>rfl
  | 4,_=>rfl
  | 5,_=>rfl
  | 6,_=>rfl
  | 7,_=>rfl
open Classical in
theorem jT (n l:Nat) (z:Int) (h:FtR l z) (hl:l < 10000) (hn:20000 < n):aC_p n (R8 z) = some (if Fw z then (Wg z,0) else ((0,0,0,0,0,0,0,0),6)):=by
 have hf:=eh
 have hp:=cT
 have hlen:=h.len
 obtain ⟨w1,w2⟩:=oo 16 15 2147483648 (by decide) (by decide)
 have hdv:dv ((List.replicate 16 (0:Int)).set 15 2147483648) = HB:=by rw [w1,HB_dig]; rfl
 have hnr:Nr ((List.replicate 16 (0:Int)).set 15 2147483648):=fun x hx=>by
  rw [show ((List.replicate 16 (0:Int)).set 15 2147483648).getLast? = some 2147483648 from I] at hx
  rw [<- Option.some.inj hx]; decide
 obtain ⟨c,e1,e2,e3⟩:=il n (rd z.natAbs) ((List.replicate 16 (0:Int)).set 15 2147483648) (aG _) w2 (gB _) hnr (by omega) (by omega)
 rw [aK,hdv] at e2 e3
 have hlim:∀ {α:Type} (f:Lb Int -> Oa α),((mk 16 (0:Int)).bind fun xs21=>(xs21[15]?).bind fun _=>(put xs21 ((15:Nat):Int) (2147483648:Int)).bind f) = f ((List.replicate 16 (0:Int)).set 15 2147483648):=fun f=>rfl
 unfold aC_p
 refine (hlim _).trans ?_
 rw [show (R8 z).fD = rd z.natAbs from I,e1,aa]
 have l12:∀ ys,aC_l1 n ys = aC_l2 n ys:=fun _=>rfl
 have hneg:z < 0 -> Fw z -> ∃ t:T8,ao (aC_l2 n (rd (FB - z.natAbs))) n (0,(0:Ua),(0:Ua),(0:Ua),(0:Ua),(0:Ua),(0:Ua),(0:Ua),(0:Ua)) = some t/\t = Wg z:=fun hz hw=>by
  obtain ⟨t,e,hv⟩:=kL n (rd (FB - z.natAbs)) (aG _) (cS (by rw [<- eM]; omega)) (by omega)
  rw [aK] at hv
  refine ⟨t,e,iK ?_⟩
  have:=md hw hz
  rw [hv,<- eR]
  omega
 by_cases c1:0 < c
 ·rw [if_pos c1,if_neg (fun hw=>by have:=hw.1; have:=hw.2; omega)]
 ·rw [if_neg c1]
  by_cases c0:c = 0
  ·rw [if_pos c0]
   have hz:=e3.1 c0
   by_cases hb:z < 0
   ·have hw:Fw z:=⟨by omega,by omega⟩
    obtain ⟨t,e,rfl⟩:=hneg hb hw
    rw [if_pos (show (R8 z).fc = true from decide_eq_true hb),if_pos hw]
    refine (iz _).trans ?_
    rw [eS n _ (by omega) (by omega) hn,aa,l12,e,aa]
   ·rw [if_neg (show ¬ (R8 z).fc = true from by simpa [R8] using hb),if_neg (fun hw=>by have:=hw.2; omega)]
  ·rw [if_neg c0]
   have hlt:z.natAbs < HB:=e2.1 (by omega)
   have hw:Fw z:=⟨by omega,by omega⟩
   unfold jn
   simp only
   rw [if_pos hw]
   by_cases hb:z < 0
   ·obtain ⟨t,e,rfl⟩:=hneg hb hw
    rw [if_pos (show (R8 z).fc = true from decide_eq_true hb)]
    refine (iz _).trans ?_
    rw [eS n _ (by omega) (by omega) hn,aa,e,aa]
   ·obtain ⟨t,e,hv⟩:=kL n (rd z.natAbs) (aG _) (cS (by rw [<- eM]; omega)) (by omega)
    rw [aK] at hv
    have:t = Wg z:=iK (by
     have:=lB hw (by omega)
     rw [hv,<- eR,this])
    subst this
    rw [if_neg (show ¬ (R8 z).fc = true from by simpa [R8] using hb),e,aa]
section
set_option maxRecDepth 8000
theorem div_num {a b:Int} (hb:b ≠ 0):(Rat.divInt a b).num * b = a * (Rat.divInt a b).den:=by
 have h:=Rat.num_divInt_den (Rat.divInt a b)
 exact (Rat.divInt_eq_divInt_iff FQ.ndnz hb).1 h
theorem oe {a b:Int} (hb:b ≠ 0):(Rat.divInt a b).num.natAbs <= a.natAbs/\(Rat.divInt a b).den <= b.natAbs:=by
 have h:=congrArg Int.natAbs (div_num (a:=a) hb)
 rw [Int.natAbs_mul,Int.natAbs_mul,Int.natAbs_natCast] at h
 have hc:=(Rat.divInt a b).reduced
 have hd:=(Rat.divInt a b).den_pos
 generalize (Rat.divInt a b).num.natAbs = x at *
 generalize (Rat.divInt a b).den = y at *
 have hbp:0 < b.natAbs:=by omega
 constructor
 ·by_cases h0:a.natAbs = 0
  ·rw [h0,Nat.zero_mul] at h
   rcases Nat.mul_eq_zero.1 h with h1 | h1
   ·omega
   ·omega
  ·exact Nat.le_of_dvd (by omega) (hc.dvd_of_dvd_mul_right (by rw [<- h]; exact Nat.dvd_mul_right ..))
 ·exact Nat.le_of_dvd hbp (hc.symm.dvd_of_dvd_mul_left (by rw [h]; exact Nat.dvd_mul_left ..))
def Bt (i j:Nat) (q:Rat):Prop:=q.num.natAbs < 2 ^ i/\q.den < 2 ^ j
theorem Bt.mono {i j i' j' : Nat} {q:Rat} (h:Bt i j q) (hi:i <= i') (hj:j <= j'):Bt i' j' q:=⟨Nat.lt_of_lt_of_le h.1 (Nat.pow_le_pow_right (by decide) hi),Nat.lt_of_lt_of_le h.2 (Nat.pow_le_pow_right (by decide) hj)⟩
theorem hb_pow (w:Nat):9223372036854775808 * 18446744073709551616 ^ w = 2 ^ (63 + 64 * w):=by
 rw [Nat.pow_add,<- eJ]
def hbl:Nat:=511
theorem hb_pow' {w l:Nat} (h:l = 63 + 64 * w):9223372036854775808 * 18446744073709551616 ^ w = 2 ^ l:=by subst h; exact hb_pow w
theorem oL:HB = 2 ^ hbl:=hb_pow' (w:=7) (l:=hbl) rfl
theorem Bt.fq {i j:Nat} {q:Rat} (h:Bt i j q) (hi:i <= 500) (hj:j <= 500):FQ q:=by
 have e:hbl = 511:=rfl
 have h1:2 ^ i <= HB:=by rw [oL]; exact Nat.pow_le_pow_right (by decide) (by omega)
 have h2:2 ^ j <= HB:=by rw [oL]; exact Nat.pow_le_pow_right (by decide) (by omega)
 have h3:=h.1
 have h4:=h.2
 exact ⟨⟨by omega,by omega⟩,⟨by omega,by omega⟩⟩
theorem Bt.of {i j:Nat} {a b:Int} (hb:b ≠ 0) (h1:a.natAbs < 2 ^ i) (h2:b.natAbs < 2 ^ j):Bt i j (Rat.divInt a b):=by
 obtain ⟨d1,d2⟩:=oe (a:=a) hb
 exact ⟨by omega,by omega⟩
section
variable {n:Nat} {a b:Rat}
end
end
set_option maxRecDepth 8000
def RR (q:Rat):Tg:=⟨R8 q.num,R8 (q.den:Int)⟩
theorem Fw.r {z:Int} (h:Fw z):FtR 16 z:=by
 have h1:=h.1
 have h2:=h.2
 have h3:=eh
 have hp:=cT
 unfold FtR
 rw [<- eM]
 omega
theorem FtR.of_le {l:Nat} {a b:Int} (h:FtR l b) (hl:a.natAbs <= b.natAbs):FtR l a:=Nat.lt_of_le_of_lt hl h
theorem Sm.r {z:Int} (h:Sm z):FtR 16 z:=(cB h).r
theorem ld (n:Nat) (q:Rat) (h:FQ q) (hn:20000 < n):aL_p n (Sg q) = some (RR q):=by
 unfold aL_p Sg
 simp only
 rw [gj n _ h.1 hn,aa,gj n _ h.2 hn,aa]
 rfl
theorem one_ok (n g:Nat):cr_p n ⟨false,rd g⟩ = some (decide (g = 1)):=by
 unfold cr_p
 simp only
 by_cases h:(rd g).length = 1
 ·have hg:=aK g
  rcases e:rd g with _ | ⟨x,_ | ⟨y,xs⟩⟩
  ·rw [e] at h; simp at h
  ·have hd:=aG g x (by rw [e]; exact List.mem_singleton_self _)
   rw [e] at hg
   simp only [dv,Nat.mul_zero,Nat.add_zero] at hg
   rw [if_pos (show ([x]:Lb Int).length = 1 from I),show ([x]:Lb Int)[0]? = some x from I,aa]
   by_cases hx:x = 1
   ·rw [if_pos hx,decide_eq_true (by omega)]; rfl
   ·rw [if_neg hx,decide_eq_false (by omega)]
  ·rw [e] at h; simp at h
 ·rw [if_neg h,decide_eq_false]
  rintro rfl
  exact h (by rw [jr (by decide),show (1:Nat) / 4294967296 = 0 from I,rd0]; rfl)
theorem jh (n:Nat) (x y:Int) (hx:Fw x) (hy:Fw y) (hn:18446744073709551616 < n):aG_p n ⟨Wg x,Wg y⟩ = some (decide (0 < y/\Nat.gcd x.natAbs y.natAbs = 1)):=by
 have lx:=hx.r.len
 have ly:=hy.r.len
 unfold aG_p
 simp only
 rw [gj n _ hx (by omega),aa,gj n _ hy (by omega),aa]
 by_cases h:y < 0
 ·rw [if_pos (show (R8 y).fc = true from decide_eq_true h),decide_eq_false (fun hc=>by omega)]
 ·rw [if_neg (show ¬ (R8 y).fc = true from by simpa [R8] using h)]
  by_cases h0:y = 0
  ·subst h0
   rw [if_neg (show ¬ 0 < (R8 0).fD.length from by show ¬ 0 < (rd 0).length; rw [rd0]; decide),decide_eq_false (fun hc=>by omega)]
  ·rw [if_pos (show 0 < (R8 y).fD.length from lw.2 (by omega))]
   rw [show R8 x = ⟨decide (x < 0),rd x.natAbs⟩ from I,show R8 y = ⟨decide (y < 0),rd y.natAbs⟩ from I,iT n _ _ _ _ (by omega) (by omega) hn,aa,one_ok,aa]
   exact congrArg some (decide_eq_decide.2 ⟨fun hg=>⟨by omega,hg⟩,fun hg=>hg.2⟩)
theorem gw (n:Nat) (q:Rat) (h:FQ q) (hn:18446744073709551616 < n):aG_p n (Sg q) = some true:=by
 have hd:=q.den_pos
 have e:=jh n q.num (q.den:Int) h.1 h.2 hn
 rw [decide_eq_true (show 0 < (q.den:Int)/\Nat.gcd q.num.natAbs (q.den:Int).natAbs = 1 from ⟨by omega,q.reduced⟩)] at e
 exact e
open Classical in
theorem di (n l:Nat) (q:Rat) (h1:FtR l q.num) (h2:FtR l (q.den:Int)) (hl:l < 10000) (hn:20000 < n):br_p n (RR q) = some (if FQ q then (Sg q,0) else (noS,6)):=by
 unfold br_p
 rw [show (RR q).fN = R8 q.num from I,show (RR q).fD = R8 (q.den:Int) from I,jT n l _ h1 hl hn,aa,jT n l _ h2 hl hn,aa]
 by_cases f1:Fw q.num
 ·by_cases f2:Fw (q.den:Int)
  ·rw [if_pos f1,if_pos f2,if_pos (show FQ q from ⟨f1,f2⟩)]; rfl
  ·rw [if_pos f1,if_neg f2,if_neg fun h:FQ q=>f2 h.2]; rfl
 ·rw [if_neg f1,if_neg fun h:FQ q=>f1 h.1]; rfl
theorem iN (n l:Nat) (a b:Int) (h0:b ≠ 0) (ha:FtR l a) (hb:FtR l b) (hl:l < 10000) (hn:18446744073709551616 < n):aW_p n (R8 a) (R8 b) = some (RR (Rat.divInt a b))/\FtR l (Rat.divInt a b).num/\FtR l ((Rat.divInt a b).den:Int):=by
 obtain ⟨e,l1,l2⟩:=kx n a b h0 (Nat.lt_of_le_of_lt ha.len hl) (Nat.lt_of_le_of_lt hb.len hl) hn
 exact ⟨e,ha.of_le l1,hb.of_le (by omega)⟩
theorem mg (n:Nat) (a b:Rat) (ha:FQ a) (hb:FQ b) (hn:18446744073709551616 < n):aS_p n (RR a) (RR b) = some (RR (a + b))/\FtR 33 (a + b).num/\FtR 33 ((a + b).den:Int):=by
 have d0:(a.den:Int) * b.den ≠ 0:=Int.mul_ne_zero FQ.ndnz FQ.ndnz
 have e:a + b = Rat.divInt (a.num * b.den + b.num * a.den) (a.den * b.den):=by
  conv=>lhs; rw [<- Rat.num_divInt_den a,<- Rat.num_divInt_den b]
  exact Rat.divInt_add_divInt _ _ FQ.ndnz FQ.ndnz
 have x1:=ha.1.r.mul hb.2.r
 have x2:=hb.1.r.mul ha.2.r
 have x3:=ha.2.r.mul hb.2.r
 obtain ⟨f1,f2,f3⟩:=iN n 33 _ _ d0 (x1.add x2) (x3.mono (by decide)) (by decide) hn
 unfold aS_p RR
 simp only
 rw [aV n 16 16 _ _ ha.1.r hb.2.r (by omega) (by decide),aa,aV n 16 16 _ _ hb.1.r ha.2.r (by omega) (by decide),aa,iD n 32 _ _ x1 x2 (by omega) (by decide),aa,aV n 16 16 _ _ ha.2.r hb.2.r (by omega) (by decide),aa,f1,aa,e]
 exact ⟨I,f2,f3⟩
set_option maxRecDepth 8000
def FU:Nat:=18446744073709552000
theorem aA:(18446744073709551616:Nat) < FU:=by decide
theorem gx {z:Int} (h:z.natAbs < 1000000):Sm z:=by unfold Sm; omega
theorem FQ0:FQ 0:=(Bt.fq (i:=1) (j:=2) ⟨by decide,by decide⟩ (by decide) (by decide))
theorem iA {ε:Type}:∀ {l:Lb ε} {e:ε} {r:Lb ε},(e,r) ∈ df l -> (e :: r).Perm l
 | [],e,r,h=>by cases h
 | x :: xs,e,r,h=>by
  rw [df] at h
  rcases List.mem_cons.1 h with h | h
  ·cases h; exact .refl _
  ·obtain ⟨⟨e', r'⟩,h1,h2⟩:=List.mem_map.1 h
   cases h2
   exact (List.Perm.swap x e' r').trans ((iA h1).cons x)
theorem ie {ε γ α:Type} [DecidableEq α] {X:γ -> Oa α} {B:ε -> (γ -> Oa α) -> γ -> Oa α} {D:Lb ε} (f:γ -> ε -> γ) (I:Nat -> γ -> Prop) (r:α)
  (hB:∀ k e J s,I (k + 1) s -> e ∈ D -> B e J s = J (f s e)/\I k (f s e)) :
  ∀ (n:Nat) (l:Lb ε) (s:γ),l.length <= n -> (∀ e ∈ l,e ∈ D) -> I l.length s -> (∀ l' : Lb ε,l'.Perm l -> X (l'.foldl f s) = some r) -> mloop X B n l s = some r
 | n,[],s,_,_,_,h=>by
  have:mloop X B n [] s = X s:=by cases n <;> rfl
  rw [this]
  exact h [] (.refl _)
 | 0,x :: xs,s,hl,_,_,_=>by simp at hl
 | n + 1,x :: xs,s,hl,hm,hI,h=>by
  rw [mloop]
  refine mn (by simp [df]) fun y hy=>?_
  obtain ⟨⟨e,q⟩,h1,rfl⟩:=List.mem_map.1 hy
  have hp:=iA h1
  have hlen:=hp.length_eq
  rw [leC] at hlen
  rw [<- hlen] at hI
  obtain ⟨h2,h3⟩:=hB q.length e (mloop X B n q) s hI (hm e (hp.mem_iff.1 (List.mem_cons_self ..)))
  simp only
  rw [h2]
  refine ie f I r hB n q (f s e) (by rw [leC] at hl; rw [leC] at hlen; omega) (fun z hz=>hm z (hp.mem_iff.1 (List.mem_cons_of_mem _ hz))) h3 fun l' hl' =>?_
  have:=h (e :: l') ((hl'.cons e).trans hp)
  rw [List.foldl_cons] at this
  exact this
def sW:Lb (Rat × Rat) -> Rat
 | []=>0
 | e :: l=>e.2 + sW l
def wt (x:Rat):Lb (Rat × Rat) -> Rat
 | []=>0
 | e :: l=>(if e.1 = x then e.2 else 0) + wt x l
theorem lR:∀ l m:Lb (Rat × Rat),sW (l ++ m) = sW l + sW m
 | [],m=>by show sW m = 0 + sW m; grind
 | e :: l,m=>by show e.2 + sW (l ++ m) = e.2 + sW l + sW m; rw [lR l m]; grind
theorem lY (x:Rat):∀ l m:Lb (Rat × Rat),wt x (l ++ m) = wt x l + wt x m
 | [],m=>by show wt x m = 0 + wt x m; grind
 | e :: l,m=>by show (if e.1 = x then e.2 else 0) + wt x (l ++ m) = (if e.1 = x then e.2 else 0) + wt x l + wt x m; rw [lY x l m]; grind
theorem gI {x:Rat}:∀ {l:Lb (Rat × Rat)},x ∉ l.map (·.1) -> wt x l = 0
 | [],_=>rfl
 | e :: l,h=>by
  rw [List.map_cons,List.mem_cons,not_or] at h
  show (if e.1 = x then e.2 else 0) + wt x l = 0
  rw [if_neg (fun hc=>h.1 hc.symm),gI h.2]; grind
theorem gk {e:Rat × Rat}:∀ {l:Lb (Rat × Rat)},(l.map (·.1)).Nodup -> e ∈ l -> wt e.1 l = e.2
 | [],_,h=>by cases h
 | d :: l,hn,h=>by
  rw [List.map_cons,List.nodup_cons] at hn
  show (if d.1 = e.1 then d.2 else 0) + wt e.1 l = e.2
  rcases List.mem_cons.1 h with rfl | h
  ·rw [if_pos I,gI hn.1]; grind
  ·rw [if_neg (fun hc:d.1 = e.1=>hn.1 (by rw [hc]; exact List.mem_map.2 ⟨e,h,rfl⟩)),gk hn.2 h]; grind
def ku (D:Lb (Rat × Rat)) (e:Rat × Rat):Lb (Rat × Rat):=aC D e.1 (match br D e.1 with
 | none=>e.2
 | some o=>e.2 + o)
theorem ii {x y:Rat}:∀ {D:Lb (Rat × Rat)},br D x = some y -> (x,y) ∈ D
 | [],h=>by cases h
 | d :: D,h=>by
  rw [br] at h
  split at h
  ·rename_i hx
   cases h
   rw [hx]
   exact List.mem_cons_self ..
  ·exact List.mem_cons_of_mem _ (ii h)
theorem kJ {x:Rat}:∀ {D:Lb (Rat × Rat)},br D x = none ↔ x ∉ D.map (·.1)
 | []=>by simp [br]
 | d :: D=>by
  rw [br,List.map_cons,List.mem_cons,not_or]
  by_cases hx:x = d.1
  ·rw [if_pos hx]; simp [hx]
  ·rw [if_neg hx,kJ]; simp [hx]
theorem fY (x v y:Rat):∀ D:Lb (Rat × Rat),y ∈ (aC D x v).map (·.1) ↔ y ∈ D.map (·.1) ∨ y = x
 | []=>by simp [aC]
 | d :: D=>by
  rw [aC]
  by_cases hx:x = d.1
  ·rw [if_pos hx,List.map_cons,List.map_cons,List.mem_cons,List.mem_cons]
   constructor
   ·rintro (h | h)
    ·exact .inr h
    ·exact .inl (.inr h)
   ·rintro ((h | h) | h)
    ·exact .inl (h.trans hx.symm)
    ·exact .inr h
    ·exact .inl h
  ·rw [if_neg hx,List.map_cons,List.map_cons,List.mem_cons,List.mem_cons,fY x v y D,or_assoc]
theorem hS (x v:Rat):∀ {D:Lb (Rat × Rat)},(D.map (·.1)).Nodup -> ((aC D x v).map (·.1)).Nodup
 | [],_=>by simp [aC]
 | d :: D,h=>by
  rw [aC]
  rw [List.map_cons,List.nodup_cons] at h
  by_cases hx:x = d.1
  ·rw [if_pos hx,List.map_cons,List.nodup_cons]; exact ⟨hx ▸ h.1,h.2⟩
  ·rw [if_neg hx,List.map_cons,List.nodup_cons,fY]
   exact ⟨fun hc=>hc.elim h.1 fun hc=>hx hc.symm,hS x v h.2⟩
theorem kW (x v:Rat):∀ D:Lb (Rat × Rat),(aC D x v).length <= D.length + 1
 | []=>by simp [aC]
 | d :: D=>by
  rw [aC]
  split
  ·simp
  ·have:=kW x v D; simp only [leC]; omega
theorem mq (x v y:Rat):∀ {D:Lb (Rat × Rat)},(D.map (·.1)).Nodup -> wt y (aC D x v) = wt y D + (if x = y then v - wt x D else 0)
 | [],_=>by
  show (if x = y then v else 0) + 0 = 0 + (if x = y then v - 0 else 0)
  split <;> grind
 | d :: D,h=>by
  rw [List.map_cons,List.nodup_cons] at h
  rw [aC]
  by_cases hx:x = d.1
  ·rw [if_pos hx]
   show (if x = y then v else 0) + wt y D = (if d.1 = y then d.2 else 0) + wt y D + (if x = y then v - ((if d.1 = x then d.2 else 0) + wt x D) else 0)
   rw [<- hx] at h ⊢
   rw [if_pos I,gI h.1]
   split <;> grind
  ·rw [if_neg hx]
   show (if d.1 = y then d.2 else 0) + wt y (aC D x v) = (if d.1 = y then d.2 else 0) + wt y D + (if x = y then v - ((if d.1 = x then d.2 else 0) + wt x D) else 0)
   rw [mq x v y h.2,if_neg (show ¬ d.1 = x from fun hc=>hx hc.symm)]
   grind
theorem mget_wt {D:Lb (Rat × Rat)} (h:(D.map (·.1)).Nodup) (x:Rat):(match br D x with
  | none=>(0:Rat)
  | some o=>o) = wt x D:=by
 cases hg:br D x with
 | none=>exact (gI (kJ.1 hg)).symm
 | some o=>exact (gk (e:=(x,o)) h (ii hg)).symm
structure Gat (P D:List (Rat × Rat)):Prop where
 nd:(D.map (·.1)).Nodup
 keys:∀ x,x ∈ D.map (·.1) ↔ x ∈ P.map (·.1)
 wts:∀ x,wt x D = wt x P
 len:D.length <= P.length
theorem Gat.nil:Gat [] []:=⟨by simp,fun x=>by simp,fun x=>rfl,Nat.le_refl _⟩
theorem Gat.add {P D:Lb (Rat × Rat)} (h:Gat P D) (e:Rat × Rat):Gat (P ++ [e]) (ku D e):=by
 have hv:(match br D e.1 with | none=>e.2 | some o=>e.2 + o) = e.2 + wt e.1 D:=by
  rw [<- mget_wt h.nd e.1]
  cases br D e.1 with
  | none=>show e.2 = e.2 + 0; grind
  | some o=>rfl
 refine ⟨hS _ _ h.nd,fun x=>?_,fun x=>?_,Nat.le_trans (kW _ _ _) (by rw [List.length_append]; exact Nat.add_le_add_right h.len 1)⟩
 ·unfold ku
  rw [fY,h.keys,List.map_append,List.mem_append]
  simp
 ·unfold ku
  rw [hv,mq _ _ _ h.nd,lY,h.wts]
  show wt x P + (if e.1 = x then e.2 + wt e.1 D - wt e.1 D else 0) = wt x P + ((if e.1 = x then e.2 else 0) + 0)
  split <;> grind
theorem Gat.mem {P D:Lb (Rat × Rat)} (h:Gat P D) (e:Rat × Rat):e ∈ D ↔ e.1 ∈ P.map (·.1)/\e.2 = wt e.1 P:=by
 constructor
 ·intro he
  exact ⟨(h.keys _).1 (List.mem_map.2 ⟨e,he,rfl⟩),by rw [<- h.wts,gk h.nd he]⟩
 ·rintro ⟨h1,h2⟩
  obtain ⟨d,hd,he⟩:=List.mem_map.1 ((h.keys _).2 h1)
  have h3:=gk h.nd hd
  rw [he,h.wts,<- h2] at h3
  have:d = e:=Prod.ext he h3.symm
  exact this ▸ hd
def Up (l:Lb (Rat × Rat)):Prop:=l.Pairwise fun a b=>¬ b.1 <= a.1
theorem Up.nodup {l:Lb (Rat × Rat)} (h:Up l):(l.map (·.1)).Nodup:=by
 rw [List.Nodup,List.pairwise_map]
 exact List.Pairwise.imp (fun {a b} h e=>h (by rw [e]; exact Rat.le_refl)) h
theorem nd_of {l:Lb (Rat × Rat)} (h:(l.map (·.1)).Nodup):l.Nodup:=by
 rw [List.Nodup,List.pairwise_map] at h
 exact h.imp fun {a b} h e=>h (by rw [e])
theorem Gat.one {P D E:Lb (Rat × Rat)} (h:Gat P D) (k:Gat P E) (h1:Up D) (h2:Up E):D = E:=by
 have hp:D.Perm E:=(List.perm_ext_iff_of_nodup (nd_of h.nd) (nd_of k.nd)).2 fun e=>(h.mem e).trans (k.mem e).symm
 unfold Up at h1 h2
 refine List.Perm.eq_of_pairwise (le:=fun a b:Rat × Rat=>¬ b.1 <= a.1) (fun a b _ _ e1 e2=>?_) h1 h2 hp
 exact absurd ((Rat.le_total (a:=a.1) (b:=b.1)).resolve_right e1) e2
set_option maxRecDepth 8000
def sgn (a b:Rat):Int:=(a.num * b.den - b.num * a.den).sign
theorem fy {a b:Rat}:sgn a b < 0 ↔ a < b:=by
 unfold sgn
 rw [Int.sign_neg_iff,Rat.lt_iff]
 omega
theorem eF {a b:Rat}:0 < sgn a b ↔ b < a:=by
 unfold sgn
 rw [Int.sign_pos_iff,Rat.lt_iff]
 omega
theorem bW {a b:Rat}:sgn a b = 0 ↔ a = b:=by
 unfold sgn
 rw [Int.sign_eq_zero_iff_zero]
 constructor
 ·intro h
  exact Rat.le_antisymm ((Rat.le_iff _ _).2 (by omega)) ((Rat.le_iff _ _).2 (by omega))
 ·rintro rfl; omega
theorem rcmpG {a b:Rat} (ha:FQ a) (hb:FQ b):aK_p FU (Rt a) (Rt b) = some (sgn a b):=by
 have hF:=aA
 unfold aK_p Rt
 rw [bK FU 8 8 _ _ ha.n hb.d (by omega) (by omega),aa,bK FU 8 8 _ _ hb.n ha.d (by omega) (by omega),aa]
 unfold cg_p
 rw [fT FU 16 _ _ (ha.n.mul hb.d) (hb.n.mul ha.d) (by omega) (by omega),aa,dH]
 rfl
theorem mB (l:Nat) (a b:Int) (ha:FtR l a) (hb:FtR l b) (hl:l < 9000):cb_p FU (R8 a) (R8 b) = some (a - b).sign:=by
 have hF:=aA
 have hm:=ha.add hb.neg
 unfold cb_p bU_p
 rw [lc FU b (by have:=hb.len; omega) (by omega),aa,iD FU l a (-b) ha hb.neg (by omega) (by omega),aa,aa,<- Int.sub_eq_add_neg]
 by_cases h:a - b < 0
 ·rw [if_pos (show (R8 (a - b)).fc = true from decide_eq_true h),Int.sign_eq_neg_one_of_neg h]
 ·rw [if_neg (show ¬ (R8 (a - b)).fc = true from by simpa [R8] using h)]
  by_cases h0:a - b = 0
  ·rw [h0,if_neg (show ¬ 0 < (R8 0).fD.length from by show ¬ 0 < (rd 0).length; rw [rd0]; decide)]; rfl
  ·rw [if_pos (show 0 < (R8 (a - b)).fD.length from lw.2 (by omega)),Int.sign_eq_one_of_pos (by omega)]
theorem oq {a b:Rat} (ha:FQ a) (hb:FQ b):aV_p FU (RR a) (RR b) = some (sgn a b):=by
 have hF:=aA
 unfold aV_p
 rw [show (RR a).fN = R8 a.num from I,show (RR a).fD = R8 (a.den:Int) from I,show (RR b).fN = R8 b.num from I,show (RR b).fD = R8 (b.den:Int) from I,
  aV FU 16 16 _ _ ha.1.r hb.2.r (by omega) (by decide),aa,aV FU 16 16 _ _ hb.1.r ha.2.r (by omega) (by decide),aa,
  mB 32 _ _ (ha.1.r.mul hb.2.r) (hb.1.r.mul ha.2.r) (by decide),aa]
 rfl
theorem oN (n:Nat) (d:Tk):∃ z,ba_p n d = some z/\z.natAbs <= 1000000:=by
 have h:(d.fo % (1000001:UInt32)).toNat <= 1000000:=by
  rw [UInt32.toNat_mod]
  exact Nat.le_of_lt_succ (Nat.mod_lt _ (by decide))
 unfold ba_p
 split
 ·exact ⟨_,I,by omega⟩
 ·exact ⟨_,I,by omega⟩
theorem nY {z:Int} (h:Sm z):bF_p FU z = some (Wg z):=by
 have hF:=aA
 unfold bF_p
 rw [ik FU z h (by omega),aa,jT FU 16 z h.r (by decide) (by omega),if_pos (cB h),aa]
theorem refMade {a b:Int} (ha:Sm a) (hb:Sm b) (h0:b ≠ 0):bZ_p FU (Wg a) (Wg b) = some (Sg (Rat.divInt a b)):=by
 have hF:=aA
 have hz:Wg b ≠ ((0:Ua),(0:Ua),(0:Ua),(0:Ua),(0:Ua),(0:Ua),(0:Ua),(0:Ua)):=by
  rw [<- Wg_zero]
  exact fun hc=>h0 (me (cB hb) FQ0.1 hc)
 obtain ⟨h1,h2,h3⟩:=iN FU 16 a b h0 ha.r hb.r (by decide) hF
 obtain ⟨d1,d2⟩:=oe (a:=a) h0
 have hq:FQ (Rat.divInt a b):=⟨cB (by unfold Sm at *; omega),cB (by unfold Sm at *; omega)⟩
 unfold bZ_p bY_p
 rw [if_neg hz,gj FU a (cB ha) (by omega),aa,gj FU b (cB hb) (by omega),aa,h1,aa,di FU 16 _ h2 h3 (by decide) (by omega),if_pos hq,aa,aa,if_pos I]
def Sh1 (q:Rat):Prop:=∃ a b:Int,q = Rat.divInt a b/\a.natAbs < 1000/\1 <= b/\b <= 24
theorem Sh1.bt {q:Rat} (h:Sh1 q):Bt 10 5 q:=by
 obtain ⟨a,b,rfl,h1,h2,h3⟩:=h
 exact Bt.of (by omega) (by omega) (by omega)
theorem Bt.q {q:Rat} (h:Bt 10 5 q):FQ q:=h.fq (by decide) (by decide)
theorem mQ {x y:Int} (hy:0 < y):(x.tmod y).natAbs < y.natAbs:=by
 rw [Int.natAbs_tmod]
 exact Nat.mod_lt _ (by omega)
theorem ob {x y:Int} (hx:0 <= x):0 <= x.tmod y:=Int.tmod_nonneg y hx
theorem oz (d:Ti):∃ q,ay_p FU d = some (Sg q)/\Sh1 q:=by
 obtain ⟨z1,e1,h1⟩:=oN FU d.fD
 obtain ⟨z2,e2,h2⟩:=oN FU d.fN
 have key:∀ z:Int,0 <= z -> z <= 1000000 -> ∃ q,((ba_p FU d.fN).bind fun y29=>(cK y29 1000).bind fun s30=>(bF_p FU s30).bind fun y31=>(cK z 24).bind fun s32=>(chk (1 + s32)).bind fun s33=>(bF_p FU s33).bind fun y34=>(bZ_p FU y31 y34).bind fun y35=>some y35) = some (Sg q)/\Sh1 q:=by
  intro z hz hz2
  have t1:=mQ (x:=z2) (y:=1000) (by decide)
  have t2:=mQ (x:=z) (y:=24) (by decide)
  have t3:=ob (x:=z) (y:=24) hz
  rw [e2,aa,eA (by decide),aa,nY (gx (by omega)),aa,eA (by decide),aa,aW (by omega) (by omega),aa,nY (gx (by omega)),aa,refMade (gx (by omega)) (gx (by omega)) (by omega),aa]
  exact ⟨_,I,_,_,I,by omega,by omega,by omega⟩
 unfold ay_p jn
 rw [e1,aa]
 simp only
 by_cases h:z1 < 0
 ·rw [if_pos h,aW (by omega) (by omega),aa]
  exact key _ (by omega) (by omega)
 ·rw [if_neg h]
  exact key _ (by omega) (by omega)
set_option maxRecDepth 8000
def ms (e:Rat × Rat):Ta:=⟨Sg e.1,Sg e.2⟩
def mr (e:Rat × Rat):Tc:=⟨RR e.1,RR e.2⟩
def bf (x p:Rat):Lb (Rat × Rat) -> Lb (Rat × Rat)
 | []=>[(x,p)]
 | e :: l=>if e.1 = x then (x,e.2 + p) :: l else if x < e.1 then (x,p) :: e :: l else e :: bf x p l
theorem mF (x p y:Rat):∀ T,wt y (bf x p T) = wt y T + (if x = y then p else 0)
 | []=>by show (if x = y then p else 0) + 0 = 0 + _; grind
 | e :: l=>by
  rw [bf]
  split
  ·rename_i h
   show (if x = y then e.2 + p else 0) + wt y l = (if e.1 = y then e.2 else 0) + wt y l + (if x = y then p else 0)
   rw [h]; split <;> grind
  ·split
   ·show (if x = y then p else 0) + wt y (e :: l) = wt y (e :: l) + (if x = y then p else 0)
    grind
   ·show (if e.1 = y then e.2 else 0) + wt y (bf x p l) = (if e.1 = y then e.2 else 0) + wt y l + (if x = y then p else 0)
    rw [mF x p y l]; grind
theorem mU (x p:Rat):∀ T,sW (bf x p T) = sW T + p
 | []=>by show p + 0 = 0 + p; grind
 | e :: l=>by
  rw [bf]
  split
  ·show e.2 + p + sW l = e.2 + sW l + p; grind
  ·split
   ·show p + (e.2 + sW l) = e.2 + sW l + p; grind
   ·show e.2 + sW (bf x p l) = e.2 + sW l + p
    rw [mU x p l]; grind
theorem gh (x p y:Rat):∀ T,y ∈ (bf x p T).map (·.1) ↔ y ∈ T.map (·.1) ∨ y = x
 | []=>by simp [bf]
 | e :: l=>by
  rw [bf]
  split
  ·rename_i h
   simp only [List.map_cons,List.mem_cons,h]
   grind
  ·split
   ·simp only [List.map_cons,List.mem_cons]; grind
   ·simp only [List.map_cons,List.mem_cons]
    rw [gh x p y l]; grind
theorem iR (x p:Rat):∀ T,(bf x p T).length <= T.length + 1
 | []=>by simp [bf]
 | e :: l=>by
  rw [bf]
  split
  ·simp
  ·split
   ·simp
   ·have:=iR x p l; simp only [leC]; omega
theorem Up.cons {e:Rat × Rat} {l:Lb (Rat × Rat)}:Up (e :: l) ↔ (∀ x ∈ l.map (·.1),e.1 < x)/\Up l:=by
 unfold Up
 rw [List.pairwise_cons]
 refine and_congr_left fun _=>⟨fun h x hx=>?_,fun h a ha=>Rat.not_le.2 (h _ (List.mem_map.2 ⟨a,ha,I⟩))⟩
 obtain ⟨a,ha,rfl⟩:=List.mem_map.1 hx
 exact Rat.not_le.1 (h a ha)
theorem gL (x p:Rat):∀ {T},Up T -> Up (bf x p T)
 | [],_=>by rw [bf,Up.cons]; exact ⟨fun y hy=>by simp at hy,List.Pairwise.nil⟩
 | e :: l,h=>by
  rw [Up.cons] at h
  rw [bf]
  split
  ·rename_i hx
   rw [Up.cons]
   exact ⟨fun y hy=>hx ▸ h.1 y hy,h.2⟩
  ·rename_i hx
   split
   ·rename_i h2
    rw [Up.cons,Up.cons]
    refine ⟨fun y hy=>?_,h⟩
    rw [List.map_cons] at hy
    rcases List.mem_cons.1 hy with rfl | hy
    ·exact h2
    ·have:=h.1 y hy; grind
   ·rename_i h2
    rw [Up.cons]
    refine ⟨fun y hy=>?_,gL x p h.2⟩
    rcases (gh x p y l).1 hy with hy | rfl
    ·exact h.1 y hy
    ·grind
theorem Gat.put {P T:Lb (Rat × Rat)} (h:Gat P T) (u:Up T) (x p:Rat):Gat (P ++ [(x,p)]) (bf x p T):=by
 refine ⟨(gL x p u).nodup,fun y=>?_,fun y=>?_,Nat.le_trans (iR x p T) (by rw [List.length_append]; exact Nat.add_le_add_right h.len 1)⟩
 ·rw [gh,h.keys,List.map_append,List.mem_append]; simp
 ·rw [mF,h.wts,lY]
  show _ = wt y P + ((if x = y then p else 0) + 0)
  grind
theorem putR_ok {T:Lb (Rat × Rat)} {x p:Rat} (hT:∀ e ∈ T,FQ e.1/\FQ e.2) (hx:FQ x) (hp:FQ p) (hl:T.length < 1000):aM_p FU (T.map mr) (RR x) (RR p) = some ((bf x p T).map mr):=by
 have hF:=aA
 have hh:=au (B:=aM_l1 FU (T.map mr) (RR x) (RR p)) (fun s:Bool × Nat × Lb Tc=>T.length - s.2.1)
  (fun s=>s.2.1 <= T.length/\s.2.2.length <= s.2.1 + (if s.1 = true then 1 else 0)/\s.2.2 ++ (if s.1 = true then (T.drop s.2.1).map mr else (bf x p (T.drop s.2.1)).map mr) = (bf x p T).map mr)
  (fun r=>r.2.length <= T.length + 1/\(if r.1 = true then r.2 else r.2 ++ [mr (x,p)]) = (bf x p T).map mr) ?_ FU (false,0,[]) ⟨Nat.zero_le _,by simp,by simp⟩ (by simp only; omega)
 ·obtain ⟨⟨q,xs⟩,e,h1,h2⟩:=hh
  unfold aM_p
  rw [e,aa]
  simp only at h1 h2 ⊢
  by_cases hq:q = true
  ·rw [if_pos hq]; rw [if_pos hq] at h2; rw [h2]
  ·rw [if_neg hq]; rw [if_neg hq] at h2
   rw [bp _ _ (by simp only [leC,leN]; omega),aa]
   exact congrArg some h2
 ·rintro ⟨q,i,xs⟩ J ⟨h1,h2,h3⟩ hJ
  simp only at h1 h2 h3 hJ
  have h2' : xs.length <= i + 1:=by split at h2 <;> omega
  unfold aM_l1
  simp only
  by_cases h0:i < T.length
  ·obtain ⟨f1,f2⟩:=hT T[i] (List.getElem_mem _)
   rw [if_pos (by simpa using h0),geE (by simpa using h0),aa,List.getElem_map]
   rw [List.drop_eq_getElem_cons h0] at h3
   rw [show (mr T[i]).fm = RR T[i].1 from I,oq f1 hx,aa]
   by_cases hq:q = true
   ·rw [if_pos hq] at h2 h3 ⊢
    rw [bp _ _ (by simp only [leC,leN]; omega),aa]
    refine hJ (q,i + 1,_) ⟨h0,by simp only [List.length_append,leC,leN,if_pos hq]; omega,?_⟩ (by simp only; omega)
    simp only
    rw [if_pos hq,<- h3,List.append_assoc]; rfl
   ·rw [if_neg hq] at h2 h3 ⊢
    rw [bf] at h3
    by_cases c1:T[i].1 = x
    ·rw [if_pos (bW.2 c1)]
     rw [if_pos c1] at h3
     rw [show (mr T[i]).fP = RR T[i].2 from rfl,(mg FU _ _ f2 hp hF).1,aa,bp _ _ (by simp only [leC,leN]; omega),aa]
     refine hJ (true,i + 1,_) ⟨h0,by simp only [List.length_append,leC,leN,if_true]; omega,?_⟩ (by simp only; omega)
     simp only
     rw [if_pos trivial,<- h3]; simp [mr]
    ·rw [if_neg (fun hc=>c1 (bW.1 hc))]
     rw [if_neg c1] at h3
     unfold jn
     simp only
     by_cases c2:x < T[i].1
     ·rw [if_pos (eF.2 c2)]
      rw [if_pos c2] at h3
      rw [bp _ _ (by simp only [leC,leN]; omega),aa]
      rw [bp _ _ (by simp only [List.length_append,leC,leN]; omega),aa]
      refine hJ (true,i + 1,_) ⟨h0,by simp only [List.length_append,leC,leN,if_true]; omega,?_⟩ (by simp only; omega)
      simp only
      rw [if_pos trivial,<- h3,List.append_assoc,List.append_assoc]; rfl
     ·rw [if_neg (fun hc=>c2 (eF.1 hc))]
      rw [if_neg c2] at h3
      rw [bp _ _ (by simp only [leC,leN]; omega),aa]
      refine hJ (q,i + 1,_) ⟨h0,by simp only [List.length_append,leC,leN,if_neg hq]; omega,?_⟩ (by simp only; omega)
      simp only
      rw [if_neg hq,<- h3]; simp
  ·have hi:i = T.length:=by omega
   rw [if_neg (by simpa using h0)]
   refine ⟨_,I,?_⟩
   simp only
   rw [hi,List.drop_length] at h3
   refine ⟨by omega,?_⟩
   by_cases hq:q = true
   ·rw [if_pos hq] at h3 ⊢; simpa using h3
   ·rw [if_neg hq] at h3 ⊢; simpa [bf] using h3
set_option maxRecDepth 8000
theorem iU {x p:Rat} {e:Rat × Rat}:∀ {T},e ∈ bf x p T -> e ∈ T ∨ e = (x,p) ∨ ∃ d ∈ T,e = (x,d.2 + p)
 | [],h=>.inr (.inl (List.mem_singleton.1 h))
 | d :: l,h=>by
  rw [bf] at h
  split at h
  ·rcases List.mem_cons.1 h with rfl | h
   ·exact .inr (.inr ⟨d,List.mem_cons_self ..,I⟩)
   ·exact .inl (List.mem_cons_of_mem _ h)
  ·split at h
   ·rcases List.mem_cons.1 h with rfl | h
    ·exact .inr (.inl I)
    ·exact .inl h
   ·rcases List.mem_cons.1 h with rfl | h
    ·exact .inl (List.mem_cons_self ..)
    ·rcases iU h with h | h | ⟨d', h1,h2⟩
     ·exact .inl (List.mem_cons_of_mem _ h)
     ·exact .inr (.inl h)
     ·exact .inr (.inr ⟨d', List.mem_cons_of_mem _ h1,h2⟩)
def un (k N:Nat):Rat:=Rat.divInt k N
theorem pd (a b N:Nat):un a N + un b N = un (a + b) N:=by
 unfold un
 rw [Rat.divInt_eq_div,Rat.divInt_eq_div,Rat.divInt_eq_div,Int.natCast_add,Rat.intCast_add,Rat.div_def,Rat.div_def,Rat.div_def,Rat.add_mul]
theorem un_zero (N:Nat):un 0 N = 0:=by
 unfold un
 rw [Rat.divInt_eq_div,Rat.div_def]
 show (0:Rat) * _ = 0
 rw [Rat.zero_mul]
theorem un_one {N:Nat} (h:0 < N):un N N = 1:=by
 unfold un
 exact Rat.divInt_self' (by omega)
theorem un_bt {k N:Nat} (h:0 < N) (hN:N <= 1000000) (hk:k <= 1000000):Bt 20 20 (un k N):=Bt.of (by omega) (by omega) (by omega)
theorem un_fq {k N:Nat} (h:0 < N) (hN:N <= 1000000) (hk:k <= 1000000):FQ (un k N):=(un_bt h hN hk).fq (by decide) (by decide)
structure Dn (N i:Nat) (T:List (Rat × Rat)):Prop where
 up:Up T
 key:∀ e ∈ T,Sh1 e.1
 wts:∀ e ∈ T,∃ k,0 < k/\k <= i/\e.2 = un k N
 sum:sW T = un i N
 len:T.length <= i
theorem Dn.put {N i:Nat} {T:Lb (Rat × Rat)} (h:Dn N i T) {x:Rat} (hx:Sh1 x):Dn N (i + 1) (bf x (un 1 N) T):=by
 refine ⟨gL _ _ h.up,fun e he=>?_,fun e he=>?_,by rw [mU,h.sum,pd],Nat.le_trans (iR _ _ _) (Nat.add_le_add_right h.len 1)⟩
 ·rcases iU he with h1 | rfl | ⟨d,h1,rfl⟩
  ·exact h.key e h1
  ·exact hx
  ·exact hx
 ·rcases iU he with h1 | rfl | ⟨d,h1,rfl⟩
  ·obtain ⟨k,k1,k2,k3⟩:=h.wts e h1
   exact ⟨k,k1,by omega,k3⟩
  ·exact ⟨1,by decide,by omega,I⟩
  ·obtain ⟨k,k1,k2,k3⟩:=h.wts d h1
   exact ⟨k + 1,by omega,by omega,by show d.2 + un 1 N = _; rw [k3,pd]⟩
theorem Dn.fq {N i:Nat} {T:Lb (Rat × Rat)} (h:Dn N i T) (h0:0 < N) (hN:N <= 8) (hi:i <= 8):∀ e ∈ T,FQ e.1/\FQ e.2:=fun e he=>by
 obtain ⟨k,k1,k2,k3⟩:=h.wts e he
 exact ⟨(h.key e he).bt.q,by rw [k3]; exact un_fq h0 (by omega) (by omega)⟩
theorem jU {a b:Int} (ha:Sm a) (hb:Sm b) (h0:b ≠ 0):bg_p FU a b = some (RR (Rat.divInt a b)):=by
 have hF:=aA
 unfold bg_p
 rw [ik FU a ha (by omega),aa,ik FU b hb (by omega),aa,(iN FU 16 a b h0 ha.r hb.r (by decide) hF).1,aa]
theorem sharesR {l:Lb Rat} (h:∀ q ∈ l,FQ q) (hl:l.length < 1000):bn_p FU (l.map Sg) = some true:=by
 have hF:=aA
 have hh:=au (B:=bn_l1 FU (l.map Sg)) (fun i:Nat=>l.length - i) (fun i=>i <= l.length) (fun r=>r = .inr ()) ?_ FU 0 (Nat.zero_le _) (by omega)
 ·obtain ⟨r,e,rfl⟩:=hh
  unfold bn_p
  rw [e]; rfl
 ·intro i J hi hJ
  unfold bn_l1
  simp only
  by_cases h0:i < l.length
  ·rw [if_pos (by simpa using h0),geE (by simpa using h0),aa,List.getElem_map]
   rw [gw FU _ (h l[i] (List.getElem_mem _)) hF,aa,if_pos I]
   exact hJ (i + 1) h0 (by omega)
  ·rw [if_neg (by simpa using h0)]
   exact ⟨_,I,I⟩
theorem outM {T:Lb (Rat × Rat)} (hT:∀ e ∈ T,FQ e.1/\FQ e.2) (hl:T.length <= 400):aD_p FU (T.map mr) = some (T.map ms,0):=by
 have hF:=aA
 have hh:=au (B:=aD_l1 FU (T.map mr)) (fun s:Nat × Lb Ta=>T.length - s.1) (fun s=>s.1 <= T.length/\s.2 = (T.take s.1).map ms) (fun r=>r = .inr (T.map ms)) ?_ FU (0,[]) ⟨Nat.zero_le _,rfl⟩ (by simp only; omega)
 ·obtain ⟨r,e,rfl⟩:=hh
  unfold aD_p
  rw [if_neg (by simpa using hl),e]; rfl
 ·rintro ⟨i,xs⟩ J ⟨hi,hx⟩ hJ
  simp only at hi hx hJ
  unfold aD_l1
  simp only
  by_cases h0:i < T.length
  ·obtain ⟨f1,f2⟩:=hT T[i] (List.getElem_mem _)
   rw [if_pos (by simpa using h0),geE (by simpa using h0),aa,List.getElem_map]
   rw [show (mr T[i]).fm = RR T[i].1 from I,show (mr T[i]).fP = RR T[i].2 from I,di FU 16 _ f1.1.r f1.2.r (by decide) (by omega),if_pos f1,aa,di FU 16 _ f2.1.r f2.2.r (by decide) (by omega),if_pos f2,aa,if_pos I,if_pos I]
   rw [bp _ _ (by rw [hx]; simp only [List.length_map,List.length_take,leC,leN]; omega),aa]
   refine hJ (i + 1,_) ⟨h0,?_⟩ (by simp only; omega)
   rw [hx,List.take_succ_eq_append_getElem h0,List.map_append]; rfl
  ·rw [if_neg (by simpa using h0)]
   refine ⟨_,I,?_⟩
   rw [hx,List.take_of_length_le (by omega)]
def kX (N:Nat) (l:Lb Rat):Lb (Rat × Rat):=l.foldl (fun T q=>bf q (un 1 N) T) []
theorem fW (N:Nat) (l:Lb Rat) (h:∀ q ∈ l,Sh1 q):Dn N l.length (kX N l):=by
 suffices ∀ (l:Lb Rat) (i:Nat) (T),(∀ q ∈ l,Sh1 q) -> Dn N i T -> Dn N (i + l.length) (l.foldl (fun T q=>bf q (un 1 N) T) T) by
  have:=this l 0 [] h ⟨List.Pairwise.nil,by simp,by simp,by rw [un_zero]; rfl,by simp⟩
  rwa [Nat.zero_add] at this
 intro l
 induction l with
 | nil=>exact fun i T _ h=>h
 | cons q l ih=>
  intro i T hq h
  have:=ih (i + 1) _ (fun x hx=>hq x (List.mem_cons_of_mem _ hx)) (h.put (hq q (List.mem_cons_self ..)))
  rw [leC,Nat.add_comm l.length 1,<- Nat.add_assoc]
  exact this
theorem oy {l:Lb Rat} (h:∀ q ∈ l,Sh1 q) (h0:0 < l.length) (h8:l.length <= 8):bw_p FU (l.map Sg) = some ((kX l.length l).map ms,0):=by
 have hF:=aA
 have hfq:∀ q ∈ l,FQ q:=fun q hq=>(h q hq).bt.q
 have hh:=au (B:=bw_l1 FU (l.map Sg)) (fun s:Lb Tc × Nat=>l.length - s.2) (fun s=>s.2 <= l.length/\s.1 = (kX l.length (l.take s.2)).map mr) (fun r=>r = (kX l.length l).map mr) ?_ FU ([],0) ⟨Nat.zero_le _,rfl⟩ (by simp only; omega)
 ·obtain ⟨r,e,rfl⟩:=hh
  have hd:=fW l.length l h
  unfold bw_p
  rw [if_neg (by simp only [List.length_map]; omega),sharesR hfq (by omega),aa,if_pos rfl,if_neg (by simp only [List.length_map]; omega),e,aa,outM (hd.fq h0 h8 h8) (by have:=hd.len; omega),aa]
 ·rintro ⟨xs,i⟩ J ⟨hi,hx⟩ hJ
  simp only at hi hx hJ
  unfold bw_l1
  simp only
  by_cases c:i < l.length
  ·have hd:=fW l.length (l.take i) (fun q hq=>h q (List.mem_of_mem_take hq))
   have hl:(l.take i).length <= 8:=by simp only [List.length_take]; omega
   rw [if_pos (by simpa using c),geE (by simpa using c),aa,List.getElem_map]
   rw [ld FU _ (hfq _ (List.getElem_mem c)) (by omega),aa,jU (gx (by decide)) (gx (by simp only [List.length_map]; omega)) (by simp only [List.length_map]; omega),aa,hx,List.length_map]
   rw [show Rat.divInt 1 (l.length:Int) = un 1 l.length from I,putR_ok (hd.fq h0 h8 hl) (hfq _ (List.getElem_mem c)) (un_fq h0 (by omega) (by decide)) (by have:=hd.len; omega),aa]
   refine hJ (_,i + 1) ⟨c,?_⟩ (by simp only; omega)
   simp only
   rw [List.take_succ_eq_append_getElem c]
   unfold kX
   rw [List.foldl_append]; rfl
  ·rw [if_neg (by simpa using c)]
   refine ⟨_,I,?_⟩
   rw [hx,List.take_of_length_le (by omega)]
structure Dw (N:Nat) (T:List (Rat × Rat)):Prop where
 up:Up T
 key:∀ e ∈ T,Bt 40 40 e.1
 wts:∀ e ∈ T,∃ k,0 < k/\k <= N/\e.2 = un k N
 sum:sW T = un N N
 len:T.length <= 400
def Ds (T:Lb (Rat × Rat)):Prop:=∃ N,0 < N/\N <= 1000000/\Dw N T
theorem Dn.dw {N:Nat} {T:Lb (Rat × Rat)} (h:Dn N N T) (h0:0 < N) (hN:N <= 8):Ds T:=
 ⟨N,h0,by omega,h.up,fun e he=>(h.key e he).bt.mono (by decide) (by decide),h.wts,h.sum,by have:=h.len; omega⟩
theorem mW (d:Th):∃ N T,am_p FU d = some (T.map ms)/\0 < N/\N <= 8/\Dn N N T:=by
 have hF:=aA
 have hh:=au (B:=am_l1 FU d) (fun s:Nat × Lb Tb=>8 - s.1) (fun s=>s.1 <= 8/\∃ l:Lb Rat,s.2 = l.map Sg/\l.length <= s.1/\∀ q ∈ l,Sh1 q) (fun r=>∃ l:Lb Rat,r = l.map Sg/\l.length <= 8/\∀ q ∈ l,Sh1 q) ?_ FU (0,[]) ⟨Nat.zero_le _,[],rfl,by simp,by simp⟩ (by simp only; omega)
 ·obtain ⟨r,e,l,rfl,h8,hq⟩:=hh
  unfold am_p jn
  rw [e]
  simp only [aa]
  by_cases h0:l.length = 0
  ·rw [if_pos (by simpa using h0)]
   have hl:l = []:=List.eq_nil_of_length_eq_zero h0
   subst hl
   have hz:FQ (Rat.divInt 0 1):=FQ0
   unfold cJ_p
   rw [if_neg (by decide),jU (gx (by decide)) (gx (by decide)) (by decide),aa,di FU 16 _ hz.1.r hz.2.r (by decide) (by omega),if_pos hz,aa,aa,bp _ _ (by simp),aa]
   have hb:∀ q ∈ [Rat.divInt 0 1],Sh1 q:=fun q hq=>by rw [List.mem_singleton.1 hq]; exact ⟨0,1,rfl,by decide,by decide,by decide⟩
   have ht:=oy hb (by decide) (by decide)
   rw [show List.map Sg ([]:Lb Rat) ++ [(Sg (Rat.divInt 0 1),(0:Int)).1] = [Rat.divInt 0 1].map Sg from I,ht,aa]
   exact ⟨1,_,I,by decide,by decide,fW 1 _ hb⟩
  ·rw [if_neg (by simpa using h0),oy hq (by omega) h8,aa]
   exact ⟨_,_,I,by omega,h8,fW _ _ hq⟩
 ·rintro ⟨i,xs⟩ J ⟨hi,l,rfl,hl,hq⟩ hJ
  simp only at hi hl hJ
  unfold am_l1
  simp only
  by_cases c:i < d.fL.length
  ·rw [if_pos c]
   by_cases c8:i < 8
   ·rw [if_pos c8,geE c,aa]
    obtain ⟨q,e1,e2⟩:=oz d.fL[i]
    rw [e1,aa,bp _ _ (by simp only [List.length_map,leC,leN]; omega),aa]
    refine hJ (i + 1,_) ⟨c8,l ++ [q],by rw [List.map_append]; rfl,by simp only [List.length_append,leC,leN]; omega,fun x hx=>?_⟩ (by simp only; omega)
    rcases List.mem_append.1 hx with hx | hx
    ·exact hq x hx
    ·rw [List.mem_singleton.1 hx]; exact e2
   ·rw [if_neg c8]
    exact ⟨_,I,l,I,by omega,hq⟩
  ·rw [if_neg c]
   exact ⟨_,I,l,I,by omega,hq⟩
set_option maxRecDepth 8000
theorem Ds.one {T:Lb (Rat × Rat)} (h:Ds T):sW T = 1:=by
 obtain ⟨N,n1,n2,d⟩:=h
 rw [d.sum,un_one n1]
theorem Ds.len {T:Lb (Rat × Rat)} (h:Ds T):0 < T.length/\T.length <= 400:=by
 refine ⟨?_,?_⟩
 ·cases T with
  | nil=>exact absurd h.one (by decide)
  | cons e l=>simp
 ·obtain ⟨N,n1,n2,d⟩:=h
  have:=d.len
  omega
theorem fromG (z:Int) (h:Sm z):aI_p FU z = some ⟨L z,L 1⟩:=by
 have hF:=aA
 unfold aI_p cX_p
 rw [gQ FU z h (by omega),aa,gQ FU 1 (by unfold Sm; decide) (by omega),aa,aa]
theorem from0:aI_p FU 0 = some (Rt 0):=fromG 0 (by unfold Sm; decide)
theorem from1:aI_p FU 1 = some (Rt 1):=fromG 1 (by unfold Sm; decide)
theorem FQ1:FQ 1:=(Bt.fq (i:=1) (j:=2) ⟨by decide,by decide⟩ (by decide) (by decide))
theorem pG {e:Rat × Rat} (h:FQ e.2):bb_p FU (ms e) = some (Rt e.2):=by
 have hF:=aA
 unfold bb_p
 rw [show (ms e).fP = Sg e.2 from I,cg FU _ h (by omega),aa]
theorem nc {T:Lb (Rat × Rat)} {i:Nat} (h:i < T.length):sW (T.take (i + 1)) = sW (T.take i) + T[i].2:=by
 rw [List.take_succ_eq_append_getElem h,lR]
 show _ + (T[i].2 + 0) = _
 grind
theorem pb {T:Lb (Rat × Rat)} (h:Up T) {i j:Nat} (hj:j < T.length) (hij:i < j):(T[i]'(by omega)).1 < T[j].1:=Rat.not_le.1 (List.pairwise_iff_getElem.1 h i j (by omega) hj hij)
theorem numpos {q:Rat} (h:0 < q):0 < q.num:=by
 have h1:=(Rat.lt_iff _ _).1 h
 have e1:(0:Rat).num = 0:=rfl
 have e2:((0:Rat).den:Int) = 1:=rfl
 rw [e1,e2] at h1
 omega
set_option maxRecDepth 8000
structure Qn (T:List (Rat × Rat)) (x:Rat) (j:Nat):Prop where
 lt:sW (T.take j) < x
 le:x <= sW (T.take (j + 1))
set_option maxRecDepth 8000
theorem Gat.perm2 {P D E:Lb (Rat × Rat)} (h:Gat P D) (k:Gat P E):D.Perm E:=(List.perm_ext_iff_of_nodup (nd_of h.nd) (nd_of k.nd)).2 fun e=>(h.mem e).trans (k.mem e).symm
theorem Gat.self {P:Lb (Rat × Rat)} (h:(P.map (·.1)).Nodup):Gat P P:=⟨h,fun _=>Iff.rfl,fun _=>rfl,Nat.le_refl _⟩
def nO (P:Lb (Rat × Rat)):Lb (Rat × Rat):=P.foldl ku []
theorem fG (P:Lb (Rat × Rat)):Gat P (nO P):=by
 suffices ∀ (l P D:Lb (Rat × Rat)),Gat P D -> Gat (P ++ l) (l.foldl ku D) from this P [] [] Gat.nil
 intro l
 induction l with
 | nil=>intro P D h; rw [List.append_nil]; exact h
 | cons e l ih=>
  intro P D h
  have:=ih (P ++ [e]) (ku D e) (h.add e)
  rwa [List.append_assoc] at this
def mk2 (e:Rat × Rat):Tb × Td:=(Sg e.1,Rt e.2)
theorem nb {x:Rat} (hx:FQ x):∀ {D:Lb (Rat × Rat)},(∀ e ∈ D,FQ e.1) -> br (D.map mk2) (Sg x) = (br D x).map Rt
 | [],_=>rfl
 | e :: D,h=>by
  rw [List.map_cons,br,br]
  by_cases c:x = e.1
  ·rw [if_pos c,if_pos (show Sg x = (mk2 e).1 from congrArg Sg c)]; rfl
  ·rw [if_neg c,if_neg (fun hc:Sg x = (mk2 e).1=>c (kb hx (h e (List.mem_cons_self ..)) hc)),nb hx fun d hd=>h d (List.mem_cons_of_mem _ hd)]
theorem ka {x:Rat} (hx:FQ x) (v:Rat):∀ {D:Lb (Rat × Rat)},(∀ e ∈ D,FQ e.1) -> aC (D.map mk2) (Sg x) (Rt v) = (aC D x v).map mk2
 | [],_=>rfl
 | e :: D,h=>by
  rw [List.map_cons,aC,aC]
  by_cases c:x = e.1
  ·rw [if_pos c,if_pos (show Sg x = (mk2 e).1 from congrArg Sg c)]; rfl
  ·rw [if_neg c,if_neg (fun hc:Sg x = (mk2 e).1=>c (kb hx (h e (List.mem_cons_self ..)) hc)),ka hx v fun d hd=>h d (List.mem_cons_of_mem _ hd)]; rfl
theorem oU:(List.range 420).all (fun l=>match bq_p FU (ac ((l:Nat):Int)) with | some y=>decide (0 <= y/\y < 100) | none=>false) = true:=by kernel_rfl
theorem lens_ok (l:Nat) (h:l < 420):∃ y,bq_p FU (ac ((l:Nat):Int)) = some y/\0 <= y/\y < 4611686018427387904:=by
 have:=List.all_eq_true.1 oU l (List.mem_range.2 h)
 split at this
 ·rename_i y e
  have:=of_decide_eq_true this
  exact ⟨y,e,by omega,by omega⟩
 ·cases this
theorem cmpM {e d:Rat × Rat} (he:FQ e.1) (hd:FQ d.1):ah_p FU (ms e) (ms d) = some (sgn e.1 d.1):=by
 have hF:=aA
 unfold ah_p
 rw [show (ms e).fm = Sg e.1 from I,show (ms d).fm = Sg d.1 from I,cg FU _ he (by omega),aa,cg FU _ hd (by omega),aa,rcmpG he hd,aa]
theorem sort_ms {D U:Lb (Rat × Rat)} {xs:Lb Ta} (hf:∀ e ∈ D,FQ e.1) (hn:(D.map (·.1)).Nodup) (hx:xs.Perm (D.map ms)) (hu:Up U) (hp:U.Perm D) (hl:D.length < 420) :
  ((bq_p FU (ac ((xs.length:Nat):Int))).bind fun y=>(dK (fun x9 y9=>ah_p FU x9 y9) y xs).bind fun z=>some (z,(0:Int))) = some (U.map ms,0):=by
 have hm:∀ x ∈ xs,∃ e ∈ D,x = ms e:=fun x hx' =>by
  obtain ⟨e,he,rfl⟩:=List.mem_map.1 (hx.mem_iff.1 hx')
  exact ⟨e,he,I⟩
 have hlt:∀ e ∈ D,∀ d ∈ D,ltQ (fun x9 y9=>ah_p FU x9 y9) (ms e) (ms d) = decide (e.1 < d.1):=fun e he d hd=>by
  refine (congrArg (fun o:Oa Int=>decide (o.getD 0 < 0)) (cmpM (hf e he) (hf d hd))).trans ?_
  show decide (sgn e.1 d.1 < 0) = _
  exact decide_eq_decide.2 fy
 have hs:SortOk (fun x9 y9=>ah_p FU x9 y9) xs:=by
  refine ⟨fun x hx=>?_,fun x hx y hy=>?_,fun x hx y hy h1 h2=>?_,fun x hx y hy z hz h1 h2=>?_⟩
  ·obtain ⟨e,he,rfl⟩:=hm x hx
   rw [hlt e he e he]
   exact decide_eq_false (by grind)
  ·obtain ⟨e,he,rfl⟩:=hm x hx
   obtain ⟨d,hd,rfl⟩:=hm y hy
   exact ⟨_,cmpM (hf e he) (hf d hd)⟩
  ·obtain ⟨e,he,rfl⟩:=hm x hx
   obtain ⟨d,hd,rfl⟩:=hm y hy
   rw [hlt e he d hd] at h1
   rw [hlt d hd e he] at h2
   have h3:=of_decide_eq_false h1
   have h4:=of_decide_eq_false h2
   have h5:e.1 = d.1:=by grind
   have h6:e.2 = d.2:=by rw [<- gk hn he,<- gk hn hd,h5]
   rw [show e = d from Prod.ext h5 h6]
  ·obtain ⟨e,he,rfl⟩:=hm x hx
   obtain ⟨d,hd,rfl⟩:=hm y hy
   obtain ⟨f,hf,rfl⟩:=hm z hz
   rw [hlt e he d hd] at h1
   rw [hlt d hd f hf] at h2
   rw [hlt e he f hf]
   have h3:=of_decide_eq_true h1
   have h4:=of_decide_eq_true h2
   exact decide_eq_true (by grind)
 obtain ⟨y,e1,e2,e3⟩:=lens_ok xs.length (by rw [hx.length_eq,List.length_map]; exact hl)
 have hz:cI (ltQ (fun x9 y9=>ah_p FU x9 y9)) xs = U.map ms:=by
  refine iI hs (bQ _ _) ((hp.map ms).trans hx.symm) (dE hs xs fun y hy=>hy) ?_
  rw [List.pairwise_map]
  refine List.Pairwise.imp_of_mem (fun {a b} ha hb h=>?_) hu
  rw [hlt b (hp.mem_iff.1 hb) a (hp.mem_iff.1 ha)]
  exact decide_eq_false (by grind)
 rw [e1,aa]
 unfold dK ph
 rw [if_pos ⟨e2,e3⟩,if_pos (jF.2 hs),aa,hz]
set_option maxRecDepth 8000
def mv (g:Rat -> Rat) (T:Lb (Rat × Rat)):Lb (Rat × Rat):=T.map fun e=>(g e.1,e.2)
def neg (T:Lb (Rat × Rat)):Lb (Rat × Rat):=(mv (fun x=>-1 * x) T).reverse
structure Cov (T:List (Rat × Rat)) (K:List Rat):Prop where
 nt:(T.map (·.1)).Nodup
 nd:K.Nodup
 sub:∀ x ∈ T.map (·.1),x ∈ K
end Go.Proofs.YtkommhmbkbhmlaaGreat
