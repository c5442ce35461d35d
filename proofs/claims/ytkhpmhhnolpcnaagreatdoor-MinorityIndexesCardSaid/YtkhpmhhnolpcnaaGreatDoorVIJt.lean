/- Plain laws: words, their value, and integers of any length: sum, difference, product. No program in sight but the printed functions. -/
import Derived.Test.YtkhpmhhnolpcnaaGreatDoorVI8
namespace Go.Proofs.YtkhpmhhnolpcnaaGreatDoor
open Go
theorem ab {α β:Type} (x:α) (f:α -> Option β):(some x).bind f = f x:=Eq.trans (Eq.refl _) (Eq.refl _)
theorem bB {α β:Type} (B:(α -> Option β) -> α -> Option β) (n:Nat) (s:α):ao B (n + 1) s = B (ao B n) s:=rfl
theorem av {α β:Type} {B:(α -> Option β) -> α -> Option β} (m:α -> Nat) (I:α -> Prop) (Q:β -> Prop)
  (step:∀ s J,I s -> (∀ s', I s' -> m s' < m s -> ∃ r,J s' = some r/\Q r) -> ∃ r,B J s = some r/\Q r):∀ n s,I s -> m s < n -> ∃ r,ao B n s = some r/\Q r:=by
 intro n
 induction n with
 | zero=>intro s _ h; omega
 | succ n ih=>intro s hI h; exact step s (ao B n) hI fun s' h1 h2=>ih s' h1 (by omega)
theorem aN {x:Int} (h1:-9223372036854775808 <= x) (h2:x <= 9223372036854775807):chk x = some x:=if_pos ⟨h1,h2⟩
theorem bf {α:Type} {xs:List α} {i:Int} (h0:0 <= i) (h:i.toNat < xs.length):idx xs i = some xs[i.toNat]:=by unfold idx; rw [if_pos h0,geE h]
theorem bs {α:Type} {xs:List α} {i:Nat} (x:α) (h:i < xs.length):put xs (i:Int) x = some (xs.set i x):=by
 unfold put; rw [if_pos ⟨Int.natCast_nonneg _,by omega⟩]; rfl
theorem mD {α:Type} {xs:List α} {z:Nat} (h:z <= xs.length):cut xs 0 (z:Int) = some (xs.take z):=by
 unfold cut; rw [if_pos ⟨Int.le_refl _,Int.natCast_nonneg _,by omega⟩]; rfl
theorem da {α:Type} (n:Nat) (x:α) (h:n <= 4294967296):mk (n:Int) x = some (List.replicate n x):=by
 unfold mk; rw [if_pos ⟨Int.natCast_nonneg _,by omega⟩]; rfl
def val:List UInt64 -> Nat
 | []=>0
 | x :: xs=>x.toNat + 18446744073709551616 * val xs
theorem dy (xs ys:List UInt64):val (xs ++ ys) = val xs + 18446744073709551616 ^ xs.length * val ys:=by
 induction xs with
 | nil=>simp [val]
 | cons x xs ih=>simp only [List.cons_append,val,ih,leC,Nat.pow_succ]; grind
theorem cg (xs:List UInt64):val xs < 18446744073709551616 ^ xs.length:=by
 induction xs with
 | nil=>simp [val]
 | cons x xs ih=>
  have:=x.toNat_lt
  have h2:18446744073709551616 * (val xs + 1) <= 18446744073709551616 * 18446744073709551616 ^ xs.length:=Nat.mul_le_mul_left _ ih
  simp only [val,leC,Nat.pow_succ]
  rw [Nat.mul_comm (_ ^ _)]
  omega
theorem bE (a:List UInt64) {i:Nat} (h:i < a.length):val (a.take (i + 1)) = val (a.take i) + 18446744073709551616 ^ i * a[i].toNat:=by
 rw [<- List.take_append_getElem h,dy,List.length_take,Nat.min_eq_left (Nat.le_of_lt h)]
 simp [val]
theorem my {xs:List UInt64} {i:Nat} (s:UInt64) (h:i < xs.length):(xs.set i s).take (i + 1) = xs.take i ++ [s]:=by
 rw [<- List.take_append_getElem (by simpa using h),List.take_set_of_le (Nat.le_refl _)]
 simp
theorem dw {xs:List UInt64} {i:Nat} (s:UInt64) (h:i < xs.length):val ((xs.set i s).take (i + 1)) = val (xs.take i) + 18446744073709551616 ^ i * s.toNat:=by
 rw [my s h,dy,List.length_take,Nat.min_eq_left (Nat.le_of_lt h)]
 simp [val]
theorem bW:∀ (xs:List UInt64),(∀ x ∈ xs,x = 0) -> val xs = 0
 | [],_=>rfl
 | x :: xs,h=>by
  have h1:=h x (List.mem_cons_self ..)
  have h2:=bW xs fun y hy=>h y (List.mem_cons_of_mem _ hy)
  subst h1; simp [val,h2]
def dg (m:Nat):List UInt64:=if m = 0 then [] else UInt64.ofNat m :: dg (m / 18446744073709551616)
termination_by m
decreasing_by exact Nat.div_lt_self (by omega) (by omega)
theorem dg0:dg 0 = []:=by unfold dg; simp
theorem gE {m:Nat} (h:m ≠ 0):dg m = UInt64.ofNat m :: dg (m / 18446744073709551616):=by rw [dg]; rw [if_neg h]
theorem aA (m:Nat):val (dg m) = m:=by
 induction m using Nat.strongRecOn with
 | _ m ih=>
  by_cases h:m = 0
  ·subst h; rw [dg0]; rfl
  ·rw [gE h]; simp only [val]
   rw [ih _ (Nat.div_lt_self (by omega) (by omega)),UInt64.toNat_ofNat']
   exact Nat.mod_add_div m 18446744073709551616
def Nm (xs:List UInt64):Prop:=∀ x,xs.getLast? = some x -> x ≠ 0
theorem Nm.tail {x y:UInt64} {xs:List UInt64} (h:Nm (x :: y :: xs)):Nm (y :: xs):=fun z hz=>h z (by rw [List.getLast?_cons_cons]; exact hz)
theorem eO:∀ {xs:List UInt64},Nm xs -> xs ≠ [] -> 0 < val xs
 | [],_,h=>absurd rfl h
 | [x],h,_=>by
  have h1:=h x rfl
  have:x.toNat ≠ 0:=fun e=>h1 (UInt64.toNat_inj.1 (by simpa using e))
  simp only [val]; omega
 | x :: y :: xs,h,_=>by
  have:=eO h.tail (by simp)
  simp only [val] at this ⊢
  omega
theorem ii:∀ {xs:List UInt64},Nm xs -> xs ≠ [] -> 18446744073709551616 ^ (xs.length - 1) <= val xs
 | [],_,h=>absurd rfl h
 | [x],h,_=>by
  have h1:=eO h (by simp)
  show 18446744073709551616 ^ 0 <= _
  rw [Nat.pow_zero]; exact h1
 | x :: y :: xs,h,_=>by
  have h1:=ii h.tail (by simp)
  have h2:18446744073709551616 * 18446744073709551616 ^ xs.length <= 18446744073709551616 * val (y :: xs):=Nat.mul_le_mul_left _ (by simpa using h1)
  show 18446744073709551616 ^ (xs.length + 1) <= x.toNat + 18446744073709551616 * val (y :: xs)
  rw [Nat.pow_succ,Nat.mul_comm]; omega
theorem mF:∀ {xs:List UInt64},Nm xs -> dg (val xs) = xs
 | [],_=>dg0
 | x :: xs,h=>by
  have hp:=eO h (by simp)
  rw [gE (by omega)]
  have hx:=x.toNat_lt
  have h1:UInt64.ofNat (val (x :: xs)) = x:=UInt64.toNat_inj.1 (by rw [UInt64.toNat_ofNat']; simp only [val]; omega)
  have h2:val (x :: xs) / 18446744073709551616 = val xs:=by simp only [val]; omega
  have h3:Nm xs:=by
   cases xs with
   | nil=>intro z hz; simp at hz
   | cons y ys=>exact h.tail
  rw [h1,h2,mF h3]
theorem fO (m:Nat):Nm (dg m):=by
 induction m using Nat.strongRecOn with
 | _ m ih=>
  intro x hx
  by_cases h:m = 0
  ·subst h; rw [dg0] at hx; cases hx
  ·rw [gE h] at hx
   by_cases h2:m / 18446744073709551616 = 0
   ·rw [h2,dg0] at hx
    simp at hx
    intro e; subst e
    have:=congrArg UInt64.toNat hx
    rw [UInt64.toNat_ofNat'] at this
    simp at this; omega
   ·have h3:=ih (m / 18446744073709551616) (Nat.div_lt_self (by omega) (by omega))
    rw [gE h2] at hx h3
    rw [List.getLast?_cons_cons] at hx
    exact h3 x hx
theorem gd {m l:Nat} (h:m < 18446744073709551616 ^ l):(dg m).length <= l:=by
 by_cases h0:dg m = []
 ·rw [h0]; simp
 ·have h1:=ii (fO m) h0
  rw [aA] at h1
  have h2:=Nat.lt_of_le_of_lt h1 h
  have h3:=(Nat.pow_lt_pow_iff_right (by omega)).1 h2
  omega
theorem aC (n:Nat) (b:Bool) (ws:List UInt64) (hn:ws.length < n) (hl:ws.length <= 4294967296):ao_p n b ws = some ⟨b && decide (0 < val ws),dg (val ws)⟩:=by
 have h:=av (B:=ao_l1 n ws) (fun z:Int=>z.toNat) (fun z=>0 <= z/\z <= ws.length/\∀ i:Nat,z.toNat <= i -> ∀ h:i < ws.length,ws[i] = 0)
  (fun z=>∃ k:Nat,z = k/\k <= ws.length/\(∀ i:Nat,k <= i -> ∀ h:i < ws.length,ws[i] = 0)/\∀ h:0 < k,∀ h2:k - 1 < ws.length,ws[k - 1] ≠ 0) ?_ n (ws.length:Int) ⟨by omega,by omega,fun i h1 h2=>by omega⟩ (by simpa using hn)
 ·obtain ⟨z,hz,k,rfl,hk,hz0,hz1⟩:=h
  have e:val ws = val (ws.take k):=by
   conv=>lhs; rw [<- List.take_append_drop k ws,dy]
   rw [bW (ws.drop k) fun x hx=>?_]
   ·simp
   ·obtain ⟨i,hi,rfl⟩:=List.getElem_of_mem hx
    rw [List.getElem_drop]
    exact hz0 _ (by omega) _
  have hnm:Nm (ws.take k):=by
   intro x hx
   rw [List.getLast?_eq_getElem?,List.length_take,Nat.min_eq_left hk] at hx
   obtain ⟨h1,rfl⟩:=List.getElem?_eq_some_iff.1 hx
   have h2:k - 1 < ws.length:=by rw [List.length_take] at h1; omega
   by_cases h0:0 < k
   ·rw [List.getElem_take]; exact hz1 h0 h2
   ·rw [List.length_take] at h1; omega
  have e2:dg (val ws) = ws.take k:=by rw [e]; exact mF hnm
  have e3:decide (0 < val ws) = decide (0 < (k:Int)):=by
   rw [decide_eq_decide]
   constructor
   ·intro h0
    by_cases hk0:k = 0
    ·subst hk0; rw [e] at h0; simp [val] at h0
    ·omega
   ·intro h0; rw [e]; refine eO hnm fun h1=>?_
    have:=congrArg List.length h1
    rw [List.length_take,leN] at this; omega
  unfold ao_p jn
  simp only [hz,ab,mD hk]
  cases b
  ·simp [e2]
  ·simp [e2,e3]
 ·intro z J ⟨h1,h2,h3⟩ hJ
  unfold ao_l1
  simp only
  by_cases h0:0 < z
  ·rw [if_pos h0,aN (by omega) (by omega),ab,bf (by omega) (by omega),ab]
   split
   ·rename_i hx
    rw [ab]
    refine hJ (z - 1) ⟨by omega,by omega,fun i h4 h5=>?_⟩ (by omega)
    by_cases h6:i = (z - 1).toNat
    ·subst h6; exact hx
    ·exact h3 i (by omega) h5
   ·rename_i hx
    refine ⟨z,rfl,z.toNat,by omega,by omega,h3,fun h4 h5=>?_⟩
    have:(z - 1).toNat = z.toNat - 1:=by omega
    simp only [this] at hx
    exact hx
  ·rw [if_neg h0]
   exact ⟨z,rfl,0,by omega,by omega,fun i h4 h5=>h3 i (by omega) h5,fun h4=>by omega⟩
theorem gb (x y c:UInt64) (h:c.toNat <= 1):∃ s d:UInt64,add64 x y c = some (s,d)/\s.toNat + 18446744073709551616 * d.toNat = x.toNat + y.toNat + c.toNat/\d.toNat <= 1:=by
 refine ⟨_,_,if_pos h,?_⟩
 have hx:=x.toNat_lt
 have hy:=y.toNat_lt
 rw [UInt64.toNat_ofNat', UInt64.toNat_ofNat']
 omega
theorem br (x y c:UInt64) (h:c.toNat <= 1):∃ s d:UInt64,sub64 x y c = some (s,d)/\s.toNat + y.toNat + c.toNat = x.toNat + 18446744073709551616 * d.toNat/\d.toNat <= 1:=by
 refine ⟨_,_,if_pos h,?_⟩
 have hx:=x.toNat_lt
 have hy:=y.toNat_lt
 rw [UInt64.toNat_ofNat']
 split <;> simp <;> omega
theorem bS {α:Type} {l:List α} {i:Nat} (h:l.length <= i):l.take i = l:=List.take_of_length_le h
theorem gC (b:List UInt64) (i:Nat):val (b.take (i + 1)) = val (b.take i) + 18446744073709551616 ^ i * (b[i]?.getD 0).toNat:=by
 by_cases h:i < b.length
 ·rw [bE b h,geE h]; rfl
 ·rw [bS (by omega),bS (by omega),List.getElem?_eq_none (by omega)]; simp
theorem jQ (n:Nat) (a b:List UInt64) (hb:b.length <= a.length) (hn:a.length < n):∃ xs u,ao (bL_l1 n a b) n (0,0,List.replicate (a.length + 1) 0) = some (xs,u)/\xs.length = a.length + 1/\val (xs.take a.length) + 18446744073709551616 ^ a.length * u.toNat = val a + val b:=by
 have h:=av (B:=bL_l1 n a b) (fun s:UInt64 × Nat × List UInt64=>a.length - s.2.1) (fun s=>s.2.1 <= a.length/\s.2.2.length = a.length + 1/\s.1.toNat <= 1/\val (s.2.2.take s.2.1) + 18446744073709551616 ^ s.2.1 * s.1.toNat = val (a.take s.2.1) + val (b.take s.2.1))
  (fun r:List UInt64 × UInt64=>r.1.length = a.length + 1/\val (r.1.take a.length) + 18446744073709551616 ^ a.length * r.2.toNat = val a + val b) ?_ n (0,0,List.replicate (a.length + 1) 0) ⟨by simp,by simp,by simp,by simp [val]⟩ (by simpa using hn)
 ·obtain ⟨⟨xs,u⟩,h1,h2,h3⟩:=h; exact ⟨xs,u,h1,h2,h3⟩
 ·rintro ⟨u,i,xs⟩ J ⟨h1,h2,h3,h4⟩ hJ
  simp only at h1 h2 h3 h4 hJ
  unfold bL_l1
  simp only
  by_cases hi:i < a.length
  ·rw [if_pos hi,geE hi,ab]
   have key:∀ y:UInt64,y = b[i]?.getD 0 -> ∃ r,((add64 a[i] y u).bind fun z198=>(xs[i]?).bind fun x199=>(put xs ((i:Nat):Int) z198.1).bind fun xs212=>J (z198.2,i + 1,xs212)) = some r/\r.1.length = a.length + 1/\val (r.1.take a.length) + 18446744073709551616 ^ a.length * r.2.toNat = val a + val b:=by
    intro y hy
    obtain ⟨s,d,e1,e2,e3⟩:=gb a[i] y u h3
    rw [e1,ab,geE (by omega),ab,bs _ (by omega),ab]
    refine hJ (d,i + 1,xs.set i s) ⟨by show i + 1 <= _; omega,by simpa using h2,e3,?_⟩ (by simp only; omega)
    simp only
    rw [dw s (by omega),bE a hi,gC b i,<- hy,Nat.pow_succ]
    grind
   unfold jn
   simp only
   by_cases hj:i < b.length
   ·rw [if_pos hj,geE hj,ab]; exact key _ (by rw [geE hj]; rfl)
   ·rw [if_neg hj]; exact key _ (by rw [List.getElem?_eq_none (by omega)]; rfl)
  ·rw [if_neg hi]
   have:i = a.length:=by omega
   subst this
   refine ⟨_,rfl,h2,?_⟩
   simp only
   rw [h4,List.take_length,bS hb]
theorem nh (n:Nat) (a b:List UInt64) (hn:a.length < n/\b.length < n) (hl:a.length < 4294967296/\b.length < 4294967296):∃ xs,bL_p n a b = some xs/\xs.length <= max a.length b.length + 1/\val xs = val a + val b:=by
 have key:∀ a b:List UInt64,b.length <= a.length -> a.length < n -> a.length < 4294967296 -> ∃ xs,((mk ((a.length + 1:Nat):Int) (0:UInt64)).bind fun xs17=>Option.bind (ao (bL_l1 n a b) n ((0:UInt64),0,xs17)) (fun (xs157,u155)=>(xs157[a.length]?).bind fun x229=>(put xs157 ((a.length:Nat):Int) u155).bind fun xs241=>some xs241)) = some xs/\xs.length = a.length + 1/\val xs = val a + val b:=by
  intro a b hb h1 h2
  obtain ⟨xs,u,e1,e2,e3⟩:=jQ n a b hb h1
  rw [da _ _ (by omega),ab,e1,ab]
  simp only
  rw [geE (by omega),ab,bs _ (by omega),ab]
  refine ⟨_,rfl,by simpa using e2,?_⟩
  rw [<- e3]
  conv=>lhs; rw [<- bS (l:=xs.set a.length u) (i:=a.length + 1) (by simp [e2])]
  exact dw u (by omega)
 unfold bL_p jn
 simp only
 by_cases h:a.length < b.length
 ·rw [if_pos h]
  obtain ⟨xs,e1,e2,e3⟩:=key b a (by omega) hn.2 hl.2
  exact ⟨xs,e1,by omega,by omega⟩
 ·rw [if_neg h]
  obtain ⟨xs,e1,e2,e3⟩:=key a b (by omega) hn.1 hl.1
  exact ⟨xs,e1,by omega,e3⟩
theorem iR (n:Nat) (a b:List UInt64) (hb:b.length <= a.length) (hv:val b <= val a) (hn:a.length < n) (hl:a.length < 4294967296):∃ xs,bA_p n a b = some xs/\xs.length = a.length/\val xs = val a - val b:=by
 have h:=av (B:=bA_l1 n a b) (fun s:UInt64 × Nat × List UInt64=>a.length - s.2.1) (fun s=>s.2.1 <= a.length/\s.2.2.length = a.length/\s.1.toNat <= 1/\val (s.2.2.take s.2.1) + val (b.take s.2.1) = val (a.take s.2.1) + 18446744073709551616 ^ s.2.1 * s.1.toNat)
  (fun r:List UInt64=>r.length = a.length/\val r = val a - val b) ?_ n (0,0,List.replicate a.length 0) ⟨by simp,by simp,by simp,by simp [val]⟩ (by simpa using hn)
 ·obtain ⟨xs,h1,h2,h3⟩:=h
  refine ⟨xs,?_,h2,h3⟩
  unfold bA_p
  rw [da _ _ (by omega),ab,h1,ab]
 ·rintro ⟨u,i,xs⟩ J ⟨h1,h2,h3,h4⟩ hJ
  simp only at h1 h2 h3 h4 hJ
  unfold bA_l1
  simp only
  by_cases hi:i < a.length
  ·rw [if_pos hi,geE hi,ab]
   have key:∀ y:UInt64,y = b[i]?.getD 0 -> ∃ r,((sub64 a[i] y u).bind fun z184=>(xs[i]?).bind fun x185=>(put xs ((i:Nat):Int) z184.1).bind fun xs198=>J (z184.2,i + 1,xs198)) = some r/\r.length = a.length/\val r = val a - val b:=by
    intro y hy
    obtain ⟨s,d,e1,e2,e3⟩:=br a[i] y u h3
    rw [e1,ab,geE (by omega),ab,bs _ (by omega),ab]
    refine hJ (d,i + 1,xs.set i s) ⟨by show i + 1 <= _; omega,by simpa using h2,e3,?_⟩ (by simp only; omega)
    simp only
    rw [dw s (by omega),bE a hi,gC b i,<- hy,Nat.pow_succ]
    grind
   unfold jn
   simp only
   by_cases hj:i < b.length
   ·rw [if_pos hj,geE hj,ab]; exact key _ (by rw [geE hj]; rfl)
   ·rw [if_neg hj]; exact key _ (by rw [List.getElem?_eq_none (by omega)]; rfl)
  ·rw [if_neg hi]
   have:i = a.length:=by omega
   subst this
   rw [List.take_length,bS hb,bS (by omega)] at h4
   refine ⟨xs,rfl,h2,?_⟩
   have h5:=cg xs
   rw [h2] at h5
   by_cases hu:u.toNat = 0
   ·rw [hu] at h4; omega
   ·have:u.toNat = 1:=by omega
    rw [this] at h4; omega
end Go.Proofs.YtkhpmhhnolpcnaaGreatDoor
namespace Go.Proofs.YtkhpmhhnolpcnaaGreatDoor
open Go
theorem cP (a:List UInt64) {i:Nat} (h:i < a.length):val a = val (a.take i) + 18446744073709551616 ^ i * a[i].toNat + 18446744073709551616 ^ (i + 1) * val (a.drop (i + 1)):=by
 conv=>lhs; rw [<- List.take_append_drop (i + 1) a,dy]
 rw [bE a h,List.length_take,Nat.min_eq_left (by omega)]
theorem mM {a b:List UInt64} (hb:Nm b) (h:a.length < b.length):val a < val b:=by
 have h1:=cg a
 have h2:=ii hb (by intro e; rw [e] at h; simp at h)
 have h3:18446744073709551616 ^ a.length <= 18446744073709551616 ^ (b.length - 1):=Nat.pow_le_pow_right (by omega) (by omega)
 omega
theorem eM {a b:List UInt64} {i:Nat} (ha:i < a.length) (hb:i < b.length) (hd:a.drop (i + 1) = b.drop (i + 1)) (h:a[i] < b[i]):val a < val b:=by
 rw [cP a ha,cP b hb,hd]
 have h1:=cg (a.take i)
 rw [List.length_take,Nat.min_eq_left (by omega)] at h1
 have h2:18446744073709551616 ^ i * (a[i].toNat + 1) <= 18446744073709551616 ^ i * b[i].toNat:=Nat.mul_le_mul_left _ (UInt64.lt_iff_toNat_lt.1 h)
 rw [Nat.mul_add] at h2
 omega
theorem eB (n:Nat) (a b:List UInt64) (ha:Nm a) (hb:Nm b) (hn:a.length < n) (hl:a.length < 4294967296):∃ c,bh_p n a b = some c/\(c < 0 ↔ val a < val b)/\(c = 0 ↔ val a = val b):=by
 unfold bh_p
 by_cases h:a.length = b.length
 ·rw [if_pos h]
  have hh:=av (B:=bh_l1 n a b) (fun z:Int=>(z + 1).toNat) (fun z=>-1 <= z/\z < a.length/\a.drop (z + 1).toNat = b.drop (z + 1).toNat)
   (fun r=>(r = .inl (-1)/\val a < val b) ∨ (r = .inl 1/\val b < val a) ∨ (r = .inr ()/\a = b)) ?_ n ((a.length:Int) - 1) ⟨by omega,by omega,?_⟩ (by omega)
  ·obtain ⟨r,hr,h1 | h1 | h1⟩:=hh
   ·rw [hr,h1.1]; exact ⟨_,rfl,by have:=h1.2; omega,by have:=h1.2; omega⟩
   ·rw [hr,h1.1]; exact ⟨_,rfl,by have:=h1.2; omega,by have:=h1.2; omega⟩
   ·rw [hr,h1.1,h1.2]; exact ⟨_,rfl,by omega,by omega⟩
  ·intro z J ⟨h1,h2,h3⟩ hJ
   unfold bh_l1
   simp only
   by_cases h0:0 <= z
   ·have e1:(z + 1).toNat = z.toNat + 1:=by omega
    rw [e1] at h3
    rw [if_pos h0,bf h0 (by omega),ab,bf h0 (by omega),ab]
    split
    ·rename_i hlt; exact ⟨_,rfl,.inl ⟨rfl,eM (by omega) (by omega) h3 hlt⟩⟩
    ·rename_i h4
     split
     ·rename_i hlt; exact ⟨_,rfl,.inr (.inl ⟨rfl,eM (by omega) (by omega) h3.symm hlt⟩)⟩
     ·rename_i h5
      have he:a[z.toNat]'(by omega) = b[z.toNat]'(by omega):=UInt64.toNat_inj.1 (by rw [UInt64.lt_iff_toNat_lt] at h4 h5; omega)
      rw [aN (by omega) (by omega),ab]
      refine hJ (z - 1) ⟨by omega,by omega,?_⟩ (by omega)
      rw [show (z - 1 + 1).toNat = z.toNat by omega,List.drop_eq_getElem_cons (by omega),List.drop_eq_getElem_cons (l:=b) (by omega),h3,he]
   ·rw [if_neg h0]
    have e1:(z + 1).toNat = 0:=by omega
    rw [e1] at h3
    exact ⟨_,rfl,.inr (.inr ⟨rfl,by simpa using h3⟩)⟩
  ·rw [show ((a.length:Int) - 1 + 1).toNat = a.length by omega,List.drop_length,h,List.drop_length]
 ·rw [if_neg h]
  refine ⟨_,rfl,?_⟩
  by_cases h1:a.length < b.length
  ·have:=mM hb h1; omega
  ·have:=mM (a:=b) ha (by omega); omega
theorem jx (a:UInt64):(shrU a 32).toNat = a.toNat / 4294967296:=by
 unfold shrU; rw [if_pos (by decide),UInt64.toNat_ofNat']
 have:=a.toNat_lt
 omega
theorem lG (a:UInt64):(a &&& (4294967295:UInt64)).toNat = a.toNat % 4294967296:=by
 rw [UInt64.toNat_and]; exact Nat.and_two_pow_sub_one_eq_mod a.toNat 32
theorem kO (x1 x0 y1 y0:Nat) (h1:x1 < 4294967296) (h2:x0 < 4294967296) (h3:y1 < 4294967296) (h4:y0 < 4294967296) :
  ((x1 * y0 + x0 * y0 / 4294967296) < 18446744073709551616)/\((x1 * y0 + x0 * y0 / 4294967296) % 4294967296 + x0 * y1 < 18446744073709551616)/\
  x1 * y1 + (x1 * y0 + x0 * y0 / 4294967296) / 4294967296 + ((x1 * y0 + x0 * y0 / 4294967296) % 4294967296 + x0 * y1) / 4294967296 < 18446744073709551616/\
  (((x1 * 4294967296 + x0) * (y1 * 4294967296 + y0)) % 18446744073709551616) + 18446744073709551616 * (x1 * y1 + (x1 * y0 + x0 * y0 / 4294967296) / 4294967296 + ((x1 * y0 + x0 * y0 / 4294967296) % 4294967296 + x0 * y1) / 4294967296) = (x1 * 4294967296 + x0) * (y1 * 4294967296 + y0):=by
 have e:(x1 * 4294967296 + x0) * (y1 * 4294967296 + y0) = 18446744073709551616 * (x1 * y1) + 4294967296 * (x1 * y0 + x0 * y1) + x0 * y0:=by grind
 have b1:x1 * y1 <= 4294967295 * 4294967295:=Nat.mul_le_mul (by omega) (by omega)
 have b2:x1 * y0 <= 4294967295 * 4294967295:=Nat.mul_le_mul (by omega) (by omega)
 have b3:x0 * y1 <= 4294967295 * 4294967295:=Nat.mul_le_mul (by omega) (by omega)
 have b4:x0 * y0 <= 4294967295 * 4294967295:=Nat.mul_le_mul (by omega) (by omega)
 rw [e]
 generalize x1 * y1 = s at *
 generalize x1 * y0 = q at *
 generalize x0 * y1 = r at *
 generalize x0 * y0 = p at *
 clear e h1 h2 h3 h4
 refine ⟨by omega,by omega,by omega,by omega⟩
theorem mO (n:Nat) (x y:UInt64):∃ hi lo,cb_p n x y = some (hi,lo)/\lo.toNat + 18446744073709551616 * hi.toNat = x.toNat * y.toNat:=by
 refine ⟨_,_,rfl,?_⟩
 have hx:=x.toNat_lt
 have hy:=y.toNat_lt
 have ex:x.toNat = x.toNat / 4294967296 * 4294967296 + x.toNat % 4294967296:=by omega
 have ey:y.toNat = y.toNat / 4294967296 * 4294967296 + y.toNat % 4294967296:=by omega
 obtain ⟨h1,h2,h3,h4⟩:=kO (x.toNat / 4294967296) (x.toNat % 4294967296) (y.toNat / 4294967296) (y.toNat % 4294967296) (by omega) (by omega) (by omega) (by omega)
 rw [<- ex,<- ey] at h4
 have b1:x.toNat / 4294967296 * (y.toNat / 4294967296) < 18446744073709551616:=by omega
 have b2:x.toNat / 4294967296 * (y.toNat % 4294967296) < 18446744073709551616:=by omega
 have b3:x.toNat % 4294967296 * (y.toNat / 4294967296) < 18446744073709551616:=by omega
 have b4:x.toNat % 4294967296 * (y.toNat % 4294967296) < 18446744073709551616:=by
  have:x.toNat % 4294967296 * (y.toNat % 4294967296) <= 4294967295 * 4294967295:=Nat.mul_le_mul (by omega) (by omega)
  omega
 simp only [UInt64.toNat_add,UInt64.toNat_mul,jx,lG,show (2:Nat) ^ 64 = 18446744073709551616 from rfl]
 rw [Nat.mod_eq_of_lt b1,Nat.mod_eq_of_lt b2,Nat.mod_eq_of_lt b3,Nat.mod_eq_of_lt b4,Nat.mod_eq_of_lt h1,Nat.mod_eq_of_lt h2]
 rw [Nat.mod_eq_of_lt (a:=x.toNat / 4294967296 * (y.toNat / 4294967296) + _) (by omega),Nat.mod_eq_of_lt h3]
 exact h4
theorem mult_in (n:Nat) (b:List UInt64) (x:UInt64) (i:Nat) (xs0:List UInt64) (hi:i + b.length < xs0.length) (hn:b.length < n) :
  ∃ xs u,ao (aF_l1 n b x i) n (0,0,xs0) = some (xs,u)/\xs.length = xs0.length/\val (xs.take (i + b.length)) + 18446744073709551616 ^ (i + b.length) * u.toNat = val (xs0.take (i + b.length)) + x.toNat * val b * 18446744073709551616 ^ i:=by
 have h:=av (B:=aF_l1 n b x i) (fun s:UInt64 × Nat × List UInt64=>b.length - s.2.1) (fun s=>s.2.1 <= b.length/\s.2.2.length = xs0.length/\(∀ k,i + s.2.1 <= k -> s.2.2[k]? = xs0[k]?)/\val (s.2.2.take (i + s.2.1)) + 18446744073709551616 ^ (i + s.2.1) * s.1.toNat = val (xs0.take (i + s.2.1)) + x.toNat * val (b.take s.2.1) * 18446744073709551616 ^ i)
  (fun r:List UInt64 × UInt64=>r.1.length = xs0.length/\val (r.1.take (i + b.length)) + 18446744073709551616 ^ (i + b.length) * r.2.toNat = val (xs0.take (i + b.length)) + x.toNat * val b * 18446744073709551616 ^ i) ?_ n (0,0,xs0) ⟨by simp,rfl,fun _ _=>rfl,by simp [val]⟩ (by simpa using hn)
 ·obtain ⟨⟨xs,u⟩,h1,h2,h3⟩:=h; exact ⟨xs,u,h1,h2,h3⟩
 ·rintro ⟨u,j,xs⟩ J ⟨h1,h2,h3,h4⟩ hJ
  simp only at h1 h2 h3 h4 hJ
  unfold aF_l1
  simp only
  by_cases hj:j < b.length
  ·obtain ⟨hi', lo,e1,e2⟩:=mO n x b[j]
   have hx0:xs[i + j]'(by omega) = xs0[i + j]'(by omega):=by
    have:=h3 (i + j) (by omega)
    rw [geE (by omega),geE (by omega)] at this
    exact Option.some.inj this
   rw [if_pos hj,geE hj,ab,e1,ab,geE (by omega),ab]
   obtain ⟨s,c,f1,f2,f3⟩:=gb (xs[i + j]'(by omega)) lo 0 (by simp)
   obtain ⟨s', c', g1,g2,g3⟩:=gb s u 0 (by simp)
   simp only [f1,ab,g1]
   rw [bs _ (by omega),ab]
   simp only [UInt64.toNat_zero,Nat.add_zero] at f2 g2
   have bx:x.toNat * b[j].toNat <= 18446744073709551615 * 18446744073709551615:=Nat.mul_le_mul (by have:=x.toNat_lt; omega) (by have:=b[j].toNat_lt; omega)
   have bo:=(xs[i + j]'(by omega)).toNat_lt
   have bu:=u.toNat_lt
   have e3:(hi' + c + c').toNat = hi'.toNat + c.toNat + c'.toNat:=by
    rw [UInt64.toNat_add,UInt64.toNat_add]; omega
   have e4:s'.toNat + 18446744073709551616 * (hi' + c + c').toNat = (xs[i + j]'(by omega)).toNat + x.toNat * b[j].toNat + u.toNat:=by rw [e3]; omega
   refine hJ (hi' + c + c', j + 1,xs.set (i + j) s') ⟨hj,by simpa using h2,fun k hk=>?_,?_⟩ (by simp only; omega)
   ·simp only at hk ⊢
    rw [List.getElem?_set_ne (by omega)]; exact h3 k (by omega)
   ·simp only
    rw [<- Nat.add_assoc,dw s' (by omega),bE xs0 (by omega),bE b hj,<- hx0,Nat.pow_succ]
    rw [Nat.pow_add] at h4 ⊢
    grind
  ·rw [if_neg hj]
   have:j = b.length:=by omega
   subst this
   refine ⟨_,rfl,h2,?_⟩
   simp only
   rw [h4,List.take_length]
theorem gu (n:Nat) (a b:List UInt64) (hn:a.length < n/\b.length < n) (hl:a.length + b.length <= 4294967296):∃ xs,aF_p n a b = some xs/\xs.length = a.length + b.length/\val xs = val a * val b:=by
 have h:=av (B:=aF_l2 n a b) (fun s:Nat × List UInt64=>a.length - s.1) (fun s=>s.1 <= a.length/\s.2.length = a.length + b.length/\val (s.2.take (s.1 + b.length)) = val (a.take s.1) * val b)
  (fun r:List UInt64=>r.length = a.length + b.length/\val r = val a * val b) ?_ n (0,List.replicate (a.length + b.length) 0) ⟨by simp,by simp,?_⟩ (by simpa using hn.1)
 ·obtain ⟨xs,h1,h2,h3⟩:=h
  refine ⟨xs,?_,h2,h3⟩
  unfold aF_p
  rw [da _ _ hl,ab,h1,ab]
 ·rintro ⟨i,xs⟩ J ⟨h1,h2,h3⟩ hJ
  simp only at h1 h2 h3 hJ
  unfold aF_l2
  simp only
  by_cases hi:i < a.length
  ·obtain ⟨ys,u,e1,e2,e3⟩:=mult_in n b a[i] i xs (by omega) hn.2
   rw [if_pos hi,geE hi,ab,e1,ab]
   simp only
   rw [geE (by omega),ab,bs _ (by omega),ab]
   refine hJ (i + 1,ys.set (i + b.length) u) ⟨hi,by simp; omega,?_⟩ (by simp only; omega)
   simp only
   rw [show i + 1 + b.length = i + b.length + 1 by omega,dw u (by omega),bE a hi,e3,h3]
   grind
  ·rw [if_neg hi]
   have:i = a.length:=by omega
   subst this
   rw [List.take_length,bS (by omega)] at h3
   exact ⟨xs,rfl,h2,h3⟩
 ·simp only [List.take_zero,val,Nat.zero_mul]
  exact bW _ fun x hx=>(List.mem_replicate.1 (List.mem_of_mem_take hx)).2
def L (z:Int):Te:=⟨decide (z < 0),dg z.natAbs⟩
def Fit (l:Nat) (z:Int):Prop:=z.natAbs < 18446744073709551616 ^ l
theorem Fit.len {l:Nat} {z:Int} (h:Fit l z):(dg z.natAbs).length <= l:=gd h
def sg (s:Bool) (m:Nat):Int:=if s = true then -(m:Int) else m
theorem kV (s:Bool) (m:Nat):(⟨s && decide (0 < m),dg m⟩:Te) = L (sg s m):=by
 unfold L sg
 cases s
 ·simp
 ·simp
theorem sg_of (z:Int):z = sg (decide (z < 0)) z.natAbs:=by
 unfold sg; split <;> rename_i h <;> simp at h <;> omega
theorem im (s:Bool) (m:Nat):(sg s m).natAbs = m:=by unfold sg; split <;> omega
theorem bJ (n l:Nat) (z:Int) (h:Fit l z) (hn:l < n) (hl:l < 1000000):aV_p n (L z) = some (L (-z)):=by
 unfold aV_p
 have h1:=h.len
 rw [aC n _ _ (by show (dg z.natAbs).length < n; omega) (by show (dg z.natAbs).length <= _; omega),ab]
 show some (⟨!decide (z < 0) && decide (0 < val (dg z.natAbs)),dg (val (dg z.natAbs))⟩:Te) = _
 rw [aA,kV]
 refine congrArg (fun x=>some (L x)) ?_
 unfold sg
 by_cases hz:z < 0 <;> simp [hz] <;> omega
theorem bt (n l m:Nat) (a b:Int) (ha:Fit l a) (hb:Fit m b) (hn:l + m < n) (hl:l + m < 1000000):aq_p n (L a) (L b) = some (L (a * b)):=by
 unfold aq_p
 have h1:=ha.len
 have h2:=hb.len
 obtain ⟨xs,e1,e2,e3⟩:=gu n (L a).fo (L b).fo ⟨by show (dg a.natAbs).length < n; omega,by show (dg b.natAbs).length < n; omega⟩ (by show (dg a.natAbs).length + (dg b.natAbs).length <= _; omega)
 have e4:xs.length = (dg a.natAbs).length + (dg b.natAbs).length:=e2
 rw [e1,ab,aC n _ _ (by omega) (by omega),ab,e3]
 show some (⟨!(decide (a < 0) == decide (b < 0)) && decide (0 < val (dg a.natAbs) * val (dg b.natAbs)),dg (val (dg a.natAbs) * val (dg b.natAbs))⟩:Te) = _
 rw [aA,aA,kV]
 refine congrArg (fun x=>some (L x)) ?_
 conv=>rhs; rw [sg_of a,sg_of b]
 unfold sg
 by_cases h3:a < 0 <;> by_cases h4:b < 0 <;> simp [h3,h4,Int.neg_mul,Int.mul_neg,Int.neg_mul_neg]
theorem eI {a b:Nat} (h:a <= b):(dg a).length <= (dg b).length:=gd (Nat.lt_of_le_of_lt h (by have:=cg (dg b); rwa [aA] at this))
theorem kF (n l a b:Nat) (s:Bool) (h:a <= b) (hl:(dg b).length <= l) (hn:l < n) (hl2:l < 1000000):((bA_p n (dg b) (dg a)).bind fun y67=>(ao_p n s y67).bind fun y75=>some y75) = some (L (sg s (b - a))):=by
 obtain ⟨xs,e1,e2,e3⟩:=iR n (dg b) (dg a) (eI h) (by rw [aA,aA]; exact h) (by omega) (by omega)
 rw [e1,ab,aC n _ _ (by omega) (by omega),ab,e3,aA,aA,kV]
theorem cS (n l:Nat) (a b:Int) (ha:Fit l a) (hb:Fit l b) (hn:l + 1 < n) (hl:l < 1000000):bg_p n (L a) (L b) = some (L (a + b)):=by
 unfold bg_p
 have h1:=ha.len
 have h2:=hb.len
 by_cases h:((L a).fe == (L b).fe) = true
 ·rw [if_pos h]
  obtain ⟨xs,e1,e2,e3⟩:=nh n (L a).fo (L b).fo ⟨by show (dg a.natAbs).length < n; omega,by show (dg b.natAbs).length < n; omega⟩ ⟨by show (dg a.natAbs).length < _; omega,by show (dg b.natAbs).length < _; omega⟩
  have e4:xs.length <= max (dg a.natAbs).length (dg b.natAbs).length + 1:=e2
  rw [e1,ab,aC n _ _ (by omega) (by omega),ab,e3]
  show some (⟨decide (a < 0) && decide (0 < val (dg a.natAbs) + val (dg b.natAbs)),dg (val (dg a.natAbs) + val (dg b.natAbs))⟩:Te) = _
  rw [aA,aA,kV]
  refine congrArg (fun x=>some (L x)) ?_
  have h3:decide (a < 0) = decide (b < 0):=eq_of_beq h
  unfold sg
  by_cases h4:a < 0 <;> by_cases h5:b < 0 <;> simp [h4,h5] at h3 ⊢ <;> omega
 ·rw [if_neg h]
  obtain ⟨c,e1,e2,e3⟩:=eB n (L a).fo (L b).fo (fO _) (fO _) (by show (dg a.natAbs).length < n; omega) (by show (dg a.natAbs).length < _; omega)
  have h3:decide (a < 0) ≠ decide (b < 0):=fun e=>h (by rw [beq_iff_eq]; exact e)
  rw [e1,ab]
  unfold jn
  simp only
  have e4:c < 0 ↔ a.natAbs < b.natAbs:=by rw [e2]; show val (dg a.natAbs) < val (dg b.natAbs) ↔ _; rw [aA,aA]
  by_cases hc:c < 0
  ·rw [if_pos hc]
   show ((bA_p n (dg b.natAbs) (dg a.natAbs)).bind fun y67=>(ao_p n (decide (b < 0)) y67).bind fun y75=>some y75) = _
   rw [kF n l _ _ _ (by omega) h2 (by omega) hl]
   refine congrArg (fun x=>some (L x)) ?_
   unfold sg
   by_cases h4:a < 0 <;> by_cases h5:b < 0 <;> simp [h4,h5] at h3 ⊢ <;> omega
  ·rw [if_neg hc]
   show ((bA_p n (dg a.natAbs) (dg b.natAbs)).bind fun y67=>(ao_p n (decide (a < 0)) y67).bind fun y75=>some y75) = _
   rw [kF n l _ _ _ (by omega) h1 (by omega) hl]
   refine congrArg (fun x=>some (L x)) ?_
   unfold sg
   by_cases h4:a < 0 <;> by_cases h5:b < 0 <;> simp [h4,h5] at h3 ⊢ <;> omega
theorem Fit.neg {l:Nat} {z:Int} (h:Fit l z):Fit l (-z):=by unfold Fit at *; rwa [Int.natAbs_neg]
theorem eZ (n l:Nat) (a b:Int) (ha:Fit l a) (hb:Fit l b) (hn:l + 1 < n) (hl:l < 1000000):bZ_p n (L a) (L b) = some (L (a - b)):=by
 unfold bZ_p
 rw [bJ n l b hb (by omega) hl,ab,cS n l a (-b) ha hb.neg hn hl,ab,Int.sub_eq_add_neg]
theorem eJ (n:Nat) (a:Int):bK_p n (L a) = some a.sign:=by
 unfold bK_p
 by_cases h:a < 0
 ·rw [if_pos (by simpa [L] using h),Int.sign_eq_neg_one_of_neg h]
 ·rw [if_neg (by simpa [L] using h)]
  by_cases h0:a = 0
  ·subst h0; rw [if_pos (by simp [L,dg0])]; rfl
  ·rw [if_neg,Int.sign_eq_one_of_pos (by omega)]
   show ¬ (dg a.natAbs).length = 0
   rw [gE (by omega)]; simp
end Go.Proofs.YtkhpmhhnolpcnaaGreatDoor
namespace Go.Proofs.YtkhpmhhnolpcnaaGreatDoor
open Go
theorem dg1 {m:Nat} (h0:m ≠ 0) (h:m < 18446744073709551616):dg m = [UInt64.ofNat m]:=by
 rw [gE h0,show m / 18446744073709551616 = 0 by omega,dg0]
theorem jd {m:Nat} (h0:m ≠ 0) (h:m < 18446744073709551616):UInt64.ofNat m ≠ 0:=fun e=>by
 have:=congrArg UInt64.toNat e
 rw [UInt64.toNat_ofNat'] at this
 simp at this; omega
theorem bO {m:Nat} (h:m < 18446744073709551616):(UInt64.ofNat m).toNat = m:=by rw [UInt64.toNat_ofNat']; exact Nat.mod_eq_of_lt h
theorem mL (n:Nat) (x y:UInt64) (h:y ≠ 0):ax_p n 0 x y = some (x / y,x % y):=by
 unfold ax_p
 have h1:¬ y <= 0:=fun h1=>h (UInt64.toNat_inj.1 (by rw [UInt64.le_iff_toNat_le] at h1; simpa using h1))
 rw [if_neg h,if_neg h1,if_pos rfl]
 unfold io kY
 rw [if_neg h,ab,if_neg h,ab]
theorem gj (n a b:Nat) (ha:a < 18446744073709551616) (hb:b < 18446744073709551616) (h0:b ≠ 0) (hn:4 < n):∃ q,az_p n (dg a) (dg b) = some (q,dg (a % b))/\q.length <= 1/\val q = a / b:=by
 obtain ⟨k,rfl⟩:∃ k,n = k + 3:=⟨n - 3,by omega⟩
 rw [dg1 h0 hb]
 unfold az_p
 by_cases h:a = 0
 ·subst h
  refine ⟨[],?_,by simp,by simp [val]⟩
  rw [dg0,Nat.zero_mod,dg0]
  rw [da _ _ (by simp),ab,if_pos (show [UInt64.ofNat b].length = 1 from rfl),bB]
  unfold az_l1
  simp only
  rw [if_neg (by decide),ab]
  simp only
  rw [aC _ _ _ (by simp) (by simp),ab]
  simp [val,dg0]
 ·have hm:a % b < 18446744073709551616:=Nat.lt_of_le_of_lt (Nat.mod_le _ _) ha
  have e2:(UInt64.ofNat a % UInt64.ofNat b).toNat = a % b:=by rw [UInt64.toNat_mod,bO ha,bO hb]
  refine ⟨[UInt64.ofNat a / UInt64.ofNat b],?_,by simp,?_⟩
  ·rw [dg1 h ha,da _ _ (by simp),ab,if_pos (show [UInt64.ofNat b].length = 1 from rfl),bB]
   unfold az_l1
   simp only
   rw [if_pos (show (0:Int) <= ((([UInt64.ofNat a]:List UInt64).length:Nat):Int) - 1 by simp),bf (by simp) (by simp),ab]
   simp only [leC,leN,List.getElem?_cons_zero,ab]
   show ((ax_p (k + 3) 0 (UInt64.ofNat a) (UInt64.ofNat b)).bind _).bind _ = _
   rw [mL _ _ _ (jd h0 hb),ab]
   show (((some (0:UInt64)).bind _)).bind _ = _
   rw [ab]
   show ((put [(0:UInt64)] ((0:Nat):Int) _).bind _).bind _ = _
   rw [bs _ (by decide),ab]
   show (((some (-1:Int)).bind _)).bind _ = _
   rw [ab,bB]
   simp only
   rw [if_neg (by decide),ab]
   simp only
   rw [aC _ _ _ (by simp) (by simp),ab]
   simp [val,e2]
  ·simp only [val]
   rw [UInt64.toNat_div,bO ha,bO hb]; simp
theorem cY {a b q r:Int} (h:a = b * q + r) (h0:0 <= r) (h1:r < b.natAbs):a / b = q/\a % b = r:=by
 by_cases hb:0 < b
 ·exact (Int.ediv_emod_unique hb).2 ⟨by rw [h]; omega,h0,by omega⟩
 ·have hb2:0 < -b:=by omega
  have h3:a = (-b) * (-q) + r:=by rw [h,Int.neg_mul_neg]
  obtain ⟨e1,e2⟩:=(Int.ediv_emod_unique (a:=a) (r:=r) (q:=-q) hb2).2 ⟨by rw [h3]; omega,h0,by omega⟩
  rw [Int.ediv_neg] at e1
  rw [Int.emod_neg] at e2
  exact ⟨by omega,e2⟩
def W1 (z:Int):Prop:=z.natAbs < 18446744073709551616
theorem jk (n:Nat) (a b:Int) (ha:W1 a) (hb:W1 b) (h0:b ≠ 0) (hn:10 < n):bs_p n (L a) (L b) = some (L (a / b),L (a % b)):=by
 obtain ⟨q,e1,e2,e3⟩:=gj n a.natAbs b.natAbs ha hb (by omega) (by omega)
 have hm:a.natAbs % b.natAbs < b.natAbs:=Nat.mod_lt _ (by omega)
 have hl:(dg (a.natAbs % b.natAbs)).length <= 1:=gd (by rw [Nat.pow_one]; unfold W1 at hb; omega)
 have hdm:=Nat.div_add_mod a.natAbs b.natAbs
 have hq:a.natAbs / b.natAbs <= a.natAbs:=Nat.div_le_self _ _
 unfold bs_p
 rw [show (L a).fo = dg a.natAbs from rfl,show (L b).fo = dg b.natAbs from rfl,e1,ab]
 simp only
 rw [aC n _ _ (by omega) (by omega),ab,aC n _ _ (by omega) (by omega),ab,e3,aA]
 generalize hx:a.natAbs / b.natAbs = x at *
 generalize hy:a.natAbs % b.natAbs = y at *
 simp only [kV]
 show (if (decide (a < 0) && decide (0 < y)) = true then _ else _) = _
 unfold W1 at ha hb
 have hab:(b.natAbs:Int) * x + y = a.natAbs:=by exact_mod_cast hdm
 by_cases hr:a < 0/\0 < y
 ·obtain ⟨h1,h2⟩:=hr
  rw [if_pos (by simp [h1,h2])]
  have f1:(⟨false,dg b.natAbs⟩:Te) = L b.natAbs:=by unfold L; simp
  have f2:(⟨!(L b).fe,([(1:UInt64)]:List UInt64)⟩:Te) = L (if b < 0 then 1 else -1):=by
   unfold L
   by_cases hb0:b < 0 <;> simp [hb0] <;> rw [dg1 (by decide) (by decide)] <;> rfl
  rw [f1,f2,cS n 1 _ _ ?_ ?_ (by omega) (by omega),ab,cS n 1 _ _ ?_ ?_ (by omega) (by omega),ab]
  ·have e:sg (!(decide (a < 0) == decide (b < 0))) x + (if b < 0 then 1 else -1) = a / b/\sg (decide (a < 0)) y + b.natAbs = a % b:=by
    have:=cY (a:=a) (b:=b) (q:=sg (!(decide (a < 0) == decide (b < 0))) x + (if b < 0 then 1 else -1)) (r:=sg (decide (a < 0)) y + b.natAbs) ?_ ?_ ?_
    ·exact ⟨this.1.symm,this.2.symm⟩
    ·unfold sg
     by_cases hb0:b < 0
     ·have:(b.natAbs:Int) = -b:=by omega
      rw [this] at hab ⊢
      have h3:(a.natAbs:Int) = -a:=by omega
      simp [h1,hb0]
      rw [Int.mul_add]; grind
     ·have:(b.natAbs:Int) = b:=by omega
      rw [this] at hab ⊢
      have h3:(a.natAbs:Int) = -a:=by omega
      simp [h1,hb0]
      rw [Int.mul_add]; grind
    ·unfold sg; simp [h1]; omega
    ·unfold sg; simp [h1]; omega
   show some (L (sg (!(decide (a < 0) == decide (b < 0))) x + (if b < 0 then 1 else -1)),L (sg (decide (a < 0)) y + b.natAbs)) = _
   rw [e.1,e.2]
  ·unfold Fit; rw [Nat.pow_one,im]; omega
  ·unfold Fit; rw [Nat.pow_one]; split <;> decide
  ·unfold Fit; rw [Nat.pow_one,im]; omega
  ·unfold Fit; rw [Nat.pow_one]; omega
 ·rw [if_neg (by simpa using hr)]
  have e:=cY (a:=a) (b:=b) (q:=sg (!(decide (a < 0) == decide (b < 0))) x) (r:=sg (decide (a < 0)) y) ?_ ?_ ?_
  ·rw [e.1,e.2]; rfl
  ·unfold sg
   by_cases h1:a < 0
   ·have hy0:y = 0:=by omega
    have h3:(a.natAbs:Int) = -a:=by omega
    by_cases hb0:b < 0
    ·have:(b.natAbs:Int) = -b:=by omega
     rw [this] at hab; simp [h1,hb0,hy0] at hab ⊢; grind
    ·have:(b.natAbs:Int) = b:=by omega
     rw [this] at hab; simp [h1,hb0,hy0] at hab ⊢; grind
   ·have h3:(a.natAbs:Int) = a:=by omega
    by_cases hb0:b < 0
    ·have:(b.natAbs:Int) = -b:=by omega
     rw [this] at hab; simp [h1,hb0] at hab ⊢; grind
    ·have:(b.natAbs:Int) = b:=by omega
     rw [this] at hab; simp [h1,hb0] at hab ⊢; grind
  ·unfold sg
   by_cases h1:a < 0
   ·have hy0:y = 0:=by omega
    simp [hy0]
   ·simp [h1]
  ·unfold sg
   by_cases h1:a < 0
   ·have hy0:y = 0:=by omega
    simp [hy0]; omega
   ·simp [h1]; omega
theorem kL (n:Nat) (a b:Int) (ha:W1 a) (hb:W1 b) (hn:18446744073709551616 < n):av_p n (L a) (L b) = some (L (Nat.gcd a.natAbs b.natAbs:Nat)):=by
 have h:=av (B:=av_l1 n) (fun s:List UInt64 × List UInt64=>val s.2) (fun s=>∃ x y,s = (dg x,dg y)/\x < 18446744073709551616/\y < 18446744073709551616/\Nat.gcd x y = Nat.gcd a.natAbs b.natAbs)
  (fun r=>r = dg (Nat.gcd a.natAbs b.natAbs)) ?_ n (dg a.natAbs,dg b.natAbs) ⟨_,_,rfl,ha,hb,rfl⟩ (by simp only [aA]; unfold W1 at hb; omega)
 ·obtain ⟨r,h1,rfl⟩:=h
  unfold av_p
  rw [show (L a).fo = dg a.natAbs from rfl,show (L b).fo = dg b.natAbs from rfl,h1,ab]
  unfold L
  simp
 ·rintro _ J ⟨x,y,rfl,h1,h2,h3⟩ hJ
  unfold av_l1
  simp only
  by_cases h0:y = 0
  ·subst h0
   rw [if_neg (by rw [dg0]; simp)]
   exact ⟨_,rfl,by rw [<- h3,Nat.gcd_zero_right]⟩
  ·obtain ⟨q,e1,_,_⟩:=gj n x y h1 h2 h0 (by omega)
   have hm:x % y < y:=Nat.mod_lt _ (by omega)
   rw [if_pos (by rw [dg1 h0 h2]; simp),e1,ab]
   simp only
   refine hJ (dg y,dg (x % y)) ⟨_,_,rfl,h2,by omega,?_⟩ (by simp only [aA]; exact hm)
   rw [<- h3,Nat.gcd_comm x y,Nat.gcd_rec y x,Nat.gcd_comm]
end Go.Proofs.YtkhpmhhnolpcnaaGreatDoor
namespace Go.Proofs.YtkhpmhhnolpcnaaGreatDoor
open Go
def W8 (z:Int):UInt64 × UInt64 × UInt64 × UInt64 × UInt64 × UInt64 × UInt64 × UInt64:=
 if z < 0 then (ac z,18446744073709551615,18446744073709551615,18446744073709551615,18446744073709551615,18446744073709551615,18446744073709551615,18446744073709551615) else (ac z,0,0,0,0,0,0,0)
def Sm (z:Int):Prop:=z.natAbs < 9223372036854775808
theorem Sm.w {z:Int} (h:Sm z):W1 z:=by unfold Sm W1 at *; omega
theorem eK {z:Int} (h:Sm z) (h0:z < 0):(ac z).toNat = 18446744073709551616 - z.natAbs:=by
 unfold ac Sm at *; rw [UInt64.toNat_ofNat']; omega
theorem eQ {z:Int} (h:Sm z) (h0:¬ z < 0):ac z = UInt64.ofNat z.natAbs:=by
 unfold ac Sm at *; congr 1; omega
theorem mE (n:Nat) (z:Int) (hn:10 < n):cr_p n z = some (W8 z):=by
 obtain ⟨k,rfl⟩:∃ k,n = k + 9:=⟨n - 9,by omega⟩
 unfold cr_p W8
 by_cases h:z < 0
 ·rw [if_pos h,if_pos h]
  simp [bB,cr_l1,bw]
 ·rw [if_neg h,if_neg h]
theorem sub_m1:sub64 0 18446744073709551615 1 = some (0,1):=rfl
theorem sub_01:sub64 0 0 1 = some (18446744073709551615,1):=rfl
theorem read_ok (n:Nat) (z:Int) (h:Sm z):cv_p n (W8 z) = some ⟨decide (z < 0),(UInt64.ofNat z.natAbs,0,0,0,0,0,0,0)⟩:=by
 unfold cv_p W8
 by_cases h0:z < 0
 ·rw [if_pos h0]
  have e:sub64 0 (ac z) 0 = some (UInt64.ofNat z.natAbs,1):=by
   unfold sub64
   rw [if_pos (by decide),eK h h0]
   unfold Sm at h
   rw [if_pos (by simp; omega)]
   congr 2
   simp; congr 1; omega
  rw [if_pos (show shrU 18446744073709551615 63 = 1 from rfl)]
  unfold aY_p
  simp only [e,ab,sub_m1]
  simp [h0]; rfl
 ·rw [if_neg h0]
  rw [if_neg (show ¬ shrU 0 63 = 1 from by decide),eQ h h0]
  simp [h0]; decide
theorem em (n:Nat) (z:Int) (h:Sm z) (hn:10 < n):bm_p n (W8 z) = some (L z):=by
 unfold bm_p
 rw [read_ok n z h,ab]
 simp only
 rw [show app ([]:List UInt64) [UInt64.ofNat z.natAbs,0,0,0,0,0,0,0] = some [UInt64.ofNat z.natAbs,0,0,0,0,0,0,0] from rfl,ab,aC n _ _ (by simpa using by omega) (by simp),ab]
 have e:val [UInt64.ofNat z.natAbs,0,0,0,0,0,0,0] = z.natAbs:=by
  have:=h.w; unfold W1 at this
  simp only [val,bO this]; simp
 rw [e]
 unfold L
 by_cases h0:z < 0
 ·simp [h0]; omega
 ·simp [h0]
theorem from_ok (n:Nat) (z:Int) (h:Sm z) (hn:10 < n):cB_p n z = some (L z):=by
 unfold cB_p; rw [mE n z hn,ab,em n z h hn,ab]
theorem mj {m:Nat} (h:m < 18446744073709551616):aI (dg m) 0 0 = UInt64.ofNat m:=by
 by_cases h0:m = 0
 ·subst h0; rw [dg0]; rfl
 ·rw [dg1 h0 h]; rfl
theorem bT {m:Nat} (j:Nat) (h:m < 18446744073709551616):aI (dg m) (j + 1) 0 = 0:=by
 by_cases h0:m = 0
 ·subst h0; rw [dg0]; rfl
 ·rw [dg1 h0 h]; rfl
theorem kz (n:Nat) (z:Int) (h:Sm z) (hn:10 < n):bz_p n (L z) = some (W8 z,0):=by
 have hw:=h.w
 unfold W1 at hw
 have hl:¬ 8 < (L z).fo.length:=by
  have:(dg z.natAbs).length <= 1:=gd (by rw [Nat.pow_one]; exact hw)
  show ¬ 8 < (dg z.natAbs).length
  omega
 unfold bz_p
 rw [if_neg hl,show (L z).fo = dg z.natAbs from rfl,mj hw,bT 0 hw,bT 1 hw,bT 2 hw,bT 3 hw,bT 4 hw,bT 5 hw,bT 6 hw]
 unfold bI_p
 have ho:∀ x:UInt64,aK_p n (x,0,0,0,0,0,0,0) (0,0,0,0,0,0,0,9223372036854775808) = some (-1):=fun x=>by
  obtain ⟨k,rfl⟩:∃ k,n = k + 1:=⟨n - 1,by omega⟩
  unfold aK_p
  rw [bB]
  rfl
 rw [ho,ab,if_neg (by decide),if_neg (by decide)]
 unfold W8
 by_cases h0:z < 0
 ·have e:sub64 0 (UInt64.ofNat z.natAbs) 0 = some (ac z,1):=by
   unfold sub64
   rw [if_pos (by decide),bO hw]
   rw [if_pos (by simp; omega)]
   congr 2
   refine UInt64.toNat_inj.1 ?_
   rw [eK h h0,UInt64.toNat_ofNat']
   unfold Sm at h
   simp; omega
  rw [if_pos h0,if_pos (by simpa [L] using h0)]
  unfold aY_p
  simp only [e,ab,sub_01]
 ·rw [if_neg h0,if_neg (by simpa [L] using h0),ab,eQ h h0]
def Rt (q:Rat):Td:=⟨L q.num,L q.den⟩
def Sh (q:Rat):Ta:=⟨W8 q.num,W8 q.den⟩
theorem ib {x y:Int} (hy:0 < y) (hc:x.natAbs.Coprime y.natAbs):(Rat.divInt x y).num = x/\((Rat.divInt x y).den:Int) = y:=by
 have e:Rat.divInt x y = { num:=x,den:=y.natAbs,den_nz:=by omega,reduced:=hc }:=by
  rw [Rat.mk_eq_divInt]; congr 1; omega
 rw [e]; exact ⟨rfl,by simp only; omega⟩
theorem kK (n:Nat) (a b:Int) (ha:W1 a) (hb:W1 b) (h0:b ≠ 0) (hn:18446744073709551616 < n) :
  br_p n (L a) (L b) = some (Rt (Rat.divInt a b))/\(Rat.divInt a b).num.natAbs <= a.natAbs/\(Rat.divInt a b).den <= b.natAbs:=by
 have hg:0 < Nat.gcd a.natAbs b.natAbs:=Nat.gcd_pos_of_pos_right _ (by omega)
 have hgb:Nat.gcd a.natAbs b.natAbs <= b.natAbs:=Nat.gcd_le_right _ (by omega)
 have hgw:W1 ((Nat.gcd a.natAbs b.natAbs:Nat):Int):=by unfold W1 at *; omega
 obtain ⟨x,hx⟩:((Nat.gcd a.natAbs b.natAbs:Nat):Int) ∣ a:=Int.ofNat_dvd_left.2 (Nat.gcd_dvd_left _ _)
 obtain ⟨y,hy⟩:((Nat.gcd a.natAbs b.natAbs:Nat):Int) ∣ b:=Int.ofNat_dvd_left.2 (Nat.gcd_dvd_right _ _)
 have hco:=Nat.coprime_div_gcd_div_gcd hg
 generalize Nat.gcd a.natAbs b.natAbs = g at *
 have hg0:(g:Int) ≠ 0:=by omega
 have e1:a / (g:Int) = x:=by rw [hx]; exact Int.mul_ediv_cancel_left _ hg0
 have e2:b / (g:Int) = y:=by rw [hy]; exact Int.mul_ediv_cancel_left _ hg0
 have e3:a.natAbs = g * x.natAbs:=by rw [hx,Int.natAbs_mul]; rfl
 have e4:b.natAbs = g * y.natAbs:=by rw [hy,Int.natAbs_mul]; rfl
 have hc:x.natAbs.Coprime y.natAbs:=by
  rw [e3,e4,Nat.mul_div_cancel_left _ hg,Nat.mul_div_cancel_left _ hg] at hco; exact hco
 have hxl:x.natAbs <= a.natAbs:=by rw [e3]; exact Nat.le_mul_of_pos_left _ hg
 have hyl:y.natAbs <= b.natAbs:=by rw [e4]; exact Nat.le_mul_of_pos_left _ hg
 have hy0:y ≠ 0:=fun e=>h0 (by rw [hy,e,Int.mul_zero])
 have eq:Rat.divInt a b = Rat.divInt x y:=by
  conv=>lhs; rw [hx,hy]
  exact Rat.divInt_mul_left hg0
 have xw:Fit 1 x:=by unfold Fit; unfold W1 at ha; rw [Nat.pow_one]; omega
 have yw:Fit 1 y:=by unfold Fit; unfold W1 at hb; rw [Nat.pow_one]; omega
 have gc:av_p n (L a) (L b) = some (L g):=by
  have:=kL n a b ha hb hn
  rw [this]
  have h5:Nat.gcd a.natAbs b.natAbs = g:=by
   rw [e3,e4,Nat.gcd_mul_left,show Nat.gcd x.natAbs y.natAbs = 1 from hc,Nat.mul_one]
  rw [h5]
 unfold br_p
 rw [gc,ab,jk n a g ha hgw hg0 (by omega),ab,jk n b g hb hgw hg0 (by omega),ab,e1,e2]
 simp only
 rw [eq]
 by_cases hs:y < 0
 ·rw [if_pos (by simpa [L] using hs),bJ n 1 x xw (by omega) (by omega),ab,bJ n 1 y yw (by omega) (by omega),ab]
  have h5:=ib (x:=-x) (y:=-y) (by omega) (by rwa [Int.natAbs_neg,Int.natAbs_neg])
  rw [Rat.neg_divInt_neg] at h5
  unfold Rt
  rw [h5.1,h5.2]
  exact ⟨rfl,by rw [Int.natAbs_neg]; exact hxl,by have:=h5.2; omega⟩
 ·rw [if_neg (by simpa [L] using hs)]
  have h5:=ib (x:=x) (y:=y) (by omega) hc
  unfold Rt
  rw [h5.1,h5.2]
  exact ⟨rfl,hxl,by have:=h5.2; omega⟩
end Go.Proofs.YtkhpmhhnolpcnaaGreatDoor
namespace Go.Proofs.YtkhpmhhnolpcnaaGreatDoor
open Go
theorem W8_ne {z:Int} (h:Sm z) (h0:z ≠ 0):W8 z ≠ (0,0,0,0,0,0,0,0):=fun e=>by
 have e1:ac z = 0:=by
  have:=congrArg Prod.fst e
  unfold W8 at this
  split at this <;> exact this
 by_cases hz:z < 0
 ·have:=eK h hz
  rw [e1] at this; unfold Sm at h; simp at this; omega
 ·rw [eQ h hz] at e1
  exact jd (by omega) h.w e1
theorem mG (n:Nat) (q:Rat) (h1:Sm q.num) (h2:Sm (q.den:Int)) (hn:10 < n):bf_p n (Rt q) = some (Sh q,0):=by
 unfold bf_p
 rw [show (Rt q).ft = L q.num from rfl,show (Rt q).fp = L q.den from rfl,kz n _ h1 hn,ab,kz n _ h2 hn,ab]
 rfl
theorem ja (n:Nat) (a b:Int) (ha:Sm a) (hb:Sm b) (h0:b ≠ 0) (hn:18446744073709551616 < n):cu_p n a b = some (Sh (Rat.divInt a b),0):=by
 obtain ⟨e1,e2,e3⟩:=kK n a b ha.w hb.w h0 hn
 unfold cu_p
 rw [mE n a (by omega),ab,mE n b (by omega),ab]
 unfold cD_p
 rw [if_neg (W8_ne hb h0),em n a ha (by omega),ab,em n b hb (by omega),ab,e1,ab,mG n _ (by unfold Sm at *; omega) (by unfold Sm at *; omega) (by omega)]
 rfl
end Go.Proofs.YtkhpmhhnolpcnaaGreatDoor
namespace Go.Proofs.YtkhpmhhnolpcnaaGreatDoor
open Go
theorem cp {x y:Int} (h:y ≠ 0):dj x y = some (x.tmod y):=if_neg h
theorem eH {α:Type} (xs ys:List α) (h:xs.length + ys.length <= 1000000):app xs ys = some (xs ++ ys):=if_pos (Nat.le_trans h (by decide))
theorem lQ (n:Nat) (d:Ti) (i:Int) (h:0 <= i):∃ y,aX_p n d i = some y/\0 <= y/\y < 256:=by
 unfold aX_p
 split
 ·rw [bf h (by omega),ab]
  have:=(d.fLabels[i.toNat]'(by omega)).toNat_lt
  exact ⟨_,rfl,by omega,by omega⟩
 ·exact ⟨_,rfl,by omega,by omega⟩
theorem li (n:Nat) (d:Ti) (hn:20 < n):∃ l,ao (ah_l2 n d) n (0,[]) = some l/\1 <= l.length/\l.length <= 9/\∀ x ∈ l,0 <= x/\x < 8:=by
 have hu:(d.fN % 9).toNat < 9:=by rw [UInt8.toNat_mod]; exact Nat.mod_lt _ (by decide)
 have hk:(d.fK % 8).toNat < 8:=by rw [UInt8.toNat_mod]; exact Nat.mod_lt _ (by decide)
 have h:=av (B:=ah_l2 n d) (fun s:Int × List Int=>10 - s.1.toNat) (fun s=>0 <= s.1/\s.1 <= (1 + (d.fN % 9).toNat:Nat)/\s.2.length = s.1.toNat/\∀ x ∈ s.2,0 <= x/\x < 8)
  (fun l=>1 <= l.length/\l.length <= 9/\∀ x ∈ l,0 <= x/\x < 8) ?_ n (0,[]) ⟨by simp,by omega,by simp,by simp⟩ (by simp only; omega)
 ·obtain ⟨l,e,h⟩:=h; exact ⟨l,e,h⟩
 ·rintro ⟨z,xs⟩ J ⟨h1,h2,h3,h4⟩ hJ
  simp only at h1 h2 h3 h4 hJ
  unfold ah_l2 bp_p
  simp only [ab]
  split
  ·rename_i h5
   obtain ⟨y,e,y0,y1⟩:=lQ n d z h1
   rw [e,ab,cp (by omega),ab,eH _ _ (by simp only [leC,leN]; omega),ab,aN (by omega) (by omega),ab]
   refine hJ _ ⟨by simp only; omega,by simp only; omega,by simp only [List.length_append,leC,leN]; omega,fun x hx=>?_⟩ (by simp only; omega)
   rcases List.mem_append.1 hx with hx | hx
   ·exact h4 x hx
   ·rw [List.mem_singleton.1 hx,Int.tmod_eq_emod_of_nonneg y0]
    have a1:=Int.emod_nonneg y (b:=((1 + (d.fK % 8).toNat:Nat):Int)) (by omega)
    have a2:=Int.emod_lt_of_pos y (b:=((1 + (d.fK % 8).toNat:Nat):Int)) (by omega)
    omega
  ·rename_i h5
   exact ⟨_,rfl,by omega,by omega,h4⟩
theorem kQ (n:Nat) (l:List Int) (h1:1 <= l.length) (h2:l.length <= 9) (h:∀ x ∈ l,0 <= x/\x < 8) (hn:20 < n):aI_p n l 8 = some true:=by
 have hh:=av (B:=aI_l1 n l 8) (fun i:Nat=>l.length - i) (fun i=>i <= l.length) (fun r=>r = .inr ()) ?_ n 0 (Nat.zero_le _) (by omega)
 ·obtain ⟨r,e,rfl⟩:=hh
  unfold aI_p
  rw [e]
  show (if 1 <= l.length then some (decide (l.length <= 64)) else some false) = _
  rw [if_pos h1,decide_eq_true (by omega)]
 ·intro i J hi hJ
  unfold aI_l1
  simp only
  split
  ·rename_i h0
   have:=h l[i] (List.getElem_mem _)
   rw [geE h0,ab,if_neg (by omega),if_neg (by omega)]
   exact hJ (i + 1) h0 (by omega)
  ·exact ⟨_,rfl,rfl⟩
def bc (p:List Int) (k:Int):Prop:=(∀ x ∈ p,0 <= x/\x < k)/\∀ d,0 <= d -> d < k -> d ∈ p
theorem lU (n:Nat) (l:List Int) (h1:1 <= l.length) (h2:l.length <= 9) (h:∀ x ∈ l,0 <= x/\x < 8) (hn:20 < n):∃ p z,aL_p n l = some (p,0)/\p.length = l.length/\bc p z/\z <= 8:=by
 have hh:=av (B:=aL_l1 n l) (fun s:Int × Nat × List Int × List Int=>l.length - s.2.1)
  (fun s=>s.2.1 <= l.length/\s.2.2.1.length = s.2.1/\s.2.2.2.length = 8/\0 <= s.1/\s.1 + s.2.2.2.count (-1) = 8/\(∀ v ∈ s.2.2.2,v = -1 ∨ 0 <= v/\v < s.1)/\bc s.2.2.1 s.1)
  (fun p=>∃ z,p.length = l.length/\bc p z/\z <= 8) ?_ n (0,0,[],[-1,-1,-1,-1,-1,-1,-1,-1]) ⟨by simp,rfl,rfl,by simp,by decide,by simp,by simp,fun d h3 h4=>by simp only at h4; omega⟩ (by simp only; omega)
 ·obtain ⟨p,e,z,h3,h4,h5⟩:=hh
  refine ⟨p,z,?_,h3,h4,h5⟩
  unfold aL_p
  rw [kQ n l h1 h2 h hn,ab,if_pos rfl,e,ab]
 ·rintro ⟨z,i,xs,m⟩ J ⟨a1,a2,a3,a4,a5,a6,a7,a8⟩ hJ
  simp only at a1 a2 a3 a4 a5 a6 a7 a8 hJ
  unfold aL_l1
  simp only
  split
  ·rename_i hi
   have hx:=h l[i] (List.getElem_mem _)
   have hm:l[i].toNat < m.length:=by omega
   rw [geE hi,ab,bf hx.1 hm,ab]
   unfold jn
   simp only
   have hv:=a6 m[l[i].toNat] (List.getElem_mem _)
   by_cases hneg:m[l[i].toNat] < 0
   ·have hv1:m[l[i].toNat] = -1:=by omega
    have hc:0 < m.count (-1):=by rw [<- hv1]; exact List.count_pos_iff.2 (List.getElem_mem _)
    rw [if_pos hneg,bs _ hm,ab,aN (by omega) (by omega),ab,bf hx.1 (by simpa using hm),ab,List.getElem_set_self,eH _ _ (by simp only [leC,leN]; omega),ab]
    refine hJ _ ⟨by simp only; omega,by simp only [List.length_append,leC,leN]; omega,by simpa using a3,by simp only; omega,?_,?_,?_,?_⟩ (by simp only; omega)
    ·simp only
     rw [List.count_set hm,hv1]
     have:((z == (-1:Int)) = false):=by rw [beq_eq_false_iff_ne]; omega
     simp only [this]
     simp only [beq_self_eq_true,if_true]
     simp
     omega
    ·intro v hv2
     rcases List.mem_or_eq_of_mem_set hv2 with hv2 | rfl
     ·rcases a6 v hv2 with h5 | h5
      ·exact .inl h5
      ·exact .inr ⟨h5.1,by simp only; omega⟩
     ·exact .inr ⟨a4,by simp only; omega⟩
    ·intro x hx2
     simp only at hx2 ⊢
     rcases List.mem_append.1 hx2 with hx2 | hx2
     ·have:=a7 x hx2; omega
     ·rw [List.mem_singleton.1 hx2]; omega
    ·intro d d0 d1
     simp only at d1 ⊢
     by_cases hd:d = z
     ·subst hd; exact List.mem_append_right _ (List.mem_singleton.2 rfl)
     ·exact List.mem_append_left _ (a8 d d0 (by omega))
   ·rw [if_neg hneg,bf hx.1 hm,ab,eH _ _ (by simp only [leC,leN]; omega),ab]
    refine hJ _ ⟨by simp only; omega,by simp only [List.length_append,leC,leN]; omega,a3,a4,a5,a6,?_,?_⟩ (by simp only; omega)
    ·intro x hx2
     simp only at hx2 ⊢
     rcases List.mem_append.1 hx2 with hx2 | hx2
     ·exact a7 x hx2
     ·rw [List.mem_singleton.1 hx2]; omega
    ·intro d d0 d1
     exact List.mem_append_left _ (a8 d d0 d1)
  ·exact ⟨_,rfl,z,by omega,⟨a7,a8⟩,by omega⟩
theorem lX (n:Nat) (d:Ti) (hn:20 < n):∃ p k,ah_p n d = some (p,k)/\1 <= p.length/\p.length <= 9/\bc p k/\1 <= k/\k <= 8:=by
 obtain ⟨l,e1,l1,l2,l3⟩:=li n d hn
 obtain ⟨p,z,e2,p1,p2,p3⟩:=lU n l l1 l2 l3 hn
 have hh:=av (B:=ah_l1 n (p,0)) (fun s:Int × Nat=>p.length - s.2) (fun s=>s.2 <= p.length/\0 <= s.1/\s.1 <= 8/\(∀ j (h:j < p.length),j < s.2 -> p[j] + 1 <= s.1)/\(s.1 = 0/\s.2 = 0 ∨ s.1 - 1 ∈ p))
  (fun k=>1 <= k/\k <= 8/\(∀ x ∈ p,x < k)/\k - 1 ∈ p) ?_ n (0,0) ⟨by simp,by simp,by simp,fun j _ h=>by simp at h,.inl ⟨rfl,rfl⟩⟩ (by simp only; omega)
 ·obtain ⟨k,e3,k1,k2,k3,k4⟩:=hh
  refine ⟨p,k,?_,by omega,by omega,⟨fun x hx=>⟨(p2.1 x hx).1,k3 x hx⟩,fun d d0 d1=>p2.2 d d0 (by have:=(p2.1 _ k4).2; omega)⟩,k1,k2⟩
  unfold ah_p
  rw [e1,ab,e2,ab,e3,ab]
 ·rintro ⟨z', i⟩ J ⟨a1,a2,a3,a4,a5⟩ hJ
  simp only at a1 a2 a3 a4 a5 hJ
  unfold ah_l1
  simp only
  split
  ·rename_i hi
   have hx:=p2.1 p[i] (List.getElem_mem _)
   rw [geE hi,ab,aN (by omega) (by omega),ab]
   refine hJ _ ⟨hi,by simp only; omega,by simp only; omega,fun j hj h4=>?_,?_⟩ (by simp only; omega)
   ·simp only at h4 ⊢
    by_cases hj2:j = i
    ·subst hj2; omega
    ·have:=a4 j hj (by omega); omega
   ·right
    simp only
    by_cases hm:z' <= p[i] + 1
    ·rw [Int.max_eq_right hm,show p[i] + 1 - 1 = p[i] by omega]; exact List.getElem_mem _
    ·rw [Int.max_eq_left (by omega)]
     rcases a5 with ⟨h5,h6⟩ | h5
     ·omega
     ·exact h5
  ·rename_i hi
   rcases a5 with ⟨h5,h6⟩ | h5
   ·omega
   ·refine ⟨_,rfl,by have:=(p2.1 _ h5).1; omega,a3,fun x hx=>?_,h5⟩
    obtain ⟨j,hj,rfl⟩:=List.getElem_of_mem hx
    have:=a4 j hj (by omega); omega
end Go.Proofs.YtkhpmhhnolpcnaaGreatDoor
namespace Go.Proofs.YtkhpmhhnolpcnaaGreatDoor
open Go
def FU:Nat:=18446744073709552000
def nm (i:Nat):ByteArray:=⟨#[117,UInt8.ofNat (97 + i),97]⟩
theorem nm_inj {i j:Nat} (hi:i < 9) (hj:j < 9) (h:nm i = nm j):i = j:=by
 have h1:=congrArg (fun b:ByteArray=>b.data[1]!) h
 have h2:UInt8.ofNat (97 + i) = UInt8.ofNat (97 + j):=h1
 have h3:=congrArg UInt8.toNat h2
 rw [UInt8.toNat_ofNat', UInt8.toNat_ofNat'] at h3
 omega
theorem nm_sea {i:Nat} (h:nm i = ⟨#[115,101,97]⟩):False:=by
 have h1:=congrArg (fun b:ByteArray=>b.data[0]!) h
 have h2:(117:UInt8) = 115:=h1
 exact absurd h2 (by decide)
theorem dV {κ ν:Type} [DecidableEq κ]:∀ (D:List (κ × ν)) (k x:κ) (v:ν),ep (aX D k v) x = if x = k then some v else ep D x
 | [],k,x,v=>by simp [aX,ep]
 | e :: D,k,x,v=>by
  unfold aX
  split
  ·rename_i h; subst h; simp only [ep]; split <;> rfl
  ·rename_i h
   simp only [ep]
   rw [dV D k x v]
   by_cases h1:x = k
   ·subst h1; simp [h]
   ·simp [h1]
theorem bN (n:Nat) (l:List Bool) (h:∀ b ∈ l,b = true) (hn:l.length < n):aU_p n l = some true:=by
 have hh:=av (B:=au_l1 n l false) (fun i:Nat=>l.length - i) (fun i=>i <= l.length) (fun r=>r = .inr ()) ?_ n 0 (Nat.zero_le _) (by omega)
 ·obtain ⟨r,e,rfl⟩:=hh
  unfold aU_p aW_p au_p
  rw [e]
  rfl
 ·intro i J hi hJ
  unfold au_l1
  simp only
  split
  ·rename_i h0
   rw [geE h0,ab,h l[i] (List.getElem_mem _),if_neg (by decide)]
   exact hJ (i + 1) h0 (by omega)
  ·exact ⟨_,rfl,rfl⟩
theorem bK (n:Nat) (l:List Int) (a bn:Int) (hl:(l.length:Int) = a) (h:∀ x ∈ l,0 <= x/\x <= bn) (hn:l.length < n):aG_p n l a bn = some true:=by
 have hh:=av (B:=aG_l1 n l bn) (fun i:Nat=>l.length - i) (fun i=>i <= l.length) (fun r=>r = .inr ()) ?_ n 0 (Nat.zero_le _) (by omega)
 ·obtain ⟨r,e,rfl⟩:=hh
  unfold aG_p
  rw [if_pos hl,e]
  rfl
 ·intro i J hi hJ
  unfold aG_l1 ca_p
  simp only
  split
  ·rename_i h0
   have:=h l[i] (List.getElem_mem _)
   rw [geE h0,ab,if_neg (by omega),ab,decide_eq_false (by omega),if_neg (by decide)]
   exact hJ (i + 1) h0 (by omega)
  ·exact ⟨_,rfl,rfl⟩
theorem jW (n:Nat) (d:Th) (i:Int) (h:0 <= i):∃ y,aD_p n d i = some y/\0 <= y/\y <= 255:=by
 unfold aD_p
 split
 ·exact ⟨_,rfl,by omega,by omega⟩
 ·rename_i h0
  have h1:=Int.emod_nonneg i (b:=(d.fNums.length:Int)) (by omega)
  have h2:=Int.emod_lt_of_pos i (b:=(d.fNums.length:Int)) (by omega)
  rw [cp (by omega),ab,Int.tmod_eq_emod_of_nonneg h,bf h1 (by omega),ab]
  have:=(d.fNums[(i % (d.fNums.length:Int)).toNat]'(by omega)).toNat_lt
  exact ⟨_,rfl,by omega,by omega⟩
theorem jh (n:Nat) (d:Th) (c at_ bn:Int) (h0:0 <= c) (h1:c <= 100) (h2:0 <= at_) (h3:at_ <= 1000) (h4:0 <= bn) (hn:200 < n):∃ l,ap_p n d c at_ bn = some l/\(l.length:Int) = c/\∀ x ∈ l,0 <= x/\x <= bn/\x <= 255:=by
 have hh:=av (B:=ap_l1 n c at_ d bn) (fun s:Int × List Int=>101 - s.1.toNat) (fun s=>0 <= s.1/\s.1 <= c/\(s.2.length:Int) = s.1/\∀ x ∈ s.2,0 <= x/\x <= bn/\x <= 255)
  (fun l=>(l.length:Int) = c/\∀ x ∈ l,0 <= x/\x <= bn/\x <= 255) ?_ n (0,[]) ⟨by simp,h0,by simp,by simp⟩ (by simp only; omega)
 ·obtain ⟨l,e,h⟩:=hh
  refine ⟨l,?_,h⟩
  unfold ap_p
  rw [e,ab]
 ·rintro ⟨z,xs⟩ J ⟨a1,a2,a3,a4⟩ hJ
  simp only at a1 a2 a3 a4 hJ
  unfold ap_l1
  simp only
  split
  ·obtain ⟨y,e,y0,y1⟩:=jW n d (at_ + z) (by omega)
   rw [aN (by omega) (by omega),ab,e,ab,eH _ _ (by simp only [leC,leN]; omega),ab,aN (by omega) (by omega),ab]
   refine hJ _ ⟨by simp only; omega,by simp only; omega,by simp only [List.length_append,leC,leN]; omega,fun x hx=>?_⟩ (by simp only; omega)
   rcases List.mem_append.1 hx with hx | hx
   ·exact a4 x hx
   ·rw [List.mem_singleton.1 hx]; omega
  ·exact ⟨_,rfl,by omega,a4⟩
def iu (G P L:Int) (u:Tb):Prop:=u.fv = false/\(0 <= u.fA/\u.fA <= 255)/\((u.fj.length:Int) = G/\∀ x ∈ u.fj,0 <= x/\x <= u.fA)/\((u.fVotes.length:Int) = P/\∀ x ∈ u.fVotes,0 <= x/\x <= 255)/\((u.fJ.length:Int) = L/\∀ x ∈ u.fJ,0 <= x/\x <= 63)
def sea (G P L:Int):Tb:=⟨⟨#[115,101,97]⟩,0,List.replicate G.toNat 0,List.replicate P.toNat 0,List.replicate L.toNat 0,true⟩
structure RollOk (r:Tf) (us:List Tb):Prop where
 g:0 <= r.fj/\r.fj <= 2
 p:0 <= r.fh/\r.fh <= 3
 l:0 <= r.fl/\r.fl <= 2
 len:1 <= us.length/\us.length <= 9
 land:∀ i (h:i < us.length),us[i].fC = nm i/\iu r.fj r.fh r.fl us[i]
 all:r.fu = us ∨ r.fu = us ++ [sea r.fj r.fh r.fl]
theorem jq (n:Nat) (d:Th) (z:Int) (h0:0 <= z) (h1:z <= 100) (hn:200 < n):∃ l,ao (ac_l1 n d z) n (0,[]) = some l/\l.length = (d.fl % 3).toNat/\∀ x ∈ l,0 <= x/\x <= 63:=by
 have hk:(d.fl % 3).toNat < 3:=by rw [UInt8.toNat_mod]; exact Nat.mod_lt _ (by decide)
 refine av (B:=ac_l1 n d z) (fun s:Nat × List Int=>3 - s.1) (fun s=>s.1 <= (d.fl % 3).toNat/\s.2.length = s.1/\∀ x ∈ s.2,0 <= x/\x <= 63) _ ?_ n (0,[]) ⟨by simp,rfl,by simp⟩ (by simp only; omega)
 rintro ⟨i,xs⟩ J ⟨a1,a2,a3⟩ hJ
 simp only at a1 a2 a3 hJ
 unfold ac_l1
 simp only
 split
 ·rename_i hi
  obtain ⟨y,e,y0,y1⟩:=jW n d (9 * z + 7 + i) (by omega)
  rw [aN (by omega) (by omega),ab,aN (by omega) (by omega),ab,aN (by omega) (by omega),ab,e,ab,cp (by decide),ab,eH _ _ (by simp only [leC,leN]; omega),ab]
  refine hJ _ ⟨by simp only; omega,by simp only [List.length_append,leC,leN]; omega,fun x hx=>?_⟩ (by simp only; omega)
  rcases List.mem_append.1 hx with hx | hx
  ·exact a3 x hx
  ·rw [List.mem_singleton.1 hx,Int.tmod_eq_emod_of_nonneg y0]
   have a1:=Int.emod_nonneg y (b:=(3:Int)) (by omega)
   have a2:=Int.emod_lt_of_pos y (b:=(3:Int)) (by omega)
   omega
 ·exact ⟨_,rfl,by omega,a3⟩
theorem name_ok (i:Nat) (h:i < 9):(jI ⟨#[117]⟩ (bstr ([aE (97 + (i:Int)),aE (97 + 0)]:List UInt8))) = some (nm i):=by
 have:aE (97 + (i:Int)) = UInt8.ofNat (97 + i):=by unfold aE; congr 1; omega
 rw [this]; rfl
theorem mq (n:Nat) (d:Th) (m:Nat) (h1:1 <= m) (h2:m <= 9) (hn:200 < n):∃ r us,ac_p n d m = some r/\us.length = m/\RollOk r us/\r.fj = ((d.fj % 3).toNat:Int)/\r.fh = ((d.fh % 4).toNat:Int)/\r.fl = ((d.fl % 3).toNat:Int):=by
 have hG:(d.fj % 3).toNat < 3:=by rw [UInt8.toNat_mod]; exact Nat.mod_lt _ (by decide)
 have hP:(d.fh % 4).toNat < 4:=by rw [UInt8.toNat_mod]; exact Nat.mod_lt _ (by decide)
 have hL:(d.fl % 3).toNat < 3:=by rw [UInt8.toNat_mod]; exact Nat.mod_lt _ (by decide)
 have hW:(d.fv % 2).toNat < 2:=by rw [UInt8.toNat_mod]; exact Nat.mod_lt _ (by decide)
 have hh:=av (B:=ac_l3 n (m:Int) d) (fun s:Int × List Tb=>10 - s.1.toNat) (fun s=>0 <= s.1/\s.1 <= m/\(s.2.length:Int) = s.1/\∀ i (h:i < s.2.length),s.2[i].fC = nm i/\iu ((d.fj % 3).toNat:Int) ((d.fh % 4).toNat:Int) ((d.fl % 3).toNat:Int) s.2[i])
  (fun us=>us.length = m/\∀ i (h:i < us.length),us[i].fC = nm i/\iu ((d.fj % 3).toNat:Int) ((d.fh % 4).toNat:Int) ((d.fl % 3).toNat:Int) us[i]) ?_ n (0,[]) ⟨by simp,by simp,by simp,fun i h=>by simp at h⟩ (by simp only; omega)
 ·obtain ⟨us,e,u1,u2⟩:=hh
  have hs:=av (B:=ac_l2 n d) (fun s:Nat × List Tb=>2 - s.1) (fun s=>s.1 <= (d.fv % 2).toNat/\(s.1 = 0/\s.2 = us ∨ s.1 = 1/\s.2 = us ++ [sea (d.fj % 3).toNat (d.fh % 4).toNat (d.fl % 3).toNat]))
   (fun all=>all = us ∨ all = us ++ [sea (d.fj % 3).toNat (d.fh % 4).toNat (d.fl % 3).toNat]) ?_ n (0,us) ⟨by simp,.inl ⟨rfl,rfl⟩⟩ (by simp only; omega)
  ·obtain ⟨all,e2,ha⟩:=hs
   refine ⟨⟨(d.fj % 3).toNat,(d.fh % 4).toNat,(d.fl % 3).toNat,all⟩,us,?_,u1,⟨by simp only; omega,by simp only; omega,by simp only; omega,by omega,u2,ha⟩,rfl,rfl,rfl⟩
   unfold ac_p
   rw [e,ab,e2,ab]
  ·rintro ⟨i,xs⟩ J ⟨a1,a2⟩ hJ
   simp only at a1 a2 hJ
   unfold ac_l2
   simp only
   split
   ·rename_i hi
    have hi0:i = 0/\xs = us:=by
     rcases a2 with a2 | a2
     ·exact a2
     ·omega
    obtain ⟨rfl,rfl⟩:=hi0
    rw [da _ _ (by omega),ab,da _ _ (by omega),ab,da _ _ (by omega),ab,eH _ _ (by simp only [leC,leN]; omega),ab]
    exact hJ _ ⟨by simp only; omega,.inr ⟨rfl,rfl⟩⟩ (by simp only; omega)
   ·exact ⟨_,rfl,a2.elim (fun h=>.inl h.2) (fun h=>.inr h.2)⟩
 ·rintro ⟨z,xs⟩ J ⟨a1,a2,a3,a4⟩ hJ
  simp only at a1 a2 a3 a4 hJ
  unfold ac_l3
  simp only
  split
  ·rename_i hz
   obtain ⟨i,rfl⟩:∃ i:Nat,z = i:=⟨z.toNat,by omega⟩
   have t1:Int.tmod (i:Int) 26 = i:=by rw [Int.tmod_eq_emod_of_nonneg (by omega)]; omega
   have t2:Int.tdiv (i:Int) 26 = 0:=by rw [Int.tdiv_eq_ediv_of_nonneg (by omega)]; omega
   obtain ⟨y,e,y0,y1⟩:=jW n d (9 * (i:Int)) (by omega)
   obtain ⟨g,eg,g1,g2⟩:=jh n d ((d.fj % 3).toNat:Nat) (9 * (i:Int) + 1) y (by omega) (by omega) (by omega) (by omega) y0 hn
   obtain ⟨v,ev,v1,v2⟩:=jh n d ((d.fh % 4).toNat:Nat) (9 * (i:Int) + 3) 255 (by omega) (by omega) (by omega) (by omega) (by omega) hn
   obtain ⟨q,eq,q1,q2⟩:=jq n d (i:Int) (by omega) (by omega) hn
   rw [cp (by decide),ab,t1,aN (by omega) (by omega),ab]
   unfold fY
   rw [if_neg (by decide),t2,aN (by omega) (by omega),ab,cp (by decide),ab,show Int.tmod 0 26 = 0 from rfl,aN (by omega) (by omega),ab,aN (by omega) (by omega),ab,e,ab,name_ok i (by omega)]
   simp only [ab]
   rw [aN (by omega) (by omega)]
   simp only [ab,eg]
   rw [aN (by omega) (by omega)]
   simp only [ab,ev,eq]
   rw [eH _ _ (by simp only [leC,leN]; omega)]
   simp only [ab]
   try rw [aN (by omega) (by omega),ab]
   refine hJ _ ⟨by simp only; omega,by simp only; omega,by simp only [List.length_append,leC,leN]; omega,fun j hj=>?_⟩ (by simp only; omega)
   simp only at hj ⊢
   by_cases hji:j < xs.length
   ·rw [List.getElem_append_left hji]; exact a4 j hji
   ·have:j = i:=by simp only [List.length_append,leC,leN] at hj; omega
    subst this
    rw [List.getElem_append_right (by omega)]
    simp only [List.getElem_singleton]
    exact ⟨trivial,rfl,⟨y0,y1⟩,⟨g1,fun x hx=>⟨(g2 x hx).1,(g2 x hx).2.1⟩⟩,⟨v1,fun x hx=>⟨(v2 x hx).1,(v2 x hx).2.2⟩⟩,⟨by rw [q1],q2⟩⟩
  ·exact ⟨_,rfl,by omega,a4⟩
end Go.Proofs.YtkhpmhhnolpcnaaGreatDoor
namespace Go.Proofs.YtkhpmhhnolpcnaaGreatDoor
open Go
theorem mb:(List.range 9).all (fun i=>decide (aP_p FU (nm i) ⟨#[65,66,67,68,69,70,71,72,73,74,75,76,77,78,79,80,81,82,83,84,85,86,87,88,89,90,97,98,99,100,101,102,103,104,105,106,107,108,109,110,111,112,113,114,115,116,117,118,119,120,121,122,48,49,50,51,52,53,54,55,56,57,45,95]⟩ = some ⟨#[]⟩)) = true:=by kernel_rfl
theorem trim_nm {i:Nat} (h:i < 9):aP_p FU (nm i) ⟨#[65,66,67,68,69,70,71,72,73,74,75,76,77,78,79,80,81,82,83,84,85,86,87,88,89,90,97,98,99,100,101,102,103,104,105,106,107,108,109,110,111,112,113,114,115,116,117,118,119,120,121,122,48,49,50,51,52,53,54,55,56,57,45,95]⟩ = some ⟨#[]⟩:=of_decide_eq_true (List.all_eq_true.1 mb i (List.mem_range.2 h))
theorem mr:aP_p FU ⟨#[115,101,97]⟩ ⟨#[65,66,67,68,69,70,71,72,73,74,75,76,77,78,79,80,81,82,83,84,85,86,87,88,89,90,97,98,99,100,101,102,103,104,105,106,107,108,109,110,111,112,113,114,115,116,117,118,119,120,121,122,48,49,50,51,52,53,54,55,56,57,45,95]⟩ = some ⟨#[]⟩:=by kernel_rfl
theorem bq:(1000000:Nat) < FU:=by decide
theorem jL (r:Tf) (u:Tb) {i:Nat} (hi:i < 9) (hG:r.fj <= 6) (hP:r.fh <= 12) (hL:r.fl <= 3) (hn:u.fC = nm i) (h:iu r.fj r.fh r.fl u):bH_p FU r u = some true:=by
 obtain ⟨w,pp,g,v,q⟩:=h
 have hF:=bq
 unfold bH_p jn
 simp only
 rw [if_neg (by rw [w]; decide),hn,trim_nm hi,ab,bK FU _ _ _ g.1 g.2 (by omega),ab,bK FU _ _ _ v.1 (fun x hx=>⟨(v.2 x hx).1,by have:=(v.2 x hx).2; omega⟩) (by omega),ab,bK FU _ _ _ q.1 (fun x hx=>⟨(q.2 x hx).1,by have:=(q.2 x hx).2; omega⟩) (by omega),ab]
 rw [bN FU _ ?_ (by simp only [leC,leN]; omega),ab]
 have e1:¬ nm i = ⟨#[]⟩:=fun e=>by have:=congrArg ByteArray.size e; exact absurd this (by show ¬ (3:Nat) = 0; decide)
 have e2:(nm i).size <= 12:=by show (3:Nat) <= 12; decide
 simp [e1,e2,pp.1]
 omega
theorem kS (r:Tf) (hG:0 <= r.fj/\r.fj <= 6) (hP:0 <= r.fh/\r.fh <= 12) (hL:0 <= r.fl/\r.fl <= 3):bH_p FU r (sea r.fj r.fh r.fl) = some true:=by
 have hF:=bq
 have z:∀ (n:Nat) (x:Int),x ∈ List.replicate n (0:Int) -> 0 <= x/\x <= 0:=fun n x hx=>by rw [(List.mem_replicate.1 hx).2]; omega
 unfold bH_p jn sea
 simp only
 rw [if_pos trivial,mr,ab,bK FU _ _ _ (by rw [List.length_replicate]; omega) (z _) (by rw [List.length_replicate]; omega),ab,bK FU _ _ ((0:Nat):Int) (by rw [List.length_replicate]; omega) (z _) (by rw [List.length_replicate]; omega),ab,bK FU _ _ ((0:Nat):Int) (by rw [List.length_replicate]; omega) (z _) (by rw [List.length_replicate]; omega),ab]
 rw [bN FU _ ?_ (by simp only [leC,leN]; omega),ab]
 have e1:¬ (⟨#[115,101,97]⟩:ByteArray) = ⟨#[]⟩:=fun e=>by have:=congrArg ByteArray.size e; exact absurd this (by show ¬ (3:Nat) = 0; decide)
 have e2:(⟨#[115,101,97]⟩:ByteArray).size <= 12:=by show (3:Nat) <= 12; decide
 simp [e1,e2]
theorem RollOk.unit {r:Tf} {us:List Tb} (h:RollOk r us) {j:Nat} (hj:j < r.fu.length):(∃ h2:j < us.length,r.fu[j] = us[j]) ∨ (j = us.length/\r.fu[j] = sea r.fj r.fh r.fl):=by
 obtain ⟨G,P,L,U⟩:=r
 rcases h.all with e | e
 ·simp only at e hj ⊢
  subst e; exact .inl ⟨hj,rfl⟩
 ·simp only at e hj ⊢
  subst e
  by_cases h2:j < us.length
  ·exact .inl ⟨h2,List.getElem_append_left h2⟩
  ·have h3:j = us.length:=by simp only [List.length_append,leC,leN] at hj; omega
   subst h3
   exact .inr ⟨rfl,by rw [List.getElem_append_right (by omega)]; simp⟩
theorem RollOk.size {r:Tf} {us:List Tb} (h:RollOk r us):us.length <= r.fu.length/\r.fu.length <= us.length + 1:=by
 rcases h.all with e | e <;> rw [e] <;> simp
theorem ir (r:Tf) (us:List Tb) (h:RollOk r us):aE_p FU r = some 0:=by
 have hF:=bq
 have hs:=h.size
 have hl:=h.len
 have hg:=h.g
 have hp:=h.p
 have hv:=h.l
 unfold aE_p
 rw [bN FU _ ?_ (by simp only [leC,leN]; omega),ab,if_pos rfl]
 ·have hh:=av (B:=aE_l1 FU r) (fun s:Bool × Nat × List (ByteArray × Bool)=>r.fu.length - s.2.1)
   (fun s=>s.2.1 <= r.fu.length/\(s.2.1 <= us.length -> s.1 = false)/\∀ x,ep s.2.2 x ≠ none -> ∃ j,∃ hj:j < r.fu.length,j < s.2.1/\r.fu[j].fC = x) (fun r=>r = .inr ()) ?_ FU (false,0,[]) ⟨by simp,fun _=>rfl,fun x hx=>absurd rfl hx⟩ (by simp only; omega)
  ·obtain ⟨x,e,rfl⟩:=hh
   rw [e]; rfl
  ·rintro ⟨q,i,D⟩ J ⟨a1,a2,a3⟩ hJ
   simp only at a1 a2 a3 hJ
   unfold aE_l1
   simp only
   split
   ·rename_i hi
    have hnone:ep D r.fu[i].fC = none:=by
     rcases hm:ep D r.fu[i].fC with _ | b
     ·rfl
     ·exfalso
      obtain ⟨j,hj,hji,he⟩:=a3 r.fu[i].fC (by rw [hm]; simp)
      rcases h.unit hi with ⟨h2,e2⟩ | ⟨h2,e2⟩ <;> rcases h.unit hj with ⟨h3,e3⟩ | ⟨h3,e3⟩
      ·rw [e2,e3,(h.land i h2).1,(h.land j h3).1] at he
       have:=nm_inj (by omega) (by omega) he; omega
      ·omega
      ·rw [e2,e3,(h.land j h3).1] at he
       exact nm_sea he
      ·omega
    have hmD:az D r.fu[i].fC false = false:=by unfold az; rw [hnone]; rfl
    have next:∀ b,(i + 1 <= us.length -> b = false) -> ∃ x,J (b,i + 1,aX D r.fu[i].fC true) = some x/\x = .inr ():=fun b hb=>by
     refine hJ (b,i + 1,aX D r.fu[i].fC true) ⟨hi,hb,fun x hx=>?_⟩ (by simp only; omega)
     simp only at hx ⊢
     rw [dV] at hx
     by_cases hx2:x = r.fu[i].fC
     ·exact ⟨i,hi,by omega,hx2.symm⟩
     ·rw [if_neg hx2] at hx
      obtain ⟨j,hj,hji,he⟩:=a3 x hx
      exact ⟨j,hj,by omega,he⟩
    rw [geE hi,ab]
    rcases h.unit hi with ⟨h2,e2⟩ | ⟨h2,e2⟩
    ·have hu:=h.land i h2
     have hw:r.fu[i].fv = false:=by rw [e2]; exact hu.2.1
     have hq:q = false:=a2 (by omega)
     have hr:bH_p FU r r.fu[i] = some true:=by rw [e2]; exact jL r us[i] (by omega) (by omega) (by omega) (by omega) hu.1 hu.2
     rw [hr,ab,hw,if_neg (by decide),hmD,hq]
     by_cases h0:0 < i
     ·rw [if_pos h0,bN FU _ (by simp) (by simp only [leC,leN]; omega),ab,if_pos rfl]
      exact next false fun _=>rfl
     ·rw [if_neg h0,bN FU _ (by simp) (by simp only [leC,leN]; omega),ab,if_pos rfl]
      exact next false fun _=>rfl
    ·have hw:r.fu[i].fv = true:=by rw [e2]; rfl
     have hr:bH_p FU r r.fu[i] = some true:=by rw [e2]; exact kS r ⟨hg.1,by omega⟩ ⟨hp.1,by omega⟩ ⟨hv.1,by omega⟩
     rw [hr,ab,hw,if_pos rfl,hmD,if_pos (by omega),bN FU _ (by simp) (by simp only [leC,leN]; omega),ab,if_pos rfl]
     exact next true fun h5=>by omega
   ·exact ⟨_,rfl,rfl⟩
 ·simp; omega
def tot (us:List Tb):Int:=(us.map (·.fA)).sum
end Go.Proofs.YtkhpmhhnolpcnaaGreatDoor
namespace Go.Proofs.YtkhpmhhnolpcnaaGreatDoor
open Go
set_option maxRecDepth 8000
theorem gh (l:List Bool) (hn:l.length <= 1000):aU_p FU l = some (decide (∀ b ∈ l,b = true)):=by
 have hF:=bq
 by_cases h:∀ b ∈ l,b = true
 ·rw [decide_eq_true h]; exact bN FU l h (by omega)
 ·rw [decide_eq_false h]
  have hh:=av (B:=au_l1 FU l false) (fun i:Nat=>l.length - i) (fun i=>i <= l.length/\∀ b ∈ l.take i,b = true) (fun r=>∃ j:Nat,r = .inl (j:Int)) ?_ FU 0 ⟨Nat.zero_le _,by simp⟩ (by omega)
  ·obtain ⟨r,e,j,rfl⟩:=hh
   unfold aU_p aW_p au_p
   rw [e]
   show (((some (j:Int)).bind fun y1=>some (decide (0 <= y1))).bind fun y1=>some (!y1)) = some false
   rw [ab,ab,decide_eq_true (by omega)]; rfl
  ·rintro i J ⟨hi,h2⟩ hJ
   unfold au_l1
   simp only
   split
   ·rename_i h0
    rw [geE h0,ab]
    rcases hb:l[i] with _ | _
    ·rw [if_pos (by decide)]; exact ⟨_,rfl,i,rfl⟩
    ·rw [if_neg (by decide)]
     refine hJ (i + 1) ⟨h0,fun b hb2=>?_⟩ (by omega)
     rw [List.take_succ_eq_append_getElem h0,List.mem_append,List.mem_singleton,hb] at hb2
     exact hb2.elim (h2 b) id
   ·rw [List.take_of_length_le (by omega)] at h2
    exact absurd h2 h
def Wi (l:List Int) (a bn:Int):Prop:=(l.length:Int) = a/\∀ x ∈ l,0 <= x/\x <= bn
instance (l:List Int) (a bn:Int):Decidable (Wi l a bn):=by unfold Wi; infer_instance
theorem eb (l:List Int) (a bn:Int) (hn:l.length <= 1000):aG_p FU l a bn = some (decide (Wi l a bn)):=by
 have hF:=bq
 unfold aG_p
 by_cases hl:(l.length:Int) = a
 ·rw [if_pos hl]
  have hh:=av (B:=aG_l1 FU l bn) (fun i:Nat=>l.length - i) (fun i=>i <= l.length/\∀ x ∈ l.take i,0 <= x/\x <= bn) (fun r=>r = .inr ()/\Wi l a bn ∨ r = .inl false/\¬ Wi l a bn) ?_ FU 0 ⟨Nat.zero_le _,by simp⟩ (by omega)
  ·obtain ⟨r,e,hr⟩:=hh
   rw [e]
   rcases hr with ⟨rfl,hr⟩ | ⟨rfl,hr⟩
   ·rw [decide_eq_true hr]; rfl
   ·rw [decide_eq_false hr]; rfl
  ·rintro i J ⟨hi,h2⟩ hJ
   unfold aG_l1 ca_p
   simp only
   split
   ·rename_i h0
    rw [geE h0,ab]
    by_cases h3:0 <= l[i]/\l[i] <= bn
    ·rw [if_neg (by omega),ab,decide_eq_false (by omega),if_neg (by decide)]
     refine hJ (i + 1) ⟨h0,fun x hx=>?_⟩ (by omega)
     rw [List.take_succ_eq_append_getElem h0,List.mem_append,List.mem_singleton] at hx
     rcases hx with hx | rfl
     ·exact h2 x hx
     ·exact h3
    ·have hbad:¬ Wi l a bn:=fun h=>h3 (h.2 _ (List.getElem_mem _))
     by_cases h4:l[i] < 0
     ·rw [if_pos h4,ab,if_pos rfl,decide_eq_true (Nat.zero_le _)]
      exact ⟨_,rfl,.inr ⟨rfl,hbad⟩⟩
     ·rw [if_neg h4,ab,decide_eq_true (by omega),if_pos rfl,decide_eq_true (Nat.zero_le _)]
      exact ⟨_,rfl,.inr ⟨rfl,hbad⟩⟩
   ·rw [List.take_of_length_le (by omega)] at h2
    exact ⟨_,rfl,.inl ⟨rfl,hl,h2⟩⟩
 ·rw [if_neg hl,decide_eq_false fun h=>hl h.1]
def NS:List ByteArray:=⟨#[115,101,97]⟩ :: (List.range 13).map nm
@[reducible] def ltrs:ByteArray:=⟨#[65,66,67,68,69,70,71,72,73,74,75,76,77,78,79,80,81,82,83,84,85,86,87,88,89,90,97,98,99,100,101,102,103,104,105,106,107,108,109,110,111,112,113,114,115,116,117,118,119,120,121,122,48,49,50,51,52,53,54,55,56,57,45,95]⟩
theorem ns_all:NS.all (fun b=>decide (aP_p FU b ltrs = some ⟨#[]⟩) && !decide (b = ⟨#[]⟩) && decide (b.size <= 12)) = true:=by kernel_rfl
theorem ns_ok {b:ByteArray} (h:b ∈ NS):aP_p FU b ltrs = some ⟨#[]⟩/\¬ b = ⟨#[]⟩/\b.size <= 12:=by
 have:=List.all_eq_true.1 ns_all b h
 simpa [Bool.and_eq_true,and_assoc] using this
def UV (r:Tf) (u:Tb):Prop:=0 <= u.fA/\u.fA <= (if u.fv = true then 0 else 1000000000)/\Wi u.fj r.fj u.fA/\Wi u.fVotes r.fh (if u.fv = true then 0 else 1000000000)/\Wi u.fJ r.fl (if u.fv = true then 0 else 63)
instance (r:Tf) (u:Tb):Decidable (UV r u):=by unfold UV; infer_instance
structure Sm4 (u:Tb):Prop where
 n:u.fC ∈ NS
 g:u.fj.length <= 1000
 v:u.fVotes.length <= 1000
 q:u.fJ.length <= 1000
theorem mW (r:Tf) (u:Tb) (h:Sm4 u):bH_p FU r u = some (decide (UV r u)):=by
 obtain ⟨n1,n3,n4⟩:=ns_ok h.n
 have key:∀ (V P:Nat),V = (if u.fv = true then 0 else 1000000000) -> P = (if u.fv = true then 0 else 63) -> ((aP_p FU u.fC ltrs).bind fun y30=>(aG_p FU u.fj r.fj u.fA).bind fun y31=>(aG_p FU u.fVotes r.fh ((V:Nat):Int)).bind fun y32=>(aG_p FU u.fJ r.fl ((P:Nat):Int)).bind fun y33=>(aU_p FU ([(!(decide (u.fC = ⟨#[]⟩))),(decide (u.fC.size <= 12)),(decide (y30 = ⟨#[]⟩)),(decide (0 <= u.fA)),(decide (u.fA <= ((V:Nat):Int))),y31,y32,y33]:List Bool)).bind fun y40=>some y40) = some (decide (UV r u)):=by
  intro V P hV hP
  rw [n1,ab,eb _ _ _ h.g,ab,eb _ _ _ h.v,ab,eb _ _ _ h.q,ab,gh _ (by simp),ab]
  refine congrArg some (decide_eq_decide.2 ?_)
  have eV:((V:Nat):Int) = (if u.fv = true then 0 else 1000000000):=by rw [hV]; split <;> rfl
  have eP:((P:Nat):Int) = (if u.fv = true then 0 else 63):=by rw [hP]; split <;> rfl
  rw [eV,eP]
  unfold UV
  simp only [List.mem_cons,List.not_mem_nil,or_false,forall_eq_or_imp,forall_eq,Bool.not_eq_true', decide_eq_false_iff_not,decide_eq_true_eq]
  constructor
  ·rintro ⟨_,_,_,a,b,c,d,e⟩; exact ⟨a,b,c,d,e⟩
  ·rintro ⟨a,b,c,d,e⟩; exact ⟨n3,n4,trivial,a,b,c,d,e⟩
 unfold bH_p jn
 simp only
 by_cases hw:u.fv = true
 ·rw [if_pos hw]; exact key 0 0 (by rw [if_pos hw]) (by rw [if_pos hw])
 ·rw [if_neg hw]; exact key 1000000000 63 (by rw [if_neg hw]) (by rw [if_neg hw])
structure RV (r:Tf):Prop where
 g:0 <= r.fj/\r.fj <= 6
 p:0 <= r.fh/\r.fh <= 12
 l:0 <= r.fl/\r.fl <= 3
 n:1 <= r.fu.length/\r.fu.length <= 64
 u:∀ i (h:i < r.fu.length),UV r r.fu[i]
 nm:∀ i (h:i < r.fu.length) j (h' : j < i),r.fu[j].fC ≠ r.fu[i].fC
 w:∀ i (h:i < r.fu.length) j (h' : j < i),r.fu[j].fv = true -> r.fu[i].fv = true
 z:∀ h:0 < r.fu.length,r.fu[0].fv = false
open Classical in
theorem dN (r:Tf) (h:∀ u ∈ r.fu,Sm4 u):aE_p FU r = some (if RV r then 0 else 161):=by
 have hF:=bq
 unfold aE_p
 rw [gh _ (by simp),ab]
 by_cases h0:((0 <= r.fj/\r.fj <= 6)/\(0 <= r.fh/\r.fh <= 12)/\(0 <= r.fl/\r.fl <= 3)/\1 <= r.fu.length/\r.fu.length <= 64)
 ·rw [if_pos]
  ·have hh:=av (B:=aE_l1 FU r) (fun s:Bool × Nat × List (ByteArray × Bool)=>r.fu.length - s.2.1)
    (fun s=>s.2.1 <= r.fu.length/\(s.2.1 = 0 -> s.1 = false)/\(∀ h:0 < s.2.1,∀ h' : s.2.1 - 1 < r.fu.length,s.1 = r.fu[s.2.1 - 1].fv)/\(∀ x,az s.2.2 x false = true ↔ ∃ j,∃ hj:j < r.fu.length,j < s.2.1/\r.fu[j].fC = x)/\
     (∀ i (h:i < r.fu.length),i < s.2.1 -> UV r r.fu[i])/\(∀ i (h:i < r.fu.length) j (h' : j < i),i < s.2.1 -> r.fu[j].fC ≠ r.fu[i].fC)/\(∀ i (h:i < r.fu.length) j (h' : j < i),i < s.2.1 -> r.fu[j].fv = true -> r.fu[i].fv = true)/\(∀ h:0 < r.fu.length,0 < s.2.1 -> r.fu[0].fv = false))
    (fun y=>y = .inr ()/\RV r ∨ y = .inl 161/\¬ RV r) ?_ FU (false,0,[]) ⟨Nat.zero_le _,fun _=>rfl,fun h=>absurd h (by simp),fun x=>⟨fun hx=>by simp [az,ep] at hx,fun ⟨j,_,hj,_⟩=>by simp at hj⟩,fun i _ hi=>by simp at hi,fun i _ j _ hi=>by simp at hi,fun i _ j _ hi=>by simp at hi,fun _ hi=>by simp at hi⟩ (by simp only; omega)
   ·obtain ⟨y,e,hy⟩:=hh
    rw [e]
    rcases hy with ⟨rfl,hv⟩ | ⟨rfl,hv⟩
    ·rw [if_pos hv]; rfl
    ·rw [if_neg hv]; rfl
   ·rintro ⟨q,i,D⟩ J ⟨a1,a2,a3,a4,a5,a6,a7,a8⟩ hJ
    simp only at a1 a2 a3 a4 a5 a6 a7 a8 hJ
    unfold aE_l1
    simp only
    by_cases hi:i < r.fu.length
    ·rw [if_pos hi,geE hi,ab,mW r _ (h _ (List.getElem_mem _)),ab]
     -- what has to hold of this unit
     have good:UV r r.fu[i] -> az D r.fu[i].fC false = false -> (q = true -> r.fu[i].fv = true) -> (i = 0 -> r.fu[i].fv = false) -> ∃ y,J (r.fu[i].fv,i + 1,aX D r.fu[i].fC true) = some y/\(y = .inr ()/\RV r ∨ y = .inl 161/\¬ RV r):=by
      intro g1 g2 g3 g4
      have gn:∀ j (hj:j < i),r.fu[j].fC ≠ r.fu[i].fC:=fun j hj e=>by
       have:=(a4 r.fu[i].fC).2 ⟨j,by omega,hj,e⟩
       rw [g2] at this; cases this
      have gw:∀ j (hj:j < i),r.fu[j].fv = true -> r.fu[i].fv = true:=fun j hj hw=>by
       refine g3 ?_
       rw [a3 (by omega) (by omega)]
       by_cases e:j = i - 1
       ·subst e; exact hw
       ·exact a7 (i - 1) (by omega) j (by omega) (by omega) hw
      refine hJ _ ⟨hi,fun e=>absurd e (by simp),fun _ h' =>rfl,fun x=>?_,fun k hk hki=>?_,fun k hk j hj hki=>?_,fun k hk j hj hki=>?_,fun hk _=>?_⟩ (by simp only; omega)
      ·simp only
       unfold az
       rw [dV]
       have:=a4 x
       unfold az at this
       by_cases e:x = r.fu[i].fC
       ·rw [if_pos e]
        exact ⟨fun _=>⟨i,hi,by omega,e.symm⟩,fun _=>rfl⟩
       ·rw [if_neg e,this]
        constructor
        ·rintro ⟨j,hj,hji,ej⟩; exact ⟨j,hj,by omega,ej⟩
        ·rintro ⟨j,hj,hji,ej⟩
         by_cases e2:j = i
         ·subst e2; exact absurd ej.symm e
         ·exact ⟨j,hj,by omega,ej⟩
      ·by_cases e:k = i
       ·subst e; exact g1
       ·exact a5 k hk (by simp only at hki; omega)
      ·by_cases e:k = i
       ·subst e; exact gn j hj
       ·exact a6 k hk j hj (by simp only at hki; omega)
      ·by_cases e:k = i
       ·subst e; exact gw j hj
       ·exact a7 k hk j hj (by simp only at hki; omega)
      ·by_cases e:i = 0
       ·subst e; exact g4 rfl
       ·exact a8 hk (by omega)
     have bad:(¬ UV r r.fu[i] ∨ az D r.fu[i].fC false = true ∨ (q = true/\r.fu[i].fv = false) ∨ (i = 0/\r.fu[i].fv = true)) -> ¬ RV r:=by
      rintro hb hv
      rcases hb with hb | hb | ⟨hb,hb2⟩ | ⟨hb,hb2⟩
      ·exact hb (hv.u i hi)
      ·obtain ⟨j,hj,hji,e⟩:=(a4 _).1 hb
       exact hv.nm i hi j hji e
      ·by_cases e:i = 0
       ·rw [a2 e] at hb; cases hb
       ·have:=hv.w i hi (i - 1) (by omega) (by rw [<- a3 (by omega) (by omega)]; exact hb)
        rw [hb2] at this; cases this
      ·subst hb
       have:=hv.z hi
       rw [hb2] at this; cases this
     have fin:∀ l:List Bool,l.length <= 1000 -> ((∀ b ∈ l,b = true) ↔ (UV r r.fu[i]/\az D r.fu[i].fC false = false/\(q = true -> r.fu[i].fv = true)/\(i = 0 -> r.fu[i].fv = false))) -> ∃ y,((aU_p FU l).bind fun y=>(if y = true then J (r.fu[i].fv,i + 1,aX D r.fu[i].fC true) else some (.inl (161:Int)))) = some y/\(y = .inr ()/\RV r ∨ y = .inl 161/\¬ RV r):=by
      intro l hl hiff
      rw [gh l hl,ab]
      by_cases hq:∀ b ∈ l,b = true
      ·rw [if_pos (decide_eq_true hq)]
       obtain ⟨g1,g2,g3,g4⟩:=hiff.1 hq
       exact good g1 g2 g3 g4
      ·rw [if_neg (by simpa using hq)]
       refine ⟨_,rfl,.inr ⟨rfl,bad ?_⟩⟩
       refine Classical.byContradiction fun hc=>hq (hiff.2 ?_)
       simp only [not_or,not_and,Bool.not_eq_true,Classical.not_not] at hc
       obtain ⟨c1,c2,c3,c4⟩:=hc
       refine ⟨c1,c2,fun e=>?_,fun e=>?_⟩
       ·rcases hww:r.fu[i].fv with _ | _
        ·exact absurd hww (by simpa using c3 e)
        ·rfl
       ·simpa using c4 e
     rcases hw:r.fu[i].fv with _ | _
     ·rw [if_neg (by decide)]
      by_cases hp:0 < i
      ·rw [if_pos hp]
       have:=fin [decide (UV r r.fu[i]),!(az D r.fu[i].fC false),!q,true] (by simp) (by
        rw [hw]
        simp only [List.mem_cons,List.not_mem_nil,or_false,forall_eq_or_imp,forall_eq,Bool.not_eq_true', decide_eq_true_eq]
        constructor
        ·rintro ⟨b1,b2,b3,_⟩; exact ⟨b1,b2,fun e=>(by rw [e] at b3; cases b3),fun _=>trivial⟩
        ·rintro ⟨b1,b2,b3,_⟩; exact ⟨b1,b2,by rcases q with _ | _; rfl; exact absurd (b3 rfl) (by decide),trivial⟩)
       rw [hw] at this
       exact this
      ·rw [if_neg hp]
       have:=fin [decide (UV r r.fu[i]),!(az D r.fu[i].fC false),!q,!r.fu[i].fv] (by simp) (by
        rw [hw]
        simp only [List.mem_cons,List.not_mem_nil,or_false,forall_eq_or_imp,forall_eq,Bool.not_eq_true', decide_eq_true_eq]
        constructor
        ·rintro ⟨b1,b2,b3,_⟩; exact ⟨b1,b2,fun e=>(by rw [e] at b3; cases b3),fun _=>trivial⟩
        ·rintro ⟨b1,b2,b3,_⟩; exact ⟨b1,b2,by rcases q with _ | _; rfl; exact absurd (b3 rfl) (by decide),trivial⟩)
       rw [hw] at this
       exact this
     ·rw [if_pos rfl]
      by_cases hp:0 < i
      ·rw [if_pos hp]
       have:=fin [decide (UV r r.fu[i]),!(az D r.fu[i].fC false),true,true] (by simp) (by
        rw [hw]
        simp only [List.mem_cons,List.not_mem_nil,or_false,forall_eq_or_imp,forall_eq,Bool.not_eq_true', decide_eq_true_eq]
        constructor
        ·rintro ⟨b1,b2,_,_⟩; exact ⟨b1,b2,fun _=>trivial,fun e=>by omega⟩
        ·rintro ⟨b1,b2,_,_⟩; exact ⟨b1,b2,trivial,trivial⟩)
       rw [hw] at this
       exact this
      ·rw [if_neg hp]
       have:=fin [decide (UV r r.fu[i]),!(az D r.fu[i].fC false),true,!r.fu[i].fv] (by simp) (by
        rw [hw]
        simp only [List.mem_cons,List.not_mem_nil,or_false,forall_eq_or_imp,forall_eq,Bool.not_eq_true', decide_eq_true_eq]
        constructor
        ·rintro ⟨_,_,_,b4⟩; cases b4
        ·rintro ⟨_,_,_,b4⟩; exact absurd (b4 (by omega)) (by decide))
       rw [hw] at this
       exact this
    ·rw [if_neg hi]
     refine ⟨_,rfl,.inl ⟨rfl,h0.1,h0.2.1,h0.2.2.1,h0.2.2.2,fun i hi2=>a5 i hi2 (by omega),fun i hi2 j hj=>a6 i hi2 j hj (by omega),fun i hi2 j hj=>a7 i hi2 j hj (by omega),fun hi2=>a8 hi2 (by omega)⟩⟩
  ·simp only [List.mem_cons,List.not_mem_nil,or_false,forall_eq_or_imp,forall_eq,decide_eq_true_eq]
   omega
 ·rw [if_neg,if_neg fun hv:RV r=>h0 ⟨hv.g,hv.p,hv.l,hv.n⟩]
  simp only [List.mem_cons,List.not_mem_nil,or_false,forall_eq_or_imp,forall_eq,decide_eq_true_eq]
  omega
end Go.Proofs.YtkhpmhhnolpcnaaGreatDoor
namespace Go.Proofs.YtkhpmhhnolpcnaaGreatDoor
open Go
theorem ei {κ ν:Type} [DecidableEq κ]:∀ (D:List (κ × ν)) (k:κ) (v:ν),(aX D k v).map Prod.fst = if k ∈ D.map Prod.fst then D.map Prod.fst else D.map Prod.fst ++ [k]
 | [],k,v=>by simp [aX]
 | e :: D,k,v=>by
  unfold aX
  by_cases h:k = e.1
  ·rw [if_pos h]; simp [h]
  ·rw [if_neg h]
   simp only [List.map_cons,ei D k v,List.mem_cons]
   by_cases h2:k ∈ D.map Prod.fst
   ·simp [h2]
   ·rw [if_neg h2,if_neg (by rintro (h3 | h3); exact h h3; exact h2 h3)]; rfl
theorem lA {l:List Int} {k:Int} (hk:0 <= k) (hn:l.Nodup) (h:∀ x,x ∈ l ↔ 0 <= x/\x < k):(l.length:Int) = k:=by
 have h2:((List.range k.toNat).map fun i:Nat=>(i:Int)).Nodup:=by
  unfold List.Nodup
  exact List.Pairwise.map _ (fun a b hab=>by omega) List.nodup_range
 have h3:l.length <= ((List.range k.toNat).map fun i:Nat=>(i:Int)).length:=hn.length_le_of_subset fun x hx=>List.mem_map.2 ⟨x.toNat,List.mem_range.2 (by have:=(h x).1 hx; omega),by have:=(h x).1 hx; omega⟩
 have h4:((List.range k.toNat).map fun i:Nat=>(i:Int)).length <= l.length:=h2.length_le_of_subset fun x hx=>by
  obtain ⟨i,hi,rfl⟩:=List.mem_map.1 hx
  have:=List.mem_range.1 hi
  exact (h _).2 ⟨by omega,by omega⟩
 rw [List.length_map,List.length_range] at h3 h4
 omega
end Go.Proofs.YtkhpmhhnolpcnaaGreatDoor
namespace Go.Proofs.YtkhpmhhnolpcnaaGreatDoor
open Go
set_option maxRecDepth 8000
structure Lnd (r:Tf) (us:List Tb):Prop where
 all:∃ ws,r.fu = us ++ ws/\∀ u ∈ ws,u.fv = true
 w:∀ u ∈ us,u.fv = false
theorem Lnd.at {r:Tf} {us:List Tb} (h:Lnd r us) {i:Nat} (hi:i < r.fu.length):(∃ h2:i < us.length,r.fu[i] = us[i]/\r.fu[i].fv = false) ∨ us.length <= i/\r.fu[i].fv = true:=by
 obtain ⟨ws,e,hw⟩:=h.all
 have hz:r.fu.length = us.length + ws.length:=by rw [e,List.length_append]
 by_cases h2:i < us.length
 ·have e0:r.fu[i] = us[i]:=by simp only [e]; exact List.getElem_append_left h2
  exact .inl ⟨h2,e0,by rw [e0]; exact h.w _ (List.getElem_mem _)⟩
 ·refine .inr ⟨by omega,hw _ ?_⟩
  have:r.fu[i] = ws[i - us.length]'(by omega):=by simp only [e]; exact List.getElem_append_right (by omega)
  rw [this]; exact List.getElem_mem _
theorem Lnd.le {r:Tf} {us:List Tb} (h:Lnd r us):us.length <= r.fu.length:=by
 obtain ⟨ws,e,_⟩:=h.all
 rw [e,List.length_append]; omega
def dJ (p:List Int) (n:Nat) (k:Int):Prop:=p.length = n/\bc p k
theorem gm (e:Int):aj_p FU false e = some (.ok ()):=rfl
theorem iD:aj_p FU true 220 = some (.error ⟨220⟩):=rfl
theorem iZ:aj_p FU true 2 = some (.error ⟨2⟩):=rfl
theorem iX {l:List Int} {k:Int} (hk:0 <= k) (hn:l.Nodup) (h:∀ x ∈ l,0 <= x/\x < k) (hl:(l.length:Int) = k):∀ d,0 <= d -> d < k -> d ∈ l:=fun d d0 d1=>by
 refine Classical.byContradiction fun hd=>?_
 have h2:((List.range k.toNat).map fun i:Nat=>(i:Int)).Nodup:=by
  unfold List.Nodup
  exact List.Pairwise.map _ (fun a b hab=>by omega) List.nodup_range
 have h3:(d :: l).length <= ((List.range k.toNat).map fun i:Nat=>(i:Int)).length:=(List.nodup_cons.2 ⟨hd,hn⟩).length_le_of_subset fun x hx=>by
  have hx2:0 <= x/\x < k:=by
   rcases List.mem_cons.1 hx with rfl | hx
   ·exact ⟨d0,d1⟩
   ·exact h x hx
  exact List.mem_map.2 ⟨x.toNat,List.mem_range.2 (by omega),by omega⟩
 rw [leC,List.length_map,List.length_range] at h3
 omega
theorem used_eq (r:Tf) (p:List Int) (k:Int) (hl:p.length <= 1000):∃ y,ao (ai_l1 FU p ⟨r,k⟩) FU (0,[]) = some y/\((∃ D:List (Int × Bool),y = .inr D/\(∀ x ∈ p,0 <= x/\x < k)/\(D.map Prod.fst).Nodup/\∀ x,x ∈ D.map Prod.fst ↔ x ∈ p) ∨ y = .inl (.error ⟨220⟩)/\¬ ∀ x ∈ p,0 <= x/\x < k):=by
 have hF:=bq
 refine av (B:=ai_l1 FU p ⟨r,k⟩) (fun s:Nat × List (Int × Bool)=>p.length - s.1) (fun s=>s.1 <= p.length/\(∀ x ∈ p.take s.1,0 <= x/\x < k)/\(s.2.map Prod.fst).Nodup/\∀ x,x ∈ s.2.map Prod.fst ↔ x ∈ p.take s.1) _ ?_ FU (0,[]) ⟨by simp,by simp,by simp,by simp⟩ (by simp only; omega)
 rintro ⟨i,D⟩ J ⟨a1,a0,a2,a3⟩ hJ
 simp only at a0 a1 a2 a3 hJ
 unfold ai_l1
 simp only
 by_cases hi:i < p.length
 ·rw [if_pos hi,geE hi,ab]
  by_cases hx:0 <= p[i]/\p[i] < k
  ·rw [if_neg (by omega),decide_eq_false (by omega),gm, ab]
   unfold exc
   simp only
   refine hJ _ ⟨hi,fun x hx2=>?_,?_,fun x=>?_⟩ (by simp only; omega)
   ·simp only at hx2
    rw [List.take_succ_eq_append_getElem hi,List.mem_append,List.mem_singleton] at hx2
    rcases hx2 with hx2 | rfl
    ·exact a0 x hx2
    ·exact hx
   ·simp only
    rw [ei]
    split
    ·exact a2
    ·rename_i h5
     rw [List.nodup_append]
     exact ⟨a2,by simp,fun a ha b hb=>by rw [List.mem_singleton.1 hb]; exact fun e=>h5 (e ▸ ha)⟩
   ·simp only
    rw [ei,<- List.take_append_getElem hi,List.mem_append,<- a3 x,List.mem_singleton]
    split
    ·rename_i h5
     constructor
     ·exact .inl
     ·rintro (h6 | rfl)
      ·exact h6
      ·exact h5
    ·rw [List.mem_append,List.mem_singleton]
  ·have hbad:¬ ∀ x ∈ p,0 <= x/\x < k:=fun h=>hx (h _ (List.getElem_mem _))
   by_cases h1:p[i] < 0
   ·rw [if_pos h1,iD,ab]
    exact ⟨_,rfl,.inr ⟨rfl,hbad⟩⟩
   ·rw [if_neg h1,decide_eq_true (by omega),iD,ab]
    exact ⟨_,rfl,.inr ⟨rfl,hbad⟩⟩
 ·rw [if_neg hi]
  rw [List.take_of_length_le (by omega)] at a0 a3
  exact ⟨_,rfl,.inl ⟨D,rfl,a0,a2,a3⟩⟩
open Classical in
theorem kT (r:Tf) (p:List Int) (k:Int) (hk:1 <= k) (hl:p.length <= 1000):(thn (ao (ai_l1 FU p ⟨r,k⟩) FU (0,[])) (fun D443=>(aj_p FU (!(decide (((D443.length:Nat):Int) = k))) (220:Int)).bind fun y497=>exc y497 (fun _=>some (Except.ok ())) (fun e498=>some (.error e498)))) = some (if bc p k then .ok () else .error ⟨220⟩):=by
 obtain ⟨y,e,hy⟩:=used_eq r p k hl
 rw [e]
 rcases hy with ⟨D,rfl,h1,h2,h3⟩ | ⟨rfl,h1⟩
 ·unfold thn
  simp only
  by_cases hD:(D.length:Int) = k
  ·rw [decide_eq_true hD]
   have hp:bc p k:=⟨h1,fun d d0 d1=>(h3 d).1 (iX (by omega) h2 (fun x hx=>h1 x ((h3 x).1 hx)) (by rw [List.length_map]; exact hD) d d0 d1)⟩
   rw [if_pos hp]; rfl
  ·rw [decide_eq_false hD]
   have hp:¬ bc p k:=fun hp=>hD (by
    have:=lA (l:=D.map Prod.fst) (k:=k) (by omega) h2 fun x=>by
     rw [h3 x]; exact ⟨fun hx=>hp.1 x hx,fun hx=>hp.2 x hx.1 hx.2⟩
    rwa [List.length_map] at this)
   rw [if_neg hp]; rfl
 ·have hp:¬ bc p k:=fun hp=>h1 hp.1
  rw [if_neg hp]; rfl
open Classical in
theorem mz {r:Tf} {us:List Tb} (h:Lnd r us) (hn:r.fu.length <= 1000) (p:List Int) (k:Int) (hk:1 <= k) (hl:p.length <= 1000):ai_p FU ⟨r,k⟩ p = some (if dJ p us.length k then .ok () else .error ⟨220⟩):=by
 have hF:=bq
 have hle:=h.le
 have lab:=kT r p k hk hl
 have tailOk:∀ z:Int,z = us.length -> ((aj_p FU (!(decide (((p.length:Nat):Int) = z))) (220:Int)).bind fun y182=>exc y182 (fun _=>thn (ao (ai_l1 FU p ⟨r,k⟩) FU (0,([]:List (Int × Bool)))) (fun D265=>(aj_p FU (!(decide (((D265.length:Nat):Int) = k))) (220:Int)).bind fun y319=>exc y319 (fun _=>some (Except.ok ())) (fun e320=>some (.error e320)))) (fun e183=>some (.error e183))) = some (if dJ p us.length k then .ok () else .error ⟨220⟩):=by
  rintro z rfl
  by_cases hz:((p.length:Nat):Int) = us.length
  ·rw [decide_eq_true hz]
   simp only [Bool.not_true]
   rw [gm, ab]
   unfold exc
   simp only
   refine lab.trans ?_
   by_cases hp:bc p k
   ·rw [if_pos hp,if_pos ⟨by omega,hp⟩]
   ·rw [if_neg hp,if_neg fun hf:dJ p us.length k=>hp hf.2]
  ·rw [decide_eq_false hz,if_neg fun hf:dJ p us.length k=>hz (by rw [hf.1])]
   rfl
 have hh:=av (B:=ai_l3 FU ⟨r,k⟩ p) (fun s:Nat × Int=>r.fu.length - s.1) (fun s=>s.1 <= us.length/\s.2 = s.1) (fun y=>y = .inl (if dJ p us.length k then .ok () else .error ⟨220⟩) ∨ y = .inr (us.length:Int)) ?_ FU (0,0) ⟨by simp,by simp⟩ (by simp only; omega)
 ·obtain ⟨y,e,hy⟩:=hh
  unfold ai_p
  rw [e]
  rcases hy with rfl | rfl
  ·rfl
  ·exact tailOk _ rfl
 ·rintro ⟨i,z⟩ J ⟨a1,a2⟩ hJ
  simp only at a1 a2 hJ
  subst a2
  unfold ai_l3
  simp only
  by_cases hi:i < r.fu.length
  ·rw [if_pos hi,geE hi,ab]
   rcases h.at hi with ⟨h2,_,hw⟩ | ⟨h2,hw⟩
   ·rw [if_neg (by rw [hw]; decide),aN (by omega) (by omega),ab]
    exact hJ _ ⟨by simp only; omega,by simp only; omega⟩ (by simp only; omega)
   ·rw [if_pos hw]
    refine ⟨.inl (if dJ p us.length k then .ok () else .error ⟨220⟩),?_,.inl rfl⟩
    exact congrArg (Option.map _) (tailOk (i:Int) (by omega))
  ·rw [if_neg hi]
   exact ⟨_,rfl,.inr (by rw [show i = us.length by omega])⟩
end Go.Proofs.YtkhpmhhnolpcnaaGreatDoor
namespace Go.Proofs.YtkhpmhhnolpcnaaGreatDoor
open Go
set_option maxRecDepth 8000
structure D0 (r:Tf):Prop where
 n:r.fu.length <= 13
 s:∀ u ∈ r.fu,Sm4 u
 k:∀ u ∈ r.fu,u.fVotes.length <= 100/\u.fj.length <= 100
 q:∀ u ∈ r.fu,∀ x ∈ u.fJ,0 <= x/\x <= 2
theorem nm_ns {i:Nat} (h:i < 13):nm i ∈ NS:=List.mem_cons_of_mem _ (List.mem_map.2 ⟨i,List.mem_range.2 h,rfl⟩)
theorem idxK {α:Type} {xs:List α} {j:Nat} (h:j < xs.length):idx xs (j:Int) = some xs[j]:=bf (i:=(j:Int)) (by omega) h
structure Dn (r:Tf):Prop where
 n:r.fu.length <= 13
 s:∀ u ∈ r.fu,Sm4 u
end Go.Proofs.YtkhpmhhnolpcnaaGreatDoor
namespace Go.Proofs.YtkhpmhhnolpcnaaGreatDoor
open Go
theorem dF:∀ {xs:List UInt64} {j:Nat} (v:UInt64) (h:j < xs.length),val (xs.set j v) + 18446744073709551616 ^ j * xs[j].toNat = val xs + 18446744073709551616 ^ j * v.toNat
 | x :: xs,0,v,_=>by simp only [List.set_cons_zero,val,List.getElem_cons_zero,Nat.pow_zero]; omega
 | x :: xs,j + 1,v,h=>by
  have:=dF (xs:=xs) (j:=j) v (by simpa using h)
  simp only [List.set_cons_succ,val,List.getElem_cons_succ,Nat.pow_succ]
  grind
theorem jU {a b:UInt64} {s:Nat} (ha:a.toNat < 2 ^ s) (hb:2 ^ s ∣ b.toNat):(a ||| b).toNat = a.toNat + b.toNat:=by
 obtain ⟨y,e⟩:=hb
 rw [UInt64.toNat_or,e,Nat.or_comm,<- Nat.two_pow_add_eq_or_of_lt ha,Nat.add_comm]
theorem de (w:Nat):18446744073709551616 ^ w = 2 ^ (64 * w):=by
 rw [show (18446744073709551616:Nat) = 2 ^ 64 from rfl,<- Nat.pow_mul]
theorem dE (x:UInt64) {s:Nat} (hs:s < 64):(shlU x s).toNat = x.toNat * 2 ^ s % 18446744073709551616:=by
 unfold shlU; rw [if_pos hs,UInt64.toNat_ofNat']
theorem bI (x:UInt64) {s:Nat} (hs:s < 64):(shrU x s).toNat = x.toNat / 2 ^ s:=by
 unfold shrU; rw [if_pos hs,UInt64.toNat_ofNat']
 exact Nat.mod_eq_of_lt (Nat.lt_of_le_of_lt (Nat.div_le_self _ _) x.toNat_lt)
theorem split64 {s:Nat} (hs:s <= 64):(18446744073709551616:Nat) = 2 ^ (64 - s) * 2 ^ s:=by
 rw [<- Nat.pow_add,show 64 - s + s = 64 by omega]
theorem gL (x:UInt64) {s:Nat} (h0:0 < s) (hs:s < 64):(shlU x s).toNat + 18446744073709551616 * (shrU x (64 - s)).toNat = x.toNat * 2 ^ s/\2 ^ s ∣ (shlU x s).toNat/\(shrU x (64 - s)).toNat < 2 ^ s:=by
 have e:=split64 (s:=s) (by omega)
 have e1:x.toNat * 2 ^ s / 18446744073709551616 = x.toNat / 2 ^ (64 - s):=by
  rw [e]; exact Nat.mul_div_mul_right _ _ (Nat.two_pow_pos s)
 have e2:x.toNat * 2 ^ s % 18446744073709551616 = x.toNat % 2 ^ (64 - s) * 2 ^ s:=by
  rw [e]; exact Nat.mul_mod_mul_right ..
 rw [dE x hs,bI x (by omega)]
 refine ⟨?_,?_,?_⟩
 ·rw [<- e1]; exact Nat.mod_add_div ..
 ·rw [e2]; exact Nat.dvd_mul_left ..
 ·refine Nat.div_lt_of_lt_mul ?_
  rw [<- e]; exact x.toNat_lt
theorem dO (x:UInt64):shlU x 0 = x:=by
 refine UInt64.toNat_inj.1 ?_
 rw [dE x (by decide),Nat.pow_zero,Nat.mul_one]
 exact Nat.mod_eq_of_lt x.toNat_lt
theorem dB (x:UInt64):(0:UInt64) ||| x = x:=by
 refine UInt64.toNat_inj.1 ?_
 rw [UInt64.toNat_or]; simp
theorem bit_add {q:List UInt64} {k:Nat} (h:k / 64 < q.length) (hd:2 ^ (k + 1) ∣ val q) (hb:(shlU 1 (k % 64)).toNat = 2 ^ (k % 64)):val (q.set (k / 64) (q[k / 64] ||| shlU 1 (k % 64))) = val q + 2 ^ k:=by
 have hs:=cP q h
 have hl:=cg (q.take (k / 64))
 rw [List.length_take,Nat.min_eq_left (by omega)] at hl
 have hk:k = 64 * (k / 64) + k % 64:=by omega
 have hm:k % 64 < 64:=by omega
 have e1:2 ^ (k + 1) = 18446744073709551616 ^ (k / 64) * 2 ^ (k % 64 + 1):=by rw [de,<- Nat.pow_add]; congr 1; omega
 have e2:(18446744073709551616:Nat) = 2 ^ (k % 64 + 1) * 2 ^ (63 - k % 64):=by rw [<- Nat.pow_add,show k % 64 + 1 + (63 - k % 64) = 64 by omega]
 have h0:val (q.take (k / 64)) = 0:=by
  have h1:18446744073709551616 ^ (k / 64) ∣ val q:=Nat.dvd_trans ⟨_,e1⟩ hd
  rw [hs,Nat.pow_succ,Nat.mul_assoc,Nat.add_assoc,<- Nat.mul_add] at h1
  have h2:=(Nat.dvd_add_left (Nat.dvd_mul_right ..)).1 h1
  exact Nat.eq_zero_of_dvd_of_lt h2 hl
 have h3:2 ^ (k % 64 + 1) ∣ (q[k / 64]).toNat:=by
  rw [e1,hs,h0,Nat.zero_add,show (18446744073709551616:Nat) ^ (k / 64 + 1) = 18446744073709551616 ^ (k / 64) * 18446744073709551616 from Nat.pow_succ ..,Nat.mul_assoc (18446744073709551616 ^ (k / 64)) 18446744073709551616,<- Nat.mul_add] at hd
  have h4:=Nat.dvd_of_mul_dvd_mul_left (Nat.pow_pos (by decide)) hd
  have h5:2 ^ (k % 64 + 1) ∣ 18446744073709551616 * val (q.drop (k / 64 + 1)):=Nat.dvd_trans ⟨_,e2⟩ (Nat.dvd_mul_right ..)
  exact (Nat.dvd_add_left h5).1 h4
 have h6:(q[k / 64] ||| shlU 1 (k % 64)).toNat = 2 ^ (k % 64) + (q[k / 64]).toNat:=by
  rw [UInt64.or_comm]
  have:=jU (a:=shlU 1 (k % 64)) (b:=q[k / 64]) (s:=k % 64 + 1) (by rw [hb]; exact Nat.pow_lt_pow_right (by decide) (by omega)) h3
  rw [this,hb]
 have h7:=dF (q[k / 64] ||| shlU 1 (k % 64)) h
 have e3:2 ^ k = 18446744073709551616 ^ (k / 64) * 2 ^ (k % 64):=by rw [de,<- Nat.pow_add]; congr 1
 rw [h6,Nat.mul_add,<- e3] at h7
 omega
theorem shl_one {s:Nat} (hs:s < 64):(shlU 1 s).toNat = 2 ^ s:=by
 rw [dE 1 hs]
 have:2 ^ s < 2 ^ 64:=Nat.pow_lt_pow_right (by decide) hs
 simp only [UInt64.toNat_one,Nat.one_mul]
 exact Nat.mod_eq_of_lt (by omega)
theorem mw {a b q r k:Nat} (h1:a = b * q + r) (h2:r < b * 2 ^ (k + 1)) (h3:2 ^ (k + 1) ∣ q) :
  (b * 2 ^ k <= r -> a = b * (q + 2 ^ k) + (r - b * 2 ^ k)/\r - b * 2 ^ k < b * 2 ^ k/\2 ^ k ∣ q + 2 ^ k)/\(r < b * 2 ^ k -> 2 ^ k ∣ q):=by
 have h4:2 ^ k ∣ q:=Nat.dvd_trans ⟨2,by rw [Nat.pow_succ]⟩ h3
 rw [Nat.pow_succ,<- Nat.mul_assoc] at h2
 refine ⟨fun h=>⟨?_,by omega,Nat.dvd_add h4 (Nat.dvd_refl _)⟩,fun _=>h4⟩
 rw [Nat.mul_add]; omega
def eu (x y:Nat):Nat:=if y = 0 then 0 else (if x < y then 1 else 0) + Nat.log2 (x * y) + 1
theorem eu_step {x y:Nat} (h:y ≠ 0):eu y (x % y) < eu x y:=by
 have hm:x % y < y:=Nat.mod_lt _ (by omega)
 unfold eu
 rw [if_neg h]
 by_cases h0:x % y = 0
 ·rw [if_pos h0]; omega
 ·rw [if_neg h0,if_neg (show ¬ y < x % y by omega)]
  by_cases h1:x < y
  ·rw [if_pos h1,Nat.mod_eq_of_lt h1,Nat.mul_comm y x]; omega
  ·rw [if_neg h1]
   have h2:2 * (x % y) < x ∨ 2 * (x % y) = x:=by
    have h3:=Nat.div_add_mod x y
    have h4:1 <= x / y:=Nat.div_pos (by omega) (by omega)
    have h5:y * 1 <= y * (x / y):=Nat.mul_le_mul_left _ h4
    omega
   have h6:2 * (y * (x % y)) <= x * y:=by
    rw [Nat.mul_comm x y,Nat.mul_left_comm]
    exact Nat.mul_le_mul_left _ (by omega)
   have h7:y * (x % y) ≠ 0:=Nat.mul_ne_zero h h0
   have h8:Nat.log2 (y * (x % y)) + 1 <= Nat.log2 (x * y):=by
    rw [Nat.le_log2 (by omega),Nat.pow_succ]
    have:=Nat.log2_self_le h7
    omega
   omega
theorem eu_le {x y l:Nat} (hx:x < 2 ^ l) (hy:y < 2 ^ l):eu x y <= 2 * l + 2:=by
 unfold eu
 split
 ·omega
 ·rename_i h
  have h1:Nat.log2 (x * y) <= 2 * l:=by
   by_cases h0:x * y = 0
   ·rw [h0]; simp
   ·have:Nat.log2 (x * y) < 2 * l:=by
     rw [Nat.log2_lt h0,Nat.two_mul,Nat.pow_add]
     exact Nat.mul_lt_mul'' hx hy
    omega
  split <;> omega
end Go.Proofs.YtkhpmhhnolpcnaaGreatDoor
namespace Go.Proofs.YtkhpmhhnolpcnaaGreatDoor
open Go
def bln (m:Nat):Nat:=if m = 0 then 0 else Nat.log2 m + 1
theorem iz (m:Nat):m < 2 ^ bln m:=by
 unfold bln
 split
 ·rename_i h; rw [h]; decide
 ·rename_i h; exact Nat.lt_log2_self
theorem gg {m:Nat} (h:m ≠ 0):2 ^ (bln m - 1) <= m:=by
 unfold bln
 rw [if_neg h]
 exact Nat.log2_self_le h
theorem dq {m:Nat} (h:m ≠ 0):1 <= bln m:=by unfold bln; rw [if_neg h]; omega
theorem nb {m l:Nat} (h1:2 ^ l <= m) (h2:m < 2 ^ (l + 1)):bln m = l + 1:=by
 have h0:m ≠ 0:=fun e=>by have:=Nat.two_pow_pos l; omega
 have h3:=iz m
 have h4:=gg h0
 have h5:=dq h0
 have h6:=(Nat.pow_lt_pow_iff_right (by decide:1 < 2)).1 (Nat.lt_of_le_of_lt h1 h3)
 have h7:=(Nat.pow_lt_pow_iff_right (by decide:1 < 2)).1 (Nat.lt_of_le_of_lt h4 h2)
 omega
theorem cO {m s:Nat} (h:2 ^ s <= m):bln m = s + bln (m / 2 ^ s):=by
 have hp:=Nat.two_pow_pos s
 have h0:m / 2 ^ s ≠ 0:=fun e=>by have:=Nat.div_pos h hp; omega
 have h1:=iz (m / 2 ^ s)
 have h2:=gg h0
 have h3:=dq h0
 have e1:2 ^ (s + (bln (m / 2 ^ s) - 1)) <= m:=by
  rw [Nat.pow_add,Nat.mul_comm]
  exact (Nat.le_div_iff_mul_le hp).1 h2
 have e2:m < 2 ^ (s + bln (m / 2 ^ s)):=by
  rw [Nat.pow_add,Nat.mul_comm]
  exact (Nat.div_lt_iff_lt_mul hp).1 h1
 have:=nb (l:=s + (bln (m / 2 ^ s) - 1)) e1 (by rw [show s + (bln (m / 2 ^ s) - 1) + 1 = s + bln (m / 2 ^ s) by omega]; exact e2)
 omega
theorem ci {m l:Nat} (h:m < 2 ^ l):bln m <= l:=by
 by_cases h0:m = 0
 ·subst h0; simp [bln]
 ·have h4:=gg h0
  have h7:=(Nat.pow_lt_pow_iff_right (by decide:1 < 2)).1 (Nat.lt_of_le_of_lt h4 h)
  have:=dq h0
  omega
theorem tab_all:(List.range 256).all (fun v=>decide (cD[v]? = some (UInt8.ofNat (bln v)))) = true:=by kernel_rfl
theorem tab_ok {v:Nat} (h:v < 256):cD[v]? = some (UInt8.ofNat (bln v)):=of_decide_eq_true (List.all_eq_true.1 tab_all v (List.mem_range.2 h))
theorem kq (u:UInt64) (z:Int) (h:u.toNat < 256) (hz:0 <= z/\z <= 64):((cD[(ea u).toNat]?).bind fun z27=>(chk (z + ((z27.toNat:Nat):Int))).bind fun s29=>some s29) = some (z + bln u.toNat):=by
 have hb:=ci (l:=8) (m:=u.toNat) (by omega)
 have e:(ea u).toNat = u.toNat:=by unfold ea; rw [UInt8.toNat_ofNat']; omega
 have e2:(UInt8.ofNat (bln u.toNat)).toNat = bln u.toNat:=by rw [UInt8.toNat_ofNat']; omega
 rw [e,tab_ok h,ab,e2,aN (by omega) (by omega),ab]
theorem lY (n:Nat) (x:UInt64):bX_p n x = some (bln x.toNat:Int):=by
 have hx:=x.toNat_lt
 have k16:∀ (u:UInt64) (z:Int),u.toNat < 65536 -> (0 <= z/\z <= 48) -> ((if (256:UInt64) <= u then (chk (z + 8)).bind fun s31=>((cD[(ea (shrU u 8)).toNat]?).bind fun z27=>(chk (s31 + ((z27.toNat:Nat):Int))).bind fun s29=>some s29) else ((cD[(ea u).toNat]?).bind fun z27=>(chk (z + ((z27.toNat:Nat):Int))).bind fun s29=>some s29))) = some (z + bln u.toNat):=fun u z hu hz=>by
  by_cases c:(256:UInt64) <= u
  ·have c2:256 <= u.toNat:=by rw [UInt64.le_iff_toNat_le] at c; simpa using c
   rw [if_pos c,aN (by omega) (by omega),ab,kq _ _ (by rw [bI _ (by decide)]; omega) (by omega),bI _ (by decide),cO (m:=u.toNat) (s:=8) (by omega)]
   congr 1; omega
  ·have c2:u.toNat < 256:=by rw [UInt64.le_iff_toNat_le] at c; simpa using c
   rw [if_neg c,kq _ _ c2 (by omega)]
 have k32:∀ (u:UInt64) (z:Nat),u.toNat < 4294967296 -> z <= 32 -> ((if (65536:UInt64) <= u then (chk ((z:Int) + 16)).bind fun s33=>(if (256:UInt64) <= shrU u 16 then (chk (s33 + 8)).bind fun s31=>((cD[(ea (shrU (shrU u 16) 8)).toNat]?).bind fun z27=>(chk (s31 + ((z27.toNat:Nat):Int))).bind fun s29=>some s29) else ((cD[(ea (shrU u 16)).toNat]?).bind fun z27=>(chk (s33 + ((z27.toNat:Nat):Int))).bind fun s29=>some s29)) else (if (256:UInt64) <= u then (chk ((z:Int) + 8)).bind fun s31=>((cD[(ea (shrU u 8)).toNat]?).bind fun z27=>(chk (s31 + ((z27.toNat:Nat):Int))).bind fun s29=>some s29) else ((cD[(ea u).toNat]?).bind fun z27=>(chk ((z:Int) + ((z27.toNat:Nat):Int))).bind fun s29=>some s29)))) = some ((z:Int) + bln u.toNat):=fun u z hu hz=>by
  by_cases c:(65536:UInt64) <= u
  ·have c2:65536 <= u.toNat:=by rw [UInt64.le_iff_toNat_le] at c; simpa using c
   rw [if_pos c,aN (by omega) (by omega),ab,k16 _ _ (by rw [bI _ (by decide)]; omega) (by omega),bI _ (by decide),cO (m:=u.toNat) (s:=16) (by omega)]
   congr 1; omega
  ·have c2:u.toNat < 65536:=by rw [UInt64.le_iff_toNat_le] at c; simpa using c
   rw [if_neg c,k16 _ _ c2 (by omega)]
 unfold bX_p jn
 simp only
 by_cases c:(4294967296:UInt64) <= x
 ·have c2:4294967296 <= x.toNat:=by rw [UInt64.le_iff_toNat_le] at c; simpa using c
  rw [if_pos c]
  refine (k32 (shrU x 32) 32 (by rw [bI _ (by decide)]; omega) (by omega)).trans ?_
  rw [bI _ (by decide),cO (m:=x.toNat) (s:=32) (by omega)]
  congr 1
 ·have c2:x.toNat < 4294967296:=by rw [UInt64.le_iff_toNat_le] at c; simpa using c
  rw [if_neg c]
  refine (k32 x 0 c2 (by omega)).trans ?_
  congr 1; omega
theorem lz_ok (n:Nat) (x:UInt64):aM_p n x = some (64 - bln x.toNat:Int):=by
 have:=ci (l:=64) (m:=x.toNat) (by have:=x.toNat_lt; omega)
 unfold aM_p
 rw [lY,ab,aN (by omega) (by omega),ab]
theorem div_top {m lo t l:Nat} (hv:m = lo + 18446744073709551616 ^ l * t) (hlow:lo < 18446744073709551616 ^ l):m / 2 ^ (64 * l) = t:=by
 rw [<- de,hv,Nat.add_mul_div_left _ _ (Nat.lt_of_le_of_lt (Nat.zero_le _) hlow),Nat.div_eq_of_lt hlow,Nat.zero_add]
theorem gJ (n:Nat) (m:Nat) (hl:(dg m).length <= 1000000):ci_p n (dg m) = some (bln m:Int):=by
 unfold ci_p
 by_cases h0:m = 0
 ·subst h0
  rw [dg0,if_pos (show ([]:List UInt64).length = 0 from rfl)]
  unfold bln
  rw [if_pos rfl]; rfl
 ·have hne:dg m ≠ []:=fun e=>h0 (by have:=aA m; rw [e] at this; exact this.symm)
  obtain ⟨l,hl1⟩:∃ l,(dg m).length = l + 1:=⟨(dg m).length - 1,by cases h:dg m with | nil=>exact absurd h hne | cons x xs=>simp⟩
  have hlast:l < (dg m).length:=by omega
  have hv:=cP (dg m) hlast
  rw [List.drop_eq_nil_of_le (by omega),aA,show val ([]:List UInt64) = 0 from rfl,Nat.mul_zero,Nat.add_zero] at hv
  have hlow:=cg ((dg m).take l)
  rw [List.length_take,Nat.min_eq_left (by omega)] at hlow
  have htop:(dg m)[l] ≠ 0:=fO m _ (by rw [List.getLast?_eq_getElem?,hl1]; exact geE hlast)
  have ht0:((dg m)[l]).toNat ≠ 0:=fun e=>htop (UInt64.toNat_inj.1 (by simpa using e))
  have hb:bln m = 64 * l + bln ((dg m)[l]).toNat:=by
   have e:m / 2 ^ (64 * l) = ((dg m)[l]).toNat:=div_top hv hlow
   have:=cO (m:=m) (s:=64 * l) (by
    have h1:2 ^ (64 * l) * 1 <= 2 ^ (64 * l) * ((dg m)[l]).toNat:=Nat.mul_le_mul_left _ (by omega)
    rw [de] at hv
    omega)
   rw [e] at this
   exact this
  have hbt:=ci (l:=64) (m:=((dg m)[l]).toNat) (by have:=((dg m)[l]).toNat_lt; omega)
  have hi:((((dg m).length:Nat):Int) - 1).toNat = l:=by omega
  rw [if_neg (by omega),aN (by omega) (by omega),ab,bf (by omega) (by omega),ab]
  simp only [hi]
  rw [lz_ok,ab,aN (by omega) (by omega),ab,hb]
  congr 1; omega
theorem ml (k:Nat) (h:k < 1000000000):fY (k:Int) 64 = some ((k / 64:Nat):Int):=by
 unfold fY
 rw [if_neg (by decide),Int.tdiv_eq_ediv_of_nonneg (by omega),aN (by omega) (by omega)]
 congr 1
theorem rem64 (k:Nat):dj (k:Int) 64 = some ((k % 64:Nat):Int):=by
 rw [cp (by decide),Int.tmod_eq_emod_of_nonneg (by omega)]
 congr 1
theorem dX (k:Nat):dK (k:Int) = some k:=by unfold dK; rw [if_pos (Int.natCast_nonneg _),Int.toNat_natCast]
theorem idxN {α:Type} {xs:List α} {i:Nat} (h:i < xs.length):idx xs (i:Int) = some xs[i]:=by
 rw [bf (by omega) (by rw [Int.toNat_natCast]; exact h)]
 simp only [Int.toNat_natCast]
theorem putN {α:Type} {xs:List α} {i:Nat} (x:α) (h:i < xs.length):put xs ((((i:Nat):Int).toNat:Nat):Int) x = some (xs.set i x):=by rw [Int.toNat_natCast]; exact bs x h
theorem mt (n:Nat) (a:List UInt64) (k:Nat) (hk:k < 1000000) (hl:a.length < 100000) (hn:200000 < n):bY_p n a (k:Int) = some (dg (val a * 2 ^ k)):=by
 have hkw:2 ^ k = 18446744073709551616 ^ (k / 64) * 2 ^ (k % 64):=by rw [de,<- Nat.pow_add]; congr 1; omega
 have hs:k % 64 < 64:=Nat.mod_lt _ (by decide)
 have hh:=av (B:=bY_l1 n a (k:Int)) (fun s:Nat × List UInt64=>a.length - s.1) (fun s=>s.1 <= a.length/\∃ hx:s.2.length = a.length + k / 64 + 1,val s.2 = val (a.take s.1) * 2 ^ k/\(∀ j (h:j < s.2.length),s.1 + k / 64 < j -> s.2[j] = 0)/\(s.2[s.1 + k / 64]?.getD 0).toNat < 2 ^ (k % 64))
  (fun xs=>xs.length = a.length + k / 64 + 1/\val xs = val a * 2 ^ k) ?_ n (0,List.replicate (a.length + k / 64 + 1) 0) ⟨Nat.zero_le _,by simp,?_,fun j h _=>by simp,?_⟩ (by simp only; omega)
 ·obtain ⟨xs,e,h1,h2⟩:=hh
  unfold bY_p
  rw [ml k (by omega),ab,aN (by omega) (by omega),ab,aN (by omega) (by omega),ab,show ((a.length:Nat):Int) + ((k / 64:Nat):Int) + 1 = ((a.length + k / 64 + 1:Nat):Int) by omega,da _ _ (by omega),ab,e,ab,aC n false xs (by omega) (by omega),ab,h2]
 ·rintro ⟨i,xs⟩ J ⟨a1,a2,a3,a4,a5⟩ hJ
  simp only at a1 a2 a3 a4 a5 hJ
  unfold bY_l1
  simp only
  by_cases hi:i < a.length
  ·have hw:i + k / 64 < xs.length:=by omega
   have hw1:i + k / 64 + 1 < xs.length:=by omega
   rw [geE hw] at a5
   have a5' : (xs[i + k / 64]).toNat < 2 ^ (k % 64):=a5
   rw [if_pos hi,geE hi,ab,ml k (by omega),ab,aN (by omega) (by omega),ab,show ((i:Nat):Int) + ((k / 64:Nat):Int) = ((i + k / 64:Nat):Int) by omega,idxN hw,ab,rem64,ab,dX,ab,putN _ hw,ab,ab]
   have e0:val (a.take (i + 1)) * 2 ^ k = val (a.take i) * 2 ^ k + 18446744073709551616 ^ (i + k / 64) * (a[i].toNat * 2 ^ (k % 64)):=by
    rw [bE a hi,Nat.add_mul,hkw,Nat.pow_add]
    congr 1
    grind
   by_cases c:0 < k % 64
   ·obtain ⟨s1,s2,s3⟩:=gL a[i] c hs
    have hor:=jU (a:=xs[i + k / 64]) (b:=shlU a[i] (k % 64)) a5' s2
    have v1:=dF (xs[i + k / 64] ||| shlU a[i] (k % 64)) hw
    rw [hor,Nat.mul_add] at v1
    generalize hys:xs.set (i + k / 64) (xs[i + k / 64] ||| shlU a[i] (k % 64)) = ys at *
    have hyl:ys.length = xs.length:=by rw [<- hys,List.length_set]
    have hy1:i + k / 64 + 1 < ys.length:=by omega
    have hy0:ys[i + k / 64 + 1] = 0:=by
     have:=a4 (i + k / 64 + 1) hw1 (by omega)
     simp only [<- hys]
     rw [List.getElem_set_ne (by omega)]; exact this
    have v2:=dF (shrU a[i] (64 - k % 64)) hy1
    rw [hy0] at v2
    rw [if_pos (by omega),ab,aN (by omega) (by omega),ab,aN (by omega) (by omega),ab,ab,aN (by omega) (by omega),ab,show (64:Int) - ((k % 64:Nat):Int) = ((64 - k % 64:Nat):Int) by omega,dX,ab,show ((i:Nat):Int) + ((k / 64:Nat):Int) + 1 = ((i + k / 64 + 1:Nat):Int) by omega,idxN hy1,ab,putN _ hy1,ab]
    refine hJ _ ⟨hi,by simp only [List.length_set]; omega,?_,fun j hj hlt=>?_,?_⟩ (by simp only; omega)
    ·simp only
     rw [e0,<- s1,Nat.mul_add,<- Nat.mul_assoc,<- Nat.pow_succ]
     simp only [UInt64.toNat_zero,Nat.mul_zero,Nat.add_zero] at v2
     rw [v2,<- a3]
     show val ys + 18446744073709551616 ^ (i + k / 64 + 1) * _ = val xs + (_ + 18446744073709551616 ^ (i + k / 64 + 1) * _)
     omega
    ·simp only at hj hlt ⊢
     rw [List.getElem_set_ne (by omega)]
     simp only [<- hys]
     rw [List.getElem_set_ne (by omega)]
     exact a4 j (by simpa [<- hys] using hj) (by omega)
    ·simp only
     rw [show i + 1 + k / 64 = i + k / 64 + 1 by omega,List.getElem?_set_self hy1]
     exact s3
   ·have c0:k % 64 = 0:=by omega
    rw [c0,Nat.pow_zero] at a5'
    have hz:xs[i + k / 64] = 0:=UInt64.toNat_inj.1 (by simp; omega)
    have v1:=dF (xs[i + k / 64] ||| shlU a[i] (k % 64)) hw
    rw [hz,dB,c0,dO] at v1
    rw [if_neg (by omega),hz,dB,c0,dO]
    refine hJ _ ⟨hi,by simp only [List.length_set]; omega,?_,fun j hj hlt=>?_,?_⟩ (by simp only; omega)
    ·simp only
     rw [e0,c0,Nat.pow_zero,Nat.mul_one,<- a3]
     simp only [UInt64.toNat_zero,Nat.mul_zero,Nat.add_zero] at v1
     exact v1
    ·simp only at hj hlt ⊢
     rw [List.getElem_set_ne (by omega)]
     exact a4 j (by simpa using hj) (by omega)
    ·simp only
     rw [show i + 1 + k / 64 = i + k / 64 + 1 by omega,List.getElem?_set_ne (by omega),geE hw1,a4 _ hw1 (by omega),c0]
     decide
  ·rw [if_neg hi]
   rw [List.take_of_length_le (by omega)] at a3
   exact ⟨_,rfl,a2,a3⟩
 ·simp only [List.take_zero,val,Nat.zero_mul]
  exact bW _ fun x hx=>(List.mem_replicate.1 hx).2
 ·simp only
  rw [List.getElem?_replicate]
  split <;> simp <;> exact Nat.two_pow_pos _
end Go.Proofs.YtkhpmhhnolpcnaaGreatDoor
namespace Go.Proofs.YtkhpmhhnolpcnaaGreatDoor
open Go
set_option maxRecDepth 8000
theorem kN {B:(UInt64 × UInt64 -> Option UInt64) -> UInt64 × UInt64 -> Option UInt64} {y1 y0 un:UInt64}
  (hB:∀ J q rh,B J (q,rh) = if (4294967296:UInt64) <= q then (if (4294967296:UInt64) <= rh + y1 then some (q - 1) else J (q - 1,rh + y1)) else (if 4294967296 * rh + un < q * y0 then (if (4294967296:UInt64) <= rh + y1 then some (q - 1) else J (q - 1,rh + y1)) else some q))
  {U:Nat} (h1:2147483648 <= y1.toNat) (h1' : y1.toNat < 4294967296) (h0:y0.toNat < 4294967296) (hu:un.toNat < 4294967296) (hU:U < y1.toNat * 4294967296 + y0.toNat) (q0 r0:UInt64) (e:U = q0.toNat * y1.toNat + r0.toNat) (hr:r0.toNat < y1.toNat) (n:Nat) (hn:4294967300 < n) :
  ∃ q:UInt64,ao B n (q0,r0) = some q/\q.toNat = (U * 4294967296 + un.toNat) / (y1.toNat * 4294967296 + y0.toNat):=by
 obtain ⟨V,hV⟩:∃ V,y1.toNat * 4294967296 + y0.toNat = V:=⟨_,rfl⟩
 obtain ⟨N,hN⟩:∃ N,U * 4294967296 + un.toNat = N:=⟨_,rfl⟩
 rw [hV] at hU
 rw [hV,hN]
 have hVp:0 < V:=by omega
 obtain ⟨D,hD⟩:∃ D,N / V = D:=⟨_,rfl⟩
 have hle:∀ x,x <= D ↔ x * V <= N:=fun x=>by rw [<- hD]; exact Nat.le_div_iff_mul_le hVp
 have hlt:∀ x,D < x ↔ N < x * V:=fun x=>by rw [<- hD]; exact Nat.div_lt_iff_lt_mul hVp
 rw [hD]
 have hNV:D < 4294967296:=by
  rw [hlt]
  omega
 have hq0:q0.toNat <= 4294967297:=by
  have h2:q0.toNat * 2147483648 <= q0.toNat * y1.toNat:=Nat.mul_le_mul_left _ h1
  by_cases h3:q0.toNat <= 4294967297
  ·exact h3
  ·exfalso
   have h4:4294967298 * y1.toNat <= q0.toNat * y1.toNat:=Nat.mul_le_mul_right _ (by omega)
   omega
 have up:D <= q0.toNat:=by
  rw [<- hD]
  have h3:N / V <= N / (y1.toNat * 4294967296):=Nat.div_le_div_left (by omega) (by omega)
  have h4:N / (y1.toNat * 4294967296) = U / y1.toNat:=by
   rw [Nat.mul_comm,<- Nat.div_div_eq_div_mul]
   congr 1
   omega
  have h5:U / y1.toNat = q0.toNat:=by
   rw [e,Nat.mul_comm,Nat.add_comm,Nat.add_mul_div_left _ _ (by omega),Nat.div_eq_of_lt hr,Nat.zero_add]
  rw [h4,h5] at h3
  exact h3
 refine av (B:=B) (fun s:UInt64 × UInt64=>s.1.toNat) (fun s=>U = s.1.toNat * y1.toNat + s.2.toNat/\s.2.toNat < 4294967296/\D <= s.1.toNat/\s.1.toNat <= 4294967297) (fun q=>q.toNat = D) ?_ n (q0,r0) ⟨e,by simp only; omega,up,hq0⟩ (by simp only; omega)
 rintro ⟨q,rh⟩ J ⟨i1,i2,i3,i4⟩ hJ
 simp only at i1 i2 i3 i4 hJ
 rw [hB]
 have c32:(4294967296:UInt64).toNat = 4294967296:=rfl
 have hrh:(rh + y1).toNat = rh.toNat + y1.toNat:=by rw [UInt64.toNat_add]; omega
 -- what follows once the guess is too great
 have over:D + 1 <= q.toNat -> ∃ r,(if (4294967296:UInt64) <= rh + y1 then some (q - 1) else J (q - 1,rh + y1)) = some r/\r.toNat = D:=fun ho=>by
  have hq1:(q - 1).toNat = q.toNat - 1:=by
   rw [UInt64.toNat_sub]
   have:=q.toNat_lt
   simp only [UInt64.toNat_one]
   omega
  have e1:q.toNat * y1.toNat = (q.toNat - 1) * y1.toNat + y1.toNat:=by
   rw [<- Nat.succ_mul]; congr 1; omega
  split
  ·rename_i hbig
   rw [UInt64.le_iff_toNat_le,c32,hrh] at hbig
   refine ⟨_,rfl,?_⟩
   rw [hq1]
   refine Nat.le_antisymm ?_ (by omega)
   rw [hle,<- hV,Nat.mul_add,<- Nat.mul_assoc]
   have h5:(q.toNat - 1) * y0.toNat <= 4294967296 * 4294967295:=Nat.mul_le_mul (by omega) (by omega)
   omega
  ·rename_i hbig
   rw [UInt64.le_iff_toNat_le,c32,hrh] at hbig
   exact hJ _ ⟨by simp only; rw [hq1,hrh]; omega,by simp only; rw [hrh]; omega,by simp only; rw [hq1]; omega,by simp only; rw [hq1]; omega⟩ (by simp only; rw [hq1]; omega)
 by_cases c:(4294967296:UInt64) <= q
 ·rw [if_pos c]
  rw [UInt64.le_iff_toNat_le,c32] at c
  exact over (by omega)
 ·rw [if_neg c]
  rw [UInt64.le_iff_toNat_le,c32] at c
  have m1:(4294967296 * rh + un).toNat = 4294967296 * rh.toNat + un.toNat:=by
   rw [UInt64.toNat_add,UInt64.toNat_mul,c32]; omega
  have m2:(q * y0).toNat = q.toNat * y0.toNat:=by
   rw [UInt64.toNat_mul]
   have:q.toNat * y0.toNat <= 4294967295 * 4294967295:=Nat.mul_le_mul (by omega) (by omega)
   omega
  have eqV:q.toNat * V = q.toNat * y1.toNat * 4294967296 + q.toNat * y0.toNat:=by rw [<- hV,Nat.mul_add,<- Nat.mul_assoc]
  by_cases c2:4294967296 * rh + un < q * y0
  ·rw [if_pos c2]
   rw [UInt64.lt_iff_toNat_lt,m1,m2] at c2
   refine over ?_
   have:D < q.toNat:=by
    rw [hlt,eqV]
    omega
   omega
  ·rw [if_neg c2]
   rw [UInt64.lt_iff_toNat_lt,m1,m2] at c2
   refine ⟨_,rfl,Nat.le_antisymm ?_ i3⟩
   rw [hle,eqV]
   omega
theorem kl {N M R:Nat} (h:N = M + R) (hR:R < 18446744073709551616):(18446744073709551616 - M % 18446744073709551616 + N % 18446744073709551616) % 18446744073709551616 = R:=by omega
theorem glue2 {hi lo p u t w:Nat} (t1:u = hi * p + t) (t2:w + 18446744073709551616 * t = lo * p):(hi * 18446744073709551616 + lo) * p = u * 18446744073709551616 + w:=by
 rw [Nat.add_mul,Nat.mul_right_comm hi 18446744073709551616 p,t1,<- t2]
 generalize hi * p = z
 omega
theorem glue {P Q R1 R0 u w:Nat} (h1:P + R1 = u * 4294967296 + w / 4294967296) (h2:Q + R0 = R1 * 4294967296 + w % 4294967296):u * 18446744073709551616 + w = P * 4294967296 + Q + R0:=by omega
theorem lm (n:Nat) (hi lo y:UInt64) (h:hi.toNat < y.toNat) (hn:4294967300 < n):∃ q r:UInt64,ax_p n hi lo y = some (q,r)/\hi.toNat * 18446744073709551616 + lo.toNat = q.toNat * y.toNat + r.toNat/\r.toNat < y.toNat:=by
 have hy:=y.toNat_lt
 have hlo:=lo.toNat_lt
 have hy0:y ≠ 0:=fun e=>by rw [e] at h; simp at h
 unfold ax_p
 rw [if_neg hy0,if_neg (by rw [UInt64.le_iff_toNat_le]; omega)]
 by_cases h0:hi = 0
 ·subst h0
  rw [if_pos rfl]
  unfold io kY
  rw [if_neg hy0,ab,if_neg hy0,ab]
  refine ⟨_,_,rfl,?_,?_⟩
  ·rw [UInt64.toNat_div,UInt64.toNat_mod]
   have:=Nat.div_add_mod lo.toNat y.toNat
   rw [Nat.mul_comm] at this
   simp; omega
  ·rw [UInt64.toNat_mod]; exact Nat.mod_lt _ (by omega)
 ·rw [if_neg h0,lz_ok,ab]
  have hyn:y.toNat ≠ 0:=by omega
  have b1:=dq hyn
  have b2:=ci (l:=64) (m:=y.toNat) (by omega)
  have b3:=iz y.toNat
  have b4:=gg hyn
  obtain ⟨s,hs⟩:∃ s,s = 64 - bln y.toNat:=⟨_,rfl⟩
  have e1:(ac (64 - (bln y.toNat:Int))).toNat = s:=by unfold ac; rw [UInt64.toNat_ofNat']; omega
  have e2:((64:UInt64) - ac (64 - (bln y.toNat:Int))).toNat = 64 - s:=by
   rw [UInt64.toNat_sub,e1]
   simp only [show (64:UInt64).toNat = 64 from rfl]
   omega
  have hs64:s < 64:=by omega
  have hps:=Nat.two_pow_pos s
  -- the divisor,moved
  have v2:y.toNat * 2 ^ s < 18446744073709551616:=by
   have:y.toNat * 2 ^ s < 2 ^ bln y.toNat * 2 ^ s:=Nat.mul_lt_mul_of_pos_right b3 hps
   rw [<- Nat.pow_add,show bln y.toNat + s = 64 by omega] at this
   exact this
  have v1:9223372036854775808 <= y.toNat * 2 ^ s:=by
   have:2 ^ (bln y.toNat - 1) * 2 ^ s <= y.toNat * 2 ^ s:=Nat.mul_le_mul_right _ b4
   rw [<- Nat.pow_add,show bln y.toNat - 1 + s = 63 by omega] at this
   exact this
  have hyv:(shlU y s).toNat = y.toNat * 2 ^ s:=by rw [dE y hs64,Nat.mod_eq_of_lt v2]
  have hhi:hi.toNat * 2 ^ s < 18446744073709551616:=Nat.lt_of_le_of_lt (Nat.mul_le_mul_right _ (Nat.le_of_lt h)) v2
  have hhv:(shlU hi s).toNat = hi.toNat * 2 ^ s:=by rw [dE hi hs64,Nat.mod_eq_of_lt hhi]
  -- the dividend,moved
  have hun:∃ t:Nat,(shlU hi s ||| shrU lo (64 - s)).toNat = hi.toNat * 2 ^ s + t/\(shlU lo s).toNat + 18446744073709551616 * t = lo.toNat * 2 ^ s:=by
   by_cases s0:s = 0
   ·subst s0
    refine ⟨0,?_,by rw [dO]; simp⟩
    rw [dO,show shrU lo (64 - 0) = 0 from by unfold shrU; rw [if_neg (by decide)],UInt64.toNat_or]
    simp
   ·obtain ⟨t1,t2,t3⟩:=gL lo (by omega) hs64
    refine ⟨(shrU lo (64 - s)).toNat,?_,t1⟩
    rw [UInt64.or_comm,jU t3 (by rw [hhv]; exact Nat.dvd_mul_left ..),hhv,Nat.add_comm]
  obtain ⟨t,t1,t2⟩:=hun
  rw [e1,e2]
  generalize hyy:shlU y s = yy at *
  generalize hun32:shlU hi s ||| shrU lo (64 - s) = un32 at *
  generalize hun10:shlU lo s = un10 at *
  have hun10l:=un10.toNat_lt
  have hun32l:=un32.toNat_lt
  -- both halves of the divisor
  have w1:(shrU yy 32).toNat = yy.toNat / 4294967296:=jx yy
  have w0:(yy &&& (4294967295:UInt64)).toNat = yy.toNat % 4294967296:=lG yy
  have x1:(shrU un10 32).toNat = un10.toNat / 4294967296:=jx un10
  have x0:(un10 &&& (4294967295:UInt64)).toNat = un10.toNat % 4294967296:=lG un10
  have hyyl:=yy.toNat_lt
  have hV:(shrU yy 32).toNat * 4294967296 + (yy &&& (4294967295:UInt64)).toNat = yy.toNat:=by rw [w1,w0]; omega
  have hy1:2147483648 <= (shrU yy 32).toNat:=by rw [w1]; omega
  have hy1' : (shrU yy 32).toNat < 4294967296:=by rw [w1]; omega
  have hy0' : (yy &&& (4294967295:UInt64)).toNat < 4294967296:=by rw [w0]; omega
  have hne:shrU yy 32 ≠ 0:=fun e=>by rw [e] at hy1; simp at hy1
  have hUV:un32.toNat < yy.toNat:=by
   have h5:(hi.toNat * 18446744073709551616 + lo.toNat) * 2 ^ s < y.toNat * 18446744073709551616 * 2 ^ s:=Nat.mul_lt_mul_of_pos_right (by omega) hps
   rw [Nat.add_mul,Nat.mul_right_comm,Nat.mul_right_comm y.toNat] at h5
   omega
  -- the first digit
  have d1:∀ (U:UInt64) (hU:U.toNat < yy.toNat) (un:UInt64) (hu:un.toNat < 4294967296) (B:(UInt64 × UInt64 -> Option UInt64) -> UInt64 × UInt64 -> Option UInt64) (hB:∀ J q rh,B J (q,rh) = if (4294967296:UInt64) <= q then (if (4294967296:UInt64) <= rh + shrU yy 32 then some (q - 1) else J (q - 1,rh + shrU yy 32)) else (if 4294967296 * rh + un < q * (yy &&& (4294967295:UInt64)) then (if (4294967296:UInt64) <= rh + shrU yy 32 then some (q - 1) else J (q - 1,rh + shrU yy 32)) else some q)),
    ∃ q:UInt64,ao B n (U / shrU yy 32,U - U / shrU yy 32 * shrU yy 32) = some q/\q.toNat = (U.toNat * 4294967296 + un.toNat) / yy.toNat:=fun U hU un hu B hB=>by
   have hm:=Nat.div_add_mod U.toNat (shrU yy 32).toNat
   have hml:=Nat.mod_lt U.toNat (show 0 < (shrU yy 32).toNat by omega)
   have hUl:=U.toNat_lt
   have e3:(U - U / shrU yy 32 * shrU yy 32).toNat = U.toNat % (shrU yy 32).toNat:=by
    rw [UInt64.toNat_sub,UInt64.toNat_mul,UInt64.toNat_div]
    rw [Nat.mul_comm] at hm
    have:U.toNat / (shrU yy 32).toNat * (shrU yy 32).toNat <= U.toNat:=by omega
    rw [Nat.mod_eq_of_lt (a:=U.toNat / (shrU yy 32).toNat * (shrU yy 32).toNat) (by omega)]
    omega
   obtain ⟨q,a1,a2⟩:=kN hB (U:=U.toNat) hy1 hy1' hy0' hu (by rw [hV]; exact hU) (U / shrU yy 32) (U - U / shrU yy 32 * shrU yy 32) (by rw [UInt64.toNat_div,e3,Nat.mul_comm]; exact hm.symm) (by rw [e3]; exact hml) n hn
   exact ⟨q,a1,by rw [a2,hV]⟩
  obtain ⟨q1,l2,q1v⟩:=d1 un32 hUV (shrU un10 32) (by rw [x1]; omega) (ax_l2 n y (64 - (bln y.toNat:Int)) lo) (fun J q rh=>by unfold ax_l2; simp only [e1,hyy,hun10])
  have hm1:=Nat.div_add_mod (un32.toNat * 4294967296 + (shrU un10 32).toNat) yy.toNat
  have hml1:=Nat.mod_lt (un32.toNat * 4294967296 + (shrU un10 32).toNat) (show 0 < yy.toNat by omega)
  rw [<- q1v] at hm1
  generalize hR1:(un32.toNat * 4294967296 + (shrU un10 32).toNat) % yy.toNat = R1 at hm1 hml1
  have u21:(un32 * 4294967296 + shrU un10 32 - q1 * yy).toNat = R1:=by
   rw [UInt64.toNat_sub,UInt64.toNat_add,UInt64.toNat_mul,UInt64.toNat_mul]
   rw [show (4294967296:UInt64).toNat = 4294967296 from rfl]
   have:=kl (N:=un32.toNat * 4294967296 + (shrU un10 32).toNat) (M:=q1.toNat * yy.toNat) (R:=R1) (by rw [Nat.mul_comm q1.toNat]; exact hm1.symm) (by omega)
   generalize q1.toNat * yy.toNat = M at *
   omega
  obtain ⟨q0,l1,q0v⟩:=d1 (un32 * 4294967296 + shrU un10 32 - q1 * yy) (by rw [u21]; exact hml1) (un10 &&& (4294967295:UInt64)) (by rw [x0]; omega) (ax_l1 n y (64 - (bln y.toNat:Int)) lo) (fun J q rh=>by unfold ax_l1; simp only [e1,hyy,hun10])
  rw [u21] at q0v
  have hm0:=Nat.div_add_mod (R1 * 4294967296 + (un10 &&& (4294967295:UInt64)).toNat) yy.toNat
  have hml0:=Nat.mod_lt (R1 * 4294967296 + (un10 &&& (4294967295:UInt64)).toNat) (show 0 < yy.toNat by omega)
  rw [<- q0v] at hm0
  generalize hR0:(R1 * 4294967296 + (un10 &&& (4294967295:UInt64)).toNat) % yy.toNat = R0 at hm0 hml0
  have u00:((un32 * 4294967296 + shrU un10 32 - q1 * yy) * 4294967296 + (un10 &&& (4294967295:UInt64)) - q0 * yy).toNat = R0:=by
   rw [UInt64.toNat_sub,UInt64.toNat_add,UInt64.toNat_mul,UInt64.toNat_mul,u21]
   rw [show (4294967296:UInt64).toNat = 4294967296 from rfl]
   have:=kl (N:=R1 * 4294967296 + (un10 &&& (4294967295:UInt64)).toNat) (M:=q0.toNat * yy.toNat) (R:=R0) (by rw [Nat.mul_comm q0.toNat]; exact hm0.symm) (by omega)
   generalize q0.toNat * yy.toNat = M at *
   omega
  have q1l:q1.toNat < 4294967296:=by
   rw [q1v,Nat.div_lt_iff_lt_mul (by omega)]; rw [x1]; omega
  have q0l:q0.toNat < 4294967296:=by
   rw [q0v,Nat.div_lt_iff_lt_mul (by omega)]; rw [x0]; omega
  -- all together
  have all:(hi.toNat * 18446744073709551616 + lo.toNat) * 2 ^ s = (q1.toNat * 4294967296 + q0.toNat) * y.toNat * 2 ^ s + R0:=by
   have a1:(hi.toNat * 18446744073709551616 + lo.toNat) * 2 ^ s = un32.toNat * 18446744073709551616 + un10.toNat:=by
    exact glue2 t1 t2
   have a2:(q1.toNat * 4294967296 + q0.toNat) * y.toNat * 2 ^ s = yy.toNat * q1.toNat * 4294967296 + yy.toNat * q0.toNat:=by
    rw [Nat.mul_assoc,<- hyv]; grind
   rw [a1,a2]
   rw [x1] at hm1
   rw [x0] at hm0
   exact glue hm1 hm0
  have hq:(q1 * 4294967296 + q0).toNat = q1.toNat * 4294967296 + q0.toNat:=by
   rw [UInt64.toNat_add,UInt64.toNat_mul,show (4294967296:UInt64).toNat = 4294967296 from rfl]; omega
  have hd:2 ^ s ∣ R0:=by
   have:=(Nat.dvd_add_right (Nat.dvd_mul_left (2 ^ s) ((q1.toNat * 4294967296 + q0.toNat) * y.toNat))).1 (by rw [<- all]; exact Nat.dvd_mul_left ..)
   exact this
  obtain ⟨rr,hrr⟩:=hd
  have hrv:(shrU ((un32 * 4294967296 + shrU un10 32 - q1 * yy) * 4294967296 + (un10 &&& (4294967295:UInt64)) - q0 * yy) s).toNat = rr:=by
   rw [bI _ hs64,u00,hrr,Nat.mul_div_cancel_left _ hps]
  unfold jn io
  rw [if_neg hne,ab,ab]
  dsimp only
  rw [l2,ab,ab,if_neg hne,ab,ab]
  try dsimp only
  rw [l1,ab,ab,ab]
  refine ⟨_,_,rfl,?_,?_⟩
  ·rw [hq,hrv]
   rw [hrr,Nat.mul_comm (2 ^ s) rr,<- Nat.add_mul] at all
   exact Nat.mul_right_cancel hps all
  ·rw [hrv]
   rw [hrr,Nat.mul_comm,hyv] at hml0
   exact Nat.lt_of_mul_lt_mul_right hml0
end Go.Proofs.YtkhpmhhnolpcnaaGreatDoor
namespace Go.Proofs.YtkhpmhhnolpcnaaGreatDoor
open Go
set_option maxRecDepth 8000
theorem nf (a:Nat):bln a <= 64 * (dg a).length:=ci (by
 have:=cg (dg a)
 rw [aA,de] at this
 exact this)
theorem dg_one {m:Nat} (h:(dg m).length = 1):∃ y:UInt64,dg m = [y]/\y.toNat = m:=by
 rcases e:dg m with _ | ⟨y,_ | ⟨z,zs⟩⟩
 ·rw [e] at h; simp at h
 ·refine ⟨y,rfl,?_⟩
  have:=aA m
  rw [e] at this
  simp only [val] at this
  omega
 ·rw [e] at h; simp at h
theorem gz {xs:List UInt64} {i:Nat} (v:UInt64) (h:i < xs.length):(xs.set i v).drop i = v :: xs.drop (i + 1):=by
 rw [List.drop_eq_getElem_cons (by simpa using h),List.getElem_set_self,List.drop_set_of_lt (by omega)]
theorem jM (n:Nat) (a:List UInt64) (y:UInt64) (hy:0 < y.toNat) (hl:a.length < 100000) (hn:4294967300 < n):∃ u xs,ao (az_l1 n a [y]) n (0,((a.length:Nat):Int) - 1,List.replicate a.length 0) = some (u,xs)/\xs.length = a.length/\val a = val xs * y.toNat + u.toNat/\u.toNat < y.toNat:=by
 have hh:=av (B:=az_l1 n a [y]) (fun s:UInt64 × Int × List UInt64=>(s.2.1 + 1).toNat) (fun s=>(-1 <= s.2.1/\s.2.1 < a.length)/\s.2.2.length = a.length/\val (a.drop (s.2.1 + 1).toNat) = val (s.2.2.drop (s.2.1 + 1).toNat) * y.toNat + s.1.toNat/\s.1.toNat < y.toNat)
  (fun r=>r.2.length = a.length/\val a = val r.2 * y.toNat + r.1.toNat/\r.1.toNat < y.toNat) ?_ n (0,((a.length:Nat):Int) - 1,List.replicate a.length 0) ⟨by simp only; omega,by simp,?_,by simpa using hy⟩ (by simp only; omega)
 ·obtain ⟨⟨u,xs⟩,e,h1,h2,h3⟩:=hh; exact ⟨u,xs,e,h1,h2,h3⟩
 ·rintro ⟨u,z,xs⟩ J ⟨a1,a2,a3,a4⟩ hJ
  simp only at a1 a2 a3 a4 hJ
  unfold az_l1
  simp only
  by_cases hz:0 <= z
  ·obtain ⟨k,rfl⟩:∃ k:Nat,z = k:=⟨z.toNat,by omega⟩
   have e0:(((k:Int) + 1).toNat) = k + 1:=by omega
   rw [e0] at a3
   have hka:k < a.length:=by omega
   have hkx:k < xs.length:=by omega
   obtain ⟨q,r,d1,d2,d3⟩:=lm n u a[k] y a4 hn
   rw [if_pos hz,idxN hka,ab]
   simp only [List.getElem?_cons_zero,ab]
   rw [d1,ab,idxN hkx,ab,putN _ hkx,ab,aN (by omega) (by omega),ab]
   have eN:(((k:Int) - 1 + 1)).toNat = k:=by omega
   refine hJ (_,_,_) ⟨by simp only; omega,by simpa using a2,?_,d3⟩ (by simp only; omega)
   simp only
   rw [eN,gz q hkx,List.drop_eq_getElem_cons hka]
   simp only [val]
   rw [a3,Nat.add_mul,Nat.mul_add,<- Nat.mul_assoc]
   omega
  ·rw [if_neg hz]
   have e0:(z + 1).toNat = 0:=by omega
   rw [e0] at a3
   exact ⟨_,rfl,a2,by simpa using a3,a4⟩
 ·simp only
  rw [show ((((a.length:Nat):Int) - 1 + 1)).toNat = a.length by omega,List.drop_length,List.drop_eq_nil_of_le (by simp)]
  simp [val]
theorem iM (n:Nat) (a b:Nat) (h0:b ≠ 0) (ha:(dg a).length < 10000) (hb:(dg b).length < 10000) (hn:18446744073709551616 < n):∃ q,az_p n (dg a) (dg b) = some (q,dg (a % b))/\q.length <= (dg a).length/\val q = a / b:=by
 unfold az_p
 rw [da _ _ (by omega),ab]
 by_cases h1:(dg b).length = 1
 ·obtain ⟨y,e,hy⟩:=dg_one h1
  obtain ⟨u,xs,l1,l2,l3,l4⟩:=jM n (dg a) y (by omega) (by omega) (by omega)
  rw [e,if_pos (show ([y]:List UInt64).length = 1 from rfl),l1,ab]
  simp only
  rw [aC n false _ (by simp only [leC,leN]; omega) (by simp),ab]
  rw [aA,hy] at l3
  rw [hy] at l4
  have hu:=(Nat.div_mod_unique (a:=a) (b:=b) (c:=u.toNat) (d:=val xs) (by omega)).2 ⟨by rw [Nat.mul_comm]; omega,l4⟩
  refine ⟨xs,?_,by omega,hu.1.symm⟩
  simp only [val,Nat.mul_zero,Nat.add_zero]
  rw [hu.2]
 ·rw [if_neg h1,gJ n a (by omega),ab,gJ n b (by omega),ab]
  have bla:=nf a
  have blb:=nf b
  rw [aN (by omega) (by omega),ab]
  have hbp:=dq h0
  have hbg:=gg h0
  have hal:=iz a
  by_cases hK:(bln a:Int) - bln b < 0
  ·obtain ⟨m,rfl⟩:∃ m,n = m + 1:=⟨n - 1,by omega⟩
   have hab:a < b:=Nat.lt_of_lt_of_le hal (Nat.le_trans (Nat.pow_le_pow_right (by decide) (by omega)) hbg)
   rw [bB]
   unfold az_l2
   simp only
   rw [if_neg (by omega),ab]
   refine ⟨_,by rw [Nat.mod_eq_of_lt hab],by simp,?_⟩
   rw [Nat.div_eq_of_lt hab]
   exact bW _ fun x hx=>(List.mem_replicate.1 hx).2
  ·obtain ⟨K,hKe⟩:∃ K:Nat,(bln a:Int) - bln b = K:=⟨bln a - bln b,by omega⟩
   rw [hKe]
   have hstart:a < b * 2 ^ (K + 1):=by
    have h2:2 ^ bln a <= b * 2 ^ (K + 1):=by
     have:2 ^ (bln b - 1) * 2 ^ (K + 1) <= b * 2 ^ (K + 1):=Nat.mul_le_mul_right _ hbg
     rw [<- Nat.pow_add,show bln b - 1 + (K + 1) = bln a by omega] at this
     exact this
    omega
   have hh:=av (B:=az_l2 n (dg b)) (fun s:List UInt64 × Int × List UInt64=>(s.2.1 + 1).toNat)
    (fun s=>(-1 <= s.2.1/\s.2.1 <= K)/\s.2.2.length = (dg a).length/\∃ R,s.1 = dg R/\R <= a/\a = b * val s.2.2 + R/\R < b * 2 ^ (s.2.1 + 1).toNat/\2 ^ (s.2.1 + 1).toNat ∣ val s.2.2)
    (fun r=>r.1.length = (dg a).length/\val r.1 = a / b/\r.2 = dg (a % b)) ?_ n (dg a,(K:Int),List.replicate (dg a).length 0)
    ⟨by simp only; omega,by simp,a,rfl,Nat.le_refl _,?_,?_,?_⟩ (by simp only; omega)
   ·obtain ⟨⟨q,r⟩,e,e1,e2,e3⟩:=hh
    simp only at e1 e2 e3
    rw [e,ab]
    simp only
    rw [e3]
    exact ⟨q,rfl,by omega,e2⟩
   ·rintro ⟨rw_,z,q⟩ J ⟨a1,a2,R,rfl,a3,a4,a5,a6⟩ hJ
    simp only at a1 a2 a3 a4 a5 a6 hJ
    unfold az_l2
    simp only
    by_cases hz:0 <= z
    ·obtain ⟨k,rfl⟩:∃ k:Nat,z = k:=⟨z.toNat,by omega⟩
     have e0:(((k:Int) + 1).toNat) = k + 1:=by omega
     rw [e0] at a5 a6
     have eN:(((k:Int) - 1 + 1)).toNat = k:=by omega
     have hRl:=eI a3
     obtain ⟨st1,st2⟩:=mw a4 a5 a6
     rw [if_pos hz,mt n (dg b) k (by omega) (by omega) (by omega),ab,aA]
     obtain ⟨c,ec,c1,c2⟩:=eB n (dg R) (dg (b * 2 ^ k)) (fO _) (fO _) (by omega) (by omega)
     rw [aA,aA] at c1 c2
     rw [ec,ab]
     unfold jn
     simp only
     by_cases hc:0 <= c
     ·have hge:b * 2 ^ k <= R:=by omega
      obtain ⟨g1,g2,g3⟩:=st1 hge
      obtain ⟨xs,t1,t2,t3⟩:=iR n (dg R) (dg (b * 2 ^ k)) (eI hge) (by rw [aA,aA]; exact hge) (by omega) (by omega)
      rw [aA,aA] at t3
      have hkq:k / 64 < q.length:=by
       have h2:2 ^ k < 2 ^ (64 * (dg a).length):=by
        have h3:=cg (dg a)
        rw [aA,de] at h3
        have h4:1 * 2 ^ k <= b * 2 ^ k:=Nat.mul_le_mul_right _ (by omega)
        omega
       have h5:=(Nat.pow_lt_pow_iff_right (by decide:1 < 2)).1 h2
       omega
      have hbit:=bit_add hkq a6 (shl_one (Nat.mod_lt _ (by decide)))
      rw [if_pos hc,t1,ab,aC n false xs (by omega) (by omega),ab,ml k (by omega),ab,idxN hkq,ab,rem64,ab,dX,ab,putN _ hkq,ab]
      simp only
      rw [aN (by omega) (by omega),ab,t3]
      refine hJ (_,_,_) ⟨by simp only; omega,by simpa using a2,R - b * 2 ^ k,rfl,by omega,?_,?_,?_⟩ (by simp only; omega)
      ·simp only; rw [hbit]; exact g1
      ·simp only; rw [eN]; exact g2
      ·simp only; rw [eN,hbit]; exact g3
     ·rw [if_neg hc,aN (by omega) (by omega),ab]
      refine hJ (_,_,_) ⟨by simp only; omega,a2,R,rfl,a3,a4,?_,?_⟩ (by simp only; omega)
      ·simp only; rw [eN]; omega
      ·simp only; rw [eN]; exact st2 (by omega)
    ·rw [if_neg hz]
     have e0:(z + 1).toNat = 0:=by omega
     rw [e0,Nat.pow_zero,Nat.mul_one] at a5
     have hu:=(Nat.div_mod_unique (a:=a) (b:=b) (c:=R) (d:=val q) (by omega)).2 ⟨by omega,a5⟩
     exact ⟨_,rfl,a2,hu.1.symm,by simp only; rw [hu.2]⟩
   ·simp only
    rw [bW _ fun x hx=>(List.mem_replicate.1 hx).2]; omega
   ·simp only
    rw [show (((K:Int) + 1).toNat) = K + 1 by omega]
    exact hstart
   ·simp only
    rw [bW _ fun x hx=>(List.mem_replicate.1 hx).2]
    exact Nat.dvd_zero _
theorem mC (n l:Nat) (a b:Int) (ha:Fit l a) (hb:Fit l b) (h0:b ≠ 0) (hl:l < 5000) (hn:18446744073709551616 < n):bs_p n (L a) (L b) = some (L (a / b),L (a % b)):=by
 have hal:=ha.len
 have hbl:=hb.len
 obtain ⟨q,e1,e2,e3⟩:=iM n a.natAbs b.natAbs (by omega) (by omega) (by omega) hn
 have hm:a.natAbs % b.natAbs < b.natAbs:=Nat.mod_lt _ (by omega)
 have hl2:(dg (a.natAbs % b.natAbs)).length <= l:=gd (Nat.lt_trans hm hb)
 have hdm:=Nat.div_add_mod a.natAbs b.natAbs
 have hq:a.natAbs / b.natAbs <= a.natAbs:=Nat.div_le_self _ _
 unfold bs_p
 rw [show (L a).fo = dg a.natAbs from rfl,show (L b).fo = dg b.natAbs from rfl,e1,ab]
 simp only
 rw [aC n _ _ (by omega) (by omega),ab,aC n _ _ (by omega) (by omega),ab,e3,aA]
 generalize hx:a.natAbs / b.natAbs = x at *
 generalize hy:a.natAbs % b.natAbs = y at *
 simp only [kV]
 show (if (decide (a < 0) && decide (0 < y)) = true then _ else _) = _
 have hqf:x < 18446744073709551616 ^ l:=Nat.lt_of_le_of_lt hq ha
 have hyf:y < 18446744073709551616 ^ l:=Nat.lt_trans hm hb
 have hpw:2 * 18446744073709551616 ^ l <= 18446744073709551616 ^ (l + 1):=by rw [Nat.pow_succ,Nat.mul_comm]; exact Nat.mul_le_mul_left _ (by decide)
 have hp1:1 <= 18446744073709551616 ^ l:=Nat.pow_pos (by decide)
 have hbb:b.natAbs < 18446744073709551616 ^ l:=hb
 have hab:(b.natAbs:Int) * x + y = a.natAbs:=by exact_mod_cast hdm
 by_cases hr:a < 0/\0 < y
 ·obtain ⟨h1,h2⟩:=hr
  rw [if_pos (by simp [h1,h2])]
  have f1:(⟨false,dg b.natAbs⟩:Te) = L b.natAbs:=by unfold L; simp
  have f2:(⟨!(L b).fe,([(1:UInt64)]:List UInt64)⟩:Te) = L (if b < 0 then 1 else -1):=by
   unfold L
   by_cases hb0:b < 0 <;> simp [hb0] <;> rw [dg1 (by decide) (by decide)] <;> rfl
  rw [f1,f2,cS n (l + 1) _ _ ?_ ?_ (by omega) (by omega),ab,cS n (l + 1) _ _ ?_ ?_ (by omega) (by omega),ab]
  ·have e:sg (!(decide (a < 0) == decide (b < 0))) x + (if b < 0 then 1 else -1) = a / b/\sg (decide (a < 0)) y + b.natAbs = a % b:=by
    have:=cY (a:=a) (b:=b) (q:=sg (!(decide (a < 0) == decide (b < 0))) x + (if b < 0 then 1 else -1)) (r:=sg (decide (a < 0)) y + b.natAbs) ?_ ?_ ?_
    ·exact ⟨this.1.symm,this.2.symm⟩
    ·unfold sg
     by_cases hb0:b < 0
     ·have:(b.natAbs:Int) = -b:=by omega
      rw [this] at hab ⊢
      have h3:(a.natAbs:Int) = -a:=by omega
      simp [h1,hb0]
      rw [Int.mul_add]; grind
     ·have:(b.natAbs:Int) = b:=by omega
      rw [this] at hab ⊢
      have h3:(a.natAbs:Int) = -a:=by omega
      simp [h1,hb0]
      rw [Int.mul_add]; grind
    ·unfold sg; simp [h1]; omega
    ·unfold sg; simp [h1]; omega
   show some (L (sg (!(decide (a < 0) == decide (b < 0))) x + (if b < 0 then 1 else -1)),L (sg (decide (a < 0)) y + b.natAbs)) = _
   rw [e.1,e.2]
  ·unfold Fit; rw [im]; omega
  ·unfold Fit; split <;> simp <;> omega
  ·unfold Fit; rw [im]; omega
  ·unfold Fit; rw [Int.natAbs_natCast]; omega
 ·rw [if_neg (by simpa using hr)]
  have e:=cY (a:=a) (b:=b) (q:=sg (!(decide (a < 0) == decide (b < 0))) x) (r:=sg (decide (a < 0)) y) ?_ ?_ ?_
  ·rw [e.1,e.2]; rfl
  ·unfold sg
   by_cases h1:a < 0
   ·have hy0:y = 0:=by omega
    have h3:(a.natAbs:Int) = -a:=by omega
    by_cases hb0:b < 0
    ·have:(b.natAbs:Int) = -b:=by omega
     rw [this] at hab; simp [h1,hb0,hy0] at hab ⊢; grind
    ·have:(b.natAbs:Int) = b:=by omega
     rw [this] at hab; simp [h1,hb0,hy0] at hab ⊢; grind
   ·have h3:(a.natAbs:Int) = a:=by omega
    by_cases hb0:b < 0
    ·have:(b.natAbs:Int) = -b:=by omega
     rw [this] at hab; simp [h1,hb0] at hab ⊢; grind
    ·have:(b.natAbs:Int) = b:=by omega
     rw [this] at hab; simp [h1,hb0] at hab ⊢; grind
  ·unfold sg
   by_cases h1:a < 0
   ·have hy0:y = 0:=by omega
    simp [hy0]
   ·simp [h1]
  ·unfold sg
   by_cases h1:a < 0
   ·have hy0:y = 0:=by omega
    simp [hy0]; omega
   ·simp [h1]; omega
theorem kn (n l:Nat) (a b:Int) (ha:Fit l a) (hb:Fit l b) (hl:l < 5000) (hn:18446744073709551616 < n):av_p n (L a) (L b) = some (L (Nat.gcd a.natAbs b.natAbs:Nat)):=by
 obtain ⟨M,hM⟩:∃ M:Nat,M = 64 * l:=⟨_,rfl⟩
 have hx2:a.natAbs < 2 ^ M:=by unfold Fit at ha; rw [de,<- hM] at ha; exact ha
 have hy2:b.natAbs < 2 ^ M:=by unfold Fit at hb; rw [de,<- hM] at hb; exact hb
 have he:=eu_le hx2 hy2
 have h:=av (B:=av_l1 n) (fun s:List UInt64 × List UInt64=>eu (val s.1) (val s.2)) (fun s=>∃ x y,s = (dg x,dg y)/\(dg x).length < 10000/\(dg y).length < 10000/\Nat.gcd x y = Nat.gcd a.natAbs b.natAbs)
  (fun r=>r = dg (Nat.gcd a.natAbs b.natAbs)) ?_ n (dg a.natAbs,dg b.natAbs) ⟨_,_,rfl,by have:=ha.len; omega,by have:=hb.len; omega,rfl⟩ (by simp only [aA]; omega)
 ·obtain ⟨r,h1,rfl⟩:=h
  unfold av_p
  rw [show (L a).fo = dg a.natAbs from rfl,show (L b).fo = dg b.natAbs from rfl,h1,ab]
  unfold L
  simp
 ·rintro _ J ⟨x,y,rfl,h1,h2,h3⟩ hJ
  unfold av_l1
  simp only
  by_cases h0:y = 0
  ·subst h0
   rw [if_neg (by rw [dg0]; simp)]
   exact ⟨_,rfl,by rw [<- h3,Nat.gcd_zero_right]⟩
  ·obtain ⟨q,e1,_,_⟩:=iM n x y h0 h1 h2 hn
   have hm:x % y < y:=Nat.mod_lt _ (by omega)
   have hyl:0 < (dg y).length:=by
    rcases e:dg y with _ | ⟨z,zs⟩
    ·have:=aA y; rw [e] at this; exact absurd this.symm h0
    ·simp
   rw [if_pos hyl,e1,ab]
   simp only
   refine hJ (dg y,dg (x % y)) ⟨_,_,rfl,h2,Nat.lt_of_le_of_lt (eI (Nat.le_of_lt hm)) h2,?_⟩ (by simp only [aA]; exact eu_step h0)
   rw [<- h3,Nat.gcd_comm x y,Nat.gcd_rec y x,Nat.gcd_comm]
theorem kB (n l:Nat) (a b:Int) (ha:Fit l a) (hb:Fit l b) (h0:b ≠ 0) (hl:l < 5000) (hn:18446744073709551616 < n) :
  br_p n (L a) (L b) = some (Rt (Rat.divInt a b))/\(Rat.divInt a b).num.natAbs <= a.natAbs/\(Rat.divInt a b).den <= b.natAbs:=by
 have hg:0 < Nat.gcd a.natAbs b.natAbs:=Nat.gcd_pos_of_pos_right _ (by omega)
 have hgb:Nat.gcd a.natAbs b.natAbs <= b.natAbs:=Nat.gcd_le_right _ (by omega)
 have hgw:Fit l ((Nat.gcd a.natAbs b.natAbs:Nat):Int):=by unfold Fit at *; rw [Int.natAbs_natCast]; omega
 obtain ⟨x,hx⟩:((Nat.gcd a.natAbs b.natAbs:Nat):Int) ∣ a:=Int.ofNat_dvd_left.2 (Nat.gcd_dvd_left _ _)
 obtain ⟨y,hy⟩:((Nat.gcd a.natAbs b.natAbs:Nat):Int) ∣ b:=Int.ofNat_dvd_left.2 (Nat.gcd_dvd_right _ _)
 have hco:=Nat.coprime_div_gcd_div_gcd hg
 generalize Nat.gcd a.natAbs b.natAbs = g at *
 have hg0:(g:Int) ≠ 0:=by omega
 have e1:a / (g:Int) = x:=by rw [hx]; exact Int.mul_ediv_cancel_left _ hg0
 have e2:b / (g:Int) = y:=by rw [hy]; exact Int.mul_ediv_cancel_left _ hg0
 have e3:a.natAbs = g * x.natAbs:=by rw [hx,Int.natAbs_mul]; rfl
 have e4:b.natAbs = g * y.natAbs:=by rw [hy,Int.natAbs_mul]; rfl
 have hc:x.natAbs.Coprime y.natAbs:=by
  rw [e3,e4,Nat.mul_div_cancel_left _ hg,Nat.mul_div_cancel_left _ hg] at hco; exact hco
 have hxl:x.natAbs <= a.natAbs:=by rw [e3]; exact Nat.le_mul_of_pos_left _ hg
 have hyl:y.natAbs <= b.natAbs:=by rw [e4]; exact Nat.le_mul_of_pos_left _ hg
 have hy0:y ≠ 0:=fun e=>h0 (by rw [hy,e,Int.mul_zero])
 have eq:Rat.divInt a b = Rat.divInt x y:=by
  conv=>lhs; rw [hx,hy]
  exact Rat.divInt_mul_left hg0
 have xw:Fit l x:=Nat.lt_of_le_of_lt hxl ha
 have yw:Fit l y:=Nat.lt_of_le_of_lt hyl hb
 have gc:av_p n (L a) (L b) = some (L g):=by
  have:=kn n l a b ha hb hl hn
  rw [this]
  have h5:Nat.gcd a.natAbs b.natAbs = g:=by
   rw [e3,e4,Nat.gcd_mul_left,show Nat.gcd x.natAbs y.natAbs = 1 from hc,Nat.mul_one]
  rw [h5]
 unfold br_p
 rw [gc,ab,mC n l a g ha hgw hg0 hl hn,ab,mC n l b g hb hgw hg0 hl hn,ab,e1,e2]
 simp only
 rw [eq]
 by_cases hs:y < 0
 ·rw [if_pos (by simpa [L] using hs),bJ n l x xw (by omega) (by omega),ab,bJ n l y yw (by omega) (by omega),ab]
  have h5:=ib (x:=-x) (y:=-y) (by omega) (by rwa [Int.natAbs_neg,Int.natAbs_neg])
  rw [Rat.neg_divInt_neg] at h5
  unfold Rt
  rw [h5.1,h5.2]
  exact ⟨rfl,by rw [Int.natAbs_neg]; exact hxl,by have:=h5.2; omega⟩
 ·rw [if_neg (by simpa [L] using hs)]
  have h5:=ib (x:=x) (y:=y) (by omega) hc
  unfold Rt
  rw [h5.1,h5.2]
  exact ⟨rfl,hxl,by have:=h5.2; omega⟩
end Go.Proofs.YtkhpmhhnolpcnaaGreatDoor
namespace Go.Proofs.YtkhpmhhnolpcnaaGreatDoor
open Go
set_option maxRecDepth 8000
abbrev T8:=UInt64 × UInt64 × UInt64 × UInt64 × UInt64 × UInt64 × UInt64 × UInt64
def wv (t:T8):List UInt64:=[t.1,t.2.1,t.2.2.1,t.2.2.2.1,t.2.2.2.2.1,t.2.2.2.2.2.1,t.2.2.2.2.2.2.1,t.2.2.2.2.2.2.2]
theorem kf:∀ {xs ys:List UInt64},xs.length = ys.length -> val xs = val ys -> xs = ys
 | [],[],_,_=>rfl
 | x :: xs,[],h,_=>by simp at h
 | [],y :: ys,h,_=>by simp at h
 | x :: xs,y :: ys,h,e=>by
  simp only [val] at e
  have hx:=x.toNat_lt
  have hy:=y.toNat_lt
  have e1:x = y:=UInt64.toNat_inj.1 (by omega)
  have e2:val xs = val ys:=by omega
  rw [e1,kf (by simpa using h) e2]
theorem wv_inj {s t:T8} (h:val (wv s) = val (wv t)):s = t:=by
 have:=kf (by rfl) h
 unfold wv at this
 obtain ⟨s1,s2,s3,s4,s5,s6,s7,s8⟩:=s
 obtain ⟨t1,t2,t3,t4,t5,t6,t7,t8⟩:=t
 simp only [List.cons.injEq,and_true] at this
 simp only [Prod.mk.injEq]
 exact this
def HB:Nat:=9223372036854775808 * 18446744073709551616 ^ 7
def FB:Nat:=18446744073709551616 ^ 8
theorem eG:FB = 2 * HB:=by unfold FB HB; rfl
theorem cw:0 < HB:=by unfold HB; decide
theorem wv_lt (t:T8):val (wv t) < FB:=cg (wv t)
def Wn (m:Nat):T8:=(UInt64.ofNat m,UInt64.ofNat (m / 18446744073709551616),UInt64.ofNat (m / 18446744073709551616 / 18446744073709551616),UInt64.ofNat (m / 18446744073709551616 / 18446744073709551616 / 18446744073709551616),UInt64.ofNat (m / 18446744073709551616 / 18446744073709551616 / 18446744073709551616 / 18446744073709551616),UInt64.ofNat (m / 18446744073709551616 / 18446744073709551616 / 18446744073709551616 / 18446744073709551616 / 18446744073709551616),UInt64.ofNat (m / 18446744073709551616 / 18446744073709551616 / 18446744073709551616 / 18446744073709551616 / 18446744073709551616 / 18446744073709551616),UInt64.ofNat (m / 18446744073709551616 / 18446744073709551616 / 18446744073709551616 / 18446744073709551616 / 18446744073709551616 / 18446744073709551616 / 18446744073709551616))
theorem bR (m:Nat) (xs:List UInt64) (h:val xs = m / 18446744073709551616):val (UInt64.ofNat m :: xs) = m:=by
 simp only [val]
 rw [UInt64.toNat_ofNat', h]
 exact Nat.mod_add_div m 18446744073709551616
theorem Wn_val {m:Nat} (h:m < FB):val (wv (Wn m)) = m:=by
 unfold wv Wn
 refine bR _ _ (bR _ _ (bR _ _ (bR _ _ (bR _ _ (bR _ _ (bR _ _ ?_))))))
 simp only [val]
 rw [UInt64.toNat_ofNat', Nat.mul_zero,Nat.add_zero]
 refine Nat.mod_eq_of_lt ?_
 simp only [Nat.div_div_eq_div_mul]
 refine Nat.div_lt_of_lt_mul ?_
 exact h
def Fw (z:Int):Prop:=-(HB:Int) <= z/\z < HB
def Wg (z:Int):T8:=Wn (z % (FB:Int)).toNat
theorem eS (z:Int):(val (wv (Wg z)):Int) = z % (FB:Int):=by
 have hp:=cw
 have hf:=eG
 have h0:=Int.emod_nonneg z (b:=(FB:Int)) (by omega)
 have h1:=Int.emod_lt_of_pos z (b:=(FB:Int)) (by omega)
 unfold Wg
 rw [Wn_val (by omega)]
 omega
theorem Wg_pos {z:Int} (h:Fw z) (h0:0 <= z):val (wv (Wg z)) = z.natAbs:=by
 have hp:=cw
 have hf:=eG
 have:=eS z
 rw [Int.emod_eq_of_lt h0 (by have:=h.2; omega)] at this
 omega
theorem Wg_neg {z:Int} (h:Fw z) (h0:z < 0):val (wv (Wg z)) + z.natAbs = FB:=by
 have hp:=cw
 have hf:=eG
 have:=eS z
 have e:z % (FB:Int) = z + FB:=by
  rw [<- Int.add_emod_right]
  exact Int.emod_eq_of_lt (by have:=h.1; omega) (by omega)
 rw [e] at this
 have:=h.1
 omega
theorem bD {s b c a c1 c2 Vs Vb Va K:Nat} (h1:s + b + c = a + 18446744073709551616 * c1) (h2:Vs + Vb + c1 = Va + K * c2):(s + 18446744073709551616 * Vs) + (b + 18446744073709551616 * Vb) + c = (a + 18446744073709551616 * Va) + 18446744073709551616 * K * c2:=by
 rw [Nat.mul_assoc]
 have:=congrArg (18446744073709551616 * ·) h2
 simp only [Nat.mul_add] at this
 omega
theorem gK (n:Nat) (a b:T8):∃ s c,aY_p n a b = some (s,c)/\val (wv s) + val (wv b) = val (wv a) + FB * c.toNat/\c.toNat <= 1:=by
 obtain ⟨a1,a2,a3,a4,a5,a6,a7,a8⟩:=a
 obtain ⟨b1,b2,b3,b4,b5,b6,b7,b8⟩:=b
 obtain ⟨s1,c1,e1,f1,g1⟩:=br a1 b1 0 (by decide)
 obtain ⟨s2,c2,e2,f2,g2⟩:=br a2 b2 c1 g1
 obtain ⟨s3,c3,e3,f3,g3⟩:=br a3 b3 c2 g2
 obtain ⟨s4,c4,e4,f4,g4⟩:=br a4 b4 c3 g3
 obtain ⟨s5,c5,e5,f5,g5⟩:=br a5 b5 c4 g4
 obtain ⟨s6,c6,e6,f6,g6⟩:=br a6 b6 c5 g5
 obtain ⟨s7,c7,e7,f7,g7⟩:=br a7 b7 c6 g6
 obtain ⟨s8,c8,e8,f8,g8⟩:=br a8 b8 c7 g7
 refine ⟨(s1,s2,s3,s4,s5,s6,s7,s8),c8,?_,?_,g8⟩
 ·unfold aY_p
  simp only [e1,e2,e3,e4,e5,e6,e7,e8,ab]
 ·have hFB:FB = 18446744073709551616 * (18446744073709551616 * (18446744073709551616 * (18446744073709551616 * (18446744073709551616 * (18446744073709551616 * (18446744073709551616 * (18446744073709551616 * 1))))))):=rfl
  have:=bD f1 (bD f2 (bD f3 (bD f4 (bD f5 (bD f6 (bD f7 (bD f8 (show 0 + 0 + c8.toNat = 0 + 1 * c8.toNat by omega))))))))
  rw [<- hFB,show (0:UInt64).toNat = 0 from rfl,Nat.add_zero] at this
  simp only [wv,val]
  exact this
theorem lj (n:Nat) (a b:T8) (hn:10 < n):∃ c,aK_p n a b = some c/\(c < 0 ↔ val (wv a) < val (wv b))/\(c = 0 ↔ val (wv a) = val (wv b)):=by
 have hh:=av (B:=aK_l1 n a b) (fun z:Int=>(z + 1).toNat) (fun z=>-1 <= z/\z < 8/\(wv a).drop (z + 1).toNat = (wv b).drop (z + 1).toNat)
  (fun r=>(r = .inl (-1)/\val (wv a) < val (wv b)) ∨ (r = .inl 1/\val (wv b) < val (wv a)) ∨ (r = .inr ()/\wv a = wv b)) ?_ n 7 ⟨by omega,by omega,rfl⟩ (by omega)
 ·obtain ⟨r,hr,h1 | h1 | h1⟩:=hh
  ·unfold aK_p
   rw [hr,h1.1]; exact ⟨_,rfl,by have:=h1.2; omega,by have:=h1.2; omega⟩
  ·unfold aK_p
   rw [hr,h1.1]; exact ⟨_,rfl,by have:=h1.2; omega,by have:=h1.2; omega⟩
  ·unfold aK_p
   rw [hr,h1.1,h1.2]; exact ⟨_,rfl,by omega,by omega⟩
 ·intro z J ⟨h1,h2,h3⟩ hJ
  unfold aK_l1
  simp only
  have la:(wv a).length = 8:=rfl
  have lb:(wv b).length = 8:=rfl
  by_cases h0:0 <= z
  ·have e1:(z + 1).toNat = z.toNat + 1:=by omega
   rw [e1] at h3
   rw [if_pos h0]
   show ∃ r,((idx (wv a) z).bind fun z64=>(idx (wv b) z).bind fun z68=>if z64 = z68 then (chk (z - 1)).bind fun s73=>J s73 else if z64 < z68 then some (Sum.inl (-1:Int)) else some (Sum.inl (1:Int))) = some r/\_
   rw [bf h0 (by omega),ab,bf h0 (by omega),ab]
   split
   ·rename_i he
    rw [aN (by omega) (by omega),ab]
    refine hJ (z - 1) ⟨by omega,by omega,?_⟩ (by omega)
    rw [show (z - 1 + 1).toNat = z.toNat by omega,List.drop_eq_getElem_cons (by omega),List.drop_eq_getElem_cons (l:=wv b) (by omega),h3,he]
   ·rename_i hne
    split
    ·rename_i hlt; exact ⟨_,rfl,.inl ⟨rfl,eM (by omega) (by omega) h3 hlt⟩⟩
    ·rename_i h5
     refine ⟨_,rfl,.inr (.inl ⟨rfl,eM (by omega) (by omega) h3.symm ?_⟩)⟩
     rw [UInt64.lt_iff_toNat_lt] at h5 ⊢
     have:((wv a)[z.toNat]'(by omega)).toNat ≠ ((wv b)[z.toNat]'(by omega)).toNat:=fun e=>hne (UInt64.toNat_inj.1 e)
     omega
  ·rw [if_neg h0]
   have e1:(z + 1).toNat = 0:=by omega
   rw [e1] at h3
   exact ⟨_,rfl,.inr (.inr ⟨rfl,by simpa using h3⟩)⟩
theorem gW (t:T8):shrU t.2.2.2.2.2.2.2 63 = 1 ↔ HB <= val (wv t):=by
 obtain ⟨t1,t2,t3,t4,t5,t6,t7,t8⟩:=t
 have h1:=cg [t1,t2,t3,t4,t5,t6,t7]
 have e:val (wv (t1,t2,t3,t4,t5,t6,t7,t8)) = val [t1,t2,t3,t4,t5,t6,t7] + 18446744073709551616 ^ 7 * t8.toNat:=by
  have:=dy [t1,t2,t3,t4,t5,t6,t7] [t8]
  simp only [leC,leN] at this
  show val ([t1,t2,t3,t4,t5,t6,t7] ++ [t8]) = _
  rw [this]
  simp [val]
 rw [e]
 simp only [leC,leN] at h1
 have h8:=t8.toNat_lt
 have hs:(shrU t8 63).toNat = t8.toNat / 9223372036854775808:=bI t8 (by decide)
 have hsw:shrU t8 63 = 1 ↔ 9223372036854775808 <= t8.toNat:=by
  constructor
  ·intro h
   have:=congrArg UInt64.toNat h
   rw [hs] at this
   simp only [UInt64.toNat_one] at this
   omega
  ·intro h
   refine UInt64.toNat_inj.1 ?_
   rw [hs]
   simp only [UInt64.toNat_one]
   omega
 show shrU t8 63 = 1 ↔ _
 rw [hsw]
 unfold HB
 generalize val [t1,t2,t3,t4,t5,t6,t7] = lo at *
 generalize hP:(18446744073709551616:Nat) ^ 7 = P at *
 constructor
 ·intro h
  have:=Nat.mul_le_mul_left P h
  rw [Nat.mul_comm] at this
  omega
 ·intro h
  by_cases c:9223372036854775808 <= t8.toNat
  ·exact c
  ·exfalso
   have:=Nat.mul_le_mul_left P (show t8.toNat + 1 <= 9223372036854775808 by omega)
   rw [Nat.mul_add,Nat.mul_comm P 9223372036854775808] at this
   omega
theorem ku (n:Nat) (z:Int) (h:Fw z) (hn:10 < n):bm_p n (Wg z) = some (L z):=by
 have hp:=cw
 have hf:=eG
 have fin:∀ (b:Bool) (t:T8),val (wv t) = z.natAbs -> (b && decide (0 < z.natAbs)) = decide (z < 0) -> ((app ([]:List UInt64) ([t.1,t.2.1,t.2.2.1,t.2.2.2.1,t.2.2.2.2.1,t.2.2.2.2.2.1,t.2.2.2.2.2.2.1,t.2.2.2.2.2.2.2]:List UInt64)).bind fun xs=>(ao_p n b xs).bind fun y=>some y) = some (L z):=fun b t hv hb=>by
  show ((app ([]:List UInt64) (wv t)).bind fun xs=>(ao_p n b xs).bind fun y=>some y) = some (L z)
  rw [eH [] (wv t) (by show 0 + 8 <= 1000000; decide),ab,List.nil_append,aC n b (wv t) (by show 8 < n; omega) (by show 8 <= 4294967296; decide),ab,hv,hb]
  rfl
 unfold bm_p cv_p
 by_cases h0:z < 0
 ·have hv:=Wg_neg h h0
  have hge:HB <= val (wv (Wg z)):=by have:=h.1; omega
  obtain ⟨s,c,e,e2,e3⟩:=gK n (0,0,0,0,0,0,0,0) (Wg z)
  have hz:val (wv ((0,0,0,0,0,0,0,0):T8)) = 0:=rfl
  rw [hz] at e2
  have hs:=wv_lt s
  have hc:c.toNat = 1:=by
   by_cases hc0:c.toNat = 0
   ·rw [hc0] at e2; omega
   ·omega
  rw [hc] at e2
  rw [if_pos ((gW _).2 hge),e,ab,ab]
  exact fin _ s (by omega) (by rw [decide_eq_true ((gW _).2 hge),decide_eq_true (by omega:0 < z.natAbs),decide_eq_true h0]; rfl)
 ·have hv:=Wg_pos h (by omega)
  have hlt:¬ shrU (Wg z).2.2.2.2.2.2.2 63 = 1:=fun e=>by have:=(gW _).1 e; have:=h.2; omega
  rw [if_neg hlt,ab]
  exact fin _ (Wg z) hv (by rw [decide_eq_false hlt,decide_eq_false h0]; rfl)
theorem kx {z:Int} {t:T8} (h:(val (wv t):Int) = z % (FB:Int)):t = Wg z:=wv_inj (by have:=eS z; omega)
theorem mT {ws:List UInt64} (h:ws.length <= 8):val (wv (aI ws 0 0,aI ws 1 0,aI ws 2 0,aI ws 3 0,aI ws 4 0,aI ws 5 0,aI ws 6 0,aI ws 7 0)) = val ws:=by
 unfold wv aI
 rcases ws with _ | ⟨a,_ | ⟨b,_ | ⟨c,_ | ⟨d,_ | ⟨e,_ | ⟨f,_ | ⟨g,_ | ⟨i,_ | ⟨j,xs⟩⟩⟩⟩⟩⟩⟩⟩⟩
 any_goals simp [val]
 simp only [leC] at h
 omega
open Classical in
theorem toldG (n:Nat) (z:Int) (hn:10 < n):bz_p n (L z) = some (if Fw z then (Wg z,0) else ((0,0,0,0,0,0,0,0),6)):=by
 have hp:=cw
 have hf:=eG
 have hdg:=aA z.natAbs
 unfold bz_p
 by_cases hl:8 < (dg z.natAbs).length
 ·have h1:=ii (fO z.natAbs) (by intro e; rw [e] at hl; simp at hl)
  have h2:18446744073709551616 ^ 8 <= 18446744073709551616 ^ ((dg z.natAbs).length - 1):=Nat.pow_le_pow_right (by decide) (by omega)
  have hbig:FB <= z.natAbs:=by unfold FB; omega
  rw [if_pos (show 8 < (L z).fo.length from hl),if_neg fun h:Fw z=>by have:=h.1; have:=h.2; omega]
 ·have hv:=mT (ws:=dg z.natAbs) (by omega)
  rw [if_neg (show ¬ 8 < (L z).fo.length from hl)]
  show ((bI_p n ⟨decide (z < 0),(aI (dg z.natAbs) 0 0,aI (dg z.natAbs) 1 0,aI (dg z.natAbs) 2 0,aI (dg z.natAbs) 3 0,aI (dg z.natAbs) 4 0,aI (dg z.natAbs) 5 0,aI (dg z.natAbs) 6 0,aI (dg z.natAbs) 7 0)⟩).bind _) = _
  generalize hT:((aI (dg z.natAbs) 0 0,aI (dg z.natAbs) 1 0,aI (dg z.natAbs) 2 0,aI (dg z.natAbs) 3 0,aI (dg z.natAbs) 4 0,aI (dg z.natAbs) 5 0,aI (dg z.natAbs) 6 0,aI (dg z.natAbs) 7 0):T8) = t at *
  rw [hdg] at hv
  unfold bI_p
  obtain ⟨c,ec,c1,c2⟩:=lj n t (0,0,0,0,0,0,0,9223372036854775808) hn
  have hlim:val (wv ((0,0,0,0,0,0,0,9223372036854775808):T8)) = HB:=by decide
  rw [hlim,hv] at c1 c2
  simp only
  rw [ec,ab]
  obtain ⟨s,cc,e,e2,e3⟩:=gK n (0,0,0,0,0,0,0,0) t
  have hz:val (wv ((0,0,0,0,0,0,0,0):T8)) = 0:=rfl
  rw [hz,hv] at e2
  have hs:=wv_lt s
  have neg:z < 0 -> Fw z -> s = Wg z:=fun h0 hw=>by
   refine kx ?_
   have hc:cc.toNat = 1:=by
    by_cases hc0:cc.toNat = 0
    ·rw [hc0] at e2; omega
    ·omega
   rw [hc] at e2
   have e5:z % (FB:Int) = z + FB:=by
    rw [<- Int.add_emod_right]
    exact Int.emod_eq_of_lt (by have:=hw.1; omega) (by omega)
   rw [e5]; omega
  by_cases g1:0 < c
  ·rw [if_pos g1,ab,if_neg fun h:Fw z=>by have:=h.1; have:=h.2; omega]
  ·rw [if_neg g1]
   by_cases g2:c = 0
   ·rw [if_pos g2]
    by_cases h0:z < 0
    ·have hw:Fw z:=⟨by omega,by omega⟩
     rw [if_pos (decide_eq_true h0),e,ab,ab,if_pos hw,neg h0 hw]
    ·rw [if_neg (by simpa using h0),ab,if_neg fun h:Fw z=>by have:=h.2; omega]
   ·rw [if_neg g2]
    by_cases h0:z < 0
    ·have hw:Fw z:=⟨by omega,by omega⟩
     rw [if_pos (decide_eq_true h0),e,ab,ab,if_pos hw,neg h0 hw]
    ·have hw:Fw z:=⟨by omega,by omega⟩
     rw [if_neg (by simpa using h0),ab,if_pos hw]
     rw [show t = Wg z from kx (by rw [Int.emod_eq_of_lt (by omega) (by have:=hw.2; omega)]; omega)]
end Go.Proofs.YtkhpmhhnolpcnaaGreatDoor
namespace Go.Proofs.YtkhpmhhnolpcnaaGreatDoor
open Go
set_option maxRecDepth 8000
def Sg (q:Rat):Ta:=⟨Wg q.num,Wg q.den⟩
def FQ (q:Rat):Prop:=Fw q.num/\Fw (q.den:Int)
def noS:Ta:=⟨(0,0,0,0,0,0,0,0),(0,0,0,0,0,0,0,0)⟩
theorem Fw.fit {z:Int} (h:Fw z):Fit 8 z:=by
 have h1:=eG
 have h2:=cw
 unfold Fit
 show z.natAbs < FB
 have:=h.1
 have:=h.2
 omega
theorem FQ.n {q:Rat} (h:FQ q):Fit 8 q.num:=h.1.fit
theorem FQ.d {q:Rat} (h:FQ q):Fit 8 (q.den:Int):=h.2.fit
theorem FQ.ndnz {q:Rat}:(q.den:Int) ≠ 0:=by have:=q.den_pos; omega
theorem W8_Wg {z:Int} (h:Sm z):W8 z = Wg z:=by
 have hp:9223372036854775808 <= HB:=by unfold HB; decide
 have hf:=eG
 refine kx ?_
 unfold W8
 by_cases h0:z < 0
 ·have e5:z % (FB:Int) = z + FB:=by
   rw [<- Int.add_emod_right]
   exact Int.emod_eq_of_lt (by unfold Sm at h; omega) (by omega)
  rw [if_pos h0,e5]
  have hv:val (wv ((ac z,18446744073709551615,18446744073709551615,18446744073709551615,18446744073709551615,18446744073709551615,18446744073709551615,18446744073709551615):T8)) = (ac z).toNat + 18446744073709551616 * val [18446744073709551615,18446744073709551615,18446744073709551615,18446744073709551615,18446744073709551615,18446744073709551615,18446744073709551615]:=rfl
  have hc:18446744073709551616 * val [18446744073709551615,18446744073709551615,18446744073709551615,18446744073709551615,18446744073709551615,18446744073709551615,18446744073709551615] + 18446744073709551616 = FB:=by decide
  rw [hv,eK h h0]
  unfold Sm at h
  omega
 ·rw [if_neg h0,Int.emod_eq_of_lt (by omega) (by unfold Sm at h; omega)]
  have hv:val (wv ((ac z,0,0,0,0,0,0,0):T8)) = (ac z).toNat:=by unfold wv; simp [val]
  rw [hv,eQ h h0,bO h.w]
  omega
theorem Sh_Sg {q:Rat} (h1:Sm q.num) (h2:Sm (q.den:Int)):Sh q = Sg q:=by unfold Sh Sg; rw [W8_Wg h1,W8_Wg h2]
theorem jt {x y:Int} (hx:Fw x) (hy:Fw y) (e:Wg x = Wg y):x = y:=by
 have h1:=eS x
 have h2:=eS y
 rw [e,h2] at h1
 have hf:=eG
 have hp:=cw
 have a:=hx.1; have b:=hx.2; have c:=hy.1; have d:=hy.2
 have e3:=Int.emod_eq_emod_iff_emod_sub_eq_zero.1 h1
 obtain ⟨k,hk⟩:=Int.dvd_of_emod_eq_zero e3
 by_cases k0:k = 0
 ·rw [k0,Int.mul_zero] at hk; omega
 ·by_cases kp:1 <= k
  ·have:(FB:Int) * 1 <= FB * k:=Int.mul_le_mul_of_nonneg_left kp (by omega)
   omega
  ·have:(FB:Int) * k <= FB * (-1):=Int.mul_le_mul_of_nonneg_left (show k <= -1 by omega) (by omega)
   omega
theorem mS {x y:Rat} (hx:FQ x) (hy:FQ y) (e:Sg x = Sg y):x = y:=by
 unfold Sg at e
 injection e with e1 e2
 have h1:=jt hx.1 hy.1 e1
 have h2:=jt hx.2 hy.2 e2
 exact Rat.ext h1 (by omega)
theorem ca (n:Nat) (q:Rat) (h:FQ q) (hn:10 < n):aw_p n (Sg q) = some (Rt q):=by
 unfold aw_p
 rw [show (Sg q).fN = Wg q.num from rfl,show (Sg q).fD = Wg q.den from rfl,ku n _ h.1 hn,ab,ku n _ h.2 hn,ab]
 rfl
open Classical in
theorem rtoldG (n:Nat) (q:Rat) (hn:10 < n):bf_p n (Rt q) = some (if FQ q then (Sg q,0) else (noS,6)):=by
 unfold bf_p
 rw [show (Rt q).ft = L q.num from rfl,show (Rt q).fp = L q.den from rfl,toldG n _ hn,ab,toldG n _ hn,ab]
 by_cases h1:Fw q.num
 ·by_cases h2:Fw (q.den:Int)
  ·rw [if_pos h1,if_pos h2,if_pos (show FQ q from ⟨h1,h2⟩)]
   rfl
  ·rw [if_pos h1,if_neg h2,if_neg fun h:FQ q=>h2 h.2]
   rfl
 ·rw [if_neg h1,if_neg fun h:FQ q=>h1 h.1]
  rfl
theorem checkG (n:Nat) (q:Rat) (h:FQ q) (hn:18446744073709551616 < n):cj_p n (Sg q) = some 0:=by
 have hd:=q.den_pos
 unfold cj_p
 rw [from_ok n 1 (by unfold Sm; decide) (by omega),ab,ca n q h (by omega),ab,show (Rt q).ft = L q.num from rfl,show (Rt q).fp = L q.den from rfl,eJ,ab,Int.sign_eq_one_of_pos (by omega),if_neg (by decide)]
 rw [kn n 8 _ _ h.n h.d (by decide) hn,ab,show Nat.gcd q.num.natAbs (q.den:Int).natAbs = 1 from q.reduced]
 unfold bJ_p
 rw [eZ n 1 _ _ (by unfold Fit; decide) (by unfold Fit; decide) (by omega) (by omega),ab,eJ]
 rfl
theorem valid1G (n:Nat) (q:Rat) (h:FQ q) (hn:18446744073709551616 < n):co_p n (Sg q) = some true:=by
 unfold co_p; rw [checkG n q h hn]; rfl
theorem validG (n:Nat) (l:List Rat) (h:∀ q ∈ l,FQ q) (hl:l.length < n) (hn:18446744073709551616 < n):aC_p n (l.map Sg) = some true:=by
 have hh:=av (B:=aC_l1 n (l.map Sg)) (fun i:Nat=>l.length - i) (fun i=>i <= l.length) (fun r=>r = .inr ()) ?_ n 0 (Nat.zero_le _) (by simpa using hl)
 ·obtain ⟨r,e,rfl⟩:=hh
  unfold aC_p
  rw [e]; rfl
 ·intro i J hi hJ
  unfold aC_l1
  simp only
  by_cases h0:i < l.length
  ·rw [if_pos (by simpa using h0),geE (by simpa using h0),ab,List.getElem_map]
   rw [valid1G n _ (h l[i] (List.getElem_mem _)) hn,ab,if_pos rfl]
   exact hJ (i + 1) h0 (by omega)
  ·rw [if_neg (by simpa using h0)]
   exact ⟨_,rfl,rfl⟩
theorem dz (n:Nat) (a b:Rat) (ha:FQ a) (hb:FQ b) (hn:18446744073709551616 < n):aC_p n [Sg a,Sg b] = some true:=
 validG n [a,b] (fun q hq=>by
  rcases List.mem_cons.1 hq with rfl | hq
  ·exact ha
  ·rw [List.mem_singleton.1 hq]; exact hb) (by simp only [leC,leN]; omega) hn
theorem Fit.mul {l m:Nat} {a b:Int} (ha:Fit l a) (hb:Fit m b):Fit (l + m) (a * b):=by
 unfold Fit at *
 rw [Int.natAbs_mul,Nat.pow_add]
 exact Nat.mul_lt_mul'' ha hb
theorem Fit.add {l:Nat} {a b:Int} (ha:Fit l a) (hb:Fit l b):Fit (l + 1) (a + b):=by
 unfold Fit at *
 have:2 * 18446744073709551616 ^ l <= 18446744073709551616 ^ (l + 1):=by rw [Nat.pow_succ,Nat.mul_comm]; exact Nat.mul_le_mul_left _ (by decide)
 omega
theorem Fit.mono {l m:Nat} {a:Int} (ha:Fit l a) (h:l <= m):Fit m a:=Nat.lt_of_lt_of_le ha (Nat.pow_le_pow_right (by decide) h)
structure RF (l:Nat) (q:Rat):Prop where
 n:Fit l q.num
 d:Fit l (q.den:Int)
theorem FQ.rf {q:Rat} (h:FQ q):RF 8 q:=⟨h.n,h.d⟩
theorem RF.of {l:Nat} {a b:Int} (ha:Fit l a) (hb:Fit l b) (h1:(Rat.divInt a b).num.natAbs <= a.natAbs) (h2:(Rat.divInt a b).den <= b.natAbs):RF l (Rat.divInt a b):=
 ⟨Nat.lt_of_le_of_lt h1 ha,by unfold Fit; rw [Int.natAbs_natCast]; exact Nat.lt_of_le_of_lt h2 hb⟩
theorem plusG (n l:Nat) (a b:Rat) (ha:RF l a) (hb:RF l b) (hl:l < 1000) (hn:18446744073709551616 < n):bC_p n (Rt a) (Rt b) = some (Rt (a + b))/\RF (l + l + 1) (a + b):=by
 have d0:(a.den:Int) * b.den ≠ 0:=Int.mul_ne_zero FQ.ndnz FQ.ndnz
 have e:a + b = Rat.divInt (a.num * b.den + b.num * a.den) (a.den * b.den):=by
  conv=>lhs; rw [<- Rat.num_divInt_den a,<- Rat.num_divInt_den b]
  exact Rat.divInt_add_divInt _ _ FQ.ndnz FQ.ndnz
 have f1:=(ha.n.mul hb.d).add (hb.n.mul ha.d)
 have f2:=(ha.d.mul hb.d).mono (show l + l <= l + l + 1 by omega)
 obtain ⟨e1,e2,e3⟩:=kB n (l + l + 1) _ _ f1 f2 d0 (by omega) hn
 rw [<- e] at e1 e2 e3
 refine ⟨?_,?_⟩
 ·unfold bC_p Rt
  rw [bt n l l _ _ ha.n hb.d (by omega) (by omega),ab,bt n l l _ _ hb.n ha.d (by omega) (by omega),ab,cS n (l + l) _ _ (ha.n.mul hb.d) (hb.n.mul ha.d) (by omega) (by omega),ab,bt n l l _ _ ha.d hb.d (by omega) (by omega),ab,e1]
  rfl
 ·rw [e]; rw [e] at e2 e3; exact RF.of f1 f2 e2 e3
theorem overG (n l:Nat) (a b:Rat) (ha:RF l a) (hb:RF l b) (h0:b ≠ 0) (hl:l < 1000) (hn:18446744073709551616 < n):bD_p n (Rt a) (Rt b) = some (Rt (a / b))/\RF (l + l) (a / b):=by
 have b0:b.num ≠ 0:=fun e=>h0 (Rat.num_eq_zero.1 e)
 have d0:(a.den:Int) * b.num ≠ 0:=Int.mul_ne_zero FQ.ndnz b0
 have e:a / b = Rat.divInt (a.num * b.den) (a.den * b.num):=by
  conv=>lhs; rw [Rat.div_def,<- Rat.num_divInt_den a,<- Rat.num_divInt_den b,Rat.inv_divInt]
  exact Rat.divInt_mul_divInt _ _
 have f1:=ha.n.mul hb.d
 have f2:=ha.d.mul hb.n
 obtain ⟨e1,e2,e3⟩:=kB n (l + l) _ _ f1 f2 d0 (by omega) hn
 rw [<- e] at e1 e2 e3
 refine ⟨?_,?_⟩
 ·unfold bD_p Rt
  rw [bt n l l _ _ ha.n hb.d (by omega) (by omega),ab,bt n l l _ _ ha.d hb.n (by omega) (by omega),ab,e1]
  rfl
 ·rw [e]; rw [e] at e2 e3; exact RF.of f1 f2 e2 e3
theorem RF.neg {l:Nat} {q:Rat} (h:RF l q):RF l (-q):=⟨by rw [Rat.neg_num]; exact h.n.neg,by rw [Rat.neg_den]; exact h.d⟩
theorem cT (n l:Nat) (a:Rat) (ha:RF l a) (hl:l < 1000) (hn:18446744073709551616 < n):aA_p n (Rt a) = some (Rt (-a)):=by
 unfold aA_p Rt
 rw [bJ n l _ ha.n (by omega) (by omega),ab,Rat.neg_num,Rat.neg_den]
open Classical in
theorem ge (n:Nat) (q:Rat) (hn:10 < n):aH_p n (Rt q) 0 = some (if FQ q then (Sg q,0) else (noS,6)):=by
 unfold aH_p
 rw [if_pos rfl,rtoldG n q hn]
 rfl
open Classical in
theorem addG (n:Nat) (a b:Rat) (ha:FQ a) (hb:FQ b) (hn:18446744073709551616 < n):cz_p n (Sg a) (Sg b) = some (if FQ (a + b) then (Sg (a + b),0) else (noS,6)):=by
 obtain ⟨e1,_⟩:=plusG n 8 a b ha.rf hb.rf (by decide) hn
 unfold cz_p
 rw [dz n a b ha hb hn,ab,if_pos rfl,ca n a ha (by omega),ab,ca n b hb (by omega),ab,e1,ab,ge n _ (by omega)]
 rfl
open Classical in
theorem subG (n:Nat) (a b:Rat) (ha:FQ a) (hb:FQ b) (hn:18446744073709551616 < n):cx_p n (Sg a) (Sg b) = some (if FQ (a - b) then (Sg (a - b),0) else (noS,6)):=by
 obtain ⟨e1,_⟩:=plusG n 8 a (-b) ha.rf hb.rf.neg (by decide) hn
 rw [<- Rat.sub_eq_add_neg] at e1
 unfold cx_p
 rw [dz n a b ha hb hn,ab,if_pos rfl,ca n a ha (by omega),ab,ca n b hb (by omega),ab]
 unfold bV_p
 rw [cT n 8 b hb.rf (by decide) hn,ab,e1,ab,ab,ge n _ (by omega)]
 rfl
theorem Wg_zero:Wg 0 = (0,0,0,0,0,0,0,0):=(kx (by decide)).symm
open Classical in
theorem divG (n:Nat) (a b:Rat) (ha:FQ a) (hb:FQ b) (h0:b ≠ 0) (hn:18446744073709551616 < n):cy_p n (Sg a) (Sg b) = some (if FQ (a / b) then (Sg (a / b),0) else (noS,6)):=by
 obtain ⟨e1,_⟩:=overG n 8 a b ha.rf hb.rf h0 (by decide) hn
 have hz:Fw 0:=⟨by have:=cw; omega,by have:=cw; omega⟩
 unfold cy_p
 rw [dz n a b ha hb hn,ab,if_pos rfl,if_neg (show ¬ (Sg b).fN = (0,0,0,0,0,0,0,0) from fun e=>h0 (Rat.num_eq_zero.1 (jt hb.1 hz (e.trans Wg_zero.symm)))),ab,if_pos rfl,ca n a ha (by omega),ab,ca n b hb (by omega),ab,e1,ab,ge n _ (by omega)]
 rfl
end Go.Proofs.YtkhpmhhnolpcnaaGreatDoor
namespace Go.Proofs.YtkhpmhhnolpcnaaGreatDoor
open Go
set_option maxRecDepth 8000
theorem ip {a b:Int} (hb:b ≠ 0):(Rat.divInt a b).num * b = a * (Rat.divInt a b).den:=by
 have h:=Rat.num_divInt_den (Rat.divInt a b)
 exact (Rat.divInt_eq_divInt_iff FQ.ndnz hb).1 h
theorem lT {a b:Int} (hb:b ≠ 0):(Rat.divInt a b).num.natAbs <= a.natAbs/\(Rat.divInt a b).den <= b.natAbs:=by
 have h:=congrArg Int.natAbs (ip (a:=a) hb)
 rw [Int.natAbs_mul,Int.natAbs_mul,Int.natAbs_natCast] at h
 have hc:=(Rat.divInt a b).reduced
 have hd:=(Rat.divInt a b).den_pos
 generalize (Rat.divInt a b).num.natAbs = x at *
 generalize (Rat.divInt a b).den = y at *
 have hbp:0 < b.natAbs:=by omega
 constructor
 ·by_cases h0:a.natAbs = 0
  ·rw [h0,Nat.zero_mul] at h
   rcases Nat.mul_eq_zero.1 h with h1 | h1
   ·omega
   ·omega
  ·exact Nat.le_of_dvd (by omega) (hc.dvd_of_dvd_mul_right (by rw [<- h]; exact Nat.dvd_mul_right ..))
 ·exact Nat.le_of_dvd hbp (hc.symm.dvd_of_dvd_mul_left (by rw [h]; exact Nat.dvd_mul_left ..))
def Bt (i j:Nat) (q:Rat):Prop:=q.num.natAbs < 2 ^ i/\q.den < 2 ^ j
theorem hb_pow (w:Nat):9223372036854775808 * 18446744073709551616 ^ w = 2 ^ (63 + 64 * w):=by
 rw [Nat.pow_add,<- de]
def hbl:Nat:=511
theorem hb_pow' {w l:Nat} (h:l = 63 + 64 * w):9223372036854775808 * 18446744073709551616 ^ w = 2 ^ l:=by subst h; exact hb_pow w
theorem ng:HB = 2 ^ hbl:=hb_pow' (w:=7) (l:=hbl) rfl
theorem Bt.fq {i j:Nat} {q:Rat} (h:Bt i j q) (hi:i <= 500) (hj:j <= 500):FQ q:=by
 have e:hbl = 511:=rfl
 have h1:2 ^ i <= HB:=by rw [ng]; exact Nat.pow_le_pow_right (by decide) (by omega)
 have h2:2 ^ j <= HB:=by rw [ng]; exact Nat.pow_le_pow_right (by decide) (by omega)
 have h3:=h.1
 have h4:=h.2
 exact ⟨⟨by omega,by omega⟩,⟨by omega,by omega⟩⟩
theorem Bt.of {i j:Nat} {a b:Int} (hb:b ≠ 0) (h1:a.natAbs < 2 ^ i) (h2:b.natAbs < 2 ^ j):Bt i j (Rat.divInt a b):=by
 obtain ⟨d1,d2⟩:=lT (a:=a) hb
 exact ⟨by omega,by omega⟩
theorem ko {a b i j:Nat} (ha:a < 2 ^ i) (hb:b < 2 ^ j):a * b < 2 ^ (i + j):=by
 rw [Nat.pow_add]; exact Nat.mul_lt_mul'' ha hb
theorem Bt.div {i1 j1 i2 j2:Nat} {a b:Rat} (ha:Bt i1 j1 a) (hb:Bt i2 j2 b) (h0:b ≠ 0):Bt (i1 + j2) (j1 + i2) (a / b):=by
 have b0:b.num ≠ 0:=fun e=>h0 (Rat.num_eq_zero.1 e)
 have d0:(a.den:Int) * b.num ≠ 0:=Int.mul_ne_zero FQ.ndnz b0
 have e:a / b = Rat.divInt (a.num * b.den) (a.den * b.num):=by
  conv=>lhs; rw [Rat.div_def,<- Rat.num_divInt_den a,<- Rat.num_divInt_den b,Rat.inv_divInt]
  exact Rat.divInt_mul_divInt _ _
 rw [e]
 exact Bt.of d0 (by rw [Int.natAbs_mul,Int.natAbs_natCast]; exact ko ha.1 hb.2) (by rw [Int.natAbs_mul,Int.natAbs_natCast]; exact ko ha.2 hb.1)
section
variable {n:Nat} {a b:Rat}
theorem add_q (ha:FQ a) (hb:FQ b) (h:FQ (a + b)) (hn:18446744073709551616 < n):cz_p n (Sg a) (Sg b) = some (Sg (a + b),0):=by rw [addG n a b ha hb hn,if_pos h]
theorem sub_q (ha:FQ a) (hb:FQ b) (h:FQ (a - b)) (hn:18446744073709551616 < n):cx_p n (Sg a) (Sg b) = some (Sg (a - b),0):=by rw [subG n a b ha hb hn,if_pos h]
theorem div_q (ha:FQ a) (hb:FQ b) (h0:b ≠ 0) (h:FQ (a / b)) (hn:18446744073709551616 < n):cy_p n (Sg a) (Sg b) = some (Sg (a / b),0):=by rw [divG n a b ha hb h0 hn,if_pos h]
end
end Go.Proofs.YtkhpmhhnolpcnaaGreatDoor
namespace Go.Proofs.YtkhpmhhnolpcnaaGreatDoor
open Go
set_option maxRecDepth 8000
theorem cF:(18446744073709551616:Nat) < FU:=by decide
theorem of_sg {a b:Int} (ha:Sm a) (hb:Sm b) (h0:b ≠ 0):cu_p FU a b = some (Sg (Rat.divInt a b),0):=by
 have hd:=lT (a:=a) h0
 rw [ja FU a b ha hb h0 cF,Sh_Sg (by unfold Sm at *; omega) (by unfold Sm at *; omega)]
theorem fqd {a b:Int} (h0:b ≠ 0) (ha:a.natAbs < 1152921504606846976) (hb:b.natAbs < 1152921504606846976):FQ (Rat.divInt a b):=
 (Bt.of (i:=60) (j:=60) h0 ha hb).fq (by decide) (by decide)
open Classical in
theorem jS {r:Tf} (hS:∀ u ∈ r.fu,Sm4 u) (k:Int):bO_p FU r k = some (if RV r then (if 1 <= k/\k <= 8 then .ok ⟨r,k⟩ else .error ⟨2⟩) else .error ⟨161⟩):=by
 unfold bO_p
 rw [dN r hS,ab]
 by_cases hv:RV r
 ·rw [if_pos hv,if_pos hv]
  unfold bT_p
  rw [if_pos rfl,ab]
  unfold exc
  simp only
  by_cases h1:k < 1
  ·rw [if_pos h1,iZ,ab,if_neg (by omega)]
  ·rw [if_neg h1]
   by_cases h2:8 < k
   ·rw [decide_eq_true h2,iZ,ab,if_neg (by omega)]
   ·rw [decide_eq_false h2,gm, ab,if_pos (by omega)]
 ·rw [if_neg hv,if_neg hv]
  rfl
def pe (us:List Tb):Nat -> Int
 | 0=>0
 | i + 1=>pe us i + (us[i]?.map (·.fA)).getD 0
theorem kH {us:List Tb} {i:Nat} (h:i < us.length):pe us (i + 1) = pe us i + us[i].fA:=by
 show pe us i + (us[i]?.map (·.fA)).getD 0 = _
 rw [geE h]; rfl
structure Lp (r:Tf) (us:List Tb):Prop where
 l:Lnd r us
 n:r.fu.length <= 64
 p:∀ u ∈ us,0 <= u.fA/\u.fA <= 1000000000
theorem Lp.of {r:Tf} {us:List Tb} (hv:RV r) (h:Lnd r us):Lp r us:=by
 refine ⟨h,hv.n.2,fun u hu=>?_⟩
 obtain ⟨ws,e,_⟩:=h.all
 obtain ⟨i,hi,rfl⟩:=List.getElem_of_mem hu
 have hi2:i < r.fu.length:=by rw [e,List.length_append]; omega
 have h1:=hv.u i hi2
 have e0:r.fu[i] = us[i]:=by simp only [e]; exact List.getElem_append_left hi
 rw [e0] at h1
 refine ⟨h1.1,Int.le_trans h1.2.1 ?_⟩
 split <;> omega
theorem Lp.m {r:Tf} {us:List Tb} (h:Lp r us):us.length <= 64:=Nat.le_trans h.l.le h.n
theorem cJ {r:Tf} {us:List Tb} (h:Lp r us):∀ i:Nat,0 <= pe us i/\pe us i <= (i:Int) * 1000000000
 | 0=>⟨Int.le_refl _,by simp [pe]⟩
 | i + 1=>by
  have ih:=cJ h i
  by_cases hi:i < us.length
  ·have h2:=h.p us[i] (List.getElem_mem hi)
   rw [kH hi]; omega
  ·show 0 <= pe us i + (us[i]?.map (·.fA)).getD 0/\pe us i + (us[i]?.map (·.fA)).getD 0 <= _
   rw [List.getElem?_eq_none (by omega)]
   simp only [Option.map_none,Option.getD_none]; omega
theorem pe_all {r:Tf} {us:List Tb} (h:Lp r us):0 <= pe us us.length/\pe us us.length <= 64000000000:=by
 have h1:=cJ h us.length; have h2:=h.m; omega
def tt (us:List Tb) (p:List Int) (k:Int):Nat -> List Int
 | 0=>List.replicate k.toNat 0
 | i + 1=>(tt us p k i).set (p[i]?.getD 0).toNat ((tt us p k i)[(p[i]?.getD 0).toNat]?.getD 0 + (us[i]?.map (·.fA)).getD 0)
theorem dn (us:List Tb) (p:List Int) (k:Int):∀ i,(tt us p k i).length = k.toNat
 | 0=>by simp [tt]
 | i + 1=>by show ((tt us p k i).set _ _).length = _; rw [List.length_set]; exact dn us p k i
theorem tt_succ {us:List Tb} {p:List Int} {k:Int} {i:Nat} (h1:i < us.length) (h2:i < p.length) (h3:p[i].toNat < (tt us p k i).length):tt us p k (i + 1) = (tt us p k i).set p[i].toNat ((tt us p k i)[p[i].toNat] + us[i].fA):=by
 show (tt us p k i).set (p[i]?.getD 0).toNat ((tt us p k i)[(p[i]?.getD 0).toNat]?.getD 0 + (us[i]?.map (·.fA)).getD 0) = _
 rw [geE h1,geE h2]
 simp only [Option.getD_some,Option.map_some]
 rw [geE h3]; rfl
theorem dQ {r:Tf} {us:List Tb} (h:Lp r us) (p:List Int) (k:Int):∀ i ≤ us.length,∀ x ∈ tt us p k i,0 <= x/\x <= pe us i
 | 0,_,x,hx=>by rw [List.eq_of_mem_replicate hx]; exact ⟨Int.le_refl _,Int.le_refl _⟩
 | i + 1,hi,x,hx=>by
  have ih:=dQ h p k i (by omega)
  have h2:=h.p us[i] (List.getElem_mem _)
  have h3:=cJ h i
  rw [kH (by omega)]
  rcases List.mem_or_eq_of_mem_set hx with hx | hx
  ·have:=ih x hx; omega
  ·rw [hx,geE (show i < us.length by omega)]
   simp only [Option.map_some,Option.getD_some]
   by_cases h4:(p[i]?.getD 0).toNat < (tt us p k i).length
   ·rw [geE h4]
    have:=ih _ (List.getElem_mem h4)
    simp only [Option.getD_some]; omega
   ·rw [List.getElem?_eq_none (by omega)]
    simp only [Option.getD_none]; omega
open Classical in
theorem kI {r:Tf} {us:List Tb} (h:Lp r us) (p:List Int) (k:Int) (hk:1 <= k) (hk8:k <= 8) (hl:p.length <= 1000):aB_p FU ⟨r,k⟩ p = some (if dJ p us.length k then .ok (tt us p k us.length) else .error ⟨220⟩):=by
 have hF:=bq
 have hn:=h.n
 have hle:=h.l.le
 unfold aB_p
 rw [mz h.l (by omega) p k hk hl,ab]
 by_cases hf:dJ p us.length k
 ·rw [if_pos hf,if_pos hf]
  unfold exc
  simp only
  rw [show mk k (0:Int) = some (List.replicate k.toNat 0) from if_pos ⟨by omega,by omega⟩,ab]
  have hh:=av (B:=aB_l1 FU ⟨r,k⟩ p) (fun s:Nat × List Int=>r.fu.length - s.1) (fun s=>s.1 <= us.length/\s.2 = tt us p k s.1) (fun y=>y = .inl (.ok (tt us p k us.length)) ∨ y = .inr (tt us p k us.length)) ?_ FU (0,List.replicate k.toNat 0) ⟨Nat.zero_le _,rfl⟩ (by simp only; omega)
  ·obtain ⟨y,e,hy⟩:=hh
   rw [e]
   rcases hy with rfl | rfl <;> rfl
  ·rintro ⟨i,xs⟩ J ⟨a1,a2⟩ hJ
   simp only at a1 a2 hJ
   subst a2
   unfold aB_l1
   simp only
   by_cases hi:i < r.fu.length
   ·rw [if_pos hi,geE hi,ab]
    rcases h.l.at hi with ⟨h2,e0,hw⟩ | ⟨h2,hw⟩
    ·have hip:i < p.length:=by have:=hf.1; omega
     have hx:=hf.2.1 p[i] (List.getElem_mem hip)
     have hlen:=dn us p k i
     have h3:p[i].toNat < (tt us p k i).length:=by omega
     have hb:=dQ h p k i (by omega) _ (List.getElem_mem h3)
     have h4:=cJ h i
     have h5:=h.p us[i] (List.getElem_mem h2)
     rw [if_neg (by rw [hw]; decide),geE hip,ab,bf hx.1 h3,ab,e0,aN (by omega) (by omega),ab,bs _ h3,ab,<- tt_succ h2 hip h3]
     exact hJ _ ⟨h2,rfl⟩ (by simp only; omega)
    ·rw [if_pos hw]
     exact ⟨_,rfl,.inl (by rw [show i = us.length by omega])⟩
   ·rw [if_neg hi]
    exact ⟨_,rfl,.inr (by rw [show i = us.length by omega])⟩
 ·rw [if_neg hf,if_neg hf]; rfl
structure Ns (l:List Int) (all k:Int):Prop where
 k1:1 <= k
 k8:k <= 8
 a1:0 < all
 a2:all <= 64000000000
 n:(l.length:Int) = k
 b:∀ x ∈ l,0 <= x/\x <= all
end Go.Proofs.YtkhpmhhnolpcnaaGreatDoor
namespace Go.Proofs.YtkhpmhhnolpcnaaGreatDoor
open Go
set_option maxRecDepth 8000
theorem cmpG {a b:Rat} (ha:FQ a) (hb:FQ b):ct_p FU (Sg a) (Sg b) = some ((a.num * b.den - b.num * a.den).sign,0):=by
 have hF:=cF
 unfold ct_p
 rw [dz FU a b ha hb cF,ab,if_pos rfl,ca FU a ha (by omega),ab,ca FU b hb (by omega),ab]
 unfold bB_p Rt
 rw [bt FU 8 8 _ _ ha.n hb.d (by omega) (by omega),ab,bt FU 8 8 _ _ hb.n ha.d (by omega) (by omega),ab]
 unfold bJ_p
 rw [eZ FU 16 _ _ (ha.n.mul hb.d) (hb.n.mul ha.d) (by omega) (by omega),ab,eJ]
 rfl
def lR (a:Rat):Rat:=if -a <= a then a else -a
theorem iy (a b:Rat):(a.num * b.den - b.num * a.den).sign <= 0 ↔ a <= b:=by
 rw [Rat.le_iff,Int.sign_nonpos_iff]
 omega
theorem absG {a:Rat} (ha:FQ a) (h' : FQ (-a)):cC_p FU (Sg a) = some (Sg (lR a),0):=by
 have hF:=cF
 have hr:=ha.rf
 unfold cC_p
 rw [dz FU a a ha ha cF,ab,if_pos rfl,ca FU a ha (by omega),ab,ab]
 unfold cw_p
 rw [cT FU 8 a hr (by decide) hF,ab]
 unfold bM_p
 rw [cT FU 8 a hr (by decide) hF,ab,cT FU 8 (-a) hr.neg (by decide) hF,ab,Rat.neg_neg]
 have hc:bB_p FU (Rt (-a)) (Rt a) = some (((-a).num * a.den - a.num * (-a).den).sign):=by
  unfold bB_p Rt
  rw [bt FU 8 8 _ _ h'.n ha.d (by omega) (by omega),ab,bt FU 8 8 _ _ ha.n h'.d (by omega) (by omega),ab]
  unfold bJ_p
  rw [eZ FU 16 _ _ (h'.n.mul ha.d) (ha.n.mul h'.d) (by omega) (by omega),ab,eJ]
  rfl
 unfold bS_p
 rw [hc,ab]
 unfold lR
 by_cases h:-a <= a
 ·rw [if_pos ((iy _ _).2 h),if_pos h,ab,cT FU 8 (-a) hr.neg (by decide) hF,ab,ab,ab,Rat.neg_neg,ge FU a (by omega),if_pos ha,ab]
 ·rw [if_neg fun h2=>h ((iy _ _).1 h2),if_neg h,ab,cT FU 8 a hr (by decide) hF,ab,ab,ab,ge FU (-a) (by omega),if_pos h', ab]
end Go.Proofs.YtkhpmhhnolpcnaaGreatDoor
namespace Go.Proofs.YtkhpmhhnolpcnaaGreatDoor
open Go
set_option maxRecDepth 8000
theorem exE {ε α β:Type} (x:ε) (f:α -> Option β) (g:ε -> Option β):exc (.error x) f g = g x:=rfl
theorem exO {ε α β:Type} (x:α) (f:α -> Option β) (g:ε -> Option β):exc (.ok x) f g = f x:=rfl
theorem kJ {a b:Int} (ha:Sm a) (hb:Sm b) (h0:b ≠ 0):ab_p FU a b = some (.ok (Sg (Rat.divInt a b))):=by
 unfold ab_p
 rw [of_sg ha hb h0,ab]
 rfl
def gp (g:Nat) (u:Tb):Int:=u.fj[g]?.getD 0
def gt (us:List Tb) (p:List Int) (k:Int) (g:Nat):Nat -> List Int
 | 0=>List.replicate k.toNat 0
 | i + 1=>(gt us p k g i).set (p[i]?.getD 0).toNat ((gt us p k g i)[(p[i]?.getD 0).toNat]?.getD 0 + (us[i]?.map (gp g)).getD 0)
theorem dZ (us:List Tb) (p:List Int) (k:Int) (g:Nat):∀ i,(gt us p k g i).length = k.toNat
 | 0=>by simp [gt]
 | i + 1=>by show ((gt us p k g i).set _ _).length = _; rw [List.length_set]; exact dZ us p k g i
theorem gt_succ {us:List Tb} {p:List Int} {k:Int} {g i:Nat} (h1:i < us.length) (h2:i < p.length):gt us p k g (i + 1) = (gt us p k g i).set p[i].toNat ((gt us p k g i)[p[i].toNat]?.getD 0 + gp g us[i]):=by
 show (gt us p k g i).set (p[i]?.getD 0).toNat ((gt us p k g i)[(p[i]?.getD 0).toNat]?.getD 0 + (us[i]?.map (gp g)).getD 0) = _
 rw [geE h1,geE h2]
 simp only [Option.getD_some,Option.map_some]
theorem cZ (l:List Int) (j d:Nat) (x:Int):(l.set j x)[d]?.getD 0 = if j = d/\d < l.length then x else l[d]?.getD 0:=by
 rw [List.getElem?_set]
 by_cases hj:j = d
 ·subst hj
  rw [if_pos rfl]
  by_cases hl:j < l.length
  ·rw [if_pos hl,if_pos ⟨rfl,hl⟩]; rfl
  ·rw [if_neg hl,if_neg (fun h=>hl h.2),List.getElem?_eq_none (by omega)]
 ·rw [if_neg hj,if_neg (fun h=>hj h.1)]
theorem fX {us:List Tb} {g:Nat} (hg:∀ u ∈ us,0 <= gp g u/\gp g u <= u.fA) (p:List Int) (k:Int):∀ i ≤ us.length,∀ d:Nat,0 <= (gt us p k g i)[d]?.getD 0/\(gt us p k g i)[d]?.getD 0 <= (tt us p k i)[d]?.getD 0
 | 0,_,d=>by
  have:((List.replicate k.toNat (0:Int))[d]?).getD 0 = 0:=by
   rw [List.getElem?_replicate]; split <;> rfl
  show 0 <= ((List.replicate k.toNat (0:Int))[d]?).getD 0/\((List.replicate k.toNat (0:Int))[d]?).getD 0 <= ((List.replicate k.toNat (0:Int))[d]?).getD 0
  rw [this]; omega
 | i + 1,hi,d=>by
  have ih:=fX hg p k i (by omega)
  have h2:=hg us[i] (List.getElem_mem _)
  show 0 <= ((gt us p k g i).set _ _)[d]?.getD 0/\((gt us p k g i).set _ _)[d]?.getD 0 <= ((tt us p k i).set _ _)[d]?.getD 0
  rw [cZ,cZ,dZ,dn,geE (show i < us.length by omega)]
  simp only [Option.map_some,Option.getD_some]
  have h3:=ih (p[i]?.getD 0).toNat
  have h4:=ih d
  split <;> omega
theorem kr {r:Tf} {us:List Tb} (hv:RV r) (h:Lnd r us) {i:Nat} (hi:i < us.length):∃ h2:i < r.fu.length,r.fu[i] = us[i]/\UV r us[i]:=by
 obtain ⟨ws,e,_⟩:=h.all
 have hi2:i < r.fu.length:=by rw [e,List.length_append]; omega
 have h1:=hv.u i hi2
 have e0:r.fu[i] = us[i]:=by simp only [e]; exact List.getElem_append_left hi
 rw [e0] at h1
 exact ⟨hi2,e0,h1⟩
theorem iU {r:Tf} {us:List Tb} (hv:RV r) (h:Lnd r us) {g:Nat} (hg:(g:Int) < r.fj) {i:Nat} (hi:i < us.length):∃ h2:g < us[i].fj.length,us[i].fj[g] = gp g us[i]/\0 <= gp g us[i]/\gp g us[i] <= us[i].fA:=by
 obtain ⟨_,_,h1⟩:=kr hv h hi
 obtain ⟨w1,w2⟩:=h1.2.2.1
 have h2:g < us[i].fj.length:=by omega
 have e:us[i].fj[g] = gp g us[i]:=by unfold gp; rw [geE h2]; rfl
 exact ⟨h2,e,e ▸ w2 _ (List.getElem_mem h2)⟩
theorem lC {r:Tf} {us:List Tb} (hv:RV r) (h:Lnd r us) {g:Nat} (hg:(g:Int) < r.fj):∀ u ∈ us,0 <= gp g u/\gp g u <= u.fA:=fun u hu=>by
 obtain ⟨i,hi,rfl⟩:=List.getElem_of_mem hu
 exact (iU hv h hg hi).2.2
def Side (n:Nat) (xs:List Tg) (G T:List Int):Prop:=xs.length = n/\∀ d:Nat,d < n -> xs[d]? = some ⟨G[d]?.getD 0,T[d]?.getD 0⟩
theorem Side.set {n:Nat} {xs:List Tg} {G T G' T' : List Int} (h:Side n xs G T) (j:Nat) (hj:j < n) (x:Tg) (hx:x = ⟨G'[j]?.getD 0,T'[j]?.getD 0⟩) (ho:∀ d:Nat,d ≠ j -> d < n -> G'[d]?.getD 0 = G[d]?.getD 0/\T'[d]?.getD 0 = T[d]?.getD 0):Side n (xs.set j x) G' T' :=by
 refine ⟨by rw [List.length_set]; exact h.1,fun d hd=>?_⟩
 rw [List.getElem?_set]
 by_cases hjd:j = d
 ·subst hjd; rw [if_pos rfl,if_pos (by rw [h.1]; exact hd),hx]
 ·rw [if_neg hjd,h.2 d hd,(ho d (fun e=>hjd e.symm) hd).1,(ho d (fun e=>hjd e.symm) hd).2]
def dL (G T:List Int):List Tg:=List.zipWith Tg.mk G T
theorem Side.eq {n:Nat} {xs:List Tg} {G T:List Int} (h:Side n xs G T) (hG:G.length = n) (hT:T.length = n):xs = dL G T:=by
 apply List.ext_getElem?
 intro d
 unfold dL
 rw [List.getElem?_zipWith]
 by_cases hd:d < n
 ·rw [h.2 d hd,geE (show d < G.length by omega),geE (show d < T.length by omega)]; rfl
 ·rw [List.getElem?_eq_none (by rw [h.1]; omega),List.getElem?_eq_none (show G.length <= d by omega)]
structure Nums (gs ts:List Int) (k:Int):Prop where
 k1:1 <= k
 k8:k <= 8
 g:(gs.length:Int) = k
 t:(ts.length:Int) = k
 b:∀ (d:Nat) (h1:d < gs.length) (h2:d < ts.length),0 <= gs[d]/\gs[d] <= ts[d]/\ts[d] <= 64000000000
end Go.Proofs.YtkhpmhhnolpcnaaGreatDoor
namespace Go.Proofs.YtkhpmhhnolpcnaaGreatDoor
open Go
set_option maxRecDepth 8000
def shv (a b:Int):Rat:=if b = 0 then Rat.divInt 0 1 else Rat.divInt a b
def shs (gs ts:List Int):List Ta:=List.zipWith (fun a b=>Sg (shv a b)) gs ts
theorem ne {a b:Int} (h:0 <= a/\a <= b/\b <= 64000000000):FQ (shv a b):=by
 unfold shv
 split
 ·exact fqd (by decide) (by decide) (by decide)
 ·exact fqd (by omega) (by omega) (by omega)
theorem jG {a b:Int} (h:0 <= a/\a <= b/\b <= 64000000000):aS_p FU ⟨a,b⟩ = some (.ok (Sg (shv a b))):=by
 unfold aS_p shv
 simp only
 by_cases hb:b = 0
 ·rw [if_pos hb,if_pos hb,kJ (by unfold Sm; decide) (by unfold Sm; decide) (by decide),ab,exO]
 ·rw [if_neg hb,if_neg hb,kJ (by unfold Sm; omega) (by unfold Sm; omega) hb,ab,exO]
theorem fU {gs ts:List Int} {k:Int} (h:Nums gs ts k):(dL gs ts).length = gs.length:=by
 have h1:=h.g; have h2:=h.t
 unfold dL
 rw [List.length_zipWith]; omega
theorem gU {gs ts:List Int} {k:Int} (h:Nums gs ts k) {i:Nat} (hi:i < gs.length):∃ h2:i < ts.length,(dL gs ts)[i]? = some ⟨gs[i],ts[i]⟩/\0 <= gs[i]/\gs[i] <= ts[i]/\ts[i] <= 64000000000:=by
 have h1:=h.g; have h2:=h.t
 have h3:i < ts.length:=by omega
 refine ⟨h3,?_,h.b i hi h3⟩
 unfold dL
 rw [List.getElem?_zipWith,geE hi,geE h3]
theorem hO {gs ts:List Int} {k:Int} (h:Nums gs ts k):(shs gs ts).length = gs.length:=by
 have h1:=h.g; have h2:=h.t
 unfold shs
 rw [List.length_zipWith]; omega
theorem mI {gs ts:List Int} {k:Int} (h:Nums gs ts k) {i:Nat} (hi:i < gs.length) (h2:i < ts.length):(shs gs ts)[i]? = some (Sg (shv gs[i] ts[i])):=by
 unfold shs
 rw [List.getElem?_zipWith,geE hi,geE h2]
theorem mX {α:Type} {l:List α} {i:Nat} {x:α} (h:l[i]? = some x):l.take (i + 1) = l.take i ++ [x]:=by
 obtain ⟨hi,rfl⟩:=List.getElem?_eq_some_iff.1 h
 exact List.take_succ_eq_append_getElem hi
theorem sharesP {gs ts:List Int} {k:Int} (h:Nums gs ts k):ao (aQ_l1 FU (dL gs ts)) FU (0,[]) = some (.inr (shs gs ts)):=by
 have hF:=bq
 have h8:=h.k8; have hg:=h.g
 have hl:=fU h
 have hs:=hO h
 have hh:=av (B:=aQ_l1 FU (dL gs ts)) (fun s:Nat × List Ta=>gs.length - s.1) (fun s=>s.1 <= gs.length/\s.2 = (shs gs ts).take s.1) (fun y=>y = .inr (shs gs ts)) ?_ FU (0,[]) ⟨Nat.zero_le _,by simp⟩ (by simp only; omega)
 ·obtain ⟨y,e,rfl⟩:=hh; exact e
 ·rintro ⟨i,xs⟩ J ⟨a1,a2⟩ hJ
  simp only at a1 a2 hJ
  subst a2
  unfold aQ_l1
  simp only
  by_cases hi:i < gs.length
  ·obtain ⟨h2,e1,b1⟩:=gU h hi
   rw [if_pos (by omega),e1,ab,jG b1,ab,exO,eH _ _ (by simp only [List.length_take,leC,leN]; omega),ab,<- mX (mI h hi h2)]
   exact hJ _ ⟨hi,rfl⟩ (by simp only; omega)
  ·rw [if_neg (by omega),List.take_of_length_le (by omega)]
   exact ⟨_,rfl,rfl⟩
end Go.Proofs.YtkhpmhhnolpcnaaGreatDoor
namespace Go.Proofs.YtkhpmhhnolpcnaaGreatDoor
open Go
set_option maxRecDepth 8000
theorem mn {a b c d:Int} (hb:0 < b) (hd:0 < d):Rat.divInt a b <= Rat.divInt c d ↔ a * d <= c * b:=by
 have e1:=ip (a:=a) (b:=b) (by omega)
 have e2:=ip (a:=c) (b:=d) (by omega)
 have p1:=(Rat.divInt a b).den_pos
 have p2:=(Rat.divInt c d).den_pos
 rw [Rat.le_iff]
 generalize (Rat.divInt a b).num = x at *
 generalize (Rat.divInt c d).num = y at *
 generalize (Rat.divInt a b).den = u at *
 generalize (Rat.divInt c d).den = v at *
 have hbd:0 < b * d:=Int.mul_pos hb hd
 have huv:0 < (u:Int) * v:=Int.mul_pos (by omega) (by omega)
 have h1:x * v * (b * d) = a * d * (u * v):=by
  have:x * v * (b * d) = x * b * (v * d):=by grind
  rw [this,e1]; grind
 have h2:y * u * (b * d) = c * b * (u * v):=by
  have:y * u * (b * d) = y * d * (u * b):=by grind
  rw [this,e2]; grind
 rw [<- Int.mul_le_mul_right (b:=x * v) hbd,h1,h2]
 exact Int.mul_le_mul_right huv
theorem mJ (n d:Int) (hd:0 < d):lR (Rat.divInt n d) = Rat.divInt (n.natAbs:Int) d:=by
 unfold lR
 rw [Rat.neg_divInt]
 by_cases h:0 <= n
 ·rw [if_pos ((mn hd hd).2 (Int.mul_le_mul_of_nonneg_right (by omega) (by omega)))]
  congr 1; omega
 ·rw [if_neg fun hc=>?_]
  ·congr 1; omega
  ·have:=Int.le_of_mul_le_mul_right ((mn hd hd).1 hc) hd
   omega
theorem q_subD (a b c d:Int) (hb:b ≠ 0) (hd:d ≠ 0):Rat.divInt a b - Rat.divInt c d = Rat.divInt (a * d - c * b) (b * d):=by
 rw [Rat.sub_eq_add_neg,Rat.neg_divInt,Rat.divInt_add_divInt _ _ hb hd,Int.neg_mul,<- Int.sub_eq_add_neg]
theorem q_addS (a b d:Int) (hd:d ≠ 0):Rat.divInt a d + Rat.divInt b d = Rat.divInt (a + b) d:=by
 rw [Rat.divInt_add_divInt _ _ hd hd,<- Int.add_mul,Rat.divInt_mul_right hd]
theorem iV (l:List Int) {i:Nat} (h:i < l.length):(l.take (i + 1)).sum = (l.take i).sum + l[i]:=by
 rw [List.take_succ_eq_append_getElem h,List.sum_append]; simp
theorem ix {m:Int} (hm:0 <= m):∀ l:List Int,(∀ x ∈ l,0 <= x/\x <= m) -> 0 <= l.sum/\l.sum <= (l.length:Int) * m
 | [],_=>⟨Int.le_refl _,by simp⟩
 | x :: l,h=>by
  have h1:=h x (List.mem_cons_self ..)
  have h2:=ix hm l fun y hy=>h y (List.mem_cons_of_mem _ hy)
  rw [List.sum_cons,leC]
  have:((l.length + 1:Nat):Int) * m = (l.length:Int) * m + m:=by rw [Int.natCast_add,Int.add_mul]; simp
  omega
theorem nj:∀ {a b:List Int},a.length = b.length -> (∀ (d:Nat) (h1:d < a.length) (h2:d < b.length),a[d] <= b[d]) -> a.sum <= b.sum
 | [],[],_,_=>Int.le_refl _
 | x :: a,y :: b,hl,h=>by
  have h1:=h 0 (by simp) (by simp)
  have h2:=nj (a:=a) (b:=b) (by simpa using hl) fun d h1 h2=>h (d + 1) (by simpa using h1) (by simpa using h2)
  rw [List.sum_cons,List.sum_cons]
  simp only [List.getElem_cons_zero] at h1
  omega
theorem Nums.sums {gs ts:List Int} {k:Int} (h:Nums gs ts k):0 <= gs.sum/\gs.sum <= ts.sum/\ts.sum <= 512000000000:=by
 have h8:=h.k8; have hg:=h.g; have ht:=h.t
 have b1:=ix (m:=64000000000) (by decide) gs fun x hx=>by
  obtain ⟨i,hi,rfl⟩:=List.getElem_of_mem hx
  have:=h.b i hi (by omega); omega
 have b2:=ix (m:=64000000000) (by decide) ts fun x hx=>by
  obtain ⟨i,hi,rfl⟩:=List.getElem_of_mem hx
  have:=h.b i (by omega) hi; omega
 have b3:=nj (a:=gs) (b:=ts) (by omega) fun d h1 h2=>(h.b d h1 h2).2.1
 omega
theorem jX {l:List Int} (hl:l.length <= 8) (h:∀ x ∈ l,0 <= x/\x <= 64000000000) (i:Nat):0 <= (l.take i).sum/\(l.take i).sum <= 512000000000:=by
 have b:=ix (m:=64000000000) (by decide) (l.take i) fun x hx=>h x (List.mem_of_mem_take hx)
 have:(l.take i).length <= 8:=by rw [List.length_take]; omega
 omega
theorem Nums.inG {gs ts:List Int} {k:Int} (h:Nums gs ts k):∀ x ∈ gs,0 <= x/\x <= 64000000000:=fun x hx=>by
 have hg:=h.g; have ht:=h.t
 obtain ⟨i,hi,rfl⟩:=List.getElem_of_mem hx
 have:=h.b i hi (by omega); omega
theorem Nums.inT {gs ts:List Int} {k:Int} (h:Nums gs ts k):∀ x ∈ ts,0 <= x/\x <= 64000000000:=fun x hx=>by
 have hg:=h.g; have ht:=h.t
 obtain ⟨i,hi,rfl⟩:=List.getElem_of_mem hx
 have:=h.b i (by omega) hi; omega
theorem lI {gs ts:List Int} {k:Int} (h:Nums gs ts k):ao (ar_l2 FU (dL gs ts)) FU (0,0,0) = some (gs.sum,ts.sum):=by
 have hF:=bq
 have h8:=h.k8; have hg:=h.g; have ht:=h.t
 have hl:=fU h
 have hh:=av (B:=ar_l2 FU (dL gs ts)) (fun s:Nat × Int × Int=>gs.length - s.1) (fun s=>s.1 <= gs.length/\s.2.1 = (gs.take s.1).sum/\s.2.2 = (ts.take s.1).sum) (fun y=>y = (gs.sum,ts.sum)) ?_ FU (0,0,0) ⟨Nat.zero_le _,by simp,by simp⟩ (by simp only; omega)
 ·obtain ⟨y,e,rfl⟩:=hh; exact e
 ·rintro ⟨i,za,zb⟩ J ⟨a1,a2,a3⟩ hJ
  simp only at a1 a2 a3 hJ
  subst a2 a3
  unfold ar_l2
  simp only
  by_cases hi:i < gs.length
  ·obtain ⟨h2,e1,b1⟩:=gU h hi
   have s1:=jX (by omega) h.inG (i + 1)
   have s2:=jX (by omega) h.inT (i + 1)
   have t1:=iV gs hi
   have t2:=iV ts h2
   rw [if_pos (by omega),e1,ab]
   simp only
   rw [<- t1,<- t2,aN (by omega) (by omega),ab,aN (by omega) (by omega),ab]
   exact hJ _ ⟨hi,rfl,rfl⟩ (by simp only; omega)
  ·rw [if_neg (by omega),List.take_of_length_le (by omega),List.take_of_length_le (by omega)]
   exact ⟨_,rfl,rfl⟩
def off (gs ts:List Int) (A R:Int) (d:Nat):Int:=((gs[d]?.getD 0 * R - (ts[d]?.getD 0 - gs[d]?.getD 0) * A).natAbs:Int)
def eC (gs ts:List Int) (A R:Int):Nat -> Int
 | 0=>0
 | i + 1=>eC gs ts A R i + off gs ts A R i
structure Big (gs ts:List Int) (k A R:Int):Prop where
 h:Nums gs ts k
 a0:0 < A
 a1:A <= 512000000000
 r0:0 < R
 r1:R <= 512000000000
theorem ij {x y m n:Int} (hx:0 <= x/\x <= m) (hy:0 <= y/\y <= n):0 <= x * y/\x * y <= m * n:=
 ⟨Int.mul_nonneg hx.1 hy.1,Int.le_trans (Int.mul_le_mul_of_nonneg_left hy.2 hx.1) (Int.mul_le_mul_of_nonneg_right hx.2 (by omega))⟩
theorem jO {gs ts:List Int} {k A R:Int} (b:Big gs ts k A R) {d:Nat} (hd:d < gs.length):0 <= off gs ts A R d/\off gs ts A R d <= 32768000000000000000000:=by
 have hg:=b.h.g; have ht:=b.h.t
 have h2:d < ts.length:=by omega
 have hb:=b.h.b d hd h2
 have m1:=ij (x:=gs[d]) (y:=R) (m:=64000000000) (n:=512000000000) (by omega) ⟨by have:=b.r0; omega,b.r1⟩
 have m2:=ij (x:=ts[d] - gs[d]) (y:=A) (m:=64000000000) (n:=512000000000) (by omega) ⟨by have:=b.a0; omega,b.a1⟩
 unfold off
 rw [geE hd,geE h2]
 simp only [Option.getD_some]
 omega
theorem iB {gs ts:List Int} {k A R:Int} (b:Big gs ts k A R):∀ i ≤ gs.length,0 <= eC gs ts A R i/\eC gs ts A R i <= (i:Int) * 32768000000000000000000
 | 0,_=>⟨Int.le_refl _,by simp [eC]⟩
 | i + 1,hi=>by
  have h1:=iB b i (by omega)
  have h2:=jO b (d:=i) (by omega)
  show 0 <= eC gs ts A R i + off gs ts A R i/\eC gs ts A R i + off gs ts A R i <= ((i + 1:Nat):Int) * 32768000000000000000000
  omega
theorem Big.ar {gs ts:List Int} {k A R:Int} (b:Big gs ts k A R):0 < A * R/\A * R <= 262144000000000000000000:=by
 have m:=ij (x:=A) (y:=R) (m:=512000000000) (n:=512000000000) ⟨by have:=b.a0; omega,b.a1⟩ ⟨by have:=b.r0; omega,b.r1⟩
 exact ⟨Int.mul_pos b.a0 b.r0,m.2⟩
theorem jz {a b:Int} (h0:b ≠ 0) (ha:a.natAbs < 1208925819614629174706176) (hb:b.natAbs < 1208925819614629174706176):FQ (Rat.divInt a b):=
 (Bt.of (i:=80) (j:=80) h0 ha hb).fq (by decide) (by decide)
theorem one_off {gs ts:List Int} {k A R:Int} (b:Big gs ts k A R) {i:Nat} (hi:i < gs.length) (h2:i < ts.length) :
  FQ (Rat.divInt gs[i] A)/\FQ (Rat.divInt (ts[i] - gs[i]) R)/\FQ (Rat.divInt gs[i] A - Rat.divInt (ts[i] - gs[i]) R)/\FQ (-(Rat.divInt gs[i] A - Rat.divInt (ts[i] - gs[i]) R))/\lR (Rat.divInt gs[i] A - Rat.divInt (ts[i] - gs[i]) R) = Rat.divInt (off gs ts A R i) (A * R)/\FQ (Rat.divInt (off gs ts A R i) (A * R)):=by
 have ha0:=b.a0; have ha1:=b.a1; have hr0:=b.r0; have hr1:=b.r1
 have hb:=b.h.b i hi h2
 have har:=b.ar
 have ho:=jO b hi
 have eo:off gs ts A R i = ((gs[i] * R - (ts[i] - gs[i]) * A).natAbs:Int):=by
  unfold off
  rw [geE hi,geE h2]
  simp only [Option.getD_some]
 have es:=q_subD gs[i] A (ts[i] - gs[i]) R (by omega) (by omega)
 have f1:FQ (Rat.divInt gs[i] A - Rat.divInt (ts[i] - gs[i]) R):=by rw [es]; exact jz (by omega) (by omega) (by omega)
 have f2:FQ (-(Rat.divInt gs[i] A - Rat.divInt (ts[i] - gs[i]) R)):=by rw [es,Rat.neg_divInt]; exact jz (by omega) (by omega) (by omega)
 refine ⟨fqd (by omega) (by omega) (by omega),fqd (by omega) (by omega) (by omega),f1,f2,?_,jz (by omega) (by omega) (by omega)⟩
 rw [es,mJ _ _ har.1,eo]
def gB (gs ts:List Int) (A R:Int) (n:Nat):List Ta:=(List.range n).map fun d=>Sg (Rat.divInt (off gs ts A R d) (A * R))
theorem jl (gs ts:List Int) (A R:Int) (n:Nat):(gB gs ts A R n).length = n:=by unfold gB; simp
theorem half_fq {n d:Int} (h0:d ≠ 0) (hn:n.natAbs < 1208925819614629174706176) (hd:d.natAbs < 1208925819614629174706176):FQ (Rat.divInt n d / Rat.divInt 2 1):=
 ((Bt.of (i:=80) (j:=80) h0 hn hd).div (Bt.of (i:=2) (j:=1) (by decide) (by decide) (by decide)) (by decide)).fq (by decide) (by decide)
def wds (s:Ta):UInt64 × UInt64 × UInt64 × UInt64 × UInt64 × UInt64 × UInt64 × UInt64 × T8:=(s.fN.1,s.fN.2.1,s.fN.2.2.1,s.fN.2.2.2.1,s.fN.2.2.2.2.1,s.fN.2.2.2.2.2.1,s.fN.2.2.2.2.2.2.1,s.fN.2.2.2.2.2.2.2,s.fD.1,s.fD.2.1,s.fD.2.2.1,s.fD.2.2.2.1,s.fD.2.2.2.2.1,s.fD.2.2.2.2.2.1,s.fD.2.2.2.2.2.2.1,s.fD.2.2.2.2.2.2.2)
def qo (gs ts:List Int) (A R:Int) (i:Nat):Rat:=Rat.divInt (eC gs ts A R i) (A * R)
theorem qo0 {gs ts:List Int} {k A R:Int} (b:Big gs ts k A R):Rat.divInt 0 1 = qo gs ts A R 0:=by
 have har:=b.ar
 show Rat.divInt 0 1 = Rat.divInt 0 (A * R)
 rw [Rat.divInt_eq_divInt_iff (by decide) (by omega)]; omega
theorem mA {gs ts:List Int} {k A R:Int} (b:Big gs ts k A R) {i:Nat} (hi:i <= gs.length):FQ (qo gs ts A R i):=by
 have har:=b.ar; have ho:=iB b i hi; have h8:=b.h.k8; have hg:=b.h.g
 exact jz (by omega) (by omega) (by omega)
theorem mc {gs ts:List Int} {k A R:Int} (b:Big gs ts k A R) (i:Nat):qo gs ts A R i + Rat.divInt (off gs ts A R i) (A * R) = qo gs ts A R (i + 1):=q_addS _ _ _ (by have:=b.ar; omega)
theorem sumP {gs ts:List Int} {k A R:Int} (b:Big gs ts k A R):bv_p FU (gB gs ts A R gs.length) = some (.ok (Sg (qo gs ts A R gs.length))):=by
 have hF:=bq
 have h8:=b.h.k8; have hg:=b.h.g
 have hol:=jl gs ts A R gs.length
 have har:=b.ar
 unfold bv_p
 rw [kJ (by unfold Sm; decide) (by unfold Sm; decide) (by decide),ab,exO,qo0 b]
 have hh:=av (B:=bv_l1 FU (gB gs ts A R gs.length)) (fun s=>gs.length - s.1) (fun s=>s.1 <= gs.length/\s.2 = wds (Sg (qo gs ts A R s.1))) (fun y=>y = .inr (wds (Sg (qo gs ts A R gs.length)))) ?_ FU (0,wds (Sg (qo gs ts A R 0))) ⟨Nat.zero_le _,rfl⟩ (by simp only; omega)
 ·obtain ⟨y,e,rfl⟩:=hh
  unfold wds at e
  rw [e]; rfl
 ·rintro ⟨i,w⟩ J ⟨a1,a2⟩ hJ
  simp only at a1 a2 hJ
  subst a2
  unfold wds bv_l1 aT_p ae_p
  simp only
  by_cases hi:i < gs.length
  ·have hoi:=jO b hi
   have hx:(gB gs ts A R gs.length)[i]? = some (Sg (Rat.divInt (off gs ts A R i) (A * R))):=by
    unfold gB
    rw [List.getElem?_map,List.getElem?_range hi]; rfl
   rw [if_pos (by omega),hx,ab,add_q (mA b a1) (jz (by omega) (by omega) (by omega)) (by rw [mc b]; exact mA b hi) cF,ab,if_pos rfl,ab,exO,ab,exO,mc b]
   exact hJ _ ⟨hi,rfl⟩ (by simp only; omega)
  ·rw [if_neg (by omega)]
   have:i = gs.length:=by omega
   subst this
   exact ⟨_,rfl,rfl⟩
end Go.Proofs.YtkhpmhhnolpcnaaGreatDoor
namespace Go.Proofs.YtkhpmhhnolpcnaaGreatDoor
open Go
set_option maxRecDepth 8000
def sd (f:Tb -> Int) (us:List Tb) (p:List Int) (d:Int):Nat -> Int
 | 0=>0
 | i + 1=>sd f us p d i + (if p[i]? = some d then (us[i]?.map f).getD 0 else 0)
theorem gX {p:List Int} {k:Int} (h:∀ x ∈ p,0 <= x/\x < k) {i:Nat} (hi:i < p.length) (d:Nat):p[i]? = some (d:Int) ↔ (p[i]?.getD 0).toNat = d:=by
 have:=h p[i] (List.getElem_mem hi)
 rw [geE hi,Option.some.injEq,Option.getD_some]
 omega
theorem nc (us:List Tb) {p:List Int} {k:Int} (h:∀ x ∈ p,0 <= x/\x < k) (g:Nat) {d:Nat} (hd:d < k.toNat):∀ i ≤ p.length,(gt us p k g i)[d]?.getD 0 = sd (gp g) us p d i
 | 0,_=>by
  show ((List.replicate k.toNat (0:Int))[d]?).getD 0 = 0
  rw [List.getElem?_replicate,if_pos hd]; rfl
 | i + 1,hi=>by
  have ih:=nc us h g hd i (by omega)
  have ha:=gX h (i:=i) (by omega) d
  show ((gt us p k g i).set _ _)[d]?.getD 0 = sd (gp g) us p d i + (if p[i]? = some (d:Int) then _ else 0)
  rw [cZ,dZ]
  by_cases c:p[i]? = some (d:Int)
  ·rw [if_pos ⟨ha.1 c,hd⟩,if_pos c,ha.1 c,ih]
  ·rw [if_neg fun hc=>c (ha.2 hc.1),if_neg c,ih,Int.add_zero]
theorem ky (us:List Tb) {p:List Int} {k:Int} (h:∀ x ∈ p,0 <= x/\x < k) {d:Nat} (hd:d < k.toNat):∀ i ≤ p.length,(tt us p k i)[d]?.getD 0 = sd (·.fA) us p d i
 | 0,_=>by
  show ((List.replicate k.toNat (0:Int))[d]?).getD 0 = 0
  rw [List.getElem?_replicate,if_pos hd]; rfl
 | i + 1,hi=>by
  have ih:=ky us h hd i (by omega)
  have ha:=gX h (i:=i) (by omega) d
  show ((tt us p k i).set _ _)[d]?.getD 0 = sd (·.fA) us p d i + (if p[i]? = some (d:Int) then _ else 0)
  rw [cZ,dn]
  by_cases c:p[i]? = some (d:Int)
  ·rw [if_pos ⟨ha.1 c,hd⟩,if_pos c,ha.1 c,ih]
  ·rw [if_neg fun hc=>c (ha.2 hc.1),if_neg c,ih,Int.add_zero]
def sm (F:Nat -> Int) (K:Nat):Int:=((List.range K).map F).sum
theorem kE (F:Nat -> Int):sm F 0 = 0:=rfl
theorem aR (F:Nat -> Int) (K:Nat):sm F (K + 1) = sm F K + F K:=by
 unfold sm
 rw [List.range_succ,List.map_append,List.sum_append]; simp
theorem bv {F G:Nat -> Int} {K:Nat} (h:∀ d < K,F d = G d):sm F K = sm G K:=by
 unfold sm
 rw [List.map_congr_left fun d hd=>h d (List.mem_range.1 hd)]
theorem ig (F G:Nat -> Int):∀ K,sm (fun d=>F d + G d) K = sm F K + sm G K
 | 0=>rfl
 | K + 1=>by rw [aR,aR,aR,ig F G K]; omega
theorem fW (F:Nat -> Int) (c:Int):∀ K,sm (fun d=>F d * c) K = sm F K * c
 | 0=>by rw [kE,kE,Int.zero_mul]
 | K + 1=>by rw [aR,aR,fW F c K,Int.add_mul]
theorem cU:∀ K,sm (fun _=>0) K = 0
 | 0=>rfl
 | K + 1=>by rw [aR,cU K]; rfl
theorem iJ {F G:Nat -> Int}:∀ {K:Nat},(∀ d < K,F d <= G d) -> sm F K <= sm G K
 | 0,_=>Int.le_refl _
 | K + 1,h=>by
  have h1:=iJ (K:=K) fun d hd=>h d (by omega)
  have h2:=h K (by omega)
  rw [aR,aR]; omega
theorem mN {F:Nat -> Int} {K:Nat} (h:∀ d < K,0 <= F d):0 <= sm F K:=by
 have:=iJ (F:=fun _=>0) (G:=F) h
 rwa [cU] at this
theorem lS {F:Nat -> Int}:∀ {K:Nat},(∀ d < K,0 <= F d) -> sm F K = 0 -> ∀ d < K,F d = 0
 | 0,_,_,d,hd=>absurd hd (Nat.not_lt_zero d)
 | K + 1,h,h0,d,hd=>by
  rw [aR] at h0
  have h1:=mN (K:=K) fun d hd=>h d (by omega)
  have h2:=h K (by omega)
  by_cases c:d = K
  ·subst c; omega
  ·exact lS (K:=K) (fun d hd=>h d (by omega)) (by omega) d (by omega)
theorem kk (c:Int) (x:Nat):∀ K,sm (fun d=>if x = d then c else 0) K = if x < K then c else 0
 | 0=>rfl
 | K + 1=>by
  rw [aR,kk c x K]
  by_cases h1:x < K
  ·rw [if_pos h1,if_neg (by omega),if_pos (by omega),Int.add_zero]
  ·by_cases h2:x = K
   ·rw [if_neg h1,if_pos h2,if_pos (by omega),Int.zero_add]
   ·rw [if_neg h1,if_neg h2,if_neg (by omega),Int.add_zero]
theorem kZ {l m:List Int} (h:l.Perm m):l.sum = m.sum:=by
 induction h with
 | nil=>rfl
 | cons x _ ih=>rw [List.sum_cons,List.sum_cons,ih]
 | swap x y l=>simp only [List.sum_cons]; omega
 | trans _ _ h1 h2=>rw [h1,h2]
theorem jN (f:Tb -> Int) (us:List Tb) {p:List Int} {k:Int} (h:∀ x ∈ p,0 <= x/\x < k):∀ i ≤ p.length,sm (fun d=>sd f us p (d:Nat) i) k.toNat = sm (fun j=>(us[j]?.map f).getD 0) i
 | 0,_=>cU _
 | i + 1,hi=>by
  have ih:=jN f us h i (by omega)
  have hx:=h p[i] (List.getElem_mem _)
  have e:(fun d:Nat=>sd f us p (d:Int) (i + 1)) = fun d:Nat=>sd f us p (d:Int) i + (if p[i].toNat = d then (us[i]?.map f).getD 0 else 0):=funext fun d=>by
   show sd f us p d i + (if p[i]? = some (d:Int) then _ else 0) = _
   congr 1
   have ha:=gX h (i:=i) (by omega) d
   rw [geE (show i < p.length by omega),Option.getD_some] at ha
   rw [geE (show i < p.length by omega)]
   by_cases c:p[i].toNat = d
   ·rw [if_pos (ha.2 c),if_pos c]
   ·rw [if_neg fun hc=>c (ha.1 hc),if_neg c]
  rw [e,ig,ih,kk,if_pos (by omega),aR]
def rn (t k x:Int):Int:=(x + t) % k
theorem mH {t k:Int} (x:Int) (hk:1 <= k):0 <= rn t k x/\rn t k x < k:=⟨Int.emod_nonneg _ (by omega),Int.emod_lt_of_pos _ (by omega)⟩
theorem rn_inj {t k x d:Int} (hx:0 <= x/\x < k) (hd:0 <= d/\d < k):rn t k x = rn t k d ↔ x = d:=by
 refine ⟨fun e=>?_,fun e=>by rw [e]⟩
 unfold rn at e
 have h2:(x - d) % k = 0:=by
  have h3:=Int.emod_eq_emod_iff_emod_sub_eq_zero.1 e
  rwa [show x + t - (d + t) = x - d by omega] at h3
 obtain ⟨c,hc⟩:=Int.dvd_of_emod_eq_zero h2
 by_cases h0:c = 0
 ·rw [h0,Int.mul_zero] at hc; omega
 ·by_cases hp:1 <= c
  ·have:k * 1 <= k * c:=Int.mul_le_mul_of_nonneg_left hp (by omega)
   omega
  ·have:k * c <= k * (-1):=Int.mul_le_mul_of_nonneg_left (show c <= -1 by omega) (by omega)
   omega
theorem rn_onto {t k d:Int} (hk:1 <= k) (hd:0 <= d/\d < k):∃ x,(0 <= x/\x < k)/\rn t k x = d:=by
 refine ⟨(d - t) % k,⟨Int.emod_nonneg _ (by omega),Int.emod_lt_of_pos _ (by omega)⟩,?_⟩
 unfold rn
 rw [Int.emod_add_emod,Int.sub_add_cancel]
 exact Int.emod_eq_of_lt hd.1 hd.2
theorem rn_plan {t k:Int} {p:List Int} (hk:1 <= k) (h:bc p k):bc (p.map (rn t k)) k:=by
 refine ⟨fun x hx=>?_,fun d d0 d1=>?_⟩
 ·obtain ⟨y,_,rfl⟩:=List.mem_map.1 hx
  exact mH y hk
 ·obtain ⟨x,hx,rfl⟩:=rn_onto (t:=t) hk ⟨d0,d1⟩
  exact List.mem_map_of_mem (h.2 x hx.1 hx.2)
theorem sd_rn {f:Tb -> Int} {us:List Tb} {p:List Int} {t k d:Int} (h:∀ x ∈ p,0 <= x/\x < k) (hd:0 <= d/\d < k):∀ i,sd f us (p.map (rn t k)) (rn t k d) i = sd f us p d i
 | 0=>rfl
 | i + 1=>by
  have ih:=sd_rn (f:=f) (us:=us) (t:=t) h hd i
  show sd f us (p.map (rn t k)) (rn t k d) i + (if (p.map (rn t k))[i]? = some (rn t k d) then _ else 0) = sd f us p d i + (if p[i]? = some d then _ else 0)
  rw [ih]
  have e2:(p.map (rn t k))[i]? = some (rn t k d) ↔ p[i]? = some d:=by
   rw [List.getElem?_map]
   rcases e:p[i]? with _ | x
   ·simp
   ·have hx:=h x (List.mem_of_getElem? e)
    simp only [Option.map_some,Option.some.injEq]
    exact rn_inj hx hd
  by_cases c:p[i]? = some d
  ·rw [if_pos (e2.2 c),if_pos c]
  ·rw [if_neg fun h=>c (e2.1 h),if_neg c]
theorem mR (k t:Nat) (hk:0 < k):((List.range k).map fun d=>(d + t) % k).Perm (List.range k):=by
 have hm:t % k < k:=Nat.mod_lt _ hk
 have e:((List.range k).map fun d=>(d + t) % k) = (List.range k).drop (t % k) ++ (List.range k).take (t % k):=by
  refine List.ext_getElem ?_ fun i h1 h2=>?_
  ·rw [List.length_map,List.length_append,List.length_drop,List.length_take,List.length_range]; omega
  ·have hi:i < k:=by rw [List.length_map,List.length_range] at h1; exact h1
   rw [List.getElem_map,List.getElem_range]
   by_cases c:i < k - t % k
   ·rw [List.getElem_append_left (by rw [List.length_drop,List.length_range]; exact c),List.getElem_drop,List.getElem_range,Nat.add_mod,Nat.mod_eq_of_lt hi,Nat.mod_eq_of_lt (by omega)]
    omega
   ·rw [List.getElem_append_right (by rw [List.length_drop,List.length_range]; omega),List.getElem_take,List.getElem_range,Nat.add_mod,Nat.mod_eq_of_lt hi,Nat.mod_eq_sub_mod (by omega),Nat.mod_eq_of_lt (by omega),List.length_drop,List.length_range]
    omega
 rw [e]
 exact List.perm_append_comm.trans (by rw [List.take_append_drop])
theorem sm_rot (F:Nat -> Int) (t:Nat) {K:Nat} (hK:0 < K):sm (fun d=>F ((d + t) % K)) K = sm F K:=by
 unfold sm
 rw [<- kZ ((mR K t hK).map F),List.map_map]; rfl
def mg (k x:Int):Int:=min x (max 0 (k - 2))
theorem mg_at {k:Int} {p:List Int} (hk:2 <= k) (h:∀ x ∈ p,0 <= x/\x < k) (i:Nat) (d:Int) (hd:d <= k - 2):(p.map (mg k))[i]? = some d ↔ p[i]? = some d ∨ d = k - 2/\p[i]? = some (k - 1):=by
 rw [List.getElem?_map]
 rcases e:p[i]? with _ | x
 ·simp
 ·have hx:=h x (List.mem_of_getElem? e)
  simp only [Option.map_some,Option.some.injEq]
  unfold mg
  omega
theorem jc {f:Tb -> Int} {us:List Tb} {p:List Int} {k d:Int} (hk:2 <= k) (h:∀ x ∈ p,0 <= x/\x < k) (hd:d <= k - 2):∀ i,sd f us (p.map (mg k)) d i = sd f us p d i + (if d = k - 2 then sd f us p (k - 1) i else 0)
 | 0=>by
  show (0:Int) = 0 + (if _ then 0 else 0)
  split <;> rfl
 | i + 1=>by
  have ih:=jc (f:=f) (us:=us) hk h hd i
  have e2:=mg_at hk h i d hd
  show sd f us (p.map (mg k)) d i + (if (p.map (mg k))[i]? = some d then _ else 0) = sd f us p d i + (if p[i]? = some d then _ else 0) + (if d = k - 2 then sd f us p (k - 1) i + (if p[i]? = some (k - 1) then _ else 0) else 0)
  rw [ih]
  generalize (us[i]?.map f).getD 0 = y
  by_cases c:p[i]? = some d
  ·have c2:p[i]? ≠ some (k - 1):=fun hc=>by rw [c] at hc; injection hc with hc; omega
   rw [if_pos (e2.2 (.inl c)),if_pos c,if_neg c2]
   split <;> omega
  ·rw [if_neg c]
   by_cases c1:d = k - 2
   ·by_cases c2:p[i]? = some (k - 1)
    ·rw [if_pos (e2.2 (.inr ⟨c1,c2⟩)),if_pos c1,if_pos c1,if_pos c2]; omega
    ·rw [if_neg fun hc=>(e2.1 hc).elim c fun hc=>c2 hc.2,if_pos c1,if_pos c1,if_neg c2]; omega
   ·rw [if_neg fun hc=>(e2.1 hc).elim c fun hc=>c1 hc.1,if_neg c1,if_neg c1]
theorem mg_plan {k:Int} {p:List Int} (hk:2 <= k) (h:bc p k):bc (p.map (mg k)) (k - 1):=by
 refine ⟨fun x hx=>?_,fun d d0 d1=>?_⟩
 ·obtain ⟨y,hy,rfl⟩:=List.mem_map.1 hx
  have:=h.1 y hy
  unfold mg
  omega
 ·have:=List.mem_map_of_mem (f:=mg k) (h.2 d d0 (by omega))
  rwa [show mg k d = d by unfold mg; omega] at this
theorem mg_one {p:List Int} (h:bc p 1):p.map (mg 1) = p:=by
 conv=>rhs; rw [<- List.map_id p]
 refine List.map_congr_left fun x hx=>?_
 have:=h.1 x hx
 show min x (max 0 (1 - 2)) = x
 omega
theorem jZ (gs ts:List Int) (A R:Int):∀ i,eC gs ts A R i = sm (off gs ts A R) i
 | 0=>rfl
 | i + 1=>by rw [aR,<- jZ gs ts A R i]; rfl
def S (G T:Nat -> Int) (A R:Int) (K:Nat):Int:=sm (fun d=>((G d * R - (T d - G d) * A).natAbs:Int)) K
theorem S_rot (G T:Nat -> Int) (A R:Int) (t:Nat) {K:Nat} (hK:0 < K):S (fun d=>G ((d + t) % K)) (fun d=>T ((d + t) % K)) A R K = S G T A R K:=sm_rot (fun d=>((G d * R - (T d - G d) * A).natAbs:Int)) t hK
theorem lJ (G T:Nat -> Int) (A R:Int) (K:Nat):0 <= S G T A R K:=mN fun d _=>by omega
theorem S_le {G T:Nat -> Int} {A R:Int} {K:Nat} (h:∀ d < K,0 <= G d/\G d <= T d) (hA:0 <= A) (hR:0 <= R) (h1:sm G K = A) (h2:sm T K = A + R):S G T A R K <= 2 * (A * R):=by
 have h3:S G T A R K <= sm (fun d=>G d * R + (T d - G d) * A) K:=iJ fun d hd=>by
  have h4:=Int.mul_nonneg (h d hd).1 hR
  have h5:=Int.mul_nonneg (show 0 <= T d - G d by have:=h d hd; omega) hA
  omega
 have h6:sm (fun d=>T d - G d) K = R:=by
  have h7:=ig (fun d=>T d - G d) G K
  rw [show (fun d=>T d - G d + G d) = T from funext fun d=>by omega] at h7
  omega
 rw [ig,fW,fW,h1,h6,Int.mul_comm R A] at h3
 omega
theorem S_merge {G T G' T' : Nat -> Int} {A R:Int} {K:Nat} (h:∀ d < K,G' d = G d/\T' d = T d) (hG:G' K = G K + G (K + 1)) (hT:T' K = T K + T (K + 1)):S G' T' A R (K + 1) <= S G T A R (K + 2):=by
 unfold S
 rw [aR,aR,aR,bv (G:=fun d=>((G d * R - (T d - G d) * A).natAbs:Int)) fun d hd=>by rw [(h d hd).1,(h d hd).2]]
 have e:G' K * R - (T' K - G' K) * A = (G K * R - (T K - G K) * A) + (G (K + 1) * R - (T (K + 1) - G (K + 1)) * A):=by
  rw [hG,hT]; grind
 rw [e]
 omega
theorem S_zero {G T:Nat -> Int} {A R:Int} {K:Nat}:S G T A R K = 0 ↔ ∀ d < K,G d * (A + R) = T d * A:=by
 have e:∀ d,G d * R - (T d - G d) * A = G d * (A + R) - T d * A:=fun d=>by grind
 constructor
 ·intro h d hd
  have h1:=lS (F:=fun d=>((G d * R - (T d - G d) * A).natAbs:Int)) (fun d _=>by omega) h d hd
  have:=e d
  omega
 ·intro h
  unfold S
  rw [bv (G:=fun _=>0) fun d hd=>by rw [e d,h d hd]; simp,cU]
theorem lx {G T:Nat -> Int} {A Q:Int} {K:Nat} (h:∀ d < K,0 <= G d/\G d <= T d) (h1:sm G K = A) (h2:sm T K = Q) (hQ:0 < Q) :
  (∀ d < K,G d * Q = T d * A) ↔ ∀ d < K,∀ e < K,0 < T d -> 0 < T e -> G d * T e = G e * T d:=by
 constructor
 ·intro hz d hd e he _ _
  have a1:=hz d hd
  have a2:=hz e he
  have:(G d * T e - G e * T d) * Q = 0:=by grind
  rcases Int.mul_eq_zero.1 this with h | h <;> omega
 ·intro hs
  obtain ⟨e,he,hp⟩:∃ e < K,0 < T e:=Classical.byContradiction fun hc=>by
   have:sm T K <= sm (fun _=>0) K:=iJ fun d hd=>Int.not_lt.1 fun h0=>hc ⟨d,hd,h0⟩
   rw [cU] at this
   omega
  have ha:∀ d < K,G d * T e = T d * G e:=fun d hd=>by
   by_cases c:0 < T d
   ·rw [hs d hd e he c hp,Int.mul_comm]
   ·have:=h d hd
    rw [show T d = 0 by omega,show G d = 0 by omega,Int.zero_mul,Int.zero_mul]
  have hA:A * T e = Q * G e:=by
   rw [<- h1,<- h2,<- fW,<- fW]
   exact bv ha
  intro d hd
  have a1:=ha d hd
  have:(G d * Q - T d * A) * T e = 0:=by grind
  rcases Int.mul_eq_zero.1 this with h | h <;> omega
end Go.Proofs.YtkhpmhhnolpcnaaGreatDoor
namespace Go.Proofs.YtkhpmhhnolpcnaaGreatDoor
open Go
set_option maxRecDepth 8000
theorem np {r:Tf} {us:List Tb} (h:RollOk r us):∀ u ∈ r.fu,Sm4 u:=by
 have hg:=h.g; have hp:=h.p; have hl:=h.l; have hn:=h.len
 have land:∀ u ∈ us,Sm4 u:=fun u hu=>by
  obtain ⟨i,hi,rfl⟩:=List.getElem_of_mem hu
  obtain ⟨e,_,_,g,v,q⟩:=h.land i hi
  exact ⟨by rw [e]; exact nm_ns (by omega),by have:=g.1; omega,by have:=v.1; omega,by have:=q.1; omega⟩
 intro u hu
 rcases h.all with e | e
 ·rw [e] at hu; exact land u hu
 ·rw [e] at hu
  rcases List.mem_append.1 hu with hu | hu
  ·exact land u hu
  ·rw [List.mem_singleton.1 hu]
   refine ⟨List.mem_cons_self ..,?_,?_,?_⟩
   ·show (List.replicate _ (0:Int)).length <= _; rw [List.length_replicate]; omega
   ·show (List.replicate _ (0:Int)).length <= _; rw [List.length_replicate]; omega
   ·show (List.replicate _ (0:Int)).length <= _; rw [List.length_replicate]; omega
theorem rv_of {r:Tf} {us:List Tb} (h:RollOk r us):RV r:=by
 classical
 refine Classical.byContradiction fun hc=>?_
 have e:=dN r (np h)
 rw [ir r us h,if_neg hc] at e
 cases e
theorem lnd_ok {r:Tf} {us:List Tb} (h:RollOk r us):Lnd r us:=by
 refine ⟨?_,fun u hu=>?_⟩
 ·rcases h.all with e | e
  ·exact ⟨[],by rw [e,List.append_nil],fun u hu=>by cases hu⟩
  ·exact ⟨_,e,fun u hu=>by rw [List.mem_singleton.1 hu]; rfl⟩
 ·obtain ⟨i,hi,rfl⟩:=List.getElem_of_mem hu
  exact (h.land i hi).2.1
structure Rd (r:Tf) (us:List Tb) (j:Nat):Prop where
 s:∀ u ∈ r.fu,Sm4 u
 v:RV r
 l:Lnd r us
 g:(j:Int) < r.fj
 n:us.length <= 9
open Classical in
theorem ke {r:Tf} {us:List Tb} {j:Nat} (h:Rd r us j) {p:List Int} {k:Int} (hf:dJ p us.length k) (hk:1 <= k/\k <= 8) :
  al_p FU r p k j = some (.ok (dL (gt us p k j us.length) (tt us p k us.length)))/\Nums (gt us p k j us.length) (tt us p k us.length) k/\bF_p FU r p k = some (tt us p k us.length,0):=by
 have hF:=bq
 have c1:=jS h.s k
 rw [if_pos h.v,if_pos hk] at c1
 have hp:=Lp.of h.v h.l
 have hg:=h.g
 have hm:=h.n
 have hpl:=hf.1
 have t1:=kI hp p k hk.1 hk.2 (by omega)
 rw [if_pos hf] at t1
 have t3:bF_p FU r p k = some (tt us p k us.length,0):=by
  unfold bF_p bR_p; rw [c1,ab,exO,t1,ab,exO,ab,exO]
 have tl:=dn us p k us.length
 have hgi:=lC h.v h.l hg
 have gl:=dZ us p k j
 have hb:∀ i ≤ us.length,∀ d:Nat,0 <= (gt us p k j i)[d]?.getD 0/\(gt us p k j i)[d]?.getD 0 <= 64000000000:=fun i hi d=>by
  have h1:=fX hgi p k i hi d
  refine ⟨h1.1,Int.le_trans h1.2 ?_⟩
  by_cases hd:d < (tt us p k i).length
  ·rw [geE hd]
   have h2:=(dQ hp p k i hi _ (List.getElem_mem hd)).2
   have h3:=cJ hp i
   simp only [Option.getD_some]
   omega
  ·rw [List.getElem?_eq_none (by omega)]; decide
 refine ⟨?_,⟨hk.1,hk.2,by rw [gl]; omega,by rw [tl]; omega,fun d h1 h2=>?_⟩,t3⟩
 ·unfold al_p bq_p
  rw [t3,ab,if_pos rfl,ab,exO,if_neg (by omega),if_neg (by omega),show mk k (⟨0,0⟩:Tg) = some (List.replicate k.toNat ⟨0,0⟩) from if_pos ⟨by omega,by omega⟩,ab]
  have hh:=av (B:=al_l2 FU (tt us p k us.length)) (fun s:Nat × List Tg=>(tt us p k us.length).length - s.1) (fun s=>s.1 <= k.toNat/\Side k.toNat s.2 [] ((tt us p k us.length).take s.1)) (fun y=>Side k.toNat y [] (tt us p k us.length)) ?_ FU (0,List.replicate k.toNat ⟨0,0⟩) ⟨Nat.zero_le _,by simp,fun d hd=>by rw [List.getElem?_replicate,if_pos hd]; simp⟩ (by simp only; omega)
  ·obtain ⟨xs,e,hx⟩:=hh
   rw [e,ab]
   have hh:=av (B:=al_l1 FU p r (j:Int)) (fun s:Nat × List Tg=>p.length - s.1) (fun s=>s.1 <= p.length/\Side k.toNat s.2 (gt us p k j s.1) (tt us p k us.length)) (fun y=>Side k.toNat y (gt us p k j us.length) (tt us p k us.length)) ?_ FU (0,xs) ⟨Nat.zero_le _,hx.1,fun d hd=>by
    rw [hx.2 d hd]
    show _ = some (⟨((List.replicate k.toNat (0:Int))[d]?).getD 0,_⟩:Tg)
    rw [List.getElem?_replicate,if_pos hd]; simp⟩ (by simp only; omega)
   ·obtain ⟨ys,e,hy⟩:=hh
    rw [e,ab,hy.eq (gl _) tl]
   ·rintro ⟨i,ys⟩ J ⟨a1,a2⟩ hJ
    simp only at a1 a2 hJ
    unfold al_l1
    simp only
    by_cases hip:i < p.length
    ·have h2:i < us.length:=by omega
     have hx:=hf.2.1 p[i] (List.getElem_mem hip)
     have h3:p[i].toNat < k.toNat:=by omega
     obtain ⟨u1,u2,_⟩:=kr h.v h.l h2
     obtain ⟨g1,g2,g3,g4⟩:=iU h.v h.l hg h2
     have hpp:=(hp.p _ (List.getElem_mem h2)).2
     have hbb:=hb i (by omega) p[i].toNat
     have hyl:=a2.1
     have hys:ys[p[i].toNat]? = some (⟨(gt us p k j i)[p[i].toNat]?.getD 0,(tt us p k us.length)[p[i].toNat]?.getD 0⟩:Tg):=a2.2 _ h3
     have hidx:idx ys p[i] = ys[p[i].toNat]?:=by unfold idx; rw [if_pos hx.1]
     rw [if_pos hip,geE hip,ab,hidx,hys,ab,geE u1,ab,u2,idxK g1,ab,g2]
     simp only
     rw [aN (by omega) (by omega),ab,bs _ (by omega),ab]
     refine hJ _ ⟨hip,?_⟩ (by simp only; omega)
     simp only
     rw [gt_succ h2 hip]
     refine a2.set _ h3 _ ?_ fun d hd hdk=>⟨?_,rfl⟩
     ·rw [cZ,if_pos ⟨rfl,by rw [gl]; exact h3⟩]
     ·rw [cZ,if_neg fun hc=>hd hc.1.symm]
    ·rw [if_neg hip]
     refine ⟨ys,rfl,?_⟩
     rw [show us.length = i by omega]
     rw [show us.length = i by omega] at a2
     exact a2
  ·rintro ⟨i,ys⟩ J ⟨a1,a2⟩ hJ
   simp only at a1 a2 hJ
   unfold al_l2
   simp only
   by_cases hi:i < (tt us p k us.length).length
   ·have hxi:=a2.2 i (by omega)
    have hxl:=a2.1
    rw [if_pos hi,geE hi,ab,hxi,ab,bs _ (by omega),ab]
    refine hJ _ ⟨by simp only; omega,?_⟩ (by simp only; omega)
    simp only
    refine a2.set i (by omega) _ ?_ fun d hd hdk=>⟨rfl,?_⟩
    ·rw [List.getElem?_take_of_lt (by omega),geE hi]; rfl
    ·rcases Nat.lt_or_ge d i with hlt | hge
     ·rw [List.getElem?_take_of_lt (by omega),List.getElem?_take_of_lt hlt]
     ·rw [List.getElem?_eq_none (by rw [List.length_take]; omega),List.getElem?_eq_none (by rw [List.length_take]; omega)]
   ·rw [if_neg hi]
    rw [List.take_of_length_le (by omega)] at a2
    exact ⟨ys,rfl,a2⟩
 ·have h3:=fX hgi p k us.length (Nat.le_refl _) d
  rw [geE h1,geE h2] at h3
  simp only [Option.getD_some] at h3
  have h4:=(dQ hp p k us.length (Nat.le_refl _) _ (List.getElem_mem h2)).2
  have h5:=(pe_all hp).2
  exact ⟨h3.1,h3.2,by omega⟩
theorem offQ {gs ts:List Int} {k A T:Int} (b:Big gs ts k A (T - A)) (hT:T <= 512000000000):ao (ar_l1 FU (dL gs ts) A T) FU (0,[]) = some (.inr (gB gs ts A (T - A) gs.length)):=by
 have hF:=bq
 have h:=b.h
 have h8:=h.k8; have hg:=h.g; have ht:=h.t
 have hl:=fU h
 have ha0:=b.a0; have hr0:=b.r0; have hr1:=b.r1; have ha1:=b.a1
 have hh:=av (B:=ar_l1 FU (dL gs ts) A T) (fun s:Nat × List Ta=>gs.length - s.1) (fun s=>s.1 <= gs.length/\s.2 = gB gs ts A (T - A) s.1) (fun y=>y = .inr (gB gs ts A (T - A) gs.length)) ?_ FU (0,[]) ⟨Nat.zero_le _,rfl⟩ (by simp only; omega)
 ·obtain ⟨y,e,rfl⟩:=hh; exact e
 ·rintro ⟨i,xs⟩ J ⟨a1,a2⟩ hJ
  simp only at a1 a2 hJ
  subst a2
  have hol:=jl gs ts A (T - A) i
  unfold ar_l1 aZ_p ae_p
  simp only
  by_cases hi:i < gs.length
  ·obtain ⟨h2,e1,b1⟩:=gU h hi
   obtain ⟨f1,f2,f3,f4,e5,f5⟩:=one_off b hi h2
   rw [if_pos (by omega),e1,ab]
   simp only
   rw [kJ (by unfold Sm; omega) (by unfold Sm; omega) (by omega),ab,exO,aN (by omega) (by omega),ab,aN (by omega) (by omega),ab,kJ (by unfold Sm; omega) (by unfold Sm; omega) (by omega),ab,exO,sub_q f1 f2 f3 cF,ab,if_pos rfl,ab,exO,ab,exO,absG f3 f4,ab,if_pos rfl,ab,exO,eH _ _ (by simp only [leC,leN]; omega),ab,e5]
   refine hJ _ ⟨hi,?_⟩ (by simp only; omega)
   simp only
   unfold gB
   rw [List.range_succ,List.map_append]
   rfl
  ·rw [if_neg (by omega)]
   exact ⟨_,rfl,by rw [show i = gs.length by omega]⟩
theorem indexV {r:Tf} {p gs ts:List Int} {k g:Int} (e1:al_p FU r p k g = some (.ok (dL gs ts))) (h:Nums gs ts k) :
  aN_p FU r p k g = some (if gs.sum = 0 ∨ gs.sum = ts.sum then (noS,7) else (Sg (qo gs ts gs.sum (ts.sum - gs.sum) gs.length / Rat.divInt 2 1),0)):=by
 obtain ⟨s0,s1,s2⟩:=h.sums
 by_cases hA:gs.sum = 0
 ·rw [if_pos (.inl hA)]
  unfold aN_p ar_p
  rw [e1,ab,exO,lI h,ab]
  simp only
  rw [if_pos hA,ab,exE]; rfl
 ·by_cases hR:gs.sum = ts.sum
  ·rw [if_pos (.inr hR)]
   unfold aN_p ar_p
   rw [e1,ab,exO,lI h,ab]
   simp only
   rw [if_neg hA,if_pos hR,ab,exE]; rfl
  ·have b:Big gs ts k gs.sum (ts.sum - gs.sum):=⟨h,by omega,by omega,by omega,by omega⟩
   have hg:=h.g; have h8:=h.k8
   have har:=b.ar
   have ho:=iB b gs.length (Nat.le_refl _)
   have fS:=mA b (Nat.le_refl _)
   have f2:FQ (Rat.divInt 2 1):=fqd (by decide) (by decide) (by decide)
   have fH:FQ (qo gs ts gs.sum (ts.sum - gs.sum) gs.length / Rat.divInt 2 1):=half_fq (by omega) (by omega) (by omega)
   have n2:Rat.divInt 2 1 ≠ 0:=by decide
   have e9:=offQ b s2
   rw [if_neg (fun hc=>hc.elim hA hR)]
   unfold aN_p ar_p bb_p ae_p
   rw [e1,ab,exO,lI h,ab]
   simp only
   rw [if_neg hA,if_neg hR,e9]
   show Option.bind (Option.bind (bv_p FU _) _) _ = _
   rw [sumP b,ab,exO,kJ (by unfold Sm; decide) (by unfold Sm; decide) (by decide),ab,exO,div_q fS f2 n2 fH cF,ab,if_pos rfl,ab,exO,ab,exO,ab,exO]
end Go.Proofs.YtkhpmhhnolpcnaaGreatDoor
namespace Go.Proofs.YtkhpmhhnolpcnaaGreatDoor
open Go
set_option maxRecDepth 8000
def Al (xs:List Ta):Prop:=∀ x ∈ xs,∀ y ∈ xs,x = y
theorem ma {xs:List Ta} (h:∀ m,m + 1 < xs.length -> xs[m + 1]? = xs[m]?):Al xs:=by
 have h0:∀ m < xs.length,xs[m]? = xs[0]?:=fun m=>by
  induction m with
  | zero=>exact fun _=>rfl
  | succ m ih=>intro hm; rw [h m hm,ih (by omega)]
 intro x hx y hy
 obtain ⟨i,hi,rfl⟩:=List.getElem_of_mem hx
 obtain ⟨j,hj,rfl⟩:=List.getElem_of_mem hy
 have h1:=h0 i hi
 rw [<- h0 j hj,geE hi,geE hj] at h1
 injection h1
theorem lH {xs:List Ta} (h:Al xs) {i j:Nat} (hi:i < xs.length) (hj:j < xs.length):xs[i]? = xs[j]?:=by
 rw [geE hi,geE hj,h _ (List.getElem_mem hi) _ (List.getElem_mem hj)]
theorem cmpIn {xs ps:List Ta} {i:Nat} (h1:1 <= i) (hl:i < xs.length) (hp:ps.length = xs.length - i) (hn:xs.length <= 1000) :
  ∃ (ys:List Ta) (z:Nat),ao (aa_l1 FU ps i) FU ((i:Int),1,xs) = some (ys,(z:Int))/\ys.length = xs.length/\i <= z/\z < xs.length/\(z = i ↔ ∀ m,1 <= m -> i + m < xs.length -> xs[i + m]? = xs[i + m - 1]?):=by
 have hF:=bq
 have hh:=av (B:=aa_l1 FU ps i) (fun s:Int × Nat × List Ta=>ps.length - s.2.1) (fun s=>∃ z:Nat,s.1 = (z:Int)/\1 <= s.2.1/\s.2.1 <= ps.length/\s.2.2.length = xs.length/\i <= z/\z + 1 <= i + s.2.1/\(∀ j,i + s.2.1 <= j + 1 -> s.2.2[j]? = xs[j]?)/\(z = i ↔ ∀ m,1 <= m -> m < s.2.1 -> xs[i + m]? = xs[i + m - 1]?))
  (fun r=>∃ (ys:List Ta) (z:Nat),r = (ys,(z:Int))/\ys.length = xs.length/\i <= z/\z < xs.length/\(z = i ↔ ∀ m,1 <= m -> i + m < xs.length -> xs[i + m]? = xs[i + m - 1]?)) ?_ FU ((i:Int),1,xs) ⟨i,rfl,Nat.le_refl _,by simp only; omega,rfl,Nat.le_refl _,Nat.le_refl _,fun _ _=>rfl,⟨fun _ m h2 h3=>absurd h3 (Nat.not_lt.2 h2),fun _=>rfl⟩⟩ (by simp only; omega)
 ·obtain ⟨r,e,ys,z,rfl,h⟩:=hh
  exact ⟨ys,z,e,h⟩
 ·rintro ⟨a,c,ys⟩ J ⟨z,a1,a2,a3,a4,a5,a6,a7,a8⟩ hJ
  simp only at a1 a2 a3 a4 a5 a6 a7 a8 hJ
  subst a1
  unfold aa_l1 jn
  simp only
  by_cases hc:c < ps.length
  ·have hx:i + c < xs.length:=by omega
   have hx1:i + c - 1 < xs.length:=by omega
   have e1:ys[i + c]? = some xs[i + c]:=by rw [a7 (i + c) (by omega),geE hx]
   have e2:idx (ys.drop i) ((c:Int) - 1) = some xs[i + c - 1]:=by
    unfold idx
    rw [if_pos (by omega),List.getElem?_drop,show i + ((c:Int) - 1).toNat = i + c - 1 by omega,a7 (i + c - 1) (by omega),geE hx1]
   rw [if_pos hc,e1,ab,e2,ab]
   by_cases ce:xs[i + c] = xs[i + c - 1]
   ·rw [if_pos ce]
    refine hJ _ ⟨z,rfl,by simp only; omega,by simp only; omega,a4,a5,by simp only; omega,fun j hj=>a7 j (by simp only at hj; omega),a8.trans ⟨fun h m h2 h3=>?_,fun h m h2 h3=>h m h2 (by simp only; omega)⟩⟩ (by simp only; omega)
    simp only at h3
    by_cases cm:m = c
    ·subst cm
     rw [geE hx,geE hx1,ce]
    ·exact h m h2 (by omega)
   ·have hz:z < ys.length:=by omega
    rw [if_neg ce,bf (by omega) (by omega),ab,bs _ (by omega),ab,aN (by omega) (by omega),ab]
    refine hJ _ ⟨z + 1,by simp,by simp only; omega,by simp only; omega,by simp only; rw [List.length_set]; exact a4,by omega,by simp only; omega,fun j hj=>?_,⟨fun h=>by omega,fun h=>?_⟩⟩ (by simp only; omega)
    ·simp only at hj ⊢
     rw [List.getElem?_set_ne (by omega)]
     exact a7 j (by omega)
    ·have h3:=h c a2 (by simp only; omega)
     rw [geE hx,geE hx1] at h3
     injection h3 with h3
     exact absurd h3 ce
  ·rw [if_neg hc]
   refine ⟨_,rfl,ys,z,rfl,a4,a5,by omega,a8.trans ⟨fun h m h2 h3=>h m h2 (by omega),fun h m h2 h3=>h m h2 (by omega)⟩⟩
theorem cmpOut {xs:List Ta} (h2:2 <= xs.length) (hn:xs.length <= 1000) (y:Ta × Int) (s:Ta) :
  thn (ao (aa_l2 FU xs y s) FU 1) (fun _=>some ((decide (y.1 = s)) == (decide (xs.length = 1)))) = some (decide (y.1 = s) == @decide (Al xs) (Classical.propDecidable _)):=by
 have hF:=bq
 have hh:=av (B:=aa_l2 FU xs y s) (fun i:Nat=>xs.length - i) (fun i=>1 <= i/\i <= xs.length/\∀ m,1 <= m -> m < i -> xs[m]? ≠ xs[m - 1]?) (fun r=>thn (some r) (fun _=>some ((decide (y.1 = s)) == (decide (xs.length = 1)))) = some (decide (y.1 = s) == @decide (Al xs) (Classical.propDecidable _))) ?_ FU 1 ⟨Nat.le_refl _,by omega,fun m h3 h4=>by omega⟩ (by omega)
 ·obtain ⟨r,e,e2⟩:=hh
  rw [e,e2]
 ·rintro i J ⟨a1,a2,a3⟩ hJ
  unfold aa_l2
  simp only
  by_cases hi:i < xs.length
  ·have hi1:i - 1 < xs.length:=by omega
   have e2:idx xs ((i:Int) - 1) = some xs[i - 1]:=by
    unfold idx
    rw [if_pos (by omega),show ((i:Int) - 1).toNat = i - 1 by omega,geE hi1]
   rw [if_pos hi,geE hi,ab,e2,ab]
   by_cases ce:xs[i] = xs[i - 1]
   ·have e3:cut xs (i:Int) (xs.length:Int) = some (xs.drop i):=by
     unfold cut
     rw [if_pos (by omega),Int.toNat_natCast,Int.toNat_natCast,List.take_length]
    obtain ⟨ys,z,e4,b1,b2,b3,b4⟩:=cmpIn (ps:=xs.drop i) a1 hi (List.length_drop ..) hn
    have e5:cut ys (z:Int) (ys.length:Int) = some (ys.drop z):=by
     unfold cut
     rw [if_pos (by omega),Int.toNat_natCast,Int.toNat_natCast,List.take_length]
    rw [if_pos ce,e3,ab,e4,ab]
    simp only
    rw [e5,ab,Int.toNat_natCast,mD (by rw [df (by rw [List.length_drop]; omega)]; omega),ab]
    refine ⟨_,rfl,?_⟩
    have hlen:(List.take z (clr noS ys z (ys.drop z).length)).length = z:=by
     rw [List.length_take,df (by rw [List.length_drop]; omega)]; omega
    show some (decide (y.1 = s) == decide ((List.take z (clr noS ys z (ys.drop z).length)).length = 1)) = _
    rw [hlen]
    congr 2
    refine decide_eq_decide.2 ⟨fun hz=>?_,fun ha=>?_⟩
    ·have i1:i = 1:=by omega
     subst i1
     have h3:=b4.1 hz
     refine ma fun m hm=>?_
     by_cases m0:m = 0
     ·subst m0
      rw [geE hi,geE hi1]
      exact congrArg some ce
     ·have h4:=h3 m (by omega) (by omega)
      rw [show 1 + m = m + 1 by omega] at h4
      exact h4
    ·have i1:i = 1:=by
      refine Classical.byContradiction fun hc=>a3 1 (Nat.le_refl _) (by omega) (lH ha (by omega) (by omega))
     subst i1
     exact b4.2 fun m h3 h4=>lH ha (by omega) (by omega)
   ·rw [if_neg ce]
    refine hJ (i + 1) ⟨by omega,hi,fun m h3 h4=>?_⟩ (by omega)
    by_cases cm:m = i
    ·subst cm
     rw [geE hi,geE hi1]
     exact fun hc=>ce (by injection hc)
    ·exact a3 m h3 (by omega)
  ·rw [if_neg hi]
   refine ⟨_,rfl,?_⟩
   show some (decide (y.1 = s) == decide (xs.length = 1)) = _
   congr 2
   refine decide_eq_decide.2 ⟨fun hz=>by omega,fun ha=>?_⟩
   exact absurd (lH ha (by omega) (by omega)) (a3 1 (Nat.le_refl _) (by omega))
end Go.Proofs.YtkhpmhhnolpcnaaGreatDoor
namespace Go.Proofs.YtkhpmhhnolpcnaaGreatDoor
open Go
set_option maxRecDepth 8000
theorem mQ:bN_p FU = some true:=by kernel_rfl
theorem eL (l:List Int):l.sum = sm (fun d=>l[d]?.getD 0) l.length:=by
 unfold sm
 congr 1
 refine List.ext_getElem (by simp) fun i h1 h2=>?_
 rw [List.getElem_map,List.getElem_range,geE h1]; rfl
def gA (us:List Tb) (j:Nat):Int:=sm (fun i=>(us[i]?.map (gp j)).getD 0) us.length
def gQ (us:List Tb):Int:=sm (fun i=>(us[i]?.map (·.fA)).getD 0) us.length
def gG (us:List Tb) (j:Nat) (p:List Int) (d:Nat):Int:=sd (gp j) us p (d:Int) us.length
def gT (us:List Tb) (p:List Int) (d:Nat):Int:=sd (·.fA) us p (d:Int) us.length
def iv (A Q s:Int):Ta × Int:=if A = 0 ∨ A = Q then (noS,7) else (Sg (Rat.divInt s (2 * (A * (Q - A)))),0)
structure Fc (us:List Tb) (j:Nat) (p:List Int) (K:Nat):Prop where
 b:∀ d < K,0 <= gG us j p d/\gG us j p d <= gT us p d/\gT us p d <= 64000000000
 g:sm (gG us j p) K = gA us j
 t:sm (gT us p) K = gQ us
theorem idxU {r:Tf} {us:List Tb} {j:Nat} (h:Rd r us j) {p:List Int} {k:Int} (hf:dJ p us.length k) (hk:1 <= k/\k <= 8) :
  aN_p FU r p k j = some (iv (gA us j) (gQ us) (S (gG us j p) (gT us p) (gA us j) (gQ us - gA us j) k.toNat))/\Fc us j p k.toNat/\0 <= gA us j/\gA us j <= gQ us/\gQ us <= 512000000000:=by
 obtain ⟨e1,hn,_⟩:=ke h hf hk
 have hpl:=hf.1
 have gl:=dZ us p k j us.length
 have tl:=dn us p k us.length
 have g1:∀ d < k.toNat,(gt us p k j us.length)[d]?.getD 0 = gG us j p d:=fun d hd=>nc us hf.2.1 j hd us.length (by omega)
 have t1:∀ d < k.toNat,(tt us p k us.length)[d]?.getD 0 = gT us p d:=fun d hd=>ky us hf.2.1 hd us.length (by omega)
 have g2:(gt us p k j us.length).sum = gA us j:=by
  rw [eL,gl,bv g1]
  exact jN (gp j) us hf.2.1 us.length (by omega)
 have t2:(tt us p k us.length).sum = gQ us:=by
  rw [eL,tl,bv t1]
  exact jN (·.fA) us hf.2.1 us.length (by omega)
 have hs:=hn.sums
 rw [g2,t2] at hs
 refine ⟨?_,⟨fun d hd=>?_,?_,?_⟩,hs⟩
 ·have hv:=indexV e1 hn
  rw [g2,t2] at hv
  rw [hv]
  unfold iv
  by_cases c:gA us j = 0 ∨ gA us j = gQ us
  ·rw [if_pos c,if_pos c]
  ·rw [if_neg c,if_neg c]
   have e2:qo (gt us p k j us.length) (tt us p k us.length) (gA us j) (gQ us - gA us j) (gt us p k j us.length).length = Rat.divInt (S (gG us j p) (gT us p) (gA us j) (gQ us - gA us j) k.toNat) (gA us j * (gQ us - gA us j)):=by
    unfold qo
    rw [jZ,gl]
    congr 1
    refine bv fun d hd=>?_
    unfold off
    rw [g1 d hd,t1 d hd]
   rw [e2,Rat.div_def,Rat.inv_divInt,Rat.divInt_mul_divInt,Int.mul_one,Int.mul_comm _ 2]
 ·have hb:=hn.b d (by omega) (by omega)
  have h1:=g1 d hd
  have h2:=t1 d hd
  rw [geE (by omega),Option.getD_some] at h1 h2
  rw [h1,h2] at hb
  exact hb
 ·rw [<- g2,eL,gl,bv g1]
 ·rw [<- t2,eL,tl,bv t1]
theorem S_rn {us:List Tb} {j:Nat} {p:List Int} {k:Int} (t:Nat) (hk:1 <= k) (h:∀ x ∈ p,0 <= x/\x < k) (A R:Int):S (gG us j (p.map (rn t k))) (gT us (p.map (rn t k))) A R k.toNat = S (gG us j p) (gT us p) A R k.toNat:=by
 rw [<- S_rot _ _ A R t (show 0 < k.toNat by omega)]
 have e:∀ (f:Tb -> Int) (d:Nat),d < k.toNat -> sd f us (p.map (rn t k)) (((d + t) % k.toNat:Nat):Int) us.length = sd f us p (d:Int) us.length:=fun f d hd=>by
  have h1:=sd_rn (f:=f) (us:=us) (t:=(t:Int)) h (d:=(d:Int)) (by omega) us.length
  rw [<- h1]
  have h2:(((d + t) % k.toNat:Nat):Int) = rn (t:Int) k (d:Int):=by
   unfold rn
   rw [Int.natCast_emod,Int.natCast_add,Int.toNat_of_nonneg (by omega)]
  rw [h2]
 exact bv fun d hd=>by
  show (((gG us j (p.map (rn t k)) ((d + t) % k.toNat)) * R - (gT us (p.map (rn t k)) ((d + t) % k.toNat) - gG us j (p.map (rn t k)) ((d + t) % k.toNat)) * A).natAbs:Int) = _
  unfold gG gT
  rw [e (gp j) d hd,e (·.fA) d hd]
theorem S_mg {us:List Tb} {j:Nat} {p:List Int} {k:Int} (hk:2 <= k) (h:∀ x ∈ p,0 <= x/\x < k) (A R:Int):S (gG us j (p.map (mg k))) (gT us (p.map (mg k))) A R (k - 1).toNat <= S (gG us j p) (gT us p) A R k.toNat:=by
 obtain ⟨K,hK⟩:∃ K:Nat,k.toNat = K + 2:=⟨k.toNat - 2,by omega⟩
 rw [show (k - 1).toNat = K + 1 by omega,hK]
 refine S_merge (fun d hd=>?_) ?_ ?_
 ·unfold gG gT
  rw [jc hk h (by omega),jc hk h (by omega),if_neg (by omega),if_neg (by omega),Int.add_zero,Int.add_zero]
  exact ⟨rfl,rfl⟩
 ·unfold gG
  rw [jc hk h (by omega),if_pos (by omega),show k - 1 = ((K + 1:Nat):Int) by omega]
 ·unfold gT
  rw [jc hk h (by omega),if_pos (by omega),show k - 1 = ((K + 1:Nat):Int) by omega]
theorem ee {a b:Rat} (ha:FQ a) (hb:FQ b) (h:a <= b):aO_p FU (Sg a) (Sg b) = some true:=by
 unfold aO_p
 rw [cmpG ha hb,ab]
 simp only
 rw [if_pos trivial,decide_eq_true ((iy a b).2 h)]
theorem mh {a b:Int} (ha:Sm a) (hb:Sm b) (h0:b ≠ 0):am_p FU a b = some (Sg (Rat.divInt a b)):=by
 unfold am_p
 rw [of_sg ha hb h0,ab]
def lv (gs ts:List Int):Nat -> List Ta
 | 0=>[]
 | i + 1=>if 0 < ts[i]?.getD 0 then lv gs ts i ++ [Sg (shv (gs[i]?.getD 0) (ts[i]?.getD 0))] else lv gs ts i
theorem jH (gs ts:List Int):∀ i,(lv gs ts i).length <= i
 | 0=>Nat.le_refl _
 | i + 1=>by
  have:=jH gs ts i
  rw [lv]
  split
  ·rw [List.length_append,leC,leN]; omega
  ·omega
theorem ek (gs ts:List Int) (x:Ta):∀ i,x ∈ lv gs ts i ↔ ∃ d < i,0 < ts[d]?.getD 0/\x = Sg (shv (gs[d]?.getD 0) (ts[d]?.getD 0))
 | 0=>by
  constructor
  ·intro h; cases h
  ·rintro ⟨d,h,_⟩; exact absurd h (Nat.not_lt_zero d)
 | i + 1=>by
  have ih:=ek gs ts x i
  rw [lv]
  by_cases c:0 < ts[i]?.getD 0
  ·rw [if_pos c,List.mem_append,List.mem_singleton,ih]
   constructor
   ·rintro (⟨d,h1,h2⟩ | h)
    ·exact ⟨d,by omega,h2⟩
    ·exact ⟨i,by omega,c,h⟩
   ·rintro ⟨d,h1,h2,h3⟩
    by_cases cd:d = i
    ·subst cd; exact .inr h3
    ·exact .inl ⟨d,by omega,h2,h3⟩
  ·rw [if_neg c,ih]
   constructor
   ·rintro ⟨d,h1,h2⟩
    exact ⟨d,by omega,h2⟩
   ·rintro ⟨d,h1,h2,h3⟩
    by_cases cd:d = i
    ·subst cd; exact absurd h2 c
    ·exact ⟨d,by omega,h2,h3⟩
theorem lv_loop {gs ts:List Int} {k:Int} (h:Nums gs ts k):ao (aa_l3 FU (shs gs ts,0) (ts,0)) FU (0,[]) = some (lv gs ts gs.length):=by
 have hF:=bq
 have hl:=hO h
 have hg:=h.g; have ht:=h.t; have h8:=h.k8
 have hh:=av (B:=aa_l3 FU (shs gs ts,0) (ts,0)) (fun s:Nat × List Ta=>gs.length - s.1) (fun s=>s.1 <= gs.length/\s.2 = lv gs ts s.1) (fun r=>r = lv gs ts gs.length) ?_ FU (0,[]) ⟨Nat.zero_le _,rfl⟩ (by simp only; omega)
 ·obtain ⟨r,e,rfl⟩:=hh
  exact e
 ·rintro ⟨i,xs⟩ J ⟨a1,a2⟩ hJ
  simp only at a1 a2 hJ
  subst a2
  unfold aa_l3 jn
  simp only
  by_cases hi:i < gs.length
  ·have h2:i < ts.length:=by omega
   have hlv:=jH gs ts i
   rw [if_pos (by omega),mI h hi h2,ab,geE h2,ab]
   by_cases c:0 < ts[i]
   ·rw [if_pos c,eH _ _ (by simp only [leC,leN]; omega),ab]
    refine hJ _ ⟨hi,?_⟩ (by simp only; omega)
    simp only
    rw [lv,geE h2,geE hi]
    simp only [Option.getD_some]
    rw [if_pos c]
   ·rw [if_neg c]
    refine hJ _ ⟨hi,?_⟩ (by simp only; omega)
    simp only
    rw [lv,geE h2]
    simp only [Option.getD_some]
    rw [if_neg c]
  ·rw [if_neg (by omega)]
   exact ⟨_,rfl,by rw [show i = gs.length by omega]⟩
theorem kC {f:Int -> Int} {p:List Int} {i:Nat} (h:i < p.length):((p.take i).map f ++ p.drop i).set i (f p[i]) = (p.take (i + 1)).map f ++ p.drop (i + 1):=by
 have hlen:((p.take i).map f).length = i:=by rw [List.length_map,List.length_take]; omega
 rw [List.set_append_right _ _ (by omega),hlen,Nat.sub_self,List.drop_eq_getElem_cons h,List.set_cons_zero,List.take_succ_eq_append_getElem h,List.map_append,List.append_assoc]
 rfl
theorem mY {f:Int -> Int} {p:List Int} {i:Nat} (h:i < p.length):((p.take i).map f ++ p.drop i)[i]? = some p[i]/\((p.take i).map f ++ p.drop i).length = p.length:=by
 have hlen:((p.take i).map f).length = i:=by rw [List.length_map,List.length_take]; omega
 refine ⟨?_,by rw [List.length_append,hlen,List.length_drop]; omega⟩
 rw [List.getElem?_append_right (by omega),hlen,Nat.sub_self,List.drop_eq_getElem_cons h]; rfl
theorem mZ {p:List Int} {k:Int} (t:UInt8) (hp:p.length <= 9) (hk:1 <= k/\k <= 8) (h:∀ x ∈ p,0 <= x/\x < k):ao (aa_l4 FU (p,k) t) FU (0,p,p) = some (p.map (rn (t.toNat:Int) k),p.map (mg k)):=by
 have hF:=bq
 have ht:t.toNat < 256:=UInt8.toNat_lt t
 have hh:=av (B:=aa_l4 FU (p,k) t) (fun s:Nat × List Int × List Int=>p.length - s.1) (fun s=>s.1 <= p.length/\s.2.1 = (p.take s.1).map (mg k) ++ p.drop s.1/\s.2.2 = (p.take s.1).map (rn (t.toNat:Int) k) ++ p.drop s.1) (fun r=>r = (p.map (rn (t.toNat:Int) k),p.map (mg k))) ?_ FU (0,p,p) ⟨Nat.zero_le _,rfl,rfl⟩ (by simp only; omega)
 ·obtain ⟨r,e,rfl⟩:=hh
  exact e
 ·rintro ⟨i,xs,ys⟩ J ⟨a1,a2,a3⟩ hJ
  simp only at a1 a2 a3 hJ
  subst a2 a3
  unfold aa_l4
  simp only
  by_cases hi:i < p.length
  ·have hx:=h p[i] (List.getElem_mem hi)
   obtain ⟨m1,m2⟩:=mY (f:=mg k) hi
   obtain ⟨r1,r2⟩:=mY (f:=rn (t.toNat:Int) k) hi
   have er:(p[i] + ((t.toNat:Nat):Int)).tmod k = rn (t.toNat:Int) k p[i]:=Int.tmod_eq_emod_of_nonneg (by omega)
   rw [if_pos hi,geE hi,ab,aN (by omega) (by omega),ab,cp (by omega),ab,r1,ab,bs _ (by omega),ab,aN (by omega) (by omega),ab,m1,ab,bs _ (by omega),ab,er]
   refine hJ _ ⟨hi,?_,?_⟩ (by simp only; omega)
   ·exact kC (f:=mg k) hi
   ·exact kC (f:=rn (t.toNat:Int) k) hi
  ·rw [if_neg hi]
   refine ⟨_,rfl,?_⟩
   rw [List.take_of_length_le (by omega),List.drop_eq_nil_of_le (by omega),List.append_nil,List.append_nil]
end Go.Proofs.YtkhpmhhnolpcnaaGreatDoor
namespace Go.Proofs.YtkhpmhhnolpcnaaGreatDoor
open Go
set_option maxRecDepth 8000
theorem me (a:List Int) (h:a ≠ []) (hl:a.length <= 1000):aJ_p FU a = some a:=by
 unfold aJ_p
 cases a with
 | nil=>exact absurd rfl h
 | cons x a=>
  show ((app [] (x :: a)).bind fun xs=>some xs) = _
  rw [eH _ _ (by simp only [leN]; omega),ab]; rfl
theorem lL {us:List Tb} {j:Nat} {p:List Int} {k:Int} (hn:Nums (gt us p k j us.length) (tt us p k us.length) k) (hl:us.length <= p.length) (h:∀ x ∈ p,0 <= x/\x < k) :
  Al (lv (gt us p k j us.length) (tt us p k us.length) k.toNat) ↔ ∀ d < k.toNat,∀ e < k.toNat,0 < gT us p d -> 0 < gT us p e -> gG us j p d * gT us p e = gG us j p e * gT us p d:=by
 have g1:∀ d < k.toNat,(gt us p k j us.length)[d]?.getD 0 = gG us j p d:=fun d hd=>nc us h j hd us.length hl
 have t1:∀ d < k.toNat,(tt us p k us.length)[d]?.getD 0 = gT us p d:=fun d hd=>ky us h hd us.length hl
 have hg:=hn.g; have ht:=hn.t
 have hb:∀ d < k.toNat,0 <= gG us j p d/\gG us j p d <= gT us p d/\gT us p d <= 64000000000:=fun d hd=>by
  have hb:=hn.b d (by omega) (by omega)
  have h1:=g1 d hd
  have h2:=t1 d hd
  rw [geE (by omega),Option.getD_some] at h1 h2
  rwa [h1,h2] at hb
 have key:∀ d < k.toNat,∀ e < k.toNat,0 < gT us p d -> 0 < gT us p e -> (Sg (shv (gG us j p d) (gT us p d)) = Sg (shv (gG us j p e) (gT us p e)) ↔ gG us j p d * gT us p e = gG us j p e * gT us p d):=fun d hd e he d0 e0=>by
  have f1:=ne (hb d hd)
  have f2:=ne (hb e he)
  rw [show Sg (shv (gG us j p d) (gT us p d)) = Sg (shv (gG us j p e) (gT us p e)) ↔ shv (gG us j p d) (gT us p d) = shv (gG us j p e) (gT us p e) from ⟨mS f1 f2,congrArg Sg⟩]
  unfold shv
  rw [if_neg (by omega),if_neg (by omega),Rat.divInt_eq_divInt_iff (by omega) (by omega)]
 constructor
 ·intro ha d hd e he d0 e0
  refine (key d hd e he d0 e0).1 (ha _ ((ek _ _ _ _).2 ⟨d,hd,by rw [t1 d hd]; exact d0,by rw [g1 d hd,t1 d hd]⟩) _ ((ek _ _ _ _).2 ⟨e,he,by rw [t1 e he]; exact e0,by rw [g1 e he,t1 e he]⟩))
 ·intro hs x hx y hy
  obtain ⟨d,hd,d0,rfl⟩:=(ek _ _ _ _).1 hx
  obtain ⟨e,he,e0,rfl⟩:=(ek _ _ _ _).1 hy
  rw [t1 d hd] at d0
  rw [t1 e he] at e0
  rw [g1 d hd,t1 d hd,g1 e he,t1 e he]
  exact (key d hd e he d0 e0).2 (hs d hd e he d0 e0)
theorem iK {p:List Int} {n:Nat} {k k' : Int} {f:Int -> Int} (h:dJ p n k) (hp:bc (p.map f) k'):dJ (p.map f) n k' :=⟨by rw [List.length_map]; exact h.1,hp⟩
theorem mergedU {r:Tf} {us:List Tb} {j:Nat} (h:Rd r us j) {p:List Int} {k:Int} (hf:dJ p us.length k) (hk:1 <= k/\k <= 8) :
  ∃ s,aN_p FU r (p.map (mg k)) (max 1 (k - 1)) j = some (iv (gA us j) (gQ us) s)/\0 <= s/\s <= S (gG us j p) (gT us p) (gA us j) (gQ us - gA us j) k.toNat:=by
 by_cases c:k = 1
 ·subst c
  rw [mg_one hf.2,show max (1:Int) (1 - 1) = 1 by decide]
  exact ⟨_,(idxU h hf hk).1,lJ ..,Int.le_refl _⟩
 ·rw [show max 1 (k - 1) = k - 1 by omega]
  exact ⟨_,(idxU h (iK hf (mg_plan (by omega) hf.2)) ⟨by omega,by omega⟩).1,lJ ..,S_mg (by omega) hf.2.1 _ _⟩
theorem dm (a0:Ti) (a1:Th) (a2 a3:UInt8):aa_p FU a0 a1 a2 a3 = some true:=by
 have hF:=bq
 obtain ⟨p,k,e0,p1,p2,hp,k1,k2⟩:=lX FU a0 (by omega)
 obtain ⟨r,us,e1,hus,hr,hg,_⟩:=mq FU ⟨2,3,2,a1.fv,a1.fNums⟩ p.length (by omega) (by omega) (by omega)
 have hj:(a2 % 2).toNat < 2:=by rw [UInt8.toNat_mod]; exact Nat.mod_lt _ (by decide)
 have h:Rd r us (a2 % 2).toNat:=⟨np hr,rv_of hr,lnd_ok hr,by rw [hg]; show _ < (((2:UInt8) % 3).toNat:Int); rw [show ((2:UInt8) % 3).toNat = 2 by decide]; omega,by omega⟩
 have e1' : a9_p FU a1 ((p.length:Nat):Int) = some r:=by
  unfold a9_p
  rw [e1,ab]
 generalize hjj:(a2 % 2).toNat = j at *
 have hf:dJ p us.length k:=⟨hus.symm,hp⟩
 have hne:p ≠ []:=fun hc=>by rw [hc] at p1; exact absurd p1 (by decide)
 obtain ⟨i1,fc,b0,b1,b2⟩:=idxU h hf ⟨k1,k2⟩
 obtain ⟨i2,_⟩:=idxU h (iK hf (rn_plan (t:=(a3.toNat:Int)) k1 hp)) ⟨k1,k2⟩
 rw [S_rn a3.toNat k1 hp.1] at i2
 obtain ⟨s3,i3,z0,z1⟩:=mergedU h hf ⟨k1,k2⟩
 obtain ⟨gv,hn,t3⟩:=ke h hf ⟨k1,k2⟩
 have hz:=S_zero (G:=gG us j p) (T:=gT us p) (A:=gA us j) (R:=gQ us - gA us j) (K:=k.toNat)
 have s0:=lJ (gG us j p) (gT us p) (gA us j) (gQ us - gA us j) k.toNat
 have s1:=S_le (G:=gG us j p) (T:=gT us p) (A:=gA us j) (R:=gQ us - gA us j) (K:=k.toNat) (fun d hd=>⟨(fc.b d hd).1,(fc.b d hd).2.1⟩) b0 (by omega) fc.g (by rw [fc.t]; omega)
 have ho:=lx (G:=gG us j p) (T:=gT us p) (K:=k.toNat) (fun d hd=>⟨(fc.b d hd).1,(fc.b d hd).2.1⟩) fc.g fc.t
 have hal:=lL hn (by rw [hus]; exact Nat.le_refl _) hp.1
 generalize hS:S (gG us j p) (gT us p) (gA us j) (gQ us - gA us j) k.toNat = s at *
 unfold aa_p
 rw [mQ,ab,if_pos rfl,e0,ab]
 simp only
 rw [e1', ab,me p hne (by omega),ab,ab,mZ a3 p2 ⟨k1,k2⟩ hp.1,ab]
 simp only
 rw [hjj,i1,ab,i2,ab,aN (by omega) (by omega),ab,i3,ab]
 unfold iv
 by_cases c:gA us j = 0 ∨ gA us j = gQ us
 ·rw [if_pos c,if_pos c]
  simp only
  rw [if_pos trivial,if_pos trivial,if_pos trivial]; rfl
 ·have hA:0 < gA us j:=by omega
  have hR:0 < gQ us - gA us j:=by omega
  have har:=Int.mul_pos hA hR
  have hal2:=(ij (x:=gA us j) (y:=gQ us - gA us j) (m:=512000000000) (n:=512000000000) (by omega) (by omega)).2
  have hgl:=dZ us p k j us.length
  have hlv:=jH (gt us p k j us.length) (tt us p k us.length) k.toNat
  rw [if_neg c,if_neg c]
  simp only
  rw [if_pos trivial,if_pos trivial,if_pos trivial,if_pos trivial]
  have es:bt_p FU r p k j = some (shs (gt us p k j us.length) (tt us p k us.length),0):=by
   unfold bt_p aQ_p
   rw [gv,ab,exO,sharesP hn]; rfl
  have el:=lv_loop hn
  rw [hgl] at el
  have f0:FQ (Rat.divInt 0 1):=fqd (by decide) (by decide) (by decide)
  have f1:FQ (Rat.divInt 1 1):=fqd (by decide) (by decide) (by decide)
  have m0:0 < 2 * (gA us j * (gQ us - gA us j)):=by omega
  have fs:FQ (Rat.divInt s (2 * (gA us j * (gQ us - gA us j)))):=jz (by omega) (by omega) (by omega)
  have f3:FQ (Rat.divInt s3 (2 * (gA us j * (gQ us - gA us j)))):=jz (by omega) (by omega) (by omega)
  generalize 2 * (gA us j * (gQ us - gA us j)) = m at *
  have l1:Rat.divInt 0 1 <= Rat.divInt s m:=(mn (by decide) m0).2 (by rw [Int.zero_mul,Int.mul_one]; exact s0)
  have l2:Rat.divInt s m <= Rat.divInt 1 1:=(mn m0 (by decide)).2 (by rw [Int.one_mul,Int.mul_one]; exact s1)
  have l3:Rat.divInt s3 m <= Rat.divInt s m:=(mn m0 m0).2 (Int.mul_le_mul_of_nonneg_right z1 (by omega))
  rw [es,ab,t3,ab]
  simp only
  rw [if_pos trivial,if_pos trivial,hO hn,hgl,if_pos (by omega),dn,if_pos (by omega),el,ab]
  have zz:am_p FU 0 1 = some (Sg (Rat.divInt 0 1)):=mh (by unfold Sm; decide) (by unfold Sm; decide) (by decide)
  have zo:am_p FU 1 1 = some (Sg (Rat.divInt 1 1)):=mh (by unfold Sm; decide) (by unfold Sm; decide) (by decide)
  rw [zz,ab,ee f0 fs l1,ab,if_pos rfl,zo,ab,ee fs f1 l2,ab,if_pos rfl,ee f3 fs l3,ab,if_pos rfl,ab]
  have hQ:0 < gQ us:=by omega
  have hiff:Sg (Rat.divInt s m) = Sg (Rat.divInt 0 1) ↔ Al (lv (gt us p k j us.length) (tt us p k us.length) k.toNat):=by
   rw [hal,<- ho hQ,<- show (∀ d < k.toNat,gG us j p d * (gA us j + (gQ us - gA us j)) = gT us p d * gA us j) ↔ ∀ d < k.toNat,gG us j p d * gQ us = gT us p d * gA us j by rw [show gA us j + (gQ us - gA us j) = gQ us by omega],<- hz]
   constructor
   ·intro e
    have e2:=mS fs f0 e
    rw [Rat.divInt_eq_divInt_iff (by omega) (by decide)] at e2
    omega
   ·intro e
    rw [e,Rat.divInt_eq_divInt_iff (by omega) (by decide) |>.2 (by omega:(0:Int) * 1 = 0 * m)]
  have hne2:lv (gt us p k j us.length) (tt us p k us.length) k.toNat ≠ []:=fun hc=>by
   obtain ⟨d,hd,d0⟩:∃ d < k.toNat,0 < gT us p d:=Classical.byContradiction fun hx=>by
    have h1:sm (gT us p) k.toNat <= sm (fun _=>0) k.toNat:=iJ fun d hd=>Int.not_lt.1 fun h0=>hx ⟨d,hd,h0⟩
    rw [cU,fc.t] at h1
    omega
   have h2:=ky us hp.1 hd us.length (by omega)
   have h3:=(ek (gt us p k j us.length) (tt us p k us.length) _ k.toNat).2 ⟨d,hd,by rw [h2]; exact d0,rfl⟩
   rw [hc] at h3
   cases h3
  generalize lv (gt us p k j us.length) (tt us p k us.length) k.toNat = xs at *
  have hx0:0 < xs.length:=List.length_pos_iff.2 hne2
  by_cases cl:xs.length < 2
  ·rw [if_pos cl]
   have ha:Al xs:=ma fun m hm=>by omega
   rw [decide_eq_true (hiff.2 ha),decide_eq_true (show xs.length = 1 by omega)]; rfl
  ·rw [if_neg cl,cmpOut (by omega) (by omega)]
   simp only
   rw [@decide_eq_decide _ _ _ (Classical.propDecidable _) |>.2 hiff]
   simp
theorem dl (a0:Ti) (a1:Th) (a2 a3:UInt8):∃ n,aa_p n a0 a1 a2 a3 = some true:=⟨FU,dm a0 a1 a2 a3⟩
end Go.Proofs.YtkhpmhhnolpcnaaGreatDoor
