/- Plain laws: words, their value, and integers of any length: sum, difference, product. No program in sight but the printed functions. -/
import Derived.Test.YtkommhmbkbhmlaaGreatRL8
import Derived.Test.YtkommhmbkbhmlaaGreatRMl
namespace Go.Proofs.YtkommhmbkbhmlaaGreat
open Go
theorem ab {α β:Type} (x:α) (f:α -> Oa β):(some x).bind f = f x:=Eq.trans (Eq.refl _) (Eq.refl _)
theorem aU {α β:Type} (B:(α -> Oa β) -> α -> Oa β) (n:Nat) (s:α):az B (n + 1) s = B (az B n) s:=rfl
theorem aN {α β:Type} {B:(α -> Oa β) -> α -> Oa β} (m:α -> Nat) (I:α -> Prop) (Q:β -> Prop)
  (step:∀ s J,I s -> (∀ s', I s' -> m s' < m s -> ∃ r,J s' = some r/\Q r) -> ∃ r,B J s = some r/\Q r):∀ n s,I s -> m s < n -> ∃ r,az B n s = some r/\Q r:=by
 intro n
 induction n with
 | zero=>intro s _ h; omega
 | succ n ih=>intro s hI h; exact step s (az B n) hI fun s' h1 h2=>ih s' h1 (by omega)
theorem cm {x:Int} (h1:-9223372036854775808 <= x) (h2:x <= 9223372036854775807):chk x = some x:=if_pos ⟨h1,h2⟩
theorem dj {α:Type} {xs:List α} {i:Int} (h0:0 <= i) (h:i.toNat < xs.length):idx xs i = some xs[i.toNat]:=by unfold idx; rw [if_pos h0,geE h]
theorem dP {α:Type} {xs:List α} {i:Nat} (x:α) (h:i < xs.length):put xs (i:Int) x = some (xs.set i x):=by
 unfold put; rw [if_pos ⟨Int.natCast_nonneg _,by omega⟩]; rfl
theorem lR {α:Type} {xs:List α} {z:Nat} (h:z <= xs.length):cut xs 0 (z:Int) = some (xs.take z):=by
 unfold cut; rw [if_pos ⟨Int.le_refl _,Int.natCast_nonneg _,by omega⟩]; rfl
theorem fU {α:Type} (n:Nat) (x:α) (h:n <= 4294967296):mk (n:Int) x = some (List.replicate n x):=by
 unfold mk; rw [if_pos ⟨Int.natCast_nonneg _,by omega⟩]; rfl
def val:List Ua -> Nat
 | []=>0
 | x :: xs=>x.toNat + 18446744073709551616 * val xs
theorem eb (xs ys:List Ua):val (xs ++ ys) = val xs + 18446744073709551616 ^ xs.length * val ys:=by
 induction xs with
 | nil=>simp [val]
 | cons x xs ih=>simp only [List.cons_append,val,ih,leC,Nat.pow_succ]; grind
theorem cC (xs:List Ua):val xs < 18446744073709551616 ^ xs.length:=by
 induction xs with
 | nil=>simp [val]
 | cons x xs ih=>
  have:=x.toNat_lt
  have h2:18446744073709551616 * (val xs + 1) <= 18446744073709551616 * 18446744073709551616 ^ xs.length:=Nat.mul_le_mul_left _ ih
  simp only [val,leC,Nat.pow_succ]
  rw [Nat.mul_comm (_ ^ _)]
  omega
theorem bN (a:List Ua) {i:Nat} (h:i < a.length):val (a.take (i + 1)) = val (a.take i) + 18446744073709551616 ^ i * a[i].toNat:=by
 rw [<- List.take_append_getElem h,eb,List.length_take,Nat.min_eq_left (Nat.le_of_lt h)]
 simp [val]
theorem kR {xs:List Ua} {i:Nat} (s:Ua) (h:i < xs.length):(xs.set i s).take (i + 1) = xs.take i ++ [s]:=by
 rw [<- List.take_append_getElem (by simpa using h),List.take_set_of_le (Nat.le_refl _)]
 simp
theorem ee {xs:List Ua} {i:Nat} (s:Ua) (h:i < xs.length):val ((xs.set i s).take (i + 1)) = val (xs.take i) + 18446744073709551616 ^ i * s.toNat:=by
 rw [kR s h,eb,List.length_take,Nat.min_eq_left (Nat.le_of_lt h)]
 simp [val]
theorem cd:∀ (xs:List Ua),(∀ x ∈ xs,x = 0) -> val xs = 0
 | [],_=>rfl
 | x :: xs,h=>by
  have h1:=h x (List.mem_cons_self ..)
  have h2:=cd xs fun y hy=>h y (List.mem_cons_of_mem _ hy)
  subst h1; simp [val,h2]
def dg (m:Nat):List Ua:=if m = 0 then [] else UInt64.ofNat m :: dg (m / 18446744073709551616)
termination_by m
decreasing_by exact Nat.div_lt_self (by omega) (by omega)
theorem dg0:dg 0 = []:=by unfold dg; simp
theorem gJ {m:Nat} (h:m ≠ 0):dg m = UInt64.ofNat m :: dg (m / 18446744073709551616):=by rw [dg]; rw [if_neg h]
theorem aI (m:Nat):val (dg m) = m:=by
 induction m using Nat.strongRecOn with
 | _ m ih=>
  by_cases h:m = 0
  ·subst h; rw [dg0]; rfl
  ·rw [gJ h]; simp only [val]
   rw [ih _ (Nat.div_lt_self (by omega) (by omega)),UInt64.toNat_ofNat']
   exact Nat.mod_add_div m 18446744073709551616
def Nm (xs:List Ua):Prop:=∀ x,xs.getLast? = some x -> x ≠ 0
theorem Nm.tail {x y:Ua} {xs:List Ua} (h:Nm (x :: y :: xs)):Nm (y :: xs):=fun z hz=>h z (by rw [List.getLast?_cons_cons]; exact hz)
theorem eW:∀ {xs:List Ua},Nm xs -> xs ≠ [] -> 0 < val xs
 | [],_,h=>absurd I h
 | [x],h,_=>by
  have h1:=h x I
  have:x.toNat ≠ 0:=fun e=>h1 (UInt64.toNat_inj.1 (by simpa using e))
  simp only [val]; omega
 | x :: y :: xs,h,_=>by
  have:=eW h.tail (by simp)
  simp only [val] at this ⊢
  omega
theorem gU:∀ {xs:List Ua},Nm xs -> xs ≠ [] -> 18446744073709551616 ^ (xs.length - 1) <= val xs
 | [],_,h=>absurd I h
 | [x],h,_=>by
  have h1:=eW h (by simp)
  show 18446744073709551616 ^ 0 <= _
  rw [Nat.pow_zero]; exact h1
 | x :: y :: xs,h,_=>by
  have h1:=gU h.tail (by simp)
  have h2:18446744073709551616 * 18446744073709551616 ^ xs.length <= 18446744073709551616 * val (y :: xs):=Nat.mul_le_mul_left _ (by simpa using h1)
  show 18446744073709551616 ^ (xs.length + 1) <= x.toNat + 18446744073709551616 * val (y :: xs)
  rw [Nat.pow_succ,Nat.mul_comm]; omega
theorem lO:∀ {xs:List Ua},Nm xs -> dg (val xs) = xs
 | [],_=>dg0
 | x :: xs,h=>by
  have hp:=eW h (by simp)
  rw [gJ (by omega)]
  have hx:=x.toNat_lt
  have h1:UInt64.ofNat (val (x :: xs)) = x:=UInt64.toNat_inj.1 (by rw [UInt64.toNat_ofNat']; simp only [val]; omega)
  have h2:val (x :: xs) / 18446744073709551616 = val xs:=by simp only [val]; omega
  have h3:Nm xs:=by
   cases xs with
   | nil=>intro z hz; simp at hz
   | cons y ys=>exact h.tail
  rw [h1,h2,lO h3]
theorem gd (m:Nat):Nm (dg m):=by
 induction m using Nat.strongRecOn with
 | _ m ih=>
  intro x hx
  by_cases h:m = 0
  ·subst h; rw [dg0] at hx; cases hx
  ·rw [gJ h] at hx
   by_cases h2:m / 18446744073709551616 = 0
   ·rw [h2,dg0] at hx
    simp at hx
    intro e; subst e
    have:=congrArg UInt64.toNat hx
    rw [UInt64.toNat_ofNat'] at this
    simp at this; omega
   ·have h3:=ih (m / 18446744073709551616) (Nat.div_lt_self (by omega) (by omega))
    rw [gJ h2] at hx h3
    rw [List.getLast?_cons_cons] at hx
    exact h3 x hx
theorem fT {m l:Nat} (h:m < 18446744073709551616 ^ l):(dg m).length <= l:=by
 by_cases h0:dg m = []
 ·rw [h0]; simp
 ·have h1:=gU (gd m) h0
  rw [aI] at h1
  have h2:=Nat.lt_of_le_of_lt h1 h
  have h3:=(Nat.pow_lt_pow_iff_right (by omega)).1 h2
  omega
theorem aJ (n:Nat) (b:Bool) (ws:List Ua) (hn:ws.length < n) (hl:ws.length <= 4294967296):ay_p n b ws = some ⟨b && decide (0 < val ws),dg (val ws)⟩:=by
 have h:=aN (B:=ay_l1 n ws) (fun z:Int=>z.toNat) (fun z=>0 <= z/\z <= ws.length/\∀ i:Nat,z.toNat <= i -> ∀ h:i < ws.length,ws[i] = 0)
  (fun z=>∃ k:Nat,z = k/\k <= ws.length/\(∀ i:Nat,k <= i -> ∀ h:i < ws.length,ws[i] = 0)/\∀ h:0 < k,∀ h2:k - 1 < ws.length,ws[k - 1] ≠ 0) ?_ n (ws.length:Int) ⟨by omega,by omega,fun i h1 h2=>by omega⟩ (by simpa using hn)
 ·obtain ⟨z,hz,k,rfl,hk,hz0,hz1⟩:=h
  have e:val ws = val (ws.take k):=by
   conv=>lhs; rw [<- List.take_append_drop k ws,eb]
   rw [cd (ws.drop k) fun x hx=>?_]
   ·simp
   ·obtain ⟨i,hi,rfl⟩:=List.getElem_of_mem hx
    rw [List.getElem_drop]
    exact hz0 _ (by omega) _
  have hnm:Nm (ws.take k):=by
   intro x hx
   rw [List.getLast?_eq_getElem?,List.length_take,Nat.min_eq_left hk] at hx
   obtain ⟨h1,rfl⟩:=List.getElem?_eq_some_iff.1 hx
   have h2:k - 1 < ws.length:=by rw [List.length_take] at h1; omega
   by_cases h0:0 < k
   ·rw [List.getElem_take]; exact hz1 h0 h2
   ·rw [List.length_take] at h1; omega
  have e2:dg (val ws) = ws.take k:=by rw [e]; exact lO hnm
  have e3:decide (0 < val ws) = decide (0 < (k:Int)):=by
   rw [decide_eq_decide]
   constructor
   ·intro h0
    by_cases hk0:k = 0
    ·subst hk0; rw [e] at h0; simp [val] at h0
    ·omega
   ·intro h0; rw [e]; refine eW hnm fun h1=>?_
    have:=congrArg List.length h1
    rw [List.length_take,leN] at this; omega
  unfold ay_p jn
  simp only [hz,ab,lR hk]
  cases b
  ·simp [e2]
  ·simp [e2,e3]
 ·intro z J ⟨h1,h2,h3⟩ hJ
  unfold ay_l1
  simp only
  by_cases h0:0 < z
  ·rw [if_pos h0,cm (by omega) (by omega),ab,dj (by omega) (by omega),ab]
   split
   ·rename_i hx
    rw [ab]
    refine hJ (z - 1) ⟨by omega,by omega,fun i h4 h5=>?_⟩ (by omega)
    by_cases h6:i = (z - 1).toNat
    ·subst h6; exact hx
    ·exact h3 i (by omega) h5
   ·rename_i hx
    refine ⟨z,I,z.toNat,by omega,by omega,h3,fun h4 h5=>?_⟩
    have:(z - 1).toNat = z.toNat - 1:=by omega
    simp only [this] at hx
    exact hx
  ·rw [if_neg h0]
   exact ⟨z,I,0,by omega,by omega,fun i h4 h5=>h3 i (by omega) h5,fun h4=>by omega⟩
theorem fL (x y c:Ua) (h:c.toNat <= 1):∃ s d:Ua,add64 x y c = some (s,d)/\s.toNat + 18446744073709551616 * d.toNat = x.toNat + y.toNat + c.toNat/\d.toNat <= 1:=by
 refine ⟨_,_,if_pos h,?_⟩
 have hx:=x.toNat_lt
 have hy:=y.toNat_lt
 rw [UInt64.toNat_ofNat', UInt64.toNat_ofNat']
 omega
theorem bw (x y c:Ua) (h:c.toNat <= 1):∃ s d:Ua,sub64 x y c = some (s,d)/\s.toNat + y.toNat + c.toNat = x.toNat + 18446744073709551616 * d.toNat/\d.toNat <= 1:=by
 refine ⟨_,_,if_pos h,?_⟩
 have hx:=x.toNat_lt
 have hy:=y.toNat_lt
 rw [UInt64.toNat_ofNat']
 split <;> simp <;> omega
theorem cb {α:Type} {l:List α} {i:Nat} (h:l.length <= i):l.take i = l:=List.take_of_length_le h
theorem gB (b:List Ua) (i:Nat):val (b.take (i + 1)) = val (b.take i) + 18446744073709551616 ^ i * (b[i]?.getD 0).toNat:=by
 by_cases h:i < b.length
 ·rw [bN b h,geE h]; rfl
 ·rw [cb (by omega),cb (by omega),List.getElem?_eq_none (by omega)]; simp
theorem jy (n:Nat) (a b:List Ua) (hb:b.length <= a.length) (hn:a.length < n):∃ xs u,az (bs_l1 n a b) n (0,0,List.replicate (a.length + 1) 0) = some (xs,u)/\xs.length = a.length + 1/\val (xs.take a.length) + 18446744073709551616 ^ a.length * u.toNat = val a + val b:=by
 have h:=aN (B:=bs_l1 n a b) (fun s:Ua × Nat × List Ua=>a.length - s.2.1) (fun s=>s.2.1 <= a.length/\s.2.2.length = a.length + 1/\s.1.toNat <= 1/\val (s.2.2.take s.2.1) + 18446744073709551616 ^ s.2.1 * s.1.toNat = val (a.take s.2.1) + val (b.take s.2.1))
  (fun r:List Ua × Ua=>r.1.length = a.length + 1/\val (r.1.take a.length) + 18446744073709551616 ^ a.length * r.2.toNat = val a + val b) ?_ n (0,0,List.replicate (a.length + 1) 0) ⟨by simp,by simp,by simp,by simp [val]⟩ (by simpa using hn)
 ·obtain ⟨⟨xs,u⟩,h1,h2,h3⟩:=h; exact ⟨xs,u,h1,h2,h3⟩
 ·rintro ⟨u,i,xs⟩ J ⟨h1,h2,h3,h4⟩ hJ
  simp only at h1 h2 h3 h4 hJ
  unfold bs_l1
  simp only
  by_cases hi:i < a.length
  ·rw [if_pos hi,geE hi,ab]
   have key:∀ y:Ua,y = b[i]?.getD 0 -> ∃ r,((add64 a[i] y u).bind fun z198=>(xs[i]?).bind fun x199=>(put xs ((i:Nat):Int) z198.1).bind fun xs212=>J (z198.2,i + 1,xs212)) = some r/\r.1.length = a.length + 1/\val (r.1.take a.length) + 18446744073709551616 ^ a.length * r.2.toNat = val a + val b:=by
    intro y hy
    obtain ⟨s,d,e1,e2,e3⟩:=fL a[i] y u h3
    rw [e1,ab,geE (by omega),ab,dP _ (by omega),ab]
    refine hJ (d,i + 1,xs.set i s) ⟨by show i + 1 <= _; omega,by simpa using h2,e3,?_⟩ (by simp only; omega)
    simp only
    rw [ee s (by omega),bN a hi,gB b i,<- hy,Nat.pow_succ]
    grind
   unfold jn
   simp only
   by_cases hj:i < b.length
   ·rw [if_pos hj,geE hj,ab]; exact key _ (by rw [geE hj]; rfl)
   ·rw [if_neg hj]; exact key _ (by rw [List.getElem?_eq_none (by omega)]; rfl)
  ·rw [if_neg hi]
   have:i = a.length:=by omega
   subst this
   refine ⟨_,I,h2,?_⟩
   simp only
   rw [h4,List.take_length,cb hb]
theorem lC (n:Nat) (a b:List Ua) (hn:a.length < n/\b.length < n) (hl:a.length < 4294967296/\b.length < 4294967296):∃ xs,bs_p n a b = some xs/\xs.length <= max a.length b.length + 1/\val xs = val a + val b:=by
 have key:∀ a b:List Ua,b.length <= a.length -> a.length < n -> a.length < 4294967296 -> ∃ xs,((mk ((a.length + 1:Nat):Int) (0:Ua)).bind fun xs17=>Option.bind (az (bs_l1 n a b) n ((0:Ua),0,xs17)) (fun (xs157,u155)=>(xs157[a.length]?).bind fun x229=>(put xs157 ((a.length:Nat):Int) u155).bind fun xs241=>some xs241)) = some xs/\xs.length = a.length + 1/\val xs = val a + val b:=by
  intro a b hb h1 h2
  obtain ⟨xs,u,e1,e2,e3⟩:=jy n a b hb h1
  rw [fU _ _ (by omega),ab,e1,ab]
  simp only
  rw [geE (by omega),ab,dP _ (by omega),ab]
  refine ⟨_,rfl,by simpa using e2,?_⟩
  rw [<- e3]
  conv=>lhs; rw [<- cb (l:=xs.set a.length u) (i:=a.length + 1) (by simp [e2])]
  exact ee u (by omega)
 unfold bs_p jn
 simp only
 by_cases h:a.length < b.length
 ·rw [if_pos h]
  obtain ⟨xs,e1,e2,e3⟩:=key b a (by omega) hn.2 hl.2
  exact ⟨xs,e1,by omega,by omega⟩
 ·rw [if_neg h]
  obtain ⟨xs,e1,e2,e3⟩:=key a b (by omega) hn.1 hl.1
  exact ⟨xs,e1,by omega,e3⟩
theorem iA (n:Nat) (a b:List Ua) (hb:b.length <= a.length) (hv:val b <= val a) (hn:a.length < n) (hl:a.length < 4294967296):∃ xs,bh_p n a b = some xs/\xs.length = a.length/\val xs = val a - val b:=by
 have h:=aN (B:=bh_l1 n a b) (fun s:Ua × Nat × List Ua=>a.length - s.2.1) (fun s=>s.2.1 <= a.length/\s.2.2.length = a.length/\s.1.toNat <= 1/\val (s.2.2.take s.2.1) + val (b.take s.2.1) = val (a.take s.2.1) + 18446744073709551616 ^ s.2.1 * s.1.toNat)
  (fun r:List Ua=>r.length = a.length/\val r = val a - val b) ?_ n (0,0,List.replicate a.length 0) ⟨by simp,by simp,by simp,by simp [val]⟩ (by simpa using hn)
 ·obtain ⟨xs,h1,h2,h3⟩:=h
  refine ⟨xs,?_,h2,h3⟩
  unfold bh_p
  rw [fU _ _ (by omega),ab,h1,ab]
 ·rintro ⟨u,i,xs⟩ J ⟨h1,h2,h3,h4⟩ hJ
  simp only at h1 h2 h3 h4 hJ
  unfold bh_l1
  simp only
  by_cases hi:i < a.length
  ·rw [if_pos hi,geE hi,ab]
   have key:∀ y:Ua,y = b[i]?.getD 0 -> ∃ r,((sub64 a[i] y u).bind fun z184=>(xs[i]?).bind fun x185=>(put xs ((i:Nat):Int) z184.1).bind fun xs198=>J (z184.2,i + 1,xs198)) = some r/\r.length = a.length/\val r = val a - val b:=by
    intro y hy
    obtain ⟨s,d,e1,e2,e3⟩:=bw a[i] y u h3
    rw [e1,ab,geE (by omega),ab,dP _ (by omega),ab]
    refine hJ (d,i + 1,xs.set i s) ⟨by show i + 1 <= _; omega,by simpa using h2,e3,?_⟩ (by simp only; omega)
    simp only
    rw [ee s (by omega),bN a hi,gB b i,<- hy,Nat.pow_succ]
    grind
   unfold jn
   simp only
   by_cases hj:i < b.length
   ·rw [if_pos hj,geE hj,ab]; exact key _ (by rw [geE hj]; rfl)
   ·rw [if_neg hj]; exact key _ (by rw [List.getElem?_eq_none (by omega)]; rfl)
  ·rw [if_neg hi]
   have:i = a.length:=by omega
   subst this
   rw [List.take_length,cb hb,cb (by omega)] at h4
   refine ⟨xs,I,h2,?_⟩
   have h5:=cC xs
   rw [h2] at h5
   by_cases hu:u.toNat = 0
   ·rw [hu] at h4; omega
   ·have:u.toNat = 1:=by omega
    rw [this] at h4; omega
theorem dC (a:List Ua) {i:Nat} (h:i < a.length):val a = val (a.take i) + 18446744073709551616 ^ i * a[i].toNat + 18446744073709551616 ^ (i + 1) * val (a.drop (i + 1)):=by
 conv=>lhs; rw [<- List.take_append_drop (i + 1) a,eb]
 rw [bN a h,List.length_take,Nat.min_eq_left (by omega)]
theorem kT {a b:List Ua} (hb:Nm b) (h:a.length < b.length):val a < val b:=by
 have h1:=cC a
 have h2:=gU hb (by intro e; rw [e] at h; simp at h)
 have h3:18446744073709551616 ^ a.length <= 18446744073709551616 ^ (b.length - 1):=Nat.pow_le_pow_right (by omega) (by omega)
 omega
theorem eU {a b:List Ua} {i:Nat} (ha:i < a.length) (hb:i < b.length) (hd:a.drop (i + 1) = b.drop (i + 1)) (h:a[i] < b[i]):val a < val b:=by
 rw [dC a ha,dC b hb,hd]
 have h1:=cC (a.take i)
 rw [List.length_take,Nat.min_eq_left (by omega)] at h1
 have h2:18446744073709551616 ^ i * (a[i].toNat + 1) <= 18446744073709551616 ^ i * b[i].toNat:=Nat.mul_le_mul_left _ (UInt64.lt_iff_toNat_lt.1 h)
 rw [Nat.mul_add] at h2
 omega
theorem eP (n:Nat) (a b:List Ua) (ha:Nm a) (hb:Nm b) (hn:a.length < n) (hl:a.length < 4294967296):∃ c,aX_p n a b = some c/\(c < 0 ↔ val a < val b)/\(c = 0 ↔ val a = val b):=by
 unfold aX_p
 by_cases h:a.length = b.length
 ·rw [if_pos h]
  have hh:=aN (B:=aX_l1 n a b) (fun z:Int=>(z + 1).toNat) (fun z=>-1 <= z/\z < a.length/\a.drop (z + 1).toNat = b.drop (z + 1).toNat)
   (fun r=>(r = .inl (-1)/\val a < val b) ∨ (r = .inl 1/\val b < val a) ∨ (r = .inr ()/\a = b)) ?_ n ((a.length:Int) - 1) ⟨by omega,by omega,?_⟩ (by omega)
  ·obtain ⟨r,hr,h1 | h1 | h1⟩:=hh
   ·rw [hr,h1.1]; exact ⟨_,rfl,by have:=h1.2; omega,by have:=h1.2; omega⟩
   ·rw [hr,h1.1]; exact ⟨_,rfl,by have:=h1.2; omega,by have:=h1.2; omega⟩
   ·rw [hr,h1.1,h1.2]; exact ⟨_,rfl,by omega,by omega⟩
  ·intro z J ⟨h1,h2,h3⟩ hJ
   unfold aX_l1
   simp only
   by_cases h0:0 <= z
   ·have e1:(z + 1).toNat = z.toNat + 1:=by omega
    rw [e1] at h3
    rw [if_pos h0,dj h0 (by omega),ab,dj h0 (by omega),ab]
    split
    ·rename_i hlt; exact ⟨_,I,.inl ⟨I,eU (by omega) (by omega) h3 hlt⟩⟩
    ·rename_i h4
     split
     ·rename_i hlt; exact ⟨_,I,.inr (.inl ⟨I,eU (by omega) (by omega) h3.symm hlt⟩)⟩
     ·rename_i h5
      have he:a[z.toNat]'(by omega) = b[z.toNat]'(by omega):=UInt64.toNat_inj.1 (by rw [UInt64.lt_iff_toNat_lt] at h4 h5; omega)
      rw [cm (by omega) (by omega),ab]
      refine hJ (z - 1) ⟨by omega,by omega,?_⟩ (by omega)
      rw [show (z - 1 + 1).toNat = z.toNat by omega,List.drop_eq_getElem_cons (by omega),List.drop_eq_getElem_cons (l:=b) (by omega),h3,he]
   ·rw [if_neg h0]
    have e1:(z + 1).toNat = 0:=by omega
    rw [e1] at h3
    exact ⟨_,rfl,.inr (.inr ⟨rfl,by simpa using h3⟩)⟩
  ·rw [show ((a.length:Int) - 1 + 1).toNat = a.length by omega,List.drop_length,h,List.drop_length]
 ·rw [if_neg h]
  refine ⟨_,I,?_⟩
  by_cases h1:a.length < b.length
  ·have:=kT hb h1; omega
  ·have:=kT (a:=b) ha (by omega); omega
theorem jc (a:Ua):(shrU a 32).toNat = a.toNat / 4294967296:=by
 unfold shrU; rw [if_pos (by decide),UInt64.toNat_ofNat']
 have:=a.toNat_lt
 omega
theorem lE (a:Ua):(a &&& (4294967295:Ua)).toNat = a.toNat % 4294967296:=by
 rw [UInt64.toNat_and]; exact Nat.and_two_pow_sub_one_eq_mod a.toNat 32
theorem kK (x1 x0 y1 y0:Nat) (h1:x1 < 4294967296) (h2:x0 < 4294967296) (h3:y1 < 4294967296) (h4:y0 < 4294967296) :
  ((x1 * y0 + x0 * y0 / 4294967296) < 18446744073709551616)/\((x1 * y0 + x0 * y0 / 4294967296) % 4294967296 + x0 * y1 < 18446744073709551616)/\
  x1 * y1 + (x1 * y0 + x0 * y0 / 4294967296) / 4294967296 + ((x1 * y0 + x0 * y0 / 4294967296) % 4294967296 + x0 * y1) / 4294967296 < 18446744073709551616/\
  (((x1 * 4294967296 + x0) * (y1 * 4294967296 + y0)) % 18446744073709551616) + 18446744073709551616 * (x1 * y1 + (x1 * y0 + x0 * y0 / 4294967296) / 4294967296 + ((x1 * y0 + x0 * y0 / 4294967296) % 4294967296 + x0 * y1) / 4294967296) = (x1 * 4294967296 + x0) * (y1 * 4294967296 + y0):=by
 have e:(x1 * 4294967296 + x0) * (y1 * 4294967296 + y0) = 18446744073709551616 * (x1 * y1) + 4294967296 * (x1 * y0 + x0 * y1) + x0 * y0:=by grind
 have b1:x1 * y1 <= 4294967295 * 4294967295:=Nat.mul_le_mul (by omega) (by omega)
 have b2:x1 * y0 <= 4294967295 * 4294967295:=Nat.mul_le_mul (by omega) (by omega)
 have b3:x0 * y1 <= 4294967295 * 4294967295:=Nat.mul_le_mul (by omega) (by omega)
 have b4:x0 * y0 <= 4294967295 * 4294967295:=Nat.mul_le_mul (by omega) (by omega)
 rw [e]
 generalize x1 * y1 = s at *
 generalize x1 * y0 = q at *
 generalize x0 * y1 = r at *
 generalize x0 * y0 = p at *
 clear e h1 h2 h3 h4
 refine ⟨by omega,by omega,by omega,by omega⟩
theorem lI (n:Nat) (x y:Ua):∃ hi lo,bJ_p n x y = some (hi,lo)/\lo.toNat + 18446744073709551616 * hi.toNat = x.toNat * y.toNat:=by
 refine ⟨_,_,I,?_⟩
 have hx:=x.toNat_lt
 have hy:=y.toNat_lt
 have ex:x.toNat = x.toNat / 4294967296 * 4294967296 + x.toNat % 4294967296:=by omega
 have ey:y.toNat = y.toNat / 4294967296 * 4294967296 + y.toNat % 4294967296:=by omega
 obtain ⟨h1,h2,h3,h4⟩:=kK (x.toNat / 4294967296) (x.toNat % 4294967296) (y.toNat / 4294967296) (y.toNat % 4294967296) (by omega) (by omega) (by omega) (by omega)
 rw [<- ex,<- ey] at h4
 have b1:x.toNat / 4294967296 * (y.toNat / 4294967296) < 18446744073709551616:=by omega
 have b2:x.toNat / 4294967296 * (y.toNat % 4294967296) < 18446744073709551616:=by omega
 have b3:x.toNat % 4294967296 * (y.toNat / 4294967296) < 18446744073709551616:=by omega
 have b4:x.toNat % 4294967296 * (y.toNat % 4294967296) < 18446744073709551616:=by
  have:x.toNat % 4294967296 * (y.toNat % 4294967296) <= 4294967295 * 4294967295:=Nat.mul_le_mul (by omega) (by omega)
  omega
 simp only [UInt64.toNat_add,UInt64.toNat_mul,jc,lE,show (2:Nat) ^ 64 = 18446744073709551616 from rfl]
 rw [Nat.mod_eq_of_lt b1,Nat.mod_eq_of_lt b2,Nat.mod_eq_of_lt b3,Nat.mod_eq_of_lt b4,Nat.mod_eq_of_lt h1,Nat.mod_eq_of_lt h2]
 rw [Nat.mod_eq_of_lt (a:=x.toNat / 4294967296 * (y.toNat / 4294967296) + _) (by omega),Nat.mod_eq_of_lt h3]
 exact h4
theorem mult_in (n:Nat) (b:List Ua) (x:Ua) (i:Nat) (xs0:List Ua) (hi:i + b.length < xs0.length) (hn:b.length < n) :
  ∃ xs u,az (aN_l1 n b x i) n (0,0,xs0) = some (xs,u)/\xs.length = xs0.length/\val (xs.take (i + b.length)) + 18446744073709551616 ^ (i + b.length) * u.toNat = val (xs0.take (i + b.length)) + x.toNat * val b * 18446744073709551616 ^ i:=by
 have h:=aN (B:=aN_l1 n b x i) (fun s:Ua × Nat × List Ua=>b.length - s.2.1) (fun s=>s.2.1 <= b.length/\s.2.2.length = xs0.length/\(∀ k,i + s.2.1 <= k -> s.2.2[k]? = xs0[k]?)/\val (s.2.2.take (i + s.2.1)) + 18446744073709551616 ^ (i + s.2.1) * s.1.toNat = val (xs0.take (i + s.2.1)) + x.toNat * val (b.take s.2.1) * 18446744073709551616 ^ i)
  (fun r:List Ua × Ua=>r.1.length = xs0.length/\val (r.1.take (i + b.length)) + 18446744073709551616 ^ (i + b.length) * r.2.toNat = val (xs0.take (i + b.length)) + x.toNat * val b * 18446744073709551616 ^ i) ?_ n (0,0,xs0) ⟨by simp,rfl,fun _ _=>rfl,by simp [val]⟩ (by simpa using hn)
 ·obtain ⟨⟨xs,u⟩,h1,h2,h3⟩:=h; exact ⟨xs,u,h1,h2,h3⟩
 ·rintro ⟨u,j,xs⟩ J ⟨h1,h2,h3,h4⟩ hJ
  simp only at h1 h2 h3 h4 hJ
  unfold aN_l1
  simp only
  by_cases hj:j < b.length
  ·obtain ⟨hi', lo,e1,e2⟩:=lI n x b[j]
   have hx0:xs[i + j]'(by omega) = xs0[i + j]'(by omega):=by
    have:=h3 (i + j) (by omega)
    rw [geE (by omega),geE (by omega)] at this
    exact Option.some.inj this
   rw [if_pos hj,geE hj,ab,e1,ab,geE (by omega),ab]
   obtain ⟨s,c,f1,f2,f3⟩:=fL (xs[i + j]'(by omega)) lo 0 (by simp)
   obtain ⟨s', c', g1,g2,g3⟩:=fL s u 0 (by simp)
   simp only [f1,ab,g1]
   rw [dP _ (by omega),ab]
   simp only [UInt64.toNat_zero,Nat.add_zero] at f2 g2
   have bx:x.toNat * b[j].toNat <= 18446744073709551615 * 18446744073709551615:=Nat.mul_le_mul (by have:=x.toNat_lt; omega) (by have:=b[j].toNat_lt; omega)
   have bo:=(xs[i + j]'(by omega)).toNat_lt
   have bu:=u.toNat_lt
   have e3:(hi' + c + c').toNat = hi'.toNat + c.toNat + c'.toNat:=by
    rw [UInt64.toNat_add,UInt64.toNat_add]; omega
   have e4:s'.toNat + 18446744073709551616 * (hi' + c + c').toNat = (xs[i + j]'(by omega)).toNat + x.toNat * b[j].toNat + u.toNat:=by rw [e3]; omega
   refine hJ (hi' + c + c', j + 1,xs.set (i + j) s') ⟨hj,by simpa using h2,fun k hk=>?_,?_⟩ (by simp only; omega)
   ·simp only at hk ⊢
    rw [List.getElem?_set_ne (by omega)]; exact h3 k (by omega)
   ·simp only
    rw [<- Nat.add_assoc,ee s' (by omega),bN xs0 (by omega),bN b hj,<- hx0,Nat.pow_succ]
    rw [Nat.pow_add] at h4 ⊢
    grind
  ·rw [if_neg hj]
   have:j = b.length:=by omega
   subst this
   refine ⟨_,I,h2,?_⟩
   simp only
   rw [h4,List.take_length]
theorem gi (n:Nat) (a b:List Ua) (hn:a.length < n/\b.length < n) (hl:a.length + b.length <= 4294967296):∃ xs,aN_p n a b = some xs/\xs.length = a.length + b.length/\val xs = val a * val b:=by
 have h:=aN (B:=aN_l2 n a b) (fun s:Nat × List Ua=>a.length - s.1) (fun s=>s.1 <= a.length/\s.2.length = a.length + b.length/\val (s.2.take (s.1 + b.length)) = val (a.take s.1) * val b)
  (fun r:List Ua=>r.length = a.length + b.length/\val r = val a * val b) ?_ n (0,List.replicate (a.length + b.length) 0) ⟨by simp,by simp,?_⟩ (by simpa using hn.1)
 ·obtain ⟨xs,h1,h2,h3⟩:=h
  refine ⟨xs,?_,h2,h3⟩
  unfold aN_p
  rw [fU _ _ hl,ab,h1,ab]
 ·rintro ⟨i,xs⟩ J ⟨h1,h2,h3⟩ hJ
  simp only at h1 h2 h3 hJ
  unfold aN_l2
  simp only
  by_cases hi:i < a.length
  ·obtain ⟨ys,u,e1,e2,e3⟩:=mult_in n b a[i] i xs (by omega) hn.2
   rw [if_pos hi,geE hi,ab,e1,ab]
   simp only
   rw [geE (by omega),ab,dP _ (by omega),ab]
   refine hJ (i + 1,ys.set (i + b.length) u) ⟨hi,by simp; omega,?_⟩ (by simp only; omega)
   simp only
   rw [show i + 1 + b.length = i + b.length + 1 by omega,ee u (by omega),bN a hi,e3,h3]
   grind
  ·rw [if_neg hi]
   have:i = a.length:=by omega
   subst this
   rw [List.take_length,cb (by omega)] at h3
   exact ⟨xs,I,h2,h3⟩
 ·simp only [List.take_zero,val,Nat.zero_mul]
  exact cd _ fun x hx=>(List.mem_replicate.1 (List.mem_of_mem_take hx)).2
def L (z:Int):Td:=⟨decide (z < 0),dg z.natAbs⟩
def Fit (l:Nat) (z:Int):Prop:=z.natAbs < 18446744073709551616 ^ l
theorem Fit.len {l:Nat} {z:Int} (h:Fit l z):(dg z.natAbs).length <= l:=fT h
def sg (s:Bool) (m:Nat):Int:=if s = true then -(m:Int) else m
theorem kk (s:Bool) (m:Nat):(⟨s && decide (0 < m),dg m⟩:Td) = L (sg s m):=by
 unfold L sg
 cases s
 ·simp
 ·simp
theorem sg_of (z:Int):z = sg (decide (z < 0)) z.natAbs:=by
 unfold sg; split <;> rename_i h <;> simp at h <;> omega
theorem gT (s:Bool) (m:Nat):(sg s m).natAbs = m:=by unfold sg; split <;> omega
theorem cG (n l:Nat) (z:Int) (h:Fit l z) (hn:l < n) (hl:l < 1000000):aS_p n (L z) = some (L (-z)):=by
 unfold aS_p
 have h1:=h.len
 rw [aJ n _ _ (by show (dg z.natAbs).length < n; omega) (by show (dg z.natAbs).length <= _; omega),ab]
 show some (⟨!decide (z < 0) && decide (0 < val (dg z.natAbs)),dg (val (dg z.natAbs))⟩:Td) = _
 rw [aI,kk]
 refine congrArg (fun x=>some (L x)) ?_
 unfold sg
 by_cases hz:z < 0 <;> simp [hz] <;> omega
theorem bv (n l m:Nat) (a b:Int) (ha:Fit l a) (hb:Fit m b) (hn:l + m < n) (hl:l + m < 1000000):aD_p n (L a) (L b) = some (L (a * b)):=by
 unfold aD_p
 have h1:=ha.len
 have h2:=hb.len
 obtain ⟨xs,e1,e2,e3⟩:=gi n (L a).fj (L b).fj ⟨by show (dg a.natAbs).length < n; omega,by show (dg b.natAbs).length < n; omega⟩ (by show (dg a.natAbs).length + (dg b.natAbs).length <= _; omega)
 have e4:xs.length = (dg a.natAbs).length + (dg b.natAbs).length:=e2
 rw [e1,ab,aJ n _ _ (by omega) (by omega),ab,e3]
 show some (⟨!(decide (a < 0) == decide (b < 0)) && decide (0 < val (dg a.natAbs) * val (dg b.natAbs)),dg (val (dg a.natAbs) * val (dg b.natAbs))⟩:Td) = _
 rw [aI,aI,kk]
 refine congrArg (fun x=>some (L x)) ?_
 conv=>rhs; rw [sg_of a,sg_of b]
 unfold sg
 by_cases h3:a < 0 <;> by_cases h4:b < 0 <;> simp [h3,h4,Int.neg_mul,Int.mul_neg,Int.neg_mul_neg]
theorem eX {a b:Nat} (h:a <= b):(dg a).length <= (dg b).length:=fT (Nat.lt_of_le_of_lt h (by have:=cC (dg b); rwa [aI] at this))
theorem jW (n l a b:Nat) (s:Bool) (h:a <= b) (hl:(dg b).length <= l) (hn:l < n) (hl2:l < 1000000):((bh_p n (dg b) (dg a)).bind fun y67=>(ay_p n s y67).bind fun y75=>some y75) = some (L (sg s (b - a))):=by
 obtain ⟨xs,e1,e2,e3⟩:=iA n (dg b) (dg a) (eX h) (by rw [aI,aI]; exact h) (by omega) (by omega)
 rw [e1,ab,aJ n _ _ (by omega) (by omega),ab,e3,aI,aI,kk]
theorem dx (n l:Nat) (a b:Int) (ha:Fit l a) (hb:Fit l b) (hn:l + 1 < n) (hl:l < 1000000):aV_p n (L a) (L b) = some (L (a + b)):=by
 unfold aV_p
 have h1:=ha.len
 have h2:=hb.len
 by_cases h:((L a).fc == (L b).fc) = true
 ·rw [if_pos h]
  obtain ⟨xs,e1,e2,e3⟩:=lC n (L a).fj (L b).fj ⟨by show (dg a.natAbs).length < n; omega,by show (dg b.natAbs).length < n; omega⟩ ⟨by show (dg a.natAbs).length < _; omega,by show (dg b.natAbs).length < _; omega⟩
  have e4:xs.length <= max (dg a.natAbs).length (dg b.natAbs).length + 1:=e2
  rw [e1,ab,aJ n _ _ (by omega) (by omega),ab,e3]
  show some (⟨decide (a < 0) && decide (0 < val (dg a.natAbs) + val (dg b.natAbs)),dg (val (dg a.natAbs) + val (dg b.natAbs))⟩:Td) = _
  rw [aI,aI,kk]
  refine congrArg (fun x=>some (L x)) ?_
  have h3:decide (a < 0) = decide (b < 0):=eq_of_beq h
  unfold sg
  by_cases h4:a < 0 <;> by_cases h5:b < 0 <;> simp [h4,h5] at h3 ⊢ <;> omega
 ·rw [if_neg h]
  obtain ⟨c,e1,e2,e3⟩:=eP n (L a).fj (L b).fj (gd _) (gd _) (by show (dg a.natAbs).length < n; omega) (by show (dg a.natAbs).length < _; omega)
  have h3:decide (a < 0) ≠ decide (b < 0):=fun e=>h (by rw [beq_iff_eq]; exact e)
  rw [e1,ab]
  unfold jn
  simp only
  have e4:c < 0 ↔ a.natAbs < b.natAbs:=by rw [e2]; show val (dg a.natAbs) < val (dg b.natAbs) ↔ _; rw [aI,aI]
  by_cases hc:c < 0
  ·rw [if_pos hc]
   show ((bh_p n (dg b.natAbs) (dg a.natAbs)).bind fun y67=>(ay_p n (decide (b < 0)) y67).bind fun y75=>some y75) = _
   rw [jW n l _ _ _ (by omega) h2 (by omega) hl]
   refine congrArg (fun x=>some (L x)) ?_
   unfold sg
   by_cases h4:a < 0 <;> by_cases h5:b < 0 <;> simp [h4,h5] at h3 ⊢ <;> omega
  ·rw [if_neg hc]
   show ((bh_p n (dg a.natAbs) (dg b.natAbs)).bind fun y67=>(ay_p n (decide (a < 0)) y67).bind fun y75=>some y75) = _
   rw [jW n l _ _ _ (by omega) h1 (by omega) hl]
   refine congrArg (fun x=>some (L x)) ?_
   unfold sg
   by_cases h4:a < 0 <;> by_cases h5:b < 0 <;> simp [h4,h5] at h3 ⊢ <;> omega
theorem Fit.neg {l:Nat} {z:Int} (h:Fit l z):Fit l (-z):=by unfold Fit at *; rwa [Int.natAbs_neg]
theorem iC (n l:Nat) (a b:Int) (ha:Fit l a) (hb:Fit l b) (hn:l + 1 < n) (hl:l < 1000000):bC_p n (L a) (L b) = some (L (a - b)):=by
 unfold bC_p
 rw [cG n l b hb (by omega) hl,ab,dx n l a (-b) ha hb.neg hn hl,ab,Int.sub_eq_add_neg]
theorem fo (n:Nat) (a:Int):aI_p n (L a) = some a.sign:=by
 unfold aI_p
 by_cases h:a < 0
 ·rw [if_pos (by simpa [L] using h),Int.sign_eq_neg_one_of_neg h]
 ·rw [if_neg (by simpa [L] using h)]
  by_cases h0:a = 0
  ·subst h0; rw [if_pos (by simp [L,dg0])]; rfl
  ·rw [if_neg,Int.sign_eq_one_of_pos (by omega)]
   show ¬ (dg a.natAbs).length = 0
   rw [gJ (by omega)]; simp
theorem ej:∀ {xs:List Ua} {j:Nat} (v:Ua) (h:j < xs.length),val (xs.set j v) + 18446744073709551616 ^ j * xs[j].toNat = val xs + 18446744073709551616 ^ j * v.toNat
 | x :: xs,0,v,_=>by simp only [List.set_cons_zero,val,List.getElem_cons_zero,Nat.pow_zero]; omega
 | x :: xs,j + 1,v,h=>by
  have:=ej (xs:=xs) (j:=j) v (by simpa using h)
  simp only [List.set_cons_succ,val,List.getElem_cons_succ,Nat.pow_succ]
  grind
theorem ju {a b:Ua} {s:Nat} (ha:a.toNat < 2 ^ s) (hb:2 ^ s ∣ b.toNat):(a ||| b).toNat = a.toNat + b.toNat:=by
 obtain ⟨y,e⟩:=hb
 rw [UInt64.toNat_or,e,Nat.or_comm,<- Nat.two_pow_add_eq_or_of_lt ha,Nat.add_comm]
theorem dI (w:Nat):18446744073709551616 ^ w = 2 ^ (64 * w):=by
 rw [show (18446744073709551616:Nat) = 2 ^ 64 from I,<- Nat.pow_mul]
theorem ea (x:Ua) {s:Nat} (hs:s < 64):(shlU x s).toNat = x.toNat * 2 ^ s % 18446744073709551616:=by
 unfold shlU; rw [if_pos hs,UInt64.toNat_ofNat']
theorem bV (x:Ua) {s:Nat} (hs:s < 64):(shrU x s).toNat = x.toNat / 2 ^ s:=by
 unfold shrU; rw [if_pos hs,UInt64.toNat_ofNat']
 exact Nat.mod_eq_of_lt (Nat.lt_of_le_of_lt (Nat.div_le_self _ _) x.toNat_lt)
theorem split64 {s:Nat} (hs:s <= 64):(18446744073709551616:Nat) = 2 ^ (64 - s) * 2 ^ s:=by
 rw [<- Nat.pow_add,show 64 - s + s = 64 by omega]
theorem gm (x:Ua) {s:Nat} (h0:0 < s) (hs:s < 64):(shlU x s).toNat + 18446744073709551616 * (shrU x (64 - s)).toNat = x.toNat * 2 ^ s/\2 ^ s ∣ (shlU x s).toNat/\(shrU x (64 - s)).toNat < 2 ^ s:=by
 have e:=split64 (s:=s) (by omega)
 have e1:x.toNat * 2 ^ s / 18446744073709551616 = x.toNat / 2 ^ (64 - s):=by
  rw [e]; exact Nat.mul_div_mul_right _ _ (Nat.two_pow_pos s)
 have e2:x.toNat * 2 ^ s % 18446744073709551616 = x.toNat % 2 ^ (64 - s) * 2 ^ s:=by
  rw [e]; exact Nat.mul_mod_mul_right ..
 rw [ea x hs,bV x (by omega)]
 refine ⟨?_,?_,?_⟩
 ·rw [<- e1]; exact Nat.mod_add_div ..
 ·rw [e2]; exact Nat.dvd_mul_left ..
 ·refine Nat.div_lt_of_lt_mul ?_
  rw [<- e]; exact x.toNat_lt
theorem dV (x:Ua):shlU x 0 = x:=by
 refine UInt64.toNat_inj.1 ?_
 rw [ea x (by decide),Nat.pow_zero,Nat.mul_one]
 exact Nat.mod_eq_of_lt x.toNat_lt
theorem er (x:Ua):(0:Ua) ||| x = x:=by
 refine UInt64.toNat_inj.1 ?_
 rw [UInt64.toNat_or]; simp
theorem bit_add {q:List Ua} {k:Nat} (h:k / 64 < q.length) (hd:2 ^ (k + 1) ∣ val q) (hb:(shlU 1 (k % 64)).toNat = 2 ^ (k % 64)):val (q.set (k / 64) (q[k / 64] ||| shlU 1 (k % 64))) = val q + 2 ^ k:=by
 have hs:=dC q h
 have hl:=cC (q.take (k / 64))
 rw [List.length_take,Nat.min_eq_left (by omega)] at hl
 have hk:k = 64 * (k / 64) + k % 64:=by omega
 have hm:k % 64 < 64:=by omega
 have e1:2 ^ (k + 1) = 18446744073709551616 ^ (k / 64) * 2 ^ (k % 64 + 1):=by rw [dI,<- Nat.pow_add]; congr 1; omega
 have e2:(18446744073709551616:Nat) = 2 ^ (k % 64 + 1) * 2 ^ (63 - k % 64):=by rw [<- Nat.pow_add,show k % 64 + 1 + (63 - k % 64) = 64 by omega]
 have h0:val (q.take (k / 64)) = 0:=by
  have h1:18446744073709551616 ^ (k / 64) ∣ val q:=Nat.dvd_trans ⟨_,e1⟩ hd
  rw [hs,Nat.pow_succ,Nat.mul_assoc,Nat.add_assoc,<- Nat.mul_add] at h1
  have h2:=(Nat.dvd_add_left (Nat.dvd_mul_right ..)).1 h1
  exact Nat.eq_zero_of_dvd_of_lt h2 hl
 have h3:2 ^ (k % 64 + 1) ∣ (q[k / 64]).toNat:=by
  rw [e1,hs,h0,Nat.zero_add,show (18446744073709551616:Nat) ^ (k / 64 + 1) = 18446744073709551616 ^ (k / 64) * 18446744073709551616 from Nat.pow_succ ..,Nat.mul_assoc (18446744073709551616 ^ (k / 64)) 18446744073709551616,<- Nat.mul_add] at hd
  have h4:=Nat.dvd_of_mul_dvd_mul_left (Nat.pow_pos (by decide)) hd
  have h5:2 ^ (k % 64 + 1) ∣ 18446744073709551616 * val (q.drop (k / 64 + 1)):=Nat.dvd_trans ⟨_,e2⟩ (Nat.dvd_mul_right ..)
  exact (Nat.dvd_add_left h5).1 h4
 have h6:(q[k / 64] ||| shlU 1 (k % 64)).toNat = 2 ^ (k % 64) + (q[k / 64]).toNat:=by
  rw [UInt64.or_comm]
  have:=ju (a:=shlU 1 (k % 64)) (b:=q[k / 64]) (s:=k % 64 + 1) (by rw [hb]; exact Nat.pow_lt_pow_right (by decide) (by omega)) h3
  rw [this,hb]
 have h7:=ej (q[k / 64] ||| shlU 1 (k % 64)) h
 have e3:2 ^ k = 18446744073709551616 ^ (k / 64) * 2 ^ (k % 64):=by rw [dI,<- Nat.pow_add]; congr 1
 rw [h6,Nat.mul_add,<- e3] at h7
 omega
theorem shl_one {s:Nat} (hs:s < 64):(shlU 1 s).toNat = 2 ^ s:=by
 rw [ea 1 hs]
 have:2 ^ s < 2 ^ 64:=Nat.pow_lt_pow_right (by decide) hs
 simp only [UInt64.toNat_one,Nat.one_mul]
 exact Nat.mod_eq_of_lt (by omega)
theorem lS {a b q r k:Nat} (h1:a = b * q + r) (h2:r < b * 2 ^ (k + 1)) (h3:2 ^ (k + 1) ∣ q) :
  (b * 2 ^ k <= r -> a = b * (q + 2 ^ k) + (r - b * 2 ^ k)/\r - b * 2 ^ k < b * 2 ^ k/\2 ^ k ∣ q + 2 ^ k)/\(r < b * 2 ^ k -> 2 ^ k ∣ q):=by
 have h4:2 ^ k ∣ q:=Nat.dvd_trans ⟨2,by rw [Nat.pow_succ]⟩ h3
 rw [Nat.pow_succ,<- Nat.mul_assoc] at h2
 refine ⟨fun h=>⟨?_,by omega,Nat.dvd_add h4 (Nat.dvd_refl _)⟩,fun _=>h4⟩
 rw [Nat.mul_add]; omega
def eu (x y:Nat):Nat:=if y = 0 then 0 else (if x < y then 1 else 0) + Nat.log2 (x * y) + 1
theorem eu_step {x y:Nat} (h:y ≠ 0):eu y (x % y) < eu x y:=by
 have hm:x % y < y:=Nat.mod_lt _ (by omega)
 unfold eu
 rw [if_neg h]
 by_cases h0:x % y = 0
 ·rw [if_pos h0]; omega
 ·rw [if_neg h0,if_neg (show ¬ y < x % y by omega)]
  by_cases h1:x < y
  ·rw [if_pos h1,Nat.mod_eq_of_lt h1,Nat.mul_comm y x]; omega
  ·rw [if_neg h1]
   have h2:2 * (x % y) < x ∨ 2 * (x % y) = x:=by
    have h3:=Nat.div_add_mod x y
    have h4:1 <= x / y:=Nat.div_pos (by omega) (by omega)
    have h5:y * 1 <= y * (x / y):=Nat.mul_le_mul_left _ h4
    omega
   have h6:2 * (y * (x % y)) <= x * y:=by
    rw [Nat.mul_comm x y,Nat.mul_left_comm]
    exact Nat.mul_le_mul_left _ (by omega)
   have h7:y * (x % y) ≠ 0:=Nat.mul_ne_zero h h0
   have h8:Nat.log2 (y * (x % y)) + 1 <= Nat.log2 (x * y):=by
    rw [Nat.le_log2 (by omega),Nat.pow_succ]
    have:=Nat.log2_self_le h7
    omega
   omega
theorem eu_le {x y l:Nat} (hx:x < 2 ^ l) (hy:y < 2 ^ l):eu x y <= 2 * l + 2:=by
 unfold eu
 split
 ·omega
 ·rename_i h
  have h1:Nat.log2 (x * y) <= 2 * l:=by
   by_cases h0:x * y = 0
   ·rw [h0]; simp
   ·have:Nat.log2 (x * y) < 2 * l:=by
     rw [Nat.log2_lt h0,Nat.two_mul,Nat.pow_add]
     exact Nat.mul_lt_mul'' hx hy
    omega
  split <;> omega
theorem dg1 {m:Nat} (h0:m ≠ 0) (h:m < 18446744073709551616):dg m = [UInt64.ofNat m]:=by
 rw [gJ h0,show m / 18446744073709551616 = 0 by omega,dg0]
theorem iZ {m:Nat} (h0:m ≠ 0) (h:m < 18446744073709551616):UInt64.ofNat m ≠ 0:=fun e=>by
 have:=congrArg UInt64.toNat e
 rw [UInt64.toNat_ofNat'] at this
 simp at this; omega
theorem cj {m:Nat} (h:m < 18446744073709551616):(UInt64.ofNat m).toNat = m:=by rw [UInt64.toNat_ofNat']; exact Nat.mod_eq_of_lt h
theorem lB (n:Nat) (x y:Ua) (h:y ≠ 0):aH_p n 0 x y = some (x / y,x % y):=by
 unfold aH_p
 have h1:¬ y <= 0:=fun h1=>h (UInt64.toNat_inj.1 (by rw [UInt64.le_iff_toNat_le] at h1; simpa using h1))
 rw [if_neg h,if_neg h1,if_pos I]
 unfold ik kL
 rw [if_neg h,ab,if_neg h,ab]
theorem fY (n a b:Nat) (ha:a < 18446744073709551616) (hb:b < 18446744073709551616) (h0:b ≠ 0) (hn:4 < n):∃ q,aJ_p n (dg a) (dg b) = some (q,dg (a % b))/\q.length <= 1/\val q = a / b:=by
 obtain ⟨k,rfl⟩:∃ k,n = k + 3:=⟨n - 3,by omega⟩
 rw [dg1 h0 hb]
 unfold aJ_p
 by_cases h:a = 0
 ·subst h
  refine ⟨[],?_,by simp,by simp [val]⟩
  rw [dg0,Nat.zero_mod,dg0]
  rw [fU _ _ (by simp),ab,if_pos (show [UInt64.ofNat b].length = 1 from rfl),aU]
  unfold aJ_l1
  simp only
  rw [if_neg (by decide),ab]
  simp only
  rw [aJ _ _ _ (by simp) (by simp),ab]
  simp [val,dg0]
 ·have hm:a % b < 18446744073709551616:=Nat.lt_of_le_of_lt (Nat.mod_le _ _) ha
  have e2:(UInt64.ofNat a % UInt64.ofNat b).toNat = a % b:=by rw [UInt64.toNat_mod,cj ha,cj hb]
  refine ⟨[UInt64.ofNat a / UInt64.ofNat b],?_,by simp,?_⟩
  ·rw [dg1 h ha,fU _ _ (by simp),ab,if_pos (show [UInt64.ofNat b].length = 1 from rfl),aU]
   unfold aJ_l1
   simp only
   rw [if_pos (show (0:Int) <= ((([UInt64.ofNat a]:List Ua).length:Nat):Int) - 1 by simp),dj (by simp) (by simp),ab]
   simp only [leC,leN,List.getElem?_cons_zero,ab]
   show ((aH_p (k + 3) 0 (UInt64.ofNat a) (UInt64.ofNat b)).bind _).bind _ = _
   rw [lB _ _ _ (iZ h0 hb),ab]
   show (((some (0:Ua)).bind _)).bind _ = _
   rw [ab]
   show ((put [(0:Ua)] ((0:Nat):Int) _).bind _).bind _ = _
   rw [dP _ (by decide),ab]
   show (((some (-1:Int)).bind _)).bind _ = _
   rw [ab,aU]
   simp only
   rw [if_neg (by decide),ab]
   simp only
   rw [aJ _ _ _ (by simp) (by simp),ab]
   simp [val,e2]
  ·simp only [val]
   rw [UInt64.toNat_div,cj ha,cj hb]; simp
theorem dD {a b q r:Int} (h:a = b * q + r) (h0:0 <= r) (h1:r < b.natAbs):a / b = q/\a % b = r:=by
 by_cases hb:0 < b
 ·exact (Int.ediv_emod_unique hb).2 ⟨by rw [h]; omega,h0,by omega⟩
 ·have hb2:0 < -b:=by omega
  have h3:a = (-b) * (-q) + r:=by rw [h,Int.neg_mul_neg]
  obtain ⟨e1,e2⟩:=(Int.ediv_emod_unique (a:=a) (r:=r) (q:=-q) hb2).2 ⟨by rw [h3]; omega,h0,by omega⟩
  rw [Int.ediv_neg] at e1
  rw [Int.emod_neg] at e2
  exact ⟨by omega,e2⟩
def W1 (z:Int):Prop:=z.natAbs < 18446744073709551616
theorem iK (n:Nat) (a b:Int) (ha:W1 a) (hb:W1 b) (h0:b ≠ 0) (hn:10 < n):bb_p n (L a) (L b) = some (L (a / b),L (a % b)):=by
 obtain ⟨q,e1,e2,e3⟩:=fY n a.natAbs b.natAbs ha hb (by omega) (by omega)
 have hm:a.natAbs % b.natAbs < b.natAbs:=Nat.mod_lt _ (by omega)
 have hl:(dg (a.natAbs % b.natAbs)).length <= 1:=fT (by rw [Nat.pow_one]; unfold W1 at hb; omega)
 have hdm:=Nat.div_add_mod a.natAbs b.natAbs
 have hq:a.natAbs / b.natAbs <= a.natAbs:=Nat.div_le_self _ _
 unfold bb_p
 rw [show (L a).fj = dg a.natAbs from I,show (L b).fj = dg b.natAbs from I,e1,ab]
 simp only
 rw [aJ n _ _ (by omega) (by omega),ab,aJ n _ _ (by omega) (by omega),ab,e3,aI]
 generalize hx:a.natAbs / b.natAbs = x at *
 generalize hy:a.natAbs % b.natAbs = y at *
 simp only [kk]
 show (if (decide (a < 0) && decide (0 < y)) = true then _ else _) = _
 unfold W1 at ha hb
 have hab:(b.natAbs:Int) * x + y = a.natAbs:=by exact_mod_cast hdm
 by_cases hr:a < 0/\0 < y
 ·obtain ⟨h1,h2⟩:=hr
  rw [if_pos (by simp [h1,h2])]
  have f1:(⟨false,dg b.natAbs⟩:Td) = L b.natAbs:=by unfold L; simp
  have f2:(⟨!(L b).fc,([(1:Ua)]:List Ua)⟩:Td) = L (if b < 0 then 1 else -1):=by
   unfold L
   by_cases hb0:b < 0 <;> simp [hb0] <;> rw [dg1 (by decide) (by decide)] <;> rfl
  rw [f1,f2,dx n 1 _ _ ?_ ?_ (by omega) (by omega),ab,dx n 1 _ _ ?_ ?_ (by omega) (by omega),ab]
  ·have e:sg (!(decide (a < 0) == decide (b < 0))) x + (if b < 0 then 1 else -1) = a / b/\sg (decide (a < 0)) y + b.natAbs = a % b:=by
    have:=dD (a:=a) (b:=b) (q:=sg (!(decide (a < 0) == decide (b < 0))) x + (if b < 0 then 1 else -1)) (r:=sg (decide (a < 0)) y + b.natAbs) ?_ ?_ ?_
    ·exact ⟨this.1.symm,this.2.symm⟩
    ·unfold sg
     by_cases hb0:b < 0
     ·have:(b.natAbs:Int) = -b:=by omega
      rw [this] at hab ⊢
      have h3:(a.natAbs:Int) = -a:=by omega
      simp [h1,hb0]
      rw [Int.mul_add]; grind
     ·have:(b.natAbs:Int) = b:=by omega
      rw [this] at hab ⊢
      have h3:(a.natAbs:Int) = -a:=by omega
      simp [h1,hb0]
      rw [Int.mul_add]; grind
    ·unfold sg; simp [h1]; omega
    ·unfold sg; simp [h1]; omega
   show some (L (sg (!(decide (a < 0) == decide (b < 0))) x + (if b < 0 then 1 else -1)),L (sg (decide (a < 0)) y + b.natAbs)) = _
   rw [e.1,e.2]
  ·unfold Fit; rw [Nat.pow_one,gT]; omega
  ·unfold Fit; rw [Nat.pow_one]; split <;> decide
  ·unfold Fit; rw [Nat.pow_one,gT]; omega
  ·unfold Fit; rw [Nat.pow_one]; omega
 ·rw [if_neg (by simpa using hr)]
  have e:=dD (a:=a) (b:=b) (q:=sg (!(decide (a < 0) == decide (b < 0))) x) (r:=sg (decide (a < 0)) y) ?_ ?_ ?_
  ·rw [e.1,e.2]; rfl
  ·unfold sg
   by_cases h1:a < 0
   ·have hy0:y = 0:=by omega
    have h3:(a.natAbs:Int) = -a:=by omega
    by_cases hb0:b < 0
    ·have:(b.natAbs:Int) = -b:=by omega
     rw [this] at hab; simp [h1,hb0,hy0] at hab ⊢; grind
    ·have:(b.natAbs:Int) = b:=by omega
     rw [this] at hab; simp [h1,hb0,hy0] at hab ⊢; grind
   ·have h3:(a.natAbs:Int) = a:=by omega
    by_cases hb0:b < 0
    ·have:(b.natAbs:Int) = -b:=by omega
     rw [this] at hab; simp [h1,hb0] at hab ⊢; grind
    ·have:(b.natAbs:Int) = b:=by omega
     rw [this] at hab; simp [h1,hb0] at hab ⊢; grind
  ·unfold sg
   by_cases h1:a < 0
   ·have hy0:y = 0:=by omega
    simp [hy0]
   ·simp [h1]
  ·unfold sg
   by_cases h1:a < 0
   ·have hy0:y = 0:=by omega
    simp [hy0]; omega
   ·simp [h1]; omega
theorem kD (n:Nat) (a b:Int) (ha:W1 a) (hb:W1 b) (hn:18446744073709551616 < n):aF_p n (L a) (L b) = some (L (Nat.gcd a.natAbs b.natAbs:Nat)):=by
 have h:=aN (B:=aF_l1 n) (fun s:List Ua × List Ua=>val s.2) (fun s=>∃ x y,s = (dg x,dg y)/\x < 18446744073709551616/\y < 18446744073709551616/\Nat.gcd x y = Nat.gcd a.natAbs b.natAbs)
  (fun r=>r = dg (Nat.gcd a.natAbs b.natAbs)) ?_ n (dg a.natAbs,dg b.natAbs) ⟨_,_,rfl,ha,hb,rfl⟩ (by simp only [aI]; unfold W1 at hb; omega)
 ·obtain ⟨r,h1,rfl⟩:=h
  unfold aF_p
  rw [show (L a).fj = dg a.natAbs from I,show (L b).fj = dg b.natAbs from I,h1,ab]
  unfold L
  simp
 ·rintro _ J ⟨x,y,rfl,h1,h2,h3⟩ hJ
  unfold aF_l1
  simp only
  by_cases h0:y = 0
  ·subst h0
   rw [if_neg (by rw [dg0]; simp)]
   exact ⟨_,rfl,by rw [<- h3,Nat.gcd_zero_right]⟩
  ·obtain ⟨q,e1,_,_⟩:=fY n x y h1 h2 h0 (by omega)
   have hm:x % y < y:=Nat.mod_lt _ (by omega)
   rw [if_pos (by rw [dg1 h0 h2]; simp),e1,ab]
   simp only
   refine hJ (dg y,dg (x % y)) ⟨_,_,rfl,h2,by omega,?_⟩ (by simp only [aI]; exact hm)
   rw [<- h3,Nat.gcd_comm x y,Nat.gcd_rec y x,Nat.gcd_comm]
def W8 (z:Int):Ua × Ua × Ua × Ua × Ua × Ua × Ua × Ua:=
 if z < 0 then (ai z,18446744073709551615,18446744073709551615,18446744073709551615,18446744073709551615,18446744073709551615,18446744073709551615,18446744073709551615) else (ai z,0,0,0,0,0,0,0)
def Sm (z:Int):Prop:=z.natAbs < 9223372036854775808
theorem Sm.w {z:Int} (h:Sm z):W1 z:=by unfold Sm W1 at *; omega
theorem eV {z:Int} (h:Sm z) (h0:z < 0):(ai z).toNat = 18446744073709551616 - z.natAbs:=by
 unfold ai Sm at *; rw [UInt64.toNat_ofNat']; omega
theorem fp {z:Int} (h:Sm z) (h0:¬ z < 0):ai z = UInt64.ofNat z.natAbs:=by
 unfold ai Sm at *; congr 1; omega
theorem lH (n:Nat) (z:Int) (hn:10 < n):bD_p n z = some (W8 z):=by
 obtain ⟨k,rfl⟩:∃ k,n = k + 9:=⟨n - 9,by omega⟩
 unfold bD_p W8
 by_cases h:z < 0
 ·rw [if_pos h,if_pos h]
  simp [aU,bD_l1,bA]
 ·rw [if_neg h,if_neg h]
theorem sub_m1:sub64 0 18446744073709551615 1 = some (0,1):=rfl
theorem sub_01:sub64 0 0 1 = some (18446744073709551615,1):=rfl
theorem read_ok (n:Nat) (z:Int) (h:Sm z):bP_p n (W8 z) = some ⟨decide (z < 0),(UInt64.ofNat z.natAbs,0,0,0,0,0,0,0)⟩:=by
 unfold bP_p W8
 by_cases h0:z < 0
 ·rw [if_pos h0]
  have e:sub64 0 (ai z) 0 = some (UInt64.ofNat z.natAbs,1):=by
   unfold sub64
   rw [if_pos (by decide),eV h h0]
   unfold Sm at h
   rw [if_pos (by simp; omega)]
   congr 2
   simp; congr 1; omega
  rw [if_pos (show shrU 18446744073709551615 63 = 1 from I)]
  unfold aT_p
  simp only [e,ab,sub_m1]
  simp [h0]; rfl
 ·rw [if_neg h0]
  rw [if_neg (show ¬ shrU 0 63 = 1 from by decide),fp h h0]
  simp [h0]; decide
theorem eF (n:Nat) (z:Int) (h:Sm z) (hn:10 < n):aY_p n (W8 z) = some (L z):=by
 unfold aY_p
 rw [read_ok n z h,ab]
 simp only
 rw [show app ([]:List Ua) [UInt64.ofNat z.natAbs,0,0,0,0,0,0,0] = some [UInt64.ofNat z.natAbs,0,0,0,0,0,0,0] from rfl,ab,aJ n _ _ (by simpa using by omega) (by simp),ab]
 have e:val [UInt64.ofNat z.natAbs,0,0,0,0,0,0,0] = z.natAbs:=by
  have:=h.w; unfold W1 at this
  simp only [val,cj this]; simp
 rw [e]
 unfold L
 by_cases h0:z < 0
 ·simp [h0]; omega
 ·simp [h0]
theorem gN (n:Nat) (z:Int) (h:Sm z) (hn:10 < n):bM_p n z = some (L z):=by
 unfold bM_p; rw [lH n z hn,ab,eF n z h hn,ab]
theorem lY {m:Nat} (h:m < 18446744073709551616):aO (dg m) 0 0 = UInt64.ofNat m:=by
 by_cases h0:m = 0
 ·subst h0; rw [dg0]; rfl
 ·rw [dg1 h0 h]; rfl
theorem bZ {m:Nat} (j:Nat) (h:m < 18446744073709551616):aO (dg m) (j + 1) 0 = 0:=by
 by_cases h0:m = 0
 ·subst h0; rw [dg0]; rfl
 ·rw [dg1 h0 h]; rfl
theorem jR (n:Nat) (z:Int) (h:Sm z) (hn:10 < n):bg_p n (L z) = some (W8 z,0):=by
 have hw:=h.w
 unfold W1 at hw
 have hl:¬ 8 < (L z).fj.length:=by
  have:(dg z.natAbs).length <= 1:=fT (by rw [Nat.pow_one]; exact hw)
  show ¬ 8 < (dg z.natAbs).length
  omega
 unfold bg_p
 rw [if_neg hl,show (L z).fj = dg z.natAbs from I,lY hw,bZ 0 hw,bZ 1 hw,bZ 2 hw,bZ 3 hw,bZ 4 hw,bZ 5 hw,bZ 6 hw]
 unfold bq_p
 have ho:∀ x:Ua,aO_p n (x,0,0,0,0,0,0,0) (0,0,0,0,0,0,0,9223372036854775808) = some (-1):=fun x=>by
  obtain ⟨k,rfl⟩:∃ k,n = k + 1:=⟨n - 1,by omega⟩
  unfold aO_p
  rw [aU]
  rfl
 rw [ho,ab,if_neg (by decide),if_neg (by decide)]
 unfold W8
 by_cases h0:z < 0
 ·have e:sub64 0 (UInt64.ofNat z.natAbs) 0 = some (ai z,1):=by
   unfold sub64
   rw [if_pos (by decide),cj hw]
   rw [if_pos (by simp; omega)]
   congr 2
   refine UInt64.toNat_inj.1 ?_
   rw [eV h h0,UInt64.toNat_ofNat']
   unfold Sm at h
   simp; omega
  rw [if_pos h0,if_pos (by simpa [L] using h0)]
  unfold aT_p
  simp only [e,ab,sub_01]
 ·rw [if_neg h0,if_neg (by simpa [L] using h0),ab,fp h h0]
def Rt (q:Rat):Tc:=⟨L q.num,L q.den⟩
def Sh (q:Rat):Ta:=⟨W8 q.num,W8 q.den⟩
theorem ie {x y:Int} (hy:0 < y) (hc:x.natAbs.Coprime y.natAbs):(Rat.divInt x y).num = x/\((Rat.divInt x y).den:Int) = y:=by
 have e:Rat.divInt x y = { num:=x,den:=y.natAbs,den_nz:=by omega,reduced:=hc }:=by
  rw [Rat.mk_eq_divInt]; congr 1; omega
 rw [e]; exact ⟨rfl,by simp only; omega⟩
theorem kl (n:Nat) (a b:Int) (ha:W1 a) (hb:W1 b) (h0:b ≠ 0) (hn:18446744073709551616 < n) :
  aZ_p n (L a) (L b) = some (Rt (Rat.divInt a b))/\(Rat.divInt a b).num.natAbs <= a.natAbs/\(Rat.divInt a b).den <= b.natAbs:=by
 have hg:0 < Nat.gcd a.natAbs b.natAbs:=Nat.gcd_pos_of_pos_right _ (by omega)
 have hgb:Nat.gcd a.natAbs b.natAbs <= b.natAbs:=Nat.gcd_le_right _ (by omega)
 have hgw:W1 ((Nat.gcd a.natAbs b.natAbs:Nat):Int):=by unfold W1 at *; omega
 obtain ⟨x,hx⟩:((Nat.gcd a.natAbs b.natAbs:Nat):Int) ∣ a:=Int.ofNat_dvd_left.2 (Nat.gcd_dvd_left _ _)
 obtain ⟨y,hy⟩:((Nat.gcd a.natAbs b.natAbs:Nat):Int) ∣ b:=Int.ofNat_dvd_left.2 (Nat.gcd_dvd_right _ _)
 have hco:=Nat.coprime_div_gcd_div_gcd hg
 generalize Nat.gcd a.natAbs b.natAbs = g at *
 have hg0:(g:Int) ≠ 0:=by omega
 have e1:a / (g:Int) = x:=by rw [hx]; exact Int.mul_ediv_cancel_left _ hg0
 have e2:b / (g:Int) = y:=by rw [hy]; exact Int.mul_ediv_cancel_left _ hg0
 have e3:a.natAbs = g * x.natAbs:=by rw [hx,Int.natAbs_mul]; rfl
 have e4:b.natAbs = g * y.natAbs:=by rw [hy,Int.natAbs_mul]; rfl
 have hc:x.natAbs.Coprime y.natAbs:=by
  rw [e3,e4,Nat.mul_div_cancel_left _ hg,Nat.mul_div_cancel_left _ hg] at hco; exact hco
 have hxl:x.natAbs <= a.natAbs:=by rw [e3]; exact Nat.le_mul_of_pos_left _ hg
 have hyl:y.natAbs <= b.natAbs:=by rw [e4]; exact Nat.le_mul_of_pos_left _ hg
 have hy0:y ≠ 0:=fun e=>h0 (by rw [hy,e,Int.mul_zero])
 have eq:Rat.divInt a b = Rat.divInt x y:=by
  conv=>lhs; rw [hx,hy]
  exact Rat.divInt_mul_left hg0
 have xw:Fit 1 x:=by unfold Fit; unfold W1 at ha; rw [Nat.pow_one]; omega
 have yw:Fit 1 y:=by unfold Fit; unfold W1 at hb; rw [Nat.pow_one]; omega
 have gc:aF_p n (L a) (L b) = some (L g):=by
  have:=kD n a b ha hb hn
  rw [this]
  have h5:Nat.gcd a.natAbs b.natAbs = g:=by
   rw [e3,e4,Nat.gcd_mul_left,show Nat.gcd x.natAbs y.natAbs = 1 from hc,Nat.mul_one]
  rw [h5]
 unfold aZ_p
 rw [gc,ab,iK n a g ha hgw hg0 (by omega),ab,iK n b g hb hgw hg0 (by omega),ab,e1,e2]
 simp only
 rw [eq]
 by_cases hs:y < 0
 ·rw [if_pos (by simpa [L] using hs),cG n 1 x xw (by omega) (by omega),ab,cG n 1 y yw (by omega) (by omega),ab]
  have h5:=ie (x:=-x) (y:=-y) (by omega) (by rwa [Int.natAbs_neg,Int.natAbs_neg])
  rw [Rat.neg_divInt_neg] at h5
  unfold Rt
  rw [h5.1,h5.2]
  exact ⟨rfl,by rw [Int.natAbs_neg]; exact hxl,by have:=h5.2; omega⟩
 ·rw [if_neg (by simpa [L] using hs)]
  have h5:=ie (x:=x) (y:=y) (by omega) hc
  unfold Rt
  rw [h5.1,h5.2]
  exact ⟨I,hxl,by have:=h5.2; omega⟩
theorem W8_ne {z:Int} (h:Sm z) (h0:z ≠ 0):W8 z ≠ (0,0,0,0,0,0,0,0):=fun e=>by
 have e1:ai z = 0:=by
  have:=congrArg Prod.fst e
  unfold W8 at this
  split at this <;> exact this
 by_cases hz:z < 0
 ·have:=eV h hz
  rw [e1] at this; unfold Sm at h; simp at this; omega
 ·rw [fp h hz] at e1
  exact iZ (by omega) h.w e1
theorem kY (n:Nat) (q:Rat) (h1:Sm q.num) (h2:Sm (q.den:Int)) (hn:10 < n):ak_p n (Rt q) = some (Sh q,0):=by
 unfold ak_p
 rw [show (Rt q).fh = L q.num from I,show (Rt q).fe = L q.den from I,jR n _ h1 hn,ab,jR n _ h2 hn,ab]
 rfl
theorem iw (n:Nat) (a b:Int) (ha:Sm a) (hb:Sm b) (h0:b ≠ 0) (hn:18446744073709551616 < n):bO_p n a b = some (Sh (Rat.divInt a b),0):=by
 obtain ⟨e1,e2,e3⟩:=kl n a b ha.w hb.w h0 hn
 unfold bO_p
 rw [lH n a (by omega),ab,lH n b (by omega),ab]
 unfold bS_p
 rw [if_neg (W8_ne hb h0),eF n a ha (by omega),ab,eF n b hb (by omega),ab,e1,ab,kY n _ (by unfold Sm at *; omega) (by unfold Sm at *; omega) (by omega)]
 rfl
theorem remI_ok {x y:Int} (h:y ≠ 0):ij x y = some (x.tmod y):=if_neg h
theorem appS {α:Type} (xs ys:List α) (h:xs.length + ys.length <= 1000000):app xs ys = some (xs ++ ys):=if_pos (Nat.le_trans h (by decide))
def bln (m:Nat):Nat:=if m = 0 then 0 else Nat.log2 m + 1
theorem gQ (m:Nat):m < 2 ^ bln m:=by
 unfold bln
 split
 ·rename_i h; rw [h]; decide
 ·rename_i h; exact Nat.lt_log2_self
theorem fX {m:Nat} (h:m ≠ 0):2 ^ (bln m - 1) <= m:=by
 unfold bln
 rw [if_neg h]
 exact Nat.log2_self_le h
theorem ep {m:Nat} (h:m ≠ 0):1 <= bln m:=by unfold bln; rw [if_neg h]; omega
theorem lx {m l:Nat} (h1:2 ^ l <= m) (h2:m < 2 ^ (l + 1)):bln m = l + 1:=by
 have h0:m ≠ 0:=fun e=>by have:=Nat.two_pow_pos l; omega
 have h3:=gQ m
 have h4:=fX h0
 have h5:=ep h0
 have h6:=(Nat.pow_lt_pow_iff_right (by decide:1 < 2)).1 (Nat.lt_of_le_of_lt h1 h3)
 have h7:=(Nat.pow_lt_pow_iff_right (by decide:1 < 2)).1 (Nat.lt_of_le_of_lt h4 h2)
 omega
theorem dE {m s:Nat} (h:2 ^ s <= m):bln m = s + bln (m / 2 ^ s):=by
 have hp:=Nat.two_pow_pos s
 have h0:m / 2 ^ s ≠ 0:=fun e=>by have:=Nat.div_pos h hp; omega
 have h1:=gQ (m / 2 ^ s)
 have h2:=fX h0
 have h3:=ep h0
 have e1:2 ^ (s + (bln (m / 2 ^ s) - 1)) <= m:=by
  rw [Nat.pow_add,Nat.mul_comm]
  exact (Nat.le_div_iff_mul_le hp).1 h2
 have e2:m < 2 ^ (s + bln (m / 2 ^ s)):=by
  rw [Nat.pow_add,Nat.mul_comm]
  exact (Nat.div_lt_iff_lt_mul hp).1 h1
 have:=lx (l:=s + (bln (m / 2 ^ s) - 1)) e1 (by rw [show s + (bln (m / 2 ^ s) - 1) + 1 = s + bln (m / 2 ^ s) by omega]; exact e2)
 omega
theorem cL {m l:Nat} (h:m < 2 ^ l):bln m <= l:=by
 by_cases h0:m = 0
 ·subst h0; simp [bln]
 ·have h4:=fX h0
  have h7:=(Nat.pow_lt_pow_iff_right (by decide:1 < 2)).1 (Nat.lt_of_le_of_lt h4 h)
  have:=ep h0
  omega
theorem tab_all:(List.range 256).all (fun v=>decide (dn[v]? = some (UInt8.ofNat (bln v)))) = true:=by kernel_rfl
theorem tab_ok {v:Nat} (h:v < 256):dn[v]? = some (UInt8.ofNat (bln v)):=of_decide_eq_true (List.all_eq_true.1 tab_all v (List.mem_range.2 h))
theorem jJ (u:Ua) (z:Int) (h:u.toNat < 256) (hz:0 <= z/\z <= 64):((dn[(aq u).toNat]?).bind fun z27=>(chk (z + ((z27.toNat:Nat):Int))).bind fun s29=>some s29) = some (z + bln u.toNat):=by
 have hb:=cL (l:=8) (m:=u.toNat) (by omega)
 have e:(aq u).toNat = u.toNat:=by unfold aq; rw [UInt8.toNat_ofNat']; omega
 have e2:(UInt8.ofNat (bln u.toNat)).toNat = bln u.toNat:=by rw [UInt8.toNat_ofNat']; omega
 rw [e,tab_ok h,ab,e2,cm (by omega) (by omega),ab]
theorem lv (n:Nat) (x:Ua):bn_p n x = some (bln x.toNat:Int):=by
 have hx:=x.toNat_lt
 have k16:∀ (u:Ua) (z:Int),u.toNat < 65536 -> (0 <= z/\z <= 48) -> ((if (256:Ua) <= u then (chk (z + 8)).bind fun s31=>((dn[(aq (shrU u 8)).toNat]?).bind fun z27=>(chk (s31 + ((z27.toNat:Nat):Int))).bind fun s29=>some s29) else ((dn[(aq u).toNat]?).bind fun z27=>(chk (z + ((z27.toNat:Nat):Int))).bind fun s29=>some s29))) = some (z + bln u.toNat):=fun u z hu hz=>by
  by_cases c:(256:Ua) <= u
  ·have c2:256 <= u.toNat:=by rw [UInt64.le_iff_toNat_le] at c; simpa using c
   rw [if_pos c,cm (by omega) (by omega),ab,jJ _ _ (by rw [bV _ (by decide)]; omega) (by omega),bV _ (by decide),dE (m:=u.toNat) (s:=8) (by omega)]
   congr 1; omega
  ·have c2:u.toNat < 256:=by rw [UInt64.le_iff_toNat_le] at c; simpa using c
   rw [if_neg c,jJ _ _ c2 (by omega)]
 have k32:∀ (u:Ua) (z:Nat),u.toNat < 4294967296 -> z <= 32 -> ((if (65536:Ua) <= u then (chk ((z:Int) + 16)).bind fun s33=>(if (256:Ua) <= shrU u 16 then (chk (s33 + 8)).bind fun s31=>((dn[(aq (shrU (shrU u 16) 8)).toNat]?).bind fun z27=>(chk (s31 + ((z27.toNat:Nat):Int))).bind fun s29=>some s29) else ((dn[(aq (shrU u 16)).toNat]?).bind fun z27=>(chk (s33 + ((z27.toNat:Nat):Int))).bind fun s29=>some s29)) else (if (256:Ua) <= u then (chk ((z:Int) + 8)).bind fun s31=>((dn[(aq (shrU u 8)).toNat]?).bind fun z27=>(chk (s31 + ((z27.toNat:Nat):Int))).bind fun s29=>some s29) else ((dn[(aq u).toNat]?).bind fun z27=>(chk ((z:Int) + ((z27.toNat:Nat):Int))).bind fun s29=>some s29)))) = some ((z:Int) + bln u.toNat):=fun u z hu hz=>by
  by_cases c:(65536:Ua) <= u
  ·have c2:65536 <= u.toNat:=by rw [UInt64.le_iff_toNat_le] at c; simpa using c
   rw [if_pos c,cm (by omega) (by omega),ab,k16 _ _ (by rw [bV _ (by decide)]; omega) (by omega),bV _ (by decide),dE (m:=u.toNat) (s:=16) (by omega)]
   congr 1; omega
  ·have c2:u.toNat < 65536:=by rw [UInt64.le_iff_toNat_le] at c; simpa using c
   rw [if_neg c,k16 _ _ c2 (by omega)]
 unfold bn_p jn
 simp only
 by_cases c:(4294967296:Ua) <= x
 ·have c2:4294967296 <= x.toNat:=by rw [UInt64.le_iff_toNat_le] at c; simpa using c
  rw [if_pos c]
  refine (k32 (shrU x 32) 32 (by rw [bV _ (by decide)]; omega) (by omega)).trans ?_
  rw [bV _ (by decide),dE (m:=x.toNat) (s:=32) (by omega)]
  congr 1
 ·have c2:x.toNat < 4294967296:=by rw [UInt64.le_iff_toNat_le] at c; simpa using c
  rw [if_neg c]
  refine (k32 x 0 c2 (by omega)).trans ?_
  congr 1; omega
theorem lz_ok (n:Nat) (x:Ua):aP_p n x = some (64 - bln x.toNat:Int):=by
 have:=cL (l:=64) (m:=x.toNat) (by have:=x.toNat_lt; omega)
 unfold aP_p
 rw [lv,ab,cm (by omega) (by omega),ab]
theorem div_top {m lo t l:Nat} (hv:m = lo + 18446744073709551616 ^ l * t) (hlow:lo < 18446744073709551616 ^ l):m / 2 ^ (64 * l) = t:=by
 rw [<- dI,hv,Nat.add_mul_div_left _ _ (Nat.lt_of_le_of_lt (Nat.zero_le _) hlow),Nat.div_eq_of_lt hlow,Nat.zero_add]
theorem gE (n:Nat) (m:Nat) (hl:(dg m).length <= 1000000):bK_p n (dg m) = some (bln m:Int):=by
 unfold bK_p
 by_cases h0:m = 0
 ·subst h0
  rw [dg0,if_pos (show ([]:List Ua).length = 0 from I)]
  unfold bln
  rw [if_pos I]; rfl
 ·have hne:dg m ≠ []:=fun e=>h0 (by have:=aI m; rw [e] at this; exact this.symm)
  obtain ⟨l,hl1⟩:∃ l,(dg m).length = l + 1:=⟨(dg m).length - 1,by cases h:dg m with | nil=>exact absurd h hne | cons x xs=>simp⟩
  have hlast:l < (dg m).length:=by omega
  have hv:=dC (dg m) hlast
  rw [List.drop_eq_nil_of_le (by omega),aI,show val ([]:List Ua) = 0 from I,Nat.mul_zero,Nat.add_zero] at hv
  have hlow:=cC ((dg m).take l)
  rw [List.length_take,Nat.min_eq_left (by omega)] at hlow
  have htop:(dg m)[l] ≠ 0:=gd m _ (by rw [List.getLast?_eq_getElem?,hl1]; exact geE hlast)
  have ht0:((dg m)[l]).toNat ≠ 0:=fun e=>htop (UInt64.toNat_inj.1 (by simpa using e))
  have hb:bln m = 64 * l + bln ((dg m)[l]).toNat:=by
   have e:m / 2 ^ (64 * l) = ((dg m)[l]).toNat:=div_top hv hlow
   have:=dE (m:=m) (s:=64 * l) (by
    have h1:2 ^ (64 * l) * 1 <= 2 ^ (64 * l) * ((dg m)[l]).toNat:=Nat.mul_le_mul_left _ (by omega)
    rw [dI] at hv
    omega)
   rw [e] at this
   exact this
  have hbt:=cL (l:=64) (m:=((dg m)[l]).toNat) (by have:=((dg m)[l]).toNat_lt; omega)
  have hi:((((dg m).length:Nat):Int) - 1).toNat = l:=by omega
  rw [if_neg (by omega),cm (by omega) (by omega),ab,dj (by omega) (by omega),ab]
  simp only [hi]
  rw [lz_ok,ab,cm (by omega) (by omega),ab,hb]
  congr 1; omega
theorem lz (k:Nat) (h:k < 1000000000):ic (k:Int) 64 = some ((k / 64:Nat):Int):=by
 unfold ic
 rw [if_neg (by decide),Int.tdiv_eq_ediv_of_nonneg (by omega),cm (by omega) (by omega)]
 congr 1
theorem rem64 (k:Nat):ij (k:Int) 64 = some ((k % 64:Nat):Int):=by
 rw [remI_ok (by decide),Int.tmod_eq_emod_of_nonneg (by omega)]
 congr 1
theorem eG (k:Nat):ek (k:Int) = some k:=by unfold ek; rw [if_pos (Int.natCast_nonneg _),Int.toNat_natCast]
theorem md {α:Type} {xs:List α} {i:Nat} (h:i < xs.length):idx xs (i:Int) = some xs[i]:=by
 rw [dj (by omega) (by rw [Int.toNat_natCast]; exact h)]
 simp only [Int.toNat_natCast]
theorem putN {α:Type} {xs:List α} {i:Nat} (x:α) (h:i < xs.length):put xs ((((i:Nat):Int).toNat:Nat):Int) x = some (xs.set i x):=by rw [Int.toNat_natCast]; exact dP x h
theorem kV (n:Nat) (a:List Ua) (k:Nat) (hk:k < 1000000) (hl:a.length < 100000) (hn:200000 < n):bB_p n a (k:Int) = some (dg (val a * 2 ^ k)):=by
 have hkw:2 ^ k = 18446744073709551616 ^ (k / 64) * 2 ^ (k % 64):=by rw [dI,<- Nat.pow_add]; congr 1; omega
 have hs:k % 64 < 64:=Nat.mod_lt _ (by decide)
 have hh:=aN (B:=bB_l1 n a (k:Int)) (fun s:Nat × List Ua=>a.length - s.1) (fun s=>s.1 <= a.length/\∃ hx:s.2.length = a.length + k / 64 + 1,val s.2 = val (a.take s.1) * 2 ^ k/\(∀ j (h:j < s.2.length),s.1 + k / 64 < j -> s.2[j] = 0)/\(s.2[s.1 + k / 64]?.getD 0).toNat < 2 ^ (k % 64))
  (fun xs=>xs.length = a.length + k / 64 + 1/\val xs = val a * 2 ^ k) ?_ n (0,List.replicate (a.length + k / 64 + 1) 0) ⟨Nat.zero_le _,by simp,?_,fun j h _=>by simp,?_⟩ (by simp only; omega)
 ·obtain ⟨xs,e,h1,h2⟩:=hh
  unfold bB_p
  rw [lz k (by omega),ab,cm (by omega) (by omega),ab,cm (by omega) (by omega),ab,show ((a.length:Nat):Int) + ((k / 64:Nat):Int) + 1 = ((a.length + k / 64 + 1:Nat):Int) by omega,fU _ _ (by omega),ab,e,ab,aJ n false xs (by omega) (by omega),ab,h2]
 ·rintro ⟨i,xs⟩ J ⟨a1,a2,a3,a4,a5⟩ hJ
  simp only at a1 a2 a3 a4 a5 hJ
  unfold bB_l1
  simp only
  by_cases hi:i < a.length
  ·have hw:i + k / 64 < xs.length:=by omega
   have hw1:i + k / 64 + 1 < xs.length:=by omega
   rw [geE hw] at a5
   have a5' : (xs[i + k / 64]).toNat < 2 ^ (k % 64):=a5
   rw [if_pos hi,geE hi,ab,lz k (by omega),ab,cm (by omega) (by omega),ab,show ((i:Nat):Int) + ((k / 64:Nat):Int) = ((i + k / 64:Nat):Int) by omega,md hw,ab,rem64,ab,eG,ab,putN _ hw,ab,ab]
   have e0:val (a.take (i + 1)) * 2 ^ k = val (a.take i) * 2 ^ k + 18446744073709551616 ^ (i + k / 64) * (a[i].toNat * 2 ^ (k % 64)):=by
    rw [bN a hi,Nat.add_mul,hkw,Nat.pow_add]
    congr 1
    grind
   by_cases c:0 < k % 64
   ·obtain ⟨s1,s2,s3⟩:=gm a[i] c hs
    have hor:=ju (a:=xs[i + k / 64]) (b:=shlU a[i] (k % 64)) a5' s2
    have v1:=ej (xs[i + k / 64] ||| shlU a[i] (k % 64)) hw
    rw [hor,Nat.mul_add] at v1
    generalize hys:xs.set (i + k / 64) (xs[i + k / 64] ||| shlU a[i] (k % 64)) = ys at *
    have hyl:ys.length = xs.length:=by rw [<- hys,List.length_set]
    have hy1:i + k / 64 + 1 < ys.length:=by omega
    have hy0:ys[i + k / 64 + 1] = 0:=by
     have:=a4 (i + k / 64 + 1) hw1 (by omega)
     simp only [<- hys]
     rw [List.getElem_set_ne (by omega)]; exact this
    have v2:=ej (shrU a[i] (64 - k % 64)) hy1
    rw [hy0] at v2
    rw [if_pos (by omega),ab,cm (by omega) (by omega),ab,cm (by omega) (by omega),ab,ab,cm (by omega) (by omega),ab,show (64:Int) - ((k % 64:Nat):Int) = ((64 - k % 64:Nat):Int) by omega,eG,ab,show ((i:Nat):Int) + ((k / 64:Nat):Int) + 1 = ((i + k / 64 + 1:Nat):Int) by omega,md hy1,ab,putN _ hy1,ab]
    refine hJ _ ⟨hi,by simp only [List.length_set]; omega,?_,fun j hj hlt=>?_,?_⟩ (by simp only; omega)
    ·simp only
     rw [e0,<- s1,Nat.mul_add,<- Nat.mul_assoc,<- Nat.pow_succ]
     simp only [UInt64.toNat_zero,Nat.mul_zero,Nat.add_zero] at v2
     rw [v2,<- a3]
     show val ys + 18446744073709551616 ^ (i + k / 64 + 1) * _ = val xs + (_ + 18446744073709551616 ^ (i + k / 64 + 1) * _)
     omega
    ·simp only at hj hlt ⊢
     rw [List.getElem_set_ne (by omega)]
     simp only [<- hys]
     rw [List.getElem_set_ne (by omega)]
     exact a4 j (by simpa [<- hys] using hj) (by omega)
    ·simp only
     rw [show i + 1 + k / 64 = i + k / 64 + 1 by omega,List.getElem?_set_self hy1]
     exact s3
   ·have c0:k % 64 = 0:=by omega
    rw [c0,Nat.pow_zero] at a5'
    have hz:xs[i + k / 64] = 0:=UInt64.toNat_inj.1 (by simp; omega)
    have v1:=ej (xs[i + k / 64] ||| shlU a[i] (k % 64)) hw
    rw [hz,er,c0,dV] at v1
    rw [if_neg (by omega),hz,er,c0,dV]
    refine hJ _ ⟨hi,by simp only [List.length_set]; omega,?_,fun j hj hlt=>?_,?_⟩ (by simp only; omega)
    ·simp only
     rw [e0,c0,Nat.pow_zero,Nat.mul_one,<- a3]
     simp only [UInt64.toNat_zero,Nat.mul_zero,Nat.add_zero] at v1
     exact v1
    ·simp only at hj hlt ⊢
     rw [List.getElem_set_ne (by omega)]
     exact a4 j (by simpa using hj) (by omega)
    ·simp only
     rw [show i + 1 + k / 64 = i + k / 64 + 1 by omega,List.getElem?_set_ne (by omega),geE hw1,a4 _ hw1 (by omega),c0]
     decide
  ·rw [if_neg hi]
   rw [List.take_of_length_le (by omega)] at a3
   exact ⟨_,I,a2,a3⟩
 ·simp only [List.take_zero,val,Nat.zero_mul]
  exact cd _ fun x hx=>(List.mem_replicate.1 hx).2
 ·simp only
  rw [List.getElem?_replicate]
  split <;> simp <;> exact Nat.two_pow_pos _
set_option maxRecDepth 8000
theorem ko {B:(Ua × Ua -> Oa Ua) -> Ua × Ua -> Oa Ua} {y1 y0 un:Ua}
  (hB:∀ J q rh,B J (q,rh) = if (4294967296:Ua) <= q then (if (4294967296:Ua) <= rh + y1 then some (q - 1) else J (q - 1,rh + y1)) else (if 4294967296 * rh + un < q * y0 then (if (4294967296:Ua) <= rh + y1 then some (q - 1) else J (q - 1,rh + y1)) else some q))
  {U:Nat} (h1:2147483648 <= y1.toNat) (h1' : y1.toNat < 4294967296) (h0:y0.toNat < 4294967296) (hu:un.toNat < 4294967296) (hU:U < y1.toNat * 4294967296 + y0.toNat) (q0 r0:Ua) (e:U = q0.toNat * y1.toNat + r0.toNat) (hr:r0.toNat < y1.toNat) (n:Nat) (hn:4294967300 < n) :
  ∃ q:Ua,az B n (q0,r0) = some q/\q.toNat = (U * 4294967296 + un.toNat) / (y1.toNat * 4294967296 + y0.toNat):=by
 obtain ⟨V,hV⟩:∃ V,y1.toNat * 4294967296 + y0.toNat = V:=⟨_,I⟩
 obtain ⟨N,hN⟩:∃ N,U * 4294967296 + un.toNat = N:=⟨_,I⟩
 rw [hV] at hU
 rw [hV,hN]
 have hVp:0 < V:=by omega
 obtain ⟨D,hD⟩:∃ D,N / V = D:=⟨_,I⟩
 have hle:∀ x,x <= D ↔ x * V <= N:=fun x=>by rw [<- hD]; exact Nat.le_div_iff_mul_le hVp
 have hlt:∀ x,D < x ↔ N < x * V:=fun x=>by rw [<- hD]; exact Nat.div_lt_iff_lt_mul hVp
 rw [hD]
 have hNV:D < 4294967296:=by
  rw [hlt]
  omega
 have hq0:q0.toNat <= 4294967297:=by
  have h2:q0.toNat * 2147483648 <= q0.toNat * y1.toNat:=Nat.mul_le_mul_left _ h1
  by_cases h3:q0.toNat <= 4294967297
  ·exact h3
  ·exfalso
   have h4:4294967298 * y1.toNat <= q0.toNat * y1.toNat:=Nat.mul_le_mul_right _ (by omega)
   omega
 have up:D <= q0.toNat:=by
  rw [<- hD]
  have h3:N / V <= N / (y1.toNat * 4294967296):=Nat.div_le_div_left (by omega) (by omega)
  have h4:N / (y1.toNat * 4294967296) = U / y1.toNat:=by
   rw [Nat.mul_comm,<- Nat.div_div_eq_div_mul]
   congr 1
   omega
  have h5:U / y1.toNat = q0.toNat:=by
   rw [e,Nat.mul_comm,Nat.add_comm,Nat.add_mul_div_left _ _ (by omega),Nat.div_eq_of_lt hr,Nat.zero_add]
  rw [h4,h5] at h3
  exact h3
 refine aN (B:=B) (fun s:Ua × Ua=>s.1.toNat) (fun s=>U = s.1.toNat * y1.toNat + s.2.toNat/\s.2.toNat < 4294967296/\D <= s.1.toNat/\s.1.toNat <= 4294967297) (fun q=>q.toNat = D) ?_ n (q0,r0) ⟨e,by simp only; omega,up,hq0⟩ (by simp only; omega)
 rintro ⟨q,rh⟩ J ⟨i1,i2,i3,i4⟩ hJ
 simp only at i1 i2 i3 i4 hJ
 rw [hB]
 have c32:(4294967296:Ua).toNat = 4294967296:=rfl
 have hrh:(rh + y1).toNat = rh.toNat + y1.toNat:=by rw [UInt64.toNat_add]; omega
 -- what follows once the guess is too great
 have over:D + 1 <= q.toNat -> ∃ r,(if (4294967296:Ua) <= rh + y1 then some (q - 1) else J (q - 1,rh + y1)) = some r/\r.toNat = D:=fun ho=>by
  have hq1:(q - 1).toNat = q.toNat - 1:=by
   rw [UInt64.toNat_sub]
   have:=q.toNat_lt
   simp only [UInt64.toNat_one]
   omega
  have e1:q.toNat * y1.toNat = (q.toNat - 1) * y1.toNat + y1.toNat:=by
   rw [<- Nat.succ_mul]; congr 1; omega
  split
  ·rename_i hbig
   rw [UInt64.le_iff_toNat_le,c32,hrh] at hbig
   refine ⟨_,I,?_⟩
   rw [hq1]
   refine Nat.le_antisymm ?_ (by omega)
   rw [hle,<- hV,Nat.mul_add,<- Nat.mul_assoc]
   have h5:(q.toNat - 1) * y0.toNat <= 4294967296 * 4294967295:=Nat.mul_le_mul (by omega) (by omega)
   omega
  ·rename_i hbig
   rw [UInt64.le_iff_toNat_le,c32,hrh] at hbig
   exact hJ _ ⟨by simp only; rw [hq1,hrh]; omega,by simp only; rw [hrh]; omega,by simp only; rw [hq1]; omega,by simp only; rw [hq1]; omega⟩ (by simp only; rw [hq1]; omega)
 by_cases c:(4294967296:Ua) <= q
 ·rw [if_pos c]
  rw [UInt64.le_iff_toNat_le,c32] at c
  exact over (by omega)
 ·rw [if_neg c]
  rw [UInt64.le_iff_toNat_le,c32] at c
  have m1:(4294967296 * rh + un).toNat = 4294967296 * rh.toNat + un.toNat:=by
   rw [UInt64.toNat_add,UInt64.toNat_mul,c32]; omega
  have m2:(q * y0).toNat = q.toNat * y0.toNat:=by
   rw [UInt64.toNat_mul]
   have:q.toNat * y0.toNat <= 4294967295 * 4294967295:=Nat.mul_le_mul (by omega) (by omega)
   omega
  have eqV:q.toNat * V = q.toNat * y1.toNat * 4294967296 + q.toNat * y0.toNat:=by rw [<- hV,Nat.mul_add,<- Nat.mul_assoc]
  by_cases c2:4294967296 * rh + un < q * y0
  ·rw [if_pos c2]
   rw [UInt64.lt_iff_toNat_lt,m1,m2] at c2
   refine over ?_
   have:D < q.toNat:=by
    rw [hlt,eqV]
    omega
   omega
  ·rw [if_neg c2]
   rw [UInt64.lt_iff_toNat_lt,m1,m2] at c2
   refine ⟨_,I,Nat.le_antisymm ?_ i3⟩
   rw [hle,eqV]
   omega
theorem ka {N M R:Nat} (h:N = M + R) (hR:R < 18446744073709551616):(18446744073709551616 - M % 18446744073709551616 + N % 18446744073709551616) % 18446744073709551616 = R:=by omega
theorem glue2 {hi lo p u t w:Nat} (t1:u = hi * p + t) (t2:w + 18446744073709551616 * t = lo * p):(hi * 18446744073709551616 + lo) * p = u * 18446744073709551616 + w:=by
 rw [Nat.add_mul,Nat.mul_right_comm hi 18446744073709551616 p,t1,<- t2]
 generalize hi * p = z
 omega
theorem glue {P Q R1 R0 u w:Nat} (h1:P + R1 = u * 4294967296 + w / 4294967296) (h2:Q + R0 = R1 * 4294967296 + w % 4294967296):u * 18446744073709551616 + w = P * 4294967296 + Q + R0:=by omega
theorem kA (n:Nat) (hi lo y:Ua) (h:hi.toNat < y.toNat) (hn:4294967300 < n):∃ q r:Ua,aH_p n hi lo y = some (q,r)/\hi.toNat * 18446744073709551616 + lo.toNat = q.toNat * y.toNat + r.toNat/\r.toNat < y.toNat:=by
 have hy:=y.toNat_lt
 have hlo:=lo.toNat_lt
 have hy0:y ≠ 0:=fun e=>by rw [e] at h; simp at h
 unfold aH_p
 rw [if_neg hy0,if_neg (by rw [UInt64.le_iff_toNat_le]; omega)]
 by_cases h0:hi = 0
 ·subst h0
  rw [if_pos I]
  unfold ik kL
  rw [if_neg hy0,ab,if_neg hy0,ab]
  refine ⟨_,_,I,?_,?_⟩
  ·rw [UInt64.toNat_div,UInt64.toNat_mod]
   have:=Nat.div_add_mod lo.toNat y.toNat
   rw [Nat.mul_comm] at this
   simp; omega
  ·rw [UInt64.toNat_mod]; exact Nat.mod_lt _ (by omega)
 ·rw [if_neg h0,lz_ok,ab]
  have hyn:y.toNat ≠ 0:=by omega
  have b1:=ep hyn
  have b2:=cL (l:=64) (m:=y.toNat) (by omega)
  have b3:=gQ y.toNat
  have b4:=fX hyn
  obtain ⟨s,hs⟩:∃ s,s = 64 - bln y.toNat:=⟨_,I⟩
  have e1:(ai (64 - (bln y.toNat:Int))).toNat = s:=by unfold ai; rw [UInt64.toNat_ofNat']; omega
  have e2:((64:Ua) - ai (64 - (bln y.toNat:Int))).toNat = 64 - s:=by
   rw [UInt64.toNat_sub,e1]
   simp only [show (64:Ua).toNat = 64 from rfl]
   omega
  have hs64:s < 64:=by omega
  have hps:=Nat.two_pow_pos s
  -- the divisor,moved
  have v2:y.toNat * 2 ^ s < 18446744073709551616:=by
   have:y.toNat * 2 ^ s < 2 ^ bln y.toNat * 2 ^ s:=Nat.mul_lt_mul_of_pos_right b3 hps
   rw [<- Nat.pow_add,show bln y.toNat + s = 64 by omega] at this
   exact this
  have v1:9223372036854775808 <= y.toNat * 2 ^ s:=by
   have:2 ^ (bln y.toNat - 1) * 2 ^ s <= y.toNat * 2 ^ s:=Nat.mul_le_mul_right _ b4
   rw [<- Nat.pow_add,show bln y.toNat - 1 + s = 63 by omega] at this
   exact this
  have hyv:(shlU y s).toNat = y.toNat * 2 ^ s:=by rw [ea y hs64,Nat.mod_eq_of_lt v2]
  have hhi:hi.toNat * 2 ^ s < 18446744073709551616:=Nat.lt_of_le_of_lt (Nat.mul_le_mul_right _ (Nat.le_of_lt h)) v2
  have hhv:(shlU hi s).toNat = hi.toNat * 2 ^ s:=by rw [ea hi hs64,Nat.mod_eq_of_lt hhi]
  -- the dividend,moved
  have hun:∃ t:Nat,(shlU hi s ||| shrU lo (64 - s)).toNat = hi.toNat * 2 ^ s + t/\(shlU lo s).toNat + 18446744073709551616 * t = lo.toNat * 2 ^ s:=by
   by_cases s0:s = 0
   ·subst s0
    refine ⟨0,?_,by rw [dV]; simp⟩
    rw [dV,show shrU lo (64 - 0) = 0 from by unfold shrU; rw [if_neg (by decide)],UInt64.toNat_or]
    simp
   ·obtain ⟨t1,t2,t3⟩:=gm lo (by omega) hs64
    refine ⟨(shrU lo (64 - s)).toNat,?_,t1⟩
    rw [UInt64.or_comm,ju t3 (by rw [hhv]; exact Nat.dvd_mul_left ..),hhv,Nat.add_comm]
  obtain ⟨t,t1,t2⟩:=hun
  rw [e1,e2]
  generalize hyy:shlU y s = yy at *
  generalize hun32:shlU hi s ||| shrU lo (64 - s) = un32 at *
  generalize hun10:shlU lo s = un10 at *
  have hun10l:=un10.toNat_lt
  have hun32l:=un32.toNat_lt
  -- both halves of the divisor
  have w1:(shrU yy 32).toNat = yy.toNat / 4294967296:=jc yy
  have w0:(yy &&& (4294967295:Ua)).toNat = yy.toNat % 4294967296:=lE yy
  have x1:(shrU un10 32).toNat = un10.toNat / 4294967296:=jc un10
  have x0:(un10 &&& (4294967295:Ua)).toNat = un10.toNat % 4294967296:=lE un10
  have hyyl:=yy.toNat_lt
  have hV:(shrU yy 32).toNat * 4294967296 + (yy &&& (4294967295:Ua)).toNat = yy.toNat:=by rw [w1,w0]; omega
  have hy1:2147483648 <= (shrU yy 32).toNat:=by rw [w1]; omega
  have hy1' : (shrU yy 32).toNat < 4294967296:=by rw [w1]; omega
  have hy0' : (yy &&& (4294967295:Ua)).toNat < 4294967296:=by rw [w0]; omega
  have hne:shrU yy 32 ≠ 0:=fun e=>by rw [e] at hy1; simp at hy1
  have hUV:un32.toNat < yy.toNat:=by
   have h5:(hi.toNat * 18446744073709551616 + lo.toNat) * 2 ^ s < y.toNat * 18446744073709551616 * 2 ^ s:=Nat.mul_lt_mul_of_pos_right (by omega) hps
   rw [Nat.add_mul,Nat.mul_right_comm,Nat.mul_right_comm y.toNat] at h5
   omega
  -- the first digit
  have d1:∀ (U:Ua) (hU:U.toNat < yy.toNat) (un:Ua) (hu:un.toNat < 4294967296) (B:(Ua × Ua -> Oa Ua) -> Ua × Ua -> Oa Ua) (hB:∀ J q rh,B J (q,rh) = if (4294967296:Ua) <= q then (if (4294967296:Ua) <= rh + shrU yy 32 then some (q - 1) else J (q - 1,rh + shrU yy 32)) else (if 4294967296 * rh + un < q * (yy &&& (4294967295:Ua)) then (if (4294967296:Ua) <= rh + shrU yy 32 then some (q - 1) else J (q - 1,rh + shrU yy 32)) else some q)),
    ∃ q:Ua,az B n (U / shrU yy 32,U - U / shrU yy 32 * shrU yy 32) = some q/\q.toNat = (U.toNat * 4294967296 + un.toNat) / yy.toNat:=fun U hU un hu B hB=>by
   have hm:=Nat.div_add_mod U.toNat (shrU yy 32).toNat
   have hml:=Nat.mod_lt U.toNat (show 0 < (shrU yy 32).toNat by omega)
   have hUl:=U.toNat_lt
   have e3:(U - U / shrU yy 32 * shrU yy 32).toNat = U.toNat % (shrU yy 32).toNat:=by
    rw [UInt64.toNat_sub,UInt64.toNat_mul,UInt64.toNat_div]
    rw [Nat.mul_comm] at hm
    have:U.toNat / (shrU yy 32).toNat * (shrU yy 32).toNat <= U.toNat:=by omega
    rw [Nat.mod_eq_of_lt (a:=U.toNat / (shrU yy 32).toNat * (shrU yy 32).toNat) (by omega)]
    omega
   obtain ⟨q,a1,a2⟩:=ko hB (U:=U.toNat) hy1 hy1' hy0' hu (by rw [hV]; exact hU) (U / shrU yy 32) (U - U / shrU yy 32 * shrU yy 32) (by rw [UInt64.toNat_div,e3,Nat.mul_comm]; exact hm.symm) (by rw [e3]; exact hml) n hn
   exact ⟨q,a1,by rw [a2,hV]⟩
  obtain ⟨q1,l2,q1v⟩:=d1 un32 hUV (shrU un10 32) (by rw [x1]; omega) (aH_l2 n y (64 - (bln y.toNat:Int)) lo) (fun J q rh=>by unfold aH_l2; simp only [e1,hyy,hun10])
  have hm1:=Nat.div_add_mod (un32.toNat * 4294967296 + (shrU un10 32).toNat) yy.toNat
  have hml1:=Nat.mod_lt (un32.toNat * 4294967296 + (shrU un10 32).toNat) (show 0 < yy.toNat by omega)
  rw [<- q1v] at hm1
  generalize hR1:(un32.toNat * 4294967296 + (shrU un10 32).toNat) % yy.toNat = R1 at hm1 hml1
  have u21:(un32 * 4294967296 + shrU un10 32 - q1 * yy).toNat = R1:=by
   rw [UInt64.toNat_sub,UInt64.toNat_add,UInt64.toNat_mul,UInt64.toNat_mul]
   rw [show (4294967296:Ua).toNat = 4294967296 from I]
   have:=ka (N:=un32.toNat * 4294967296 + (shrU un10 32).toNat) (M:=q1.toNat * yy.toNat) (R:=R1) (by rw [Nat.mul_comm q1.toNat]; exact hm1.symm) (by omega)
   generalize q1.toNat * yy.toNat = M at *
   omega
  obtain ⟨q0,l1,q0v⟩:=d1 (un32 * 4294967296 + shrU un10 32 - q1 * yy) (by rw [u21]; exact hml1) (un10 &&& (4294967295:Ua)) (by rw [x0]; omega) (aH_l1 n y (64 - (bln y.toNat:Int)) lo) (fun J q rh=>by unfold aH_l1; simp only [e1,hyy,hun10])
  rw [u21] at q0v
  have hm0:=Nat.div_add_mod (R1 * 4294967296 + (un10 &&& (4294967295:Ua)).toNat) yy.toNat
  have hml0:=Nat.mod_lt (R1 * 4294967296 + (un10 &&& (4294967295:Ua)).toNat) (show 0 < yy.toNat by omega)
  rw [<- q0v] at hm0
  generalize hR0:(R1 * 4294967296 + (un10 &&& (4294967295:Ua)).toNat) % yy.toNat = R0 at hm0 hml0
  have u00:((un32 * 4294967296 + shrU un10 32 - q1 * yy) * 4294967296 + (un10 &&& (4294967295:Ua)) - q0 * yy).toNat = R0:=by
   rw [UInt64.toNat_sub,UInt64.toNat_add,UInt64.toNat_mul,UInt64.toNat_mul,u21]
   rw [show (4294967296:Ua).toNat = 4294967296 from I]
   have:=ka (N:=R1 * 4294967296 + (un10 &&& (4294967295:Ua)).toNat) (M:=q0.toNat * yy.toNat) (R:=R0) (by rw [Nat.mul_comm q0.toNat]; exact hm0.symm) (by omega)
   generalize q0.toNat * yy.toNat = M at *
   omega
  have q1l:q1.toNat < 4294967296:=by
   rw [q1v,Nat.div_lt_iff_lt_mul (by omega)]; rw [x1]; omega
  have q0l:q0.toNat < 4294967296:=by
   rw [q0v,Nat.div_lt_iff_lt_mul (by omega)]; rw [x0]; omega
  -- all together
  have all:(hi.toNat * 18446744073709551616 + lo.toNat) * 2 ^ s = (q1.toNat * 4294967296 + q0.toNat) * y.toNat * 2 ^ s + R0:=by
   have a1:(hi.toNat * 18446744073709551616 + lo.toNat) * 2 ^ s = un32.toNat * 18446744073709551616 + un10.toNat:=by
    exact glue2 t1 t2
   have a2:(q1.toNat * 4294967296 + q0.toNat) * y.toNat * 2 ^ s = yy.toNat * q1.toNat * 4294967296 + yy.toNat * q0.toNat:=by
    rw [Nat.mul_assoc,<- hyv]; grind
   rw [a1,a2]
   rw [x1] at hm1
   rw [x0] at hm0
   exact glue hm1 hm0
  have hq:(q1 * 4294967296 + q0).toNat = q1.toNat * 4294967296 + q0.toNat:=by
   rw [UInt64.toNat_add,UInt64.toNat_mul,show (4294967296:Ua).toNat = 4294967296 from I]; omega
  have hd:2 ^ s ∣ R0:=by
   have:=(Nat.dvd_add_right (Nat.dvd_mul_left (2 ^ s) ((q1.toNat * 4294967296 + q0.toNat) * y.toNat))).1 (by rw [<- all]; exact Nat.dvd_mul_left ..)
   exact this
  obtain ⟨rr,hrr⟩:=hd
  have hrv:(shrU ((un32 * 4294967296 + shrU un10 32 - q1 * yy) * 4294967296 + (un10 &&& (4294967295:Ua)) - q0 * yy) s).toNat = rr:=by
   rw [bV _ hs64,u00,hrr,Nat.mul_div_cancel_left _ hps]
  unfold jn ik
  rw [if_neg hne,ab,ab]
  dsimp only
  rw [l2,ab,ab,if_neg hne,ab,ab]
  try dsimp only
  rw [l1,ab,ab,ab]
  refine ⟨_,_,I,?_,?_⟩
  ·rw [hq,hrv]
   rw [hrr,Nat.mul_comm (2 ^ s) rr,<- Nat.add_mul] at all
   exact Nat.mul_right_cancel hps all
  ·rw [hrv]
   rw [hrr,Nat.mul_comm,hyv] at hml0
   exact Nat.lt_of_mul_lt_mul_right hml0
set_option maxRecDepth 8000
theorem kW (a:Nat):bln a <= 64 * (dg a).length:=cL (by
 have:=cC (dg a)
 rw [aI,dI] at this
 exact this)
theorem dg_one {m:Nat} (h:(dg m).length = 1):∃ y:Ua,dg m = [y]/\y.toNat = m:=by
 rcases e:dg m with _ | ⟨y,_ | ⟨z,zs⟩⟩
 ·rw [e] at h; simp at h
 ·refine ⟨y,I,?_⟩
  have:=aI m
  rw [e] at this
  simp only [val] at this
  omega
 ·rw [e] at h; simp at h
theorem gj {xs:List Ua} {i:Nat} (v:Ua) (h:i < xs.length):(xs.set i v).drop i = v :: xs.drop (i + 1):=by
 rw [List.drop_eq_getElem_cons (by simpa using h),List.getElem_set_self,List.drop_set_of_lt (by omega)]
theorem jg (n:Nat) (a:List Ua) (y:Ua) (hy:0 < y.toNat) (hl:a.length < 100000) (hn:4294967300 < n):∃ u xs,az (aJ_l1 n a [y]) n (0,((a.length:Nat):Int) - 1,List.replicate a.length 0) = some (u,xs)/\xs.length = a.length/\val a = val xs * y.toNat + u.toNat/\u.toNat < y.toNat:=by
 have hh:=aN (B:=aJ_l1 n a [y]) (fun s:Ua × Int × List Ua=>(s.2.1 + 1).toNat) (fun s=>(-1 <= s.2.1/\s.2.1 < a.length)/\s.2.2.length = a.length/\val (a.drop (s.2.1 + 1).toNat) = val (s.2.2.drop (s.2.1 + 1).toNat) * y.toNat + s.1.toNat/\s.1.toNat < y.toNat)
  (fun r=>r.2.length = a.length/\val a = val r.2 * y.toNat + r.1.toNat/\r.1.toNat < y.toNat) ?_ n (0,((a.length:Nat):Int) - 1,List.replicate a.length 0) ⟨by simp only; omega,by simp,?_,by simpa using hy⟩ (by simp only; omega)
 ·obtain ⟨⟨u,xs⟩,e,h1,h2,h3⟩:=hh; exact ⟨u,xs,e,h1,h2,h3⟩
 ·rintro ⟨u,z,xs⟩ J ⟨a1,a2,a3,a4⟩ hJ
  simp only at a1 a2 a3 a4 hJ
  unfold aJ_l1
  simp only
  by_cases hz:0 <= z
  ·obtain ⟨k,rfl⟩:∃ k:Nat,z = k:=⟨z.toNat,by omega⟩
   have e0:(((k:Int) + 1).toNat) = k + 1:=by omega
   rw [e0] at a3
   have hka:k < a.length:=by omega
   have hkx:k < xs.length:=by omega
   obtain ⟨q,r,d1,d2,d3⟩:=kA n u a[k] y a4 hn
   rw [if_pos hz,md hka,ab]
   simp only [List.getElem?_cons_zero,ab]
   rw [d1,ab,md hkx,ab,putN _ hkx,ab,cm (by omega) (by omega),ab]
   have eN:(((k:Int) - 1 + 1)).toNat = k:=by omega
   refine hJ (_,_,_) ⟨by simp only; omega,by simpa using a2,?_,d3⟩ (by simp only; omega)
   simp only
   rw [eN,gj q hkx,List.drop_eq_getElem_cons hka]
   simp only [val]
   rw [a3,Nat.add_mul,Nat.mul_add,<- Nat.mul_assoc]
   omega
  ·rw [if_neg hz]
   have e0:(z + 1).toNat = 0:=by omega
   rw [e0] at a3
   exact ⟨_,rfl,a2,by simpa using a3,a4⟩
 ·simp only
  rw [show ((((a.length:Nat):Int) - 1 + 1)).toNat = a.length by omega,List.drop_length,List.drop_eq_nil_of_le (by simp)]
  simp [val]
theorem iG (n:Nat) (a b:Nat) (h0:b ≠ 0) (ha:(dg a).length < 10000) (hb:(dg b).length < 10000) (hn:18446744073709551616 < n):∃ q,aJ_p n (dg a) (dg b) = some (q,dg (a % b))/\q.length <= (dg a).length/\val q = a / b:=by
 unfold aJ_p
 rw [fU _ _ (by omega),ab]
 by_cases h1:(dg b).length = 1
 ·obtain ⟨y,e,hy⟩:=dg_one h1
  obtain ⟨u,xs,l1,l2,l3,l4⟩:=jg n (dg a) y (by omega) (by omega) (by omega)
  rw [e,if_pos (show ([y]:List Ua).length = 1 from I),l1,ab]
  simp only
  rw [aJ n false _ (by simp only [leC,leN]; omega) (by simp),ab]
  rw [aI,hy] at l3
  rw [hy] at l4
  have hu:=(Nat.div_mod_unique (a:=a) (b:=b) (c:=u.toNat) (d:=val xs) (by omega)).2 ⟨by rw [Nat.mul_comm]; omega,l4⟩
  refine ⟨xs,?_,by omega,hu.1.symm⟩
  simp only [val,Nat.mul_zero,Nat.add_zero]
  rw [hu.2]
 ·rw [if_neg h1,gE n a (by omega),ab,gE n b (by omega),ab]
  have bla:=kW a
  have blb:=kW b
  rw [cm (by omega) (by omega),ab]
  have hbp:=ep h0
  have hbg:=fX h0
  have hal:=gQ a
  by_cases hK:(bln a:Int) - bln b < 0
  ·obtain ⟨m,rfl⟩:∃ m,n = m + 1:=⟨n - 1,by omega⟩
   have hab:a < b:=Nat.lt_of_lt_of_le hal (Nat.le_trans (Nat.pow_le_pow_right (by decide) (by omega)) hbg)
   rw [aU]
   unfold aJ_l2
   simp only
   rw [if_neg (by omega),ab]
   refine ⟨_,by rw [Nat.mod_eq_of_lt hab],by simp,?_⟩
   rw [Nat.div_eq_of_lt hab]
   exact cd _ fun x hx=>(List.mem_replicate.1 hx).2
  ·obtain ⟨K,hKe⟩:∃ K:Nat,(bln a:Int) - bln b = K:=⟨bln a - bln b,by omega⟩
   rw [hKe]
   have hstart:a < b * 2 ^ (K + 1):=by
    have h2:2 ^ bln a <= b * 2 ^ (K + 1):=by
     have:2 ^ (bln b - 1) * 2 ^ (K + 1) <= b * 2 ^ (K + 1):=Nat.mul_le_mul_right _ hbg
     rw [<- Nat.pow_add,show bln b - 1 + (K + 1) = bln a by omega] at this
     exact this
    omega
   have hh:=aN (B:=aJ_l2 n (dg b)) (fun s:List Ua × Int × List Ua=>(s.2.1 + 1).toNat)
    (fun s=>(-1 <= s.2.1/\s.2.1 <= K)/\s.2.2.length = (dg a).length/\∃ R,s.1 = dg R/\R <= a/\a = b * val s.2.2 + R/\R < b * 2 ^ (s.2.1 + 1).toNat/\2 ^ (s.2.1 + 1).toNat ∣ val s.2.2)
    (fun r=>r.1.length = (dg a).length/\val r.1 = a / b/\r.2 = dg (a % b)) ?_ n (dg a,(K:Int),List.replicate (dg a).length 0)
    ⟨by simp only; omega,by simp,a,rfl,Nat.le_refl _,?_,?_,?_⟩ (by simp only; omega)
   ·obtain ⟨⟨q,r⟩,e,e1,e2,e3⟩:=hh
    simp only at e1 e2 e3
    rw [e,ab]
    simp only
    rw [e3]
    exact ⟨q,I,by omega,e2⟩
   ·rintro ⟨rw_,z,q⟩ J ⟨a1,a2,R,rfl,a3,a4,a5,a6⟩ hJ
    simp only at a1 a2 a3 a4 a5 a6 hJ
    unfold aJ_l2
    simp only
    by_cases hz:0 <= z
    ·obtain ⟨k,rfl⟩:∃ k:Nat,z = k:=⟨z.toNat,by omega⟩
     have e0:(((k:Int) + 1).toNat) = k + 1:=by omega
     rw [e0] at a5 a6
     have eN:(((k:Int) - 1 + 1)).toNat = k:=by omega
     have hRl:=eX a3
     obtain ⟨st1,st2⟩:=lS a4 a5 a6
     rw [if_pos hz,kV n (dg b) k (by omega) (by omega) (by omega),ab,aI]
     obtain ⟨c,ec,c1,c2⟩:=eP n (dg R) (dg (b * 2 ^ k)) (gd _) (gd _) (by omega) (by omega)
     rw [aI,aI] at c1 c2
     rw [ec,ab]
     unfold jn
     simp only
     by_cases hc:0 <= c
     ·have hge:b * 2 ^ k <= R:=by omega
      obtain ⟨g1,g2,g3⟩:=st1 hge
      obtain ⟨xs,t1,t2,t3⟩:=iA n (dg R) (dg (b * 2 ^ k)) (eX hge) (by rw [aI,aI]; exact hge) (by omega) (by omega)
      rw [aI,aI] at t3
      have hkq:k / 64 < q.length:=by
       have h2:2 ^ k < 2 ^ (64 * (dg a).length):=by
        have h3:=cC (dg a)
        rw [aI,dI] at h3
        have h4:1 * 2 ^ k <= b * 2 ^ k:=Nat.mul_le_mul_right _ (by omega)
        omega
       have h5:=(Nat.pow_lt_pow_iff_right (by decide:1 < 2)).1 h2
       omega
      have hbit:=bit_add hkq a6 (shl_one (Nat.mod_lt _ (by decide)))
      rw [if_pos hc,t1,ab,aJ n false xs (by omega) (by omega),ab,lz k (by omega),ab,md hkq,ab,rem64,ab,eG,ab,putN _ hkq,ab]
      simp only
      rw [cm (by omega) (by omega),ab,t3]
      refine hJ (_,_,_) ⟨by simp only; omega,by simpa using a2,R - b * 2 ^ k,rfl,by omega,?_,?_,?_⟩ (by simp only; omega)
      ·simp only; rw [hbit]; exact g1
      ·simp only; rw [eN]; exact g2
      ·simp only; rw [eN,hbit]; exact g3
     ·rw [if_neg hc,cm (by omega) (by omega),ab]
      refine hJ (_,_,_) ⟨by simp only; omega,a2,R,rfl,a3,a4,?_,?_⟩ (by simp only; omega)
      ·simp only; rw [eN]; omega
      ·simp only; rw [eN]; exact st2 (by omega)
    ·rw [if_neg hz]
     have e0:(z + 1).toNat = 0:=by omega
     rw [e0,Nat.pow_zero,Nat.mul_one] at a5
     have hu:=(Nat.div_mod_unique (a:=a) (b:=b) (c:=R) (d:=val q) (by omega)).2 ⟨by omega,a5⟩
     exact ⟨_,rfl,a2,hu.1.symm,by simp only; rw [hu.2]⟩
   ·simp only
    rw [cd _ fun x hx=>(List.mem_replicate.1 hx).2]; omega
   ·simp only
    rw [show (((K:Int) + 1).toNat) = K + 1 by omega]
    exact hstart
   ·simp only
    rw [cd _ fun x hx=>(List.mem_replicate.1 hx).2]
    exact Nat.dvd_zero _
theorem lJ (n l:Nat) (a b:Int) (ha:Fit l a) (hb:Fit l b) (h0:b ≠ 0) (hl:l < 5000) (hn:18446744073709551616 < n):bb_p n (L a) (L b) = some (L (a / b),L (a % b)):=by
 have hal:=ha.len
 have hbl:=hb.len
 obtain ⟨q,e1,e2,e3⟩:=iG n a.natAbs b.natAbs (by omega) (by omega) (by omega) hn
 have hm:a.natAbs % b.natAbs < b.natAbs:=Nat.mod_lt _ (by omega)
 have hl2:(dg (a.natAbs % b.natAbs)).length <= l:=fT (Nat.lt_trans hm hb)
 have hdm:=Nat.div_add_mod a.natAbs b.natAbs
 have hq:a.natAbs / b.natAbs <= a.natAbs:=Nat.div_le_self _ _
 unfold bb_p
 rw [show (L a).fj = dg a.natAbs from I,show (L b).fj = dg b.natAbs from I,e1,ab]
 simp only
 rw [aJ n _ _ (by omega) (by omega),ab,aJ n _ _ (by omega) (by omega),ab,e3,aI]
 generalize hx:a.natAbs / b.natAbs = x at *
 generalize hy:a.natAbs % b.natAbs = y at *
 simp only [kk]
 show (if (decide (a < 0) && decide (0 < y)) = true then _ else _) = _
 have hqf:x < 18446744073709551616 ^ l:=Nat.lt_of_le_of_lt hq ha
 have hyf:y < 18446744073709551616 ^ l:=Nat.lt_trans hm hb
 have hpw:2 * 18446744073709551616 ^ l <= 18446744073709551616 ^ (l + 1):=by rw [Nat.pow_succ,Nat.mul_comm]; exact Nat.mul_le_mul_left _ (by decide)
 have hp1:1 <= 18446744073709551616 ^ l:=Nat.pow_pos (by decide)
 have hbb:b.natAbs < 18446744073709551616 ^ l:=hb
 have hab:(b.natAbs:Int) * x + y = a.natAbs:=by exact_mod_cast hdm
 by_cases hr:a < 0/\0 < y
 ·obtain ⟨h1,h2⟩:=hr
  rw [if_pos (by simp [h1,h2])]
  have f1:(⟨false,dg b.natAbs⟩:Td) = L b.natAbs:=by unfold L; simp
  have f2:(⟨!(L b).fc,([(1:Ua)]:List Ua)⟩:Td) = L (if b < 0 then 1 else -1):=by
   unfold L
   by_cases hb0:b < 0 <;> simp [hb0] <;> rw [dg1 (by decide) (by decide)] <;> rfl
  rw [f1,f2,dx n (l + 1) _ _ ?_ ?_ (by omega) (by omega),ab,dx n (l + 1) _ _ ?_ ?_ (by omega) (by omega),ab]
  ·have e:sg (!(decide (a < 0) == decide (b < 0))) x + (if b < 0 then 1 else -1) = a / b/\sg (decide (a < 0)) y + b.natAbs = a % b:=by
    have:=dD (a:=a) (b:=b) (q:=sg (!(decide (a < 0) == decide (b < 0))) x + (if b < 0 then 1 else -1)) (r:=sg (decide (a < 0)) y + b.natAbs) ?_ ?_ ?_
    ·exact ⟨this.1.symm,this.2.symm⟩
    ·unfold sg
     by_cases hb0:b < 0
     ·have:(b.natAbs:Int) = -b:=by omega
      rw [this] at hab ⊢
      have h3:(a.natAbs:Int) = -a:=by omega
      simp [h1,hb0]
      rw [Int.mul_add]; grind
     ·have:(b.natAbs:Int) = b:=by omega
      rw [this] at hab ⊢
      have h3:(a.natAbs:Int) = -a:=by omega
      simp [h1,hb0]
      rw [Int.mul_add]; grind
    ·unfold sg; simp [h1]; omega
    ·unfold sg; simp [h1]; omega
   show some (L (sg (!(decide (a < 0) == decide (b < 0))) x + (if b < 0 then 1 else -1)),L (sg (decide (a < 0)) y + b.natAbs)) = _
   rw [e.1,e.2]
  ·unfold Fit; rw [gT]; omega
  ·unfold Fit; split <;> simp <;> omega
  ·unfold Fit; rw [gT]; omega
  ·unfold Fit; rw [Int.natAbs_natCast]; omega
 ·rw [if_neg (by simpa using hr)]
  have e:=dD (a:=a) (b:=b) (q:=sg (!(decide (a < 0) == decide (b < 0))) x) (r:=sg (decide (a < 0)) y) ?_ ?_ ?_
  ·rw [e.1,e.2]; rfl
  ·unfold sg
   by_cases h1:a < 0
   ·have hy0:y = 0:=by omega
    have h3:(a.natAbs:Int) = -a:=by omega
    by_cases hb0:b < 0
    ·have:(b.natAbs:Int) = -b:=by omega
     rw [this] at hab; simp [h1,hb0,hy0] at hab ⊢; grind
    ·have:(b.natAbs:Int) = b:=by omega
     rw [this] at hab; simp [h1,hb0,hy0] at hab ⊢; grind
   ·have h3:(a.natAbs:Int) = a:=by omega
    by_cases hb0:b < 0
    ·have:(b.natAbs:Int) = -b:=by omega
     rw [this] at hab; simp [h1,hb0] at hab ⊢; grind
    ·have:(b.natAbs:Int) = b:=by omega
     rw [this] at hab; simp [h1,hb0] at hab ⊢; grind
  ·unfold sg
   by_cases h1:a < 0
   ·have hy0:y = 0:=by omega
    simp [hy0]
   ·simp [h1]
  ·unfold sg
   by_cases h1:a < 0
   ·have hy0:y = 0:=by omega
    simp [hy0]; omega
   ·simp [h1]; omega
theorem jV (n l:Nat) (a b:Int) (ha:Fit l a) (hb:Fit l b) (hl:l < 5000) (hn:18446744073709551616 < n):aF_p n (L a) (L b) = some (L (Nat.gcd a.natAbs b.natAbs:Nat)):=by
 obtain ⟨M,hM⟩:∃ M:Nat,M = 64 * l:=⟨_,I⟩
 have hx2:a.natAbs < 2 ^ M:=by unfold Fit at ha; rw [dI,<- hM] at ha; exact ha
 have hy2:b.natAbs < 2 ^ M:=by unfold Fit at hb; rw [dI,<- hM] at hb; exact hb
 have he:=eu_le hx2 hy2
 have h:=aN (B:=aF_l1 n) (fun s:List Ua × List Ua=>eu (val s.1) (val s.2)) (fun s=>∃ x y,s = (dg x,dg y)/\(dg x).length < 10000/\(dg y).length < 10000/\Nat.gcd x y = Nat.gcd a.natAbs b.natAbs)
  (fun r=>r = dg (Nat.gcd a.natAbs b.natAbs)) ?_ n (dg a.natAbs,dg b.natAbs) ⟨_,_,rfl,by have:=ha.len; omega,by have:=hb.len; omega,rfl⟩ (by simp only [aI]; omega)
 ·obtain ⟨r,h1,rfl⟩:=h
  unfold aF_p
  rw [show (L a).fj = dg a.natAbs from I,show (L b).fj = dg b.natAbs from I,h1,ab]
  unfold L
  simp
 ·rintro _ J ⟨x,y,rfl,h1,h2,h3⟩ hJ
  unfold aF_l1
  simp only
  by_cases h0:y = 0
  ·subst h0
   rw [if_neg (by rw [dg0]; simp)]
   exact ⟨_,rfl,by rw [<- h3,Nat.gcd_zero_right]⟩
  ·obtain ⟨q,e1,_,_⟩:=iG n x y h0 h1 h2 hn
   have hm:x % y < y:=Nat.mod_lt _ (by omega)
   have hyl:0 < (dg y).length:=by
    rcases e:dg y with _ | ⟨z,zs⟩
    ·have:=aI y; rw [e] at this; exact absurd this.symm h0
    ·simp
   rw [if_pos hyl,e1,ab]
   simp only
   refine hJ (dg y,dg (x % y)) ⟨_,_,rfl,h2,Nat.lt_of_le_of_lt (eX (Nat.le_of_lt hm)) h2,?_⟩ (by simp only [aI]; exact eu_step h0)
   rw [<- h3,Nat.gcd_comm x y,Nat.gcd_rec y x,Nat.gcd_comm]
theorem gW (n l:Nat) (a b:Int) (ha:Fit l a) (hb:Fit l b) (h0:b ≠ 0) (hl:l < 5000) (hn:18446744073709551616 < n) :
  aZ_p n (L a) (L b) = some (Rt (Rat.divInt a b))/\(Rat.divInt a b).num.natAbs <= a.natAbs/\(Rat.divInt a b).den <= b.natAbs:=by
 have hg:0 < Nat.gcd a.natAbs b.natAbs:=Nat.gcd_pos_of_pos_right _ (by omega)
 have hgb:Nat.gcd a.natAbs b.natAbs <= b.natAbs:=Nat.gcd_le_right _ (by omega)
 have hgw:Fit l ((Nat.gcd a.natAbs b.natAbs:Nat):Int):=by unfold Fit at *; rw [Int.natAbs_natCast]; omega
 obtain ⟨x,hx⟩:((Nat.gcd a.natAbs b.natAbs:Nat):Int) ∣ a:=Int.ofNat_dvd_left.2 (Nat.gcd_dvd_left _ _)
 obtain ⟨y,hy⟩:((Nat.gcd a.natAbs b.natAbs:Nat):Int) ∣ b:=Int.ofNat_dvd_left.2 (Nat.gcd_dvd_right _ _)
 have hco:=Nat.coprime_div_gcd_div_gcd hg
 generalize Nat.gcd a.natAbs b.natAbs = g at *
 have hg0:(g:Int) ≠ 0:=by omega
 have e1:a / (g:Int) = x:=by rw [hx]; exact Int.mul_ediv_cancel_left _ hg0
 have e2:b / (g:Int) = y:=by rw [hy]; exact Int.mul_ediv_cancel_left _ hg0
 have e3:a.natAbs = g * x.natAbs:=by rw [hx,Int.natAbs_mul]; rfl
 have e4:b.natAbs = g * y.natAbs:=by rw [hy,Int.natAbs_mul]; rfl
 have hc:x.natAbs.Coprime y.natAbs:=by
  rw [e3,e4,Nat.mul_div_cancel_left _ hg,Nat.mul_div_cancel_left _ hg] at hco; exact hco
 have hxl:x.natAbs <= a.natAbs:=by rw [e3]; exact Nat.le_mul_of_pos_left _ hg
 have hyl:y.natAbs <= b.natAbs:=by rw [e4]; exact Nat.le_mul_of_pos_left _ hg
 have hy0:y ≠ 0:=fun e=>h0 (by rw [hy,e,Int.mul_zero])
 have eq:Rat.divInt a b = Rat.divInt x y:=by
  conv=>lhs; rw [hx,hy]
  exact Rat.divInt_mul_left hg0
 have xw:Fit l x:=Nat.lt_of_le_of_lt hxl ha
 have yw:Fit l y:=Nat.lt_of_le_of_lt hyl hb
 have gc:aF_p n (L a) (L b) = some (L g):=by
  have:=jV n l a b ha hb hl hn
  rw [this]
  have h5:Nat.gcd a.natAbs b.natAbs = g:=by
   rw [e3,e4,Nat.gcd_mul_left,show Nat.gcd x.natAbs y.natAbs = 1 from hc,Nat.mul_one]
  rw [h5]
 unfold aZ_p
 rw [gc,ab,lJ n l a g ha hgw hg0 hl hn,ab,lJ n l b g hb hgw hg0 hl hn,ab,e1,e2]
 simp only
 rw [eq]
 by_cases hs:y < 0
 ·rw [if_pos (by simpa [L] using hs),cG n l x xw (by omega) (by omega),ab,cG n l y yw (by omega) (by omega),ab]
  have h5:=ie (x:=-x) (y:=-y) (by omega) (by rwa [Int.natAbs_neg,Int.natAbs_neg])
  rw [Rat.neg_divInt_neg] at h5
  unfold Rt
  rw [h5.1,h5.2]
  exact ⟨rfl,by rw [Int.natAbs_neg]; exact hxl,by have:=h5.2; omega⟩
 ·rw [if_neg (by simpa [L] using hs)]
  have h5:=ie (x:=x) (y:=y) (by omega) hc
  unfold Rt
  rw [h5.1,h5.2]
  exact ⟨I,hxl,by have:=h5.2; omega⟩
set_option maxRecDepth 8000
abbrev T8:=Ua × Ua × Ua × Ua × Ua × Ua × Ua × Ua
def wv (t:T8):List Ua:=[t.1,t.2.1,t.2.2.1,t.2.2.2.1,t.2.2.2.2.1,t.2.2.2.2.2.1,t.2.2.2.2.2.2.1,t.2.2.2.2.2.2.2]
theorem jT:∀ {xs ys:List Ua},xs.length = ys.length -> val xs = val ys -> xs = ys
 | [],[],_,_=>rfl
 | x :: xs,[],h,_=>by simp at h
 | [],y :: ys,h,_=>by simp at h
 | x :: xs,y :: ys,h,e=>by
  simp only [val] at e
  have hx:=x.toNat_lt
  have hy:=y.toNat_lt
  have e1:x = y:=UInt64.toNat_inj.1 (by omega)
  have e2:val xs = val ys:=by omega
  rw [e1,jT (by simpa using h) e2]
theorem wv_inj {s t:T8} (h:val (wv s) = val (wv t)):s = t:=by
 have:=jT (by rfl) h
 unfold wv at this
 obtain ⟨s1,s2,s3,s4,s5,s6,s7,s8⟩:=s
 obtain ⟨t1,t2,t3,t4,t5,t6,t7,t8⟩:=t
 simp only [List.cons.injEq,and_true] at this
 simp only [Prod.mk.injEq]
 exact this
def HB:Nat:=9223372036854775808 * 18446744073709551616 ^ 7
def FB:Nat:=18446744073709551616 ^ 8
theorem eS:FB = 2 * HB:=by unfold FB HB; rfl
theorem dO:0 < HB:=by unfold HB; decide
theorem wv_lt (t:T8):val (wv t) < FB:=cC (wv t)
def Wn (m:Nat):T8:=(UInt64.ofNat m,UInt64.ofNat (m / 18446744073709551616),UInt64.ofNat (m / 18446744073709551616 / 18446744073709551616),UInt64.ofNat (m / 18446744073709551616 / 18446744073709551616 / 18446744073709551616),UInt64.ofNat (m / 18446744073709551616 / 18446744073709551616 / 18446744073709551616 / 18446744073709551616),UInt64.ofNat (m / 18446744073709551616 / 18446744073709551616 / 18446744073709551616 / 18446744073709551616 / 18446744073709551616),UInt64.ofNat (m / 18446744073709551616 / 18446744073709551616 / 18446744073709551616 / 18446744073709551616 / 18446744073709551616 / 18446744073709551616),UInt64.ofNat (m / 18446744073709551616 / 18446744073709551616 / 18446744073709551616 / 18446744073709551616 / 18446744073709551616 / 18446744073709551616 / 18446744073709551616))
theorem cg (m:Nat) (xs:List Ua) (h:val xs = m / 18446744073709551616):val (UInt64.ofNat m :: xs) = m:=by
 simp only [val]
 rw [UInt64.toNat_ofNat', h]
 exact Nat.mod_add_div m 18446744073709551616
theorem Wn_val {m:Nat} (h:m < FB):val (wv (Wn m)) = m:=by
 unfold wv Wn
 refine cg _ _ (cg _ _ (cg _ _ (cg _ _ (cg _ _ (cg _ _ (cg _ _ ?_))))))
 simp only [val]
 rw [UInt64.toNat_ofNat', Nat.mul_zero,Nat.add_zero]
 refine Nat.mod_eq_of_lt ?_
 simp only [Nat.div_div_eq_div_mul]
 refine Nat.div_lt_of_lt_mul ?_
 exact h
def Fw (z:Int):Prop:=-(HB:Int) <= z/\z < HB
def Wg (z:Int):T8:=Wn (z % (FB:Int)).toNat
theorem fR (z:Int):(val (wv (Wg z)):Int) = z % (FB:Int):=by
 have hp:=dO
 have hf:=eS
 have h0:=Int.emod_nonneg z (b:=(FB:Int)) (by omega)
 have h1:=Int.emod_lt_of_pos z (b:=(FB:Int)) (by omega)
 unfold Wg
 rw [Wn_val (by omega)]
 omega
theorem Wg_pos {z:Int} (h:Fw z) (h0:0 <= z):val (wv (Wg z)) = z.natAbs:=by
 have hp:=dO
 have hf:=eS
 have:=fR z
 rw [Int.emod_eq_of_lt h0 (by have:=h.2; omega)] at this
 omega
theorem Wg_neg {z:Int} (h:Fw z) (h0:z < 0):val (wv (Wg z)) + z.natAbs = FB:=by
 have hp:=dO
 have hf:=eS
 have:=fR z
 have e:z % (FB:Int) = z + FB:=by
  rw [<- Int.add_emod_right]
  exact Int.emod_eq_of_lt (by have:=h.1; omega) (by omega)
 rw [e] at this
 have:=h.1
 omega
theorem bM {s b c a c1 c2 Vs Vb Va K:Nat} (h1:s + b + c = a + 18446744073709551616 * c1) (h2:Vs + Vb + c1 = Va + K * c2):(s + 18446744073709551616 * Vs) + (b + 18446744073709551616 * Vb) + c = (a + 18446744073709551616 * Va) + 18446744073709551616 * K * c2:=by
 rw [Nat.mul_assoc]
 have:=congrArg (18446744073709551616 * ·) h2
 simp only [Nat.mul_add] at this
 omega
theorem gp (n:Nat) (a b:T8):∃ s c,aT_p n a b = some (s,c)/\val (wv s) + val (wv b) = val (wv a) + FB * c.toNat/\c.toNat <= 1:=by
 obtain ⟨a1,a2,a3,a4,a5,a6,a7,a8⟩:=a
 obtain ⟨b1,b2,b3,b4,b5,b6,b7,b8⟩:=b
 obtain ⟨s1,c1,e1,f1,g1⟩:=bw a1 b1 0 (by decide)
 obtain ⟨s2,c2,e2,f2,g2⟩:=bw a2 b2 c1 g1
 obtain ⟨s3,c3,e3,f3,g3⟩:=bw a3 b3 c2 g2
 obtain ⟨s4,c4,e4,f4,g4⟩:=bw a4 b4 c3 g3
 obtain ⟨s5,c5,e5,f5,g5⟩:=bw a5 b5 c4 g4
 obtain ⟨s6,c6,e6,f6,g6⟩:=bw a6 b6 c5 g5
 obtain ⟨s7,c7,e7,f7,g7⟩:=bw a7 b7 c6 g6
 obtain ⟨s8,c8,e8,f8,g8⟩:=bw a8 b8 c7 g7
 refine ⟨(s1,s2,s3,s4,s5,s6,s7,s8),c8,?_,?_,g8⟩
 ·unfold aT_p
  simp only [e1,e2,e3,e4,e5,e6,e7,e8,ab]
 ·have hFB:FB = 18446744073709551616 * (18446744073709551616 * (18446744073709551616 * (18446744073709551616 * (18446744073709551616 * (18446744073709551616 * (18446744073709551616 * (18446744073709551616 * 1))))))):=rfl
  have:=bM f1 (bM f2 (bM f3 (bM f4 (bM f5 (bM f6 (bM f7 (bM f8 (show 0 + 0 + c8.toNat = 0 + 1 * c8.toNat by omega))))))))
  rw [<- hFB,show (0:Ua).toNat = 0 from I,Nat.add_zero] at this
  simp only [wv,val]
  exact this
theorem ki (n:Nat) (a b:T8) (hn:10 < n):∃ c,aO_p n a b = some c/\(c < 0 ↔ val (wv a) < val (wv b))/\(c = 0 ↔ val (wv a) = val (wv b)):=by
 have hh:=aN (B:=aO_l1 n a b) (fun z:Int=>(z + 1).toNat) (fun z=>-1 <= z/\z < 8/\(wv a).drop (z + 1).toNat = (wv b).drop (z + 1).toNat)
  (fun r=>(r = .inl (-1)/\val (wv a) < val (wv b)) ∨ (r = .inl 1/\val (wv b) < val (wv a)) ∨ (r = .inr ()/\wv a = wv b)) ?_ n 7 ⟨by omega,by omega,I⟩ (by omega)
 ·obtain ⟨r,hr,h1 | h1 | h1⟩:=hh
  ·unfold aO_p
   rw [hr,h1.1]; exact ⟨_,rfl,by have:=h1.2; omega,by have:=h1.2; omega⟩
  ·unfold aO_p
   rw [hr,h1.1]; exact ⟨_,rfl,by have:=h1.2; omega,by have:=h1.2; omega⟩
  ·unfold aO_p
   rw [hr,h1.1,h1.2]; exact ⟨_,rfl,by omega,by omega⟩
 ·intro z J ⟨h1,h2,h3⟩ hJ
  unfold aO_l1
  simp only
  have la:(wv a).length = 8:=rfl
  have lb:(wv b).length = 8:=rfl
  by_cases h0:0 <= z
  ·have e1:(z + 1).toNat = z.toNat + 1:=by omega
   rw [e1] at h3
   rw [if_pos h0]
   show ∃ r,((idx (wv a) z).bind fun z64=>(idx (wv b) z).bind fun z68=>if z64 = z68 then (chk (z - 1)).bind fun s73=>J s73 else if z64 < z68 then some (Sum.inl (-1:Int)) else some (Sum.inl (1:Int))) = some r/\_
   rw [dj h0 (by omega),ab,dj h0 (by omega),ab]
   split
   ·rename_i he
    rw [cm (by omega) (by omega),ab]
    refine hJ (z - 1) ⟨by omega,by omega,?_⟩ (by omega)
    rw [show (z - 1 + 1).toNat = z.toNat by omega,List.drop_eq_getElem_cons (by omega),List.drop_eq_getElem_cons (l:=wv b) (by omega),h3,he]
   ·rename_i hne
    split
    ·rename_i hlt; exact ⟨_,I,.inl ⟨I,eU (by omega) (by omega) h3 hlt⟩⟩
    ·rename_i h5
     refine ⟨_,I,.inr (.inl ⟨I,eU (by omega) (by omega) h3.symm ?_⟩)⟩
     rw [UInt64.lt_iff_toNat_lt] at h5 ⊢
     have:((wv a)[z.toNat]'(by omega)).toNat ≠ ((wv b)[z.toNat]'(by omega)).toNat:=fun e=>hne (UInt64.toNat_inj.1 e)
     omega
  ·rw [if_neg h0]
   have e1:(z + 1).toNat = 0:=by omega
   rw [e1] at h3
   exact ⟨_,rfl,.inr (.inr ⟨rfl,by simpa using h3⟩)⟩
theorem hZ (t:T8):shrU t.2.2.2.2.2.2.2 63 = 1 ↔ HB <= val (wv t):=by
 obtain ⟨t1,t2,t3,t4,t5,t6,t7,t8⟩:=t
 have h1:=cC [t1,t2,t3,t4,t5,t6,t7]
 have e:val (wv (t1,t2,t3,t4,t5,t6,t7,t8)) = val [t1,t2,t3,t4,t5,t6,t7] + 18446744073709551616 ^ 7 * t8.toNat:=by
  have:=eb [t1,t2,t3,t4,t5,t6,t7] [t8]
  simp only [leC,leN] at this
  show val ([t1,t2,t3,t4,t5,t6,t7] ++ [t8]) = _
  rw [this]
  simp [val]
 rw [e]
 simp only [leC,leN] at h1
 have h8:=t8.toNat_lt
 have hs:(shrU t8 63).toNat = t8.toNat / 9223372036854775808:=bV t8 (by decide)
 have hsw:shrU t8 63 = 1 ↔ 9223372036854775808 <= t8.toNat:=by
  constructor
  ·intro h
   have:=congrArg UInt64.toNat h
   rw [hs] at this
   simp only [UInt64.toNat_one] at this
   omega
  ·intro h
   refine UInt64.toNat_inj.1 ?_
   rw [hs]
   simp only [UInt64.toNat_one]
   omega
 show shrU t8 63 = 1 ↔ _
 rw [hsw]
 unfold HB
 generalize val [t1,t2,t3,t4,t5,t6,t7] = lo at *
 generalize hP:(18446744073709551616:Nat) ^ 7 = P at *
 constructor
 ·intro h
  have:=Nat.mul_le_mul_left P h
  rw [Nat.mul_comm] at this
  omega
 ·intro h
  by_cases c:9223372036854775808 <= t8.toNat
  ·exact c
  ·exfalso
   have:=Nat.mul_le_mul_left P (show t8.toNat + 1 <= 9223372036854775808 by omega)
   rw [Nat.mul_add,Nat.mul_comm P 9223372036854775808] at this
   omega
theorem jY (n:Nat) (z:Int) (h:Fw z) (hn:10 < n):aY_p n (Wg z) = some (L z):=by
 have hp:=dO
 have hf:=eS
 have fin:∀ (b:Bool) (t:T8),val (wv t) = z.natAbs -> (b && decide (0 < z.natAbs)) = decide (z < 0) -> ((app ([]:List Ua) ([t.1,t.2.1,t.2.2.1,t.2.2.2.1,t.2.2.2.2.1,t.2.2.2.2.2.1,t.2.2.2.2.2.2.1,t.2.2.2.2.2.2.2]:List Ua)).bind fun xs=>(ay_p n b xs).bind fun y=>some y) = some (L z):=fun b t hv hb=>by
  show ((app ([]:List Ua) (wv t)).bind fun xs=>(ay_p n b xs).bind fun y=>some y) = some (L z)
  rw [appS [] (wv t) (by show 0 + 8 <= 1000000; decide),ab,List.nil_append,aJ n b (wv t) (by show 8 < n; omega) (by show 8 <= 4294967296; decide),ab,hv,hb]
  rfl
 unfold aY_p bP_p
 by_cases h0:z < 0
 ·have hv:=Wg_neg h h0
  have hge:HB <= val (wv (Wg z)):=by have:=h.1; omega
  obtain ⟨s,c,e,e2,e3⟩:=gp n (0,0,0,0,0,0,0,0) (Wg z)
  have hz:val (wv ((0,0,0,0,0,0,0,0):T8)) = 0:=rfl
  rw [hz] at e2
  have hs:=wv_lt s
  have hc:c.toNat = 1:=by
   by_cases hc0:c.toNat = 0
   ·rw [hc0] at e2; omega
   ·omega
  rw [hc] at e2
  rw [if_pos ((hZ _).2 hge),e,ab,ab]
  exact fin _ s (by omega) (by rw [decide_eq_true ((hZ _).2 hge),decide_eq_true (by omega:0 < z.natAbs),decide_eq_true h0]; rfl)
 ·have hv:=Wg_pos h (by omega)
  have hlt:¬ shrU (Wg z).2.2.2.2.2.2.2 63 = 1:=fun e=>by have:=(hZ _).1 e; have:=h.2; omega
  rw [if_neg hlt,ab]
  exact fin _ (Wg z) hv (by rw [decide_eq_false hlt,decide_eq_false h0]; rfl)
theorem lK {z:Int} {t:T8} (h:(val (wv t):Int) = z % (FB:Int)):t = Wg z:=wv_inj (by have:=fR z; omega)
theorem kO {ws:List Ua} (h:ws.length <= 8):val (wv (aO ws 0 0,aO ws 1 0,aO ws 2 0,aO ws 3 0,aO ws 4 0,aO ws 5 0,aO ws 6 0,aO ws 7 0)) = val ws:=by
 unfold wv aO
 rcases ws with _ | ⟨a,_ | ⟨b,_ | ⟨c,_ | ⟨d,_ | ⟨e,_ | ⟨f,_ | ⟨g,_ | ⟨i,_ | ⟨j,xs⟩⟩⟩⟩⟩⟩⟩⟩⟩
 any_goals simp [val]
 simp only [leC] at h
 omega
open Classical in
theorem toldG (n:Nat) (z:Int) (hn:10 < n):bg_p n (L z) = some (if Fw z then (Wg z,0) else ((0,0,0,0,0,0,0,0),6)):=by
 have hp:=dO
 have hf:=eS
 have hdg:=aI z.natAbs
 unfold bg_p
 by_cases hl:8 < (dg z.natAbs).length
 ·have h1:=gU (gd z.natAbs) (by intro e; rw [e] at hl; simp at hl)
  have h2:18446744073709551616 ^ 8 <= 18446744073709551616 ^ ((dg z.natAbs).length - 1):=Nat.pow_le_pow_right (by decide) (by omega)
  have hbig:FB <= z.natAbs:=by unfold FB; omega
  rw [if_pos (show 8 < (L z).fj.length from hl),if_neg fun h:Fw z=>by have:=h.1; have:=h.2; omega]
 ·have hv:=kO (ws:=dg z.natAbs) (by omega)
  rw [if_neg (show ¬ 8 < (L z).fj.length from hl)]
  show ((bq_p n ⟨decide (z < 0),(aO (dg z.natAbs) 0 0,aO (dg z.natAbs) 1 0,aO (dg z.natAbs) 2 0,aO (dg z.natAbs) 3 0,aO (dg z.natAbs) 4 0,aO (dg z.natAbs) 5 0,aO (dg z.natAbs) 6 0,aO (dg z.natAbs) 7 0)⟩).bind _) = _
  generalize hT:((aO (dg z.natAbs) 0 0,aO (dg z.natAbs) 1 0,aO (dg z.natAbs) 2 0,aO (dg z.natAbs) 3 0,aO (dg z.natAbs) 4 0,aO (dg z.natAbs) 5 0,aO (dg z.natAbs) 6 0,aO (dg z.natAbs) 7 0):T8) = t at *
  rw [hdg] at hv
  unfold bq_p
  obtain ⟨c,ec,c1,c2⟩:=ki n t (0,0,0,0,0,0,0,9223372036854775808) hn
  have hlim:val (wv ((0,0,0,0,0,0,0,9223372036854775808):T8)) = HB:=by decide
  rw [hlim,hv] at c1 c2
  simp only
  rw [ec,ab]
  obtain ⟨s,cc,e,e2,e3⟩:=gp n (0,0,0,0,0,0,0,0) t
  have hz:val (wv ((0,0,0,0,0,0,0,0):T8)) = 0:=rfl
  rw [hz,hv] at e2
  have hs:=wv_lt s
  have neg:z < 0 -> Fw z -> s = Wg z:=fun h0 hw=>by
   refine lK ?_
   have hc:cc.toNat = 1:=by
    by_cases hc0:cc.toNat = 0
    ·rw [hc0] at e2; omega
    ·omega
   rw [hc] at e2
   have e5:z % (FB:Int) = z + FB:=by
    rw [<- Int.add_emod_right]
    exact Int.emod_eq_of_lt (by have:=hw.1; omega) (by omega)
   rw [e5]; omega
  by_cases g1:0 < c
  ·rw [if_pos g1,ab,if_neg fun h:Fw z=>by have:=h.1; have:=h.2; omega]
  ·rw [if_neg g1]
   by_cases g2:c = 0
   ·rw [if_pos g2]
    by_cases h0:z < 0
    ·have hw:Fw z:=⟨by omega,by omega⟩
     rw [if_pos (decide_eq_true h0),e,ab,ab,if_pos hw,neg h0 hw]
    ·rw [if_neg (by simpa using h0),ab,if_neg fun h:Fw z=>by have:=h.2; omega]
   ·rw [if_neg g2]
    by_cases h0:z < 0
    ·have hw:Fw z:=⟨by omega,by omega⟩
     rw [if_pos (decide_eq_true h0),e,ab,ab,if_pos hw,neg h0 hw]
    ·have hw:Fw z:=⟨by omega,by omega⟩
     rw [if_neg (by simpa using h0),ab,if_pos hw]
     rw [show t = Wg z from lK (by rw [Int.emod_eq_of_lt (by omega) (by have:=hw.2; omega)]; omega)]
set_option maxRecDepth 8000
def Sg (q:Rat):Ta:=⟨Wg q.num,Wg q.den⟩
def FQ (q:Rat):Prop:=Fw q.num/\Fw (q.den:Int)
def noS:Ta:=⟨(0,0,0,0,0,0,0,0),(0,0,0,0,0,0,0,0)⟩
theorem Fw.fit {z:Int} (h:Fw z):Fit 8 z:=by
 have h1:=eS
 have h2:=dO
 unfold Fit
 show z.natAbs < FB
 have:=h.1
 have:=h.2
 omega
theorem FQ.n {q:Rat} (h:FQ q):Fit 8 q.num:=h.1.fit
theorem FQ.d {q:Rat} (h:FQ q):Fit 8 (q.den:Int):=h.2.fit
theorem FQ.ndnz {q:Rat}:(q.den:Int) ≠ 0:=by have:=q.den_pos; omega
theorem W8_Wg {z:Int} (h:Sm z):W8 z = Wg z:=by
 have hp:9223372036854775808 <= HB:=by unfold HB; decide
 have hf:=eS
 refine lK ?_
 unfold W8
 by_cases h0:z < 0
 ·have e5:z % (FB:Int) = z + FB:=by
   rw [<- Int.add_emod_right]
   exact Int.emod_eq_of_lt (by unfold Sm at h; omega) (by omega)
  rw [if_pos h0,e5]
  have hv:val (wv ((ai z,18446744073709551615,18446744073709551615,18446744073709551615,18446744073709551615,18446744073709551615,18446744073709551615,18446744073709551615):T8)) = (ai z).toNat + 18446744073709551616 * val [18446744073709551615,18446744073709551615,18446744073709551615,18446744073709551615,18446744073709551615,18446744073709551615,18446744073709551615]:=rfl
  have hc:18446744073709551616 * val [18446744073709551615,18446744073709551615,18446744073709551615,18446744073709551615,18446744073709551615,18446744073709551615,18446744073709551615] + 18446744073709551616 = FB:=by decide
  rw [hv,eV h h0]
  unfold Sm at h
  omega
 ·rw [if_neg h0,Int.emod_eq_of_lt (by omega) (by unfold Sm at h; omega)]
  have hv:val (wv ((ai z,0,0,0,0,0,0,0):T8)) = (ai z).toNat:=by unfold wv; simp [val]
  rw [hv,fp h h0,cj h.w]
  omega
theorem Sh_Sg {q:Rat} (h1:Sm q.num) (h2:Sm (q.den:Int)):Sh q = Sg q:=by unfold Sh Sg; rw [W8_Wg h1,W8_Wg h2]
theorem lj {x y:Int} (hx:Fw x) (hy:Fw y) (e:Wg x = Wg y):x = y:=by
 have h1:=fR x
 have h2:=fR y
 rw [e,h2] at h1
 have hf:=eS
 have hp:=dO
 have a:=hx.1; have b:=hx.2; have c:=hy.1; have d:=hy.2
 have e3:=Int.emod_eq_emod_iff_emod_sub_eq_zero.1 h1
 obtain ⟨k,hk⟩:=Int.dvd_of_emod_eq_zero e3
 by_cases k0:k = 0
 ·rw [k0,Int.mul_zero] at hk; omega
 ·by_cases kp:1 <= k
  ·have:(FB:Int) * 1 <= FB * k:=Int.mul_le_mul_of_nonneg_left kp (by omega)
   omega
  ·have:(FB:Int) * k <= FB * (-1):=Int.mul_le_mul_of_nonneg_left (show k <= -1 by omega) (by omega)
   omega
theorem gX {x y:Rat} (hx:FQ x) (hy:FQ y) (e:Sg x = Sg y):x = y:=by
 unfold Sg at e
 injection e with e1 e2
 have h1:=lj hx.1 hy.1 e1
 have h2:=lj hx.2 hy.2 e2
 exact Rat.ext h1 (by omega)
theorem cY (n:Nat) (q:Rat) (h:FQ q) (hn:10 < n):am_p n (Sg q) = some (Rt q):=by
 unfold am_p
 rw [show (Sg q).fN = Wg q.num from I,show (Sg q).fD = Wg q.den from I,jY n _ h.1 hn,ab,jY n _ h.2 hn,ab]
 rfl
open Classical in
theorem rtoldG (n:Nat) (q:Rat) (hn:10 < n):ak_p n (Rt q) = some (if FQ q then (Sg q,0) else (noS,6)):=by
 unfold ak_p
 rw [show (Rt q).fh = L q.num from I,show (Rt q).fe = L q.den from I,toldG n _ hn,ab,toldG n _ hn,ab]
 by_cases h1:Fw q.num
 ·by_cases h2:Fw (q.den:Int)
  ·rw [if_pos h1,if_pos h2,if_pos (show FQ q from ⟨h1,h2⟩)]
   rfl
  ·rw [if_pos h1,if_neg h2,if_neg fun h:FQ q=>h2 h.2]
   rfl
 ·rw [if_neg h1,if_neg fun h:FQ q=>h1 h.1]
  rfl
theorem jq (n:Nat) (q:Rat) (h:FQ q) (hn:18446744073709551616 < n):bw_p n (Sg q) = some 0:=by
 have hd:=q.den_pos
 unfold bw_p
 rw [gN n 1 (by unfold Sm; decide) (by omega),ab,cY n q h (by omega),ab,show (Rt q).fh = L q.num from I,show (Rt q).fe = L q.den from I,fo,ab,Int.sign_eq_one_of_pos (by omega),if_neg (by decide)]
 rw [jV n 8 _ _ h.n h.d (by decide) hn,ab,show Nat.gcd q.num.natAbs (q.den:Int).natAbs = 1 from q.reduced]
 unfold bt_p
 rw [iC n 1 _ _ (by unfold Fit; decide) (by unfold Fit; decide) (by omega) (by omega),ab,fo]
 rfl
theorem Fit.mul {l m:Nat} {a b:Int} (ha:Fit l a) (hb:Fit m b):Fit (l + m) (a * b):=by
 unfold Fit at *
 rw [Int.natAbs_mul,Nat.pow_add]
 exact Nat.mul_lt_mul'' ha hb
theorem Fit.add {l:Nat} {a b:Int} (ha:Fit l a) (hb:Fit l b):Fit (l + 1) (a + b):=by
 unfold Fit at *
 have:2 * 18446744073709551616 ^ l <= 18446744073709551616 ^ (l + 1):=by rw [Nat.pow_succ,Nat.mul_comm]; exact Nat.mul_le_mul_left _ (by decide)
 omega
theorem Fit.mono {l m:Nat} {a:Int} (ha:Fit l a) (h:l <= m):Fit m a:=Nat.lt_of_lt_of_le ha (Nat.pow_le_pow_right (by decide) h)
structure RF (l:Nat) (q:Rat):Prop where
 n:Fit l q.num
 d:Fit l (q.den:Int)
theorem FQ.rf {q:Rat} (h:FQ q):RF 8 q:=⟨h.n,h.d⟩
theorem RF.of {l:Nat} {a b:Int} (ha:Fit l a) (hb:Fit l b) (h1:(Rat.divInt a b).num.natAbs <= a.natAbs) (h2:(Rat.divInt a b).den <= b.natAbs):RF l (Rat.divInt a b):=
 ⟨Nat.lt_of_le_of_lt h1 ha,by unfold Fit; rw [Int.natAbs_natCast]; exact Nat.lt_of_le_of_lt h2 hb⟩
theorem lV (n l:Nat) (a b:Rat) (ha:RF l a) (hb:RF l b) (hl:l < 1000) (hn:18446744073709551616 < n):ae_p n (Rt a) (Rt b) = some (Rt (a + b))/\RF (l + l + 1) (a + b):=by
 have d0:(a.den:Int) * b.den ≠ 0:=Int.mul_ne_zero FQ.ndnz FQ.ndnz
 have e:a + b = Rat.divInt (a.num * b.den + b.num * a.den) (a.den * b.den):=by
  conv=>lhs; rw [<- Rat.num_divInt_den a,<- Rat.num_divInt_den b]
  exact Rat.divInt_add_divInt _ _ FQ.ndnz FQ.ndnz
 have f1:=(ha.n.mul hb.d).add (hb.n.mul ha.d)
 have f2:=(ha.d.mul hb.d).mono (show l + l <= l + l + 1 by omega)
 obtain ⟨e1,e2,e3⟩:=gW n (l + l + 1) _ _ f1 f2 d0 (by omega) hn
 rw [<- e] at e1 e2 e3
 refine ⟨?_,?_⟩
 ·unfold ae_p Rt
  rw [bv n l l _ _ ha.n hb.d (by omega) (by omega),ab,bv n l l _ _ hb.n ha.d (by omega) (by omega),ab,dx n (l + l) _ _ (ha.n.mul hb.d) (hb.n.mul ha.d) (by omega) (by omega),ab,bv n l l _ _ ha.d hb.d (by omega) (by omega),ab,e1]
  rfl
 ·rw [e]; rw [e] at e2 e3; exact RF.of f1 f2 e2 e3
theorem timesG (n l:Nat) (a b:Rat) (ha:RF l a) (hb:RF l b) (hl:l < 1000) (hn:18446744073709551616 < n):aw_p n (Rt a) (Rt b) = some (Rt (a * b))/\RF (l + l) (a * b):=by
 have d0:(a.den:Int) * b.den ≠ 0:=Int.mul_ne_zero FQ.ndnz FQ.ndnz
 have e:a * b = Rat.divInt (a.num * b.num) (a.den * b.den):=by
  conv=>lhs; rw [<- Rat.num_divInt_den a,<- Rat.num_divInt_den b]
  exact Rat.divInt_mul_divInt _ _
 have f1:=ha.n.mul hb.n
 have f2:=ha.d.mul hb.d
 obtain ⟨e1,e2,e3⟩:=gW n (l + l) _ _ f1 f2 d0 (by omega) hn
 rw [<- e] at e1 e2 e3
 refine ⟨?_,?_⟩
 ·unfold aw_p Rt
  rw [bv n l l _ _ ha.n hb.n (by omega) (by omega),ab,bv n l l _ _ ha.d hb.d (by omega) (by omega),ab,e1]
  rfl
 ·rw [e]; rw [e] at e2 e3; exact RF.of f1 f2 e2 e3
theorem overG (n l:Nat) (a b:Rat) (ha:RF l a) (hb:RF l b) (h0:b ≠ 0) (hl:l < 1000) (hn:18446744073709551616 < n):br_p n (Rt a) (Rt b) = some (Rt (a / b))/\RF (l + l) (a / b):=by
 have b0:b.num ≠ 0:=fun e=>h0 (Rat.num_eq_zero.1 e)
 have d0:(a.den:Int) * b.num ≠ 0:=Int.mul_ne_zero FQ.ndnz b0
 have e:a / b = Rat.divInt (a.num * b.den) (a.den * b.num):=by
  conv=>lhs; rw [Rat.div_def,<- Rat.num_divInt_den a,<- Rat.num_divInt_den b,Rat.inv_divInt]
  exact Rat.divInt_mul_divInt _ _
 have f1:=ha.n.mul hb.d
 have f2:=ha.d.mul hb.n
 obtain ⟨e1,e2,e3⟩:=gW n (l + l) _ _ f1 f2 d0 (by omega) hn
 rw [<- e] at e1 e2 e3
 refine ⟨?_,?_⟩
 ·unfold br_p Rt
  rw [bv n l l _ _ ha.n hb.d (by omega) (by omega),ab,bv n l l _ _ ha.d hb.n (by omega) (by omega),ab,e1]
  rfl
 ·rw [e]; rw [e] at e2 e3; exact RF.of f1 f2 e2 e3
section
set_option maxRecDepth 8000
theorem div_num {a b:Int} (hb:b ≠ 0):(Rat.divInt a b).num * b = a * (Rat.divInt a b).den:=by
 have h:=Rat.num_divInt_den (Rat.divInt a b)
 exact (Rat.divInt_eq_divInt_iff FQ.ndnz hb).1 h
theorem lg {a b:Int} (hb:b ≠ 0):(Rat.divInt a b).num.natAbs <= a.natAbs/\(Rat.divInt a b).den <= b.natAbs:=by
 have h:=congrArg Int.natAbs (div_num (a:=a) hb)
 rw [Int.natAbs_mul,Int.natAbs_mul,Int.natAbs_natCast] at h
 have hc:=(Rat.divInt a b).reduced
 have hd:=(Rat.divInt a b).den_pos
 generalize (Rat.divInt a b).num.natAbs = x at *
 generalize (Rat.divInt a b).den = y at *
 have hbp:0 < b.natAbs:=by omega
 constructor
 ·by_cases h0:a.natAbs = 0
  ·rw [h0,Nat.zero_mul] at h
   rcases Nat.mul_eq_zero.1 h with h1 | h1
   ·omega
   ·omega
  ·exact Nat.le_of_dvd (by omega) (hc.dvd_of_dvd_mul_right (by rw [<- h]; exact Nat.dvd_mul_right ..))
 ·exact Nat.le_of_dvd hbp (hc.symm.dvd_of_dvd_mul_left (by rw [h]; exact Nat.dvd_mul_left ..))
def Bt (i j:Nat) (q:Rat):Prop:=q.num.natAbs < 2 ^ i/\q.den < 2 ^ j
theorem Bt.mono {i j i' j' : Nat} {q:Rat} (h:Bt i j q) (hi:i <= i') (hj:j <= j'):Bt i' j' q:=⟨Nat.lt_of_lt_of_le h.1 (Nat.pow_le_pow_right (by decide) hi),Nat.lt_of_lt_of_le h.2 (Nat.pow_le_pow_right (by decide) hj)⟩
theorem hb_pow (w:Nat):9223372036854775808 * 18446744073709551616 ^ w = 2 ^ (63 + 64 * w):=by
 rw [Nat.pow_add,<- dI]
def hbl:Nat:=511
theorem hb_pow' {w l:Nat} (h:l = 63 + 64 * w):9223372036854775808 * 18446744073709551616 ^ w = 2 ^ l:=by subst h; exact hb_pow w
theorem lw:HB = 2 ^ hbl:=hb_pow' (w:=7) (l:=hbl) rfl
theorem Bt.fq {i j:Nat} {q:Rat} (h:Bt i j q) (hi:i <= 500) (hj:j <= 500):FQ q:=by
 have e:hbl = 511:=rfl
 have h1:2 ^ i <= HB:=by rw [lw]; exact Nat.pow_le_pow_right (by decide) (by omega)
 have h2:2 ^ j <= HB:=by rw [lw]; exact Nat.pow_le_pow_right (by decide) (by omega)
 have h3:=h.1
 have h4:=h.2
 exact ⟨⟨by omega,by omega⟩,⟨by omega,by omega⟩⟩
theorem Bt.of {i j:Nat} {a b:Int} (hb:b ≠ 0) (h1:a.natAbs < 2 ^ i) (h2:b.natAbs < 2 ^ j):Bt i j (Rat.divInt a b):=by
 obtain ⟨d1,d2⟩:=lg (a:=a) hb
 exact ⟨by omega,by omega⟩
theorem ii {a b i j:Nat} (ha:a < 2 ^ i) (hb:b < 2 ^ j):a * b < 2 ^ (i + j):=by
 rw [Nat.pow_add]; exact Nat.mul_lt_mul'' ha hb
theorem Bt.add {i1 j1 i2 j2 i:Nat} {a b:Rat} (ha:Bt i1 j1 a) (hb:Bt i2 j2 b) (h1:i1 + j2 + 1 <= i) (h2:i2 + j1 + 1 <= i):Bt i (j1 + j2) (a + b):=by
 have d0:(a.den:Int) * b.den ≠ 0:=Int.mul_ne_zero FQ.ndnz FQ.ndnz
 have e:a + b = Rat.divInt (a.num * b.den + b.num * a.den) (a.den * b.den):=by
  conv=>lhs; rw [<- Rat.num_divInt_den a,<- Rat.num_divInt_den b]
  exact Rat.divInt_add_divInt _ _ FQ.ndnz FQ.ndnz
 have m1:(a.num * b.den).natAbs < 2 ^ (i1 + j2):=by rw [Int.natAbs_mul,Int.natAbs_natCast]; exact ii ha.1 hb.2
 have m2:(b.num * a.den).natAbs < 2 ^ (i2 + j1):=by rw [Int.natAbs_mul,Int.natAbs_natCast]; exact ii hb.1 ha.2
 have p1:2 ^ (i1 + j2) <= 2 ^ (i - 1):=Nat.pow_le_pow_right (by decide) (by omega)
 have p2:2 ^ (i2 + j1) <= 2 ^ (i - 1):=Nat.pow_le_pow_right (by decide) (by omega)
 have p3:2 ^ i = 2 * 2 ^ (i - 1):=by rw [<- Nat.pow_succ']; congr 1; omega
 rw [e]
 exact Bt.of d0 (by omega) (by rw [Int.natAbs_mul,Int.natAbs_natCast,Int.natAbs_natCast]; exact ii ha.2 hb.2)
section
variable {n:Nat} {a b:Rat}
end
end
set_option maxRecDepth 8000
def FU:Nat:=18446744073709552000
theorem aT:(18446744073709551616:Nat) < FU:=by decide
theorem sof {a b:Int} (h0:b ≠ 0) (ha:Sm a) (hb:Sm b):bO_p FU a b = some (Sg (Rat.divInt a b),0):=by
 obtain ⟨d1,d2⟩:=lg (a:=a) h0
 rw [iw FU a b ha hb h0 aT,Sh_Sg (by unfold Sm at *; omega) (by unfold Sm at *; omega)]
theorem fZ {ε:Type}:∀ {l:List ε} {e:ε} {r:List ε},(e,r) ∈ cK l -> (e :: r).Perm l
 | [],e,r,h=>by cases h
 | x :: xs,e,r,h=>by
  rw [cK] at h
  rcases List.mem_cons.1 h with h | h
  ·cases h; exact .refl _
  ·obtain ⟨⟨e', r'⟩,h1,h2⟩:=List.mem_map.1 h
   cases h2
   exact (List.Perm.swap x e' r').trans ((fZ h1).cons x)
theorem fK {ε γ α:Type} [DecidableEq α] {X:γ -> Oa α} {B:ε -> (γ -> Oa α) -> γ -> Oa α} {D:List ε} (f:γ -> ε -> γ) (I:Nat -> γ -> Prop) (r:α)
  (hB:∀ k e J s,I (k + 1) s -> e ∈ D -> B e J s = J (f s e)/\I k (f s e)) :
  ∀ (n:Nat) (l:List ε) (s:γ),l.length <= n -> (∀ e ∈ l,e ∈ D) -> I l.length s -> (∀ l' : List ε,l'.Perm l -> X (l'.foldl f s) = some r) -> mloop X B n l s = some r
 | n,[],s,_,_,_,h=>by
  have:mloop X B n [] s = X s:=by cases n <;> rfl
  rw [this]
  exact h [] (.refl _)
 | 0,x :: xs,s,hl,_,_,_=>by simp at hl
 | n + 1,x :: xs,s,hl,hm,hI,h=>by
  rw [mloop]
  refine jz (by simp [cK]) fun y hy=>?_
  obtain ⟨⟨e,q⟩,h1,rfl⟩:=List.mem_map.1 hy
  have hp:=fZ h1
  have hlen:=hp.length_eq
  rw [leC] at hlen
  rw [<- hlen] at hI
  obtain ⟨h2,h3⟩:=hB q.length e (mloop X B n q) s hI (hm e (hp.mem_iff.1 (List.mem_cons_self ..)))
  simp only
  rw [h2]
  refine fK f I r hB n q (f s e) (by rw [leC] at hl; rw [leC] at hlen; omega) (fun z hz=>hm z (hp.mem_iff.1 (List.mem_cons_of_mem _ hz))) h3 fun l' hl' =>?_
  have:=h (e :: l') ((hl'.cons e).trans hp)
  rw [List.foldl_cons] at this
  exact this
def sW:List (Rat × Rat) -> Rat
 | []=>0
 | e :: l=>e.2 + sW l
def wt (x:Rat):List (Rat × Rat) -> Rat
 | []=>0
 | e :: l=>(if e.1 = x then e.2 else 0) + wt x l
theorem hS {l m:List (Rat × Rat)} (h:l.Perm m):sW l = sW m:=by
 induction h with
 | nil=>rfl
 | cons x _ ih=>show x.2 + _ = x.2 + _; rw [ih]
 | swap x y l=>show y.2 + (x.2 + sW l) = x.2 + (y.2 + sW l); grind
 | trans _ _ h1 h2=>rw [h1,h2]
theorem eC:∀ l m:List (Rat × Rat),sW (l ++ m) = sW l + sW m
 | [],m=>by show sW m = 0 + sW m; grind
 | e :: l,m=>by show e.2 + sW (l ++ m) = e.2 + sW l + sW m; rw [eC l m]; grind
theorem jm (x:Rat):∀ l m:List (Rat × Rat),wt x (l ++ m) = wt x l + wt x m
 | [],m=>by show wt x m = 0 + wt x m; grind
 | e :: l,m=>by show (if e.1 = x then e.2 else 0) + wt x (l ++ m) = (if e.1 = x then e.2 else 0) + wt x l + wt x m; rw [jm x l m]; grind
theorem ft {x:Rat}:∀ {l:List (Rat × Rat)},x ∉ l.map (·.1) -> wt x l = 0
 | [],_=>rfl
 | e :: l,h=>by
  rw [List.map_cons,List.mem_cons,not_or] at h
  show (if e.1 = x then e.2 else 0) + wt x l = 0
  rw [if_neg (fun hc=>h.1 hc.symm),ft h.2]; grind
theorem dL {e:Rat × Rat}:∀ {l:List (Rat × Rat)},(l.map (·.1)).Nodup -> e ∈ l -> wt e.1 l = e.2
 | [],_,h=>by cases h
 | d :: l,hn,h=>by
  rw [List.map_cons,List.nodup_cons] at hn
  show (if d.1 = e.1 then d.2 else 0) + wt e.1 l = e.2
  rcases List.mem_cons.1 h with rfl | h
  ·rw [if_pos I,ft hn.1]; grind
  ·rw [if_neg (fun hc:d.1 = e.1=>hn.1 (by rw [hc]; exact List.mem_map.2 ⟨e,h,rfl⟩)),dL hn.2 h]; grind
def gh (D:List (Rat × Rat)) (e:Rat × Rat):List (Rat × Rat):=aB D e.1 (match bc D e.1 with
 | none=>e.2
 | some o=>e.2 + o)
theorem fI {x y:Rat}:∀ {D:List (Rat × Rat)},bc D x = some y -> (x,y) ∈ D
 | [],h=>by cases h
 | d :: D,h=>by
  rw [bc] at h
  split at h
  ·rename_i hx
   cases h
   rw [hx]
   exact List.mem_cons_self ..
  ·exact List.mem_cons_of_mem _ (fI h)
theorem iB {x:Rat}:∀ {D:List (Rat × Rat)},bc D x = none ↔ x ∉ D.map (·.1)
 | []=>by simp [bc]
 | d :: D=>by
  rw [bc,List.map_cons,List.mem_cons,not_or]
  by_cases hx:x = d.1
  ·rw [if_pos hx]; simp [hx]
  ·rw [if_neg hx,iB]; simp [hx]
theorem eL (x v y:Rat):∀ D:List (Rat × Rat),y ∈ (aB D x v).map (·.1) ↔ y ∈ D.map (·.1) ∨ y = x
 | []=>by simp [aB]
 | d :: D=>by
  rw [aB]
  by_cases hx:x = d.1
  ·rw [if_pos hx,List.map_cons,List.map_cons,List.mem_cons,List.mem_cons]
   constructor
   ·rintro (h | h)
    ·exact .inr h
    ·exact .inl (.inr h)
   ·rintro ((h | h) | h)
    ·exact .inl (h.trans hx.symm)
    ·exact .inr h
    ·exact .inl h
  ·rw [if_neg hx,List.map_cons,List.map_cons,List.mem_cons,List.mem_cons,eL x v y D,or_assoc]
theorem gb (x v:Rat):∀ {D:List (Rat × Rat)},(D.map (·.1)).Nodup -> ((aB D x v).map (·.1)).Nodup
 | [],_=>by simp [aB]
 | d :: D,h=>by
  rw [aB]
  rw [List.map_cons,List.nodup_cons] at h
  by_cases hx:x = d.1
  ·rw [if_pos hx,List.map_cons,List.nodup_cons]; exact ⟨hx ▸ h.1,h.2⟩
  ·rw [if_neg hx,List.map_cons,List.nodup_cons,eL]
   exact ⟨fun hc=>hc.elim h.1 fun hc=>hx hc.symm,gb x v h.2⟩
theorem iy (x v:Rat):∀ D:List (Rat × Rat),(aB D x v).length <= D.length + 1
 | []=>by simp [aB]
 | d :: D=>by
  rw [aB]
  split
  ·simp
  ·have:=iy x v D; simp only [leC]; omega
theorem jI (x v y:Rat):∀ {D:List (Rat × Rat)},(D.map (·.1)).Nodup -> wt y (aB D x v) = wt y D + (if x = y then v - wt x D else 0)
 | [],_=>by
  show (if x = y then v else 0) + 0 = 0 + (if x = y then v - 0 else 0)
  split <;> grind
 | d :: D,h=>by
  rw [List.map_cons,List.nodup_cons] at h
  rw [aB]
  by_cases hx:x = d.1
  ·rw [if_pos hx]
   show (if x = y then v else 0) + wt y D = (if d.1 = y then d.2 else 0) + wt y D + (if x = y then v - ((if d.1 = x then d.2 else 0) + wt x D) else 0)
   rw [<- hx] at h ⊢
   rw [if_pos I,ft h.1]
   split <;> grind
  ·rw [if_neg hx]
   show (if d.1 = y then d.2 else 0) + wt y (aB D x v) = (if d.1 = y then d.2 else 0) + wt y D + (if x = y then v - ((if d.1 = x then d.2 else 0) + wt x D) else 0)
   rw [jI x v y h.2,if_neg (show ¬ d.1 = x from fun hc=>hx hc.symm)]
   grind
theorem mget_wt {D:List (Rat × Rat)} (h:(D.map (·.1)).Nodup) (x:Rat):(match bc D x with
  | none=>(0:Rat)
  | some o=>o) = wt x D:=by
 cases hg:bc D x with
 | none=>exact (ft (iB.1 hg)).symm
 | some o=>exact (dL (e:=(x,o)) h (fI hg)).symm
structure Gat (P D:List (Rat × Rat)):Prop where
 nd:(D.map (·.1)).Nodup
 keys:∀ x,x ∈ D.map (·.1) ↔ x ∈ P.map (·.1)
 wts:∀ x,wt x D = wt x P
 len:D.length <= P.length
theorem Gat.nil:Gat [] []:=⟨by simp,fun x=>by simp,fun x=>rfl,Nat.le_refl _⟩
theorem Gat.add {P D:List (Rat × Rat)} (h:Gat P D) (e:Rat × Rat):Gat (P ++ [e]) (gh D e):=by
 have hv:(match bc D e.1 with | none=>e.2 | some o=>e.2 + o) = e.2 + wt e.1 D:=by
  rw [<- mget_wt h.nd e.1]
  cases bc D e.1 with
  | none=>show e.2 = e.2 + 0; grind
  | some o=>rfl
 refine ⟨gb _ _ h.nd,fun x=>?_,fun x=>?_,Nat.le_trans (iy _ _ _) (by rw [List.length_append]; exact Nat.add_le_add_right h.len 1)⟩
 ·unfold gh
  rw [eL,h.keys,List.map_append,List.mem_append]
  simp
 ·unfold gh
  rw [hv,jI _ _ _ h.nd,jm,h.wts]
  show wt x P + (if e.1 = x then e.2 + wt e.1 D - wt e.1 D else 0) = wt x P + ((if e.1 = x then e.2 else 0) + 0)
  split <;> grind
theorem Gat.mem {P D:List (Rat × Rat)} (h:Gat P D) (e:Rat × Rat):e ∈ D ↔ e.1 ∈ P.map (·.1)/\e.2 = wt e.1 P:=by
 constructor
 ·intro he
  exact ⟨(h.keys _).1 (List.mem_map.2 ⟨e,he,rfl⟩),by rw [<- h.wts,dL h.nd he]⟩
 ·rintro ⟨h1,h2⟩
  obtain ⟨d,hd,he⟩:=List.mem_map.1 ((h.keys _).2 h1)
  have h3:=dL h.nd hd
  rw [he,h.wts,<- h2] at h3
  have:d = e:=Prod.ext he h3.symm
  exact this ▸ hd
def Up (l:List (Rat × Rat)):Prop:=l.Pairwise fun a b=>¬ b.1 <= a.1
theorem Up.nodup {l:List (Rat × Rat)} (h:Up l):(l.map (·.1)).Nodup:=by
 rw [List.Nodup,List.pairwise_map]
 exact List.Pairwise.imp (fun {a b} h e=>h (by rw [e]; exact Rat.le_refl)) h
theorem nd_of {l:List (Rat × Rat)} (h:(l.map (·.1)).Nodup):l.Nodup:=by
 rw [List.Nodup,List.pairwise_map] at h
 exact h.imp fun {a b} h e=>h (by rw [e])
theorem Gat.one {P D E:List (Rat × Rat)} (h:Gat P D) (k:Gat P E) (h1:Up D) (h2:Up E):D = E:=by
 have hp:D.Perm E:=(List.perm_ext_iff_of_nodup (nd_of h.nd) (nd_of k.nd)).2 fun e=>(h.mem e).trans (k.mem e).symm
 unfold Up at h1 h2
 refine List.Perm.eq_of_pairwise (le:=fun a b:Rat × Rat=>¬ b.1 <= a.1) (fun a b _ _ e1 e2=>?_) h1 h2 hp
 exact absurd ((Rat.le_total (a:=a.1) (b:=b.1)).resolve_right e1) e2
set_option maxRecDepth 8000
def sgn (a b:Rat):Int:=(a.num * b.den - b.num * a.den).sign
theorem jO {a b:Rat}:sgn a b < 0 ↔ a < b:=by
 unfold sgn
 rw [Int.sign_neg_iff,Rat.lt_iff]
 omega
theorem lq {a b:Rat}:sgn a b = 0 ↔ a = b:=by
 unfold sgn
 rw [Int.sign_eq_zero_iff_zero]
 constructor
 ·intro h
  exact Rat.le_antisymm ((Rat.le_iff _ _).2 (by omega)) ((Rat.le_iff _ _).2 (by omega))
 ·rintro rfl; omega
theorem lM {a b:Rat} (ha:FQ a) (hb:FQ b):aG_p FU (Rt a) (Rt b) = some (sgn a b):=by
 have hF:=aT
 unfold aG_p Rt
 rw [bv FU 8 8 _ _ ha.n hb.d (by omega) (by omega),ab,bv FU 8 8 _ _ hb.n ha.d (by omega) (by omega),ab]
 unfold bt_p
 rw [iC FU 16 _ _ (ha.n.mul hb.d) (hb.n.mul ha.d) (by omega) (by omega),ab,fo]
 rfl
def Sh1 (q:Rat):Prop:=∃ a b:Int,q = Rat.divInt a b/\a.natAbs < 1000/\1 <= b/\b <= 24
set_option maxRecDepth 8000
def ms (e:Rat × Rat):Tb:=⟨Sg e.1,Sg e.2⟩
def cX (x p:Rat):List (Rat × Rat) -> List (Rat × Rat)
 | []=>[(x,p)]
 | e :: l=>if e.1 = x then (x,e.2 + p) :: l else if x < e.1 then (x,p) :: e :: l else e :: cX x p l
theorem jQ (x p y:Rat):∀ T,wt y (cX x p T) = wt y T + (if x = y then p else 0)
 | []=>by show (if x = y then p else 0) + 0 = 0 + _; grind
 | e :: l=>by
  rw [cX]
  split
  ·rename_i h
   show (if x = y then e.2 + p else 0) + wt y l = (if e.1 = y then e.2 else 0) + wt y l + (if x = y then p else 0)
   rw [h]; split <;> grind
  ·split
   ·show (if x = y then p else 0) + wt y (e :: l) = wt y (e :: l) + (if x = y then p else 0)
    grind
   ·show (if e.1 = y then e.2 else 0) + wt y (cX x p l) = (if e.1 = y then e.2 else 0) + wt y l + (if x = y then p else 0)
    rw [jQ x p y l]; grind
theorem eA (x p y:Rat):∀ T,y ∈ (cX x p T).map (·.1) ↔ y ∈ T.map (·.1) ∨ y = x
 | []=>by simp [cX]
 | e :: l=>by
  rw [cX]
  split
  ·rename_i h
   simp only [List.map_cons,List.mem_cons,h]
   grind
  ·split
   ·simp only [List.map_cons,List.mem_cons]; grind
   ·simp only [List.map_cons,List.mem_cons]
    rw [eA x p y l]; grind
theorem iO (x p:Rat):∀ T,(cX x p T).length <= T.length + 1
 | []=>by simp [cX]
 | e :: l=>by
  rw [cX]
  split
  ·simp
  ·split
   ·simp
   ·have:=iO x p l; simp only [leC]; omega
theorem Up.cons {e:Rat × Rat} {l:List (Rat × Rat)}:Up (e :: l) ↔ (∀ x ∈ l.map (·.1),e.1 < x)/\Up l:=by
 unfold Up
 rw [List.pairwise_cons]
 refine and_congr_left fun _=>⟨fun h x hx=>?_,fun h a ha=>Rat.not_le.2 (h _ (List.mem_map.2 ⟨a,ha,I⟩))⟩
 obtain ⟨a,ha,rfl⟩:=List.mem_map.1 hx
 exact Rat.not_le.1 (h a ha)
theorem gM (x p:Rat):∀ {T},Up T -> Up (cX x p T)
 | [],_=>by rw [cX,Up.cons]; exact ⟨fun y hy=>by simp at hy,List.Pairwise.nil⟩
 | e :: l,h=>by
  rw [Up.cons] at h
  rw [cX]
  split
  ·rename_i hx
   rw [Up.cons]
   exact ⟨fun y hy=>hx ▸ h.1 y hy,h.2⟩
  ·rename_i hx
   split
   ·rename_i h2
    rw [Up.cons,Up.cons]
    refine ⟨fun y hy=>?_,h⟩
    rw [List.map_cons] at hy
    rcases List.mem_cons.1 hy with rfl | hy
    ·exact h2
    ·have:=h.1 y hy; grind
   ·rename_i h2
    rw [Up.cons]
    refine ⟨fun y hy=>?_,gM x p h.2⟩
    rcases (eA x p y l).1 hy with hy | rfl
    ·exact h.1 y hy
    ·grind
theorem Gat.put {P T:List (Rat × Rat)} (h:Gat P T) (u:Up T) (x p:Rat):Gat (P ++ [(x,p)]) (cX x p T):=by
 refine ⟨(gM x p u).nodup,fun y=>?_,fun y=>?_,Nat.le_trans (iO x p T) (by rw [List.length_append]; exact Nat.add_le_add_right h.len 1)⟩
 ·rw [eA,h.keys,List.map_append,List.mem_append]; simp
 ·rw [jQ,h.wts,jm]
  show _ = wt y P + ((if x = y then p else 0) + 0)
  grind
set_option maxRecDepth 8000
def un (k N:Nat):Rat:=Rat.divInt k N
theorem dK (a b N:Nat):un a N + un b N = un (a + b) N:=by
 unfold un
 rw [Rat.divInt_eq_div,Rat.divInt_eq_div,Rat.divInt_eq_div,Int.natCast_add,Rat.intCast_add,Rat.div_def,Rat.div_def,Rat.div_def,Rat.add_mul]
theorem fx (N:Nat):un 0 N = 0:=by
 unfold un
 rw [Rat.divInt_eq_div,Rat.div_def]
 show (0:Rat) * _ = 0
 rw [Rat.zero_mul]
theorem bS {N:Nat} (h:0 < N):un N N = 1:=by
 unfold un
 exact Rat.divInt_self' (by omega)
theorem un_bt {k N:Nat} (h:0 < N) (hN:N <= 1000000) (hk:k <= 1000000):Bt 20 20 (un k N):=Bt.of (by omega) (by omega) (by omega)
theorem iE {k N:Nat} (h:0 < N) (hN:N <= 1000000) (hk:k <= 1000000):FQ (un k N):=(un_bt h hN hk).fq (by decide) (by decide)
structure Dn (N i:Nat) (T:List (Rat × Rat)):Prop where
 up:Up T
 key:∀ e ∈ T,Sh1 e.1
 wts:∀ e ∈ T,∃ k,0 < k/\k <= i/\e.2 = un k N
 sum:sW T = un i N
 len:T.length <= i
def tally (N:Nat) (l:List Rat):List (Rat × Rat):=l.foldl (fun T q=>cX q (un 1 N) T) []
structure Dw (N:Nat) (T:List (Rat × Rat)):Prop where
 up:Up T
 key:∀ e ∈ T,Bt 40 40 e.1
 wts:∀ e ∈ T,∃ k,0 < k/\k <= N/\e.2 = un k N
 sum:sW T = un N N
 len:T.length <= 400
def Ds (T:List (Rat × Rat)):Prop:=∃ N,0 < N/\N <= 1000000/\Dw N T
theorem Bt.k {q:Rat} (h:Bt 40 40 q):FQ q:=h.fq (by decide) (by decide)
set_option maxRecDepth 8000
theorem fM {N:Nat}:∀ {A:List (Rat × Rat)},(∀ e ∈ A,∃ k,0 < k/\k <= N/\e.2 = un k N) -> ∃ k,sW A = un k N/\(A ≠ [] -> 0 < k)
 | [],_=>⟨0,(fx N).symm,fun h=>absurd I h⟩
 | e :: A,h=>by
  obtain ⟨k,k1,_,k2⟩:=h e (List.mem_cons_self ..)
  obtain ⟨m,m1,_⟩:=fM fun x hx=>h x (List.mem_cons_of_mem _ hx)
  exact ⟨k + m,by show e.2 + sW A = _; rw [k2,m1,dK],fun _=>by omega⟩
theorem dJ {a b N:Nat} (h:0 < N):un a N <= un b N ↔ a <= b:=by
 have hN:(0:Rat) < (N:Rat):=Rat.natCast_pos.2 h
 unfold un
 rw [Rat.divInt_eq_div,Rat.divInt_eq_div]
 show (a:Rat) / (N:Rat) <= (b:Rat) / (N:Rat) ↔ _
 rw [<- Rat.not_lt,Rat.lt_div_iff hN,Rat.div_mul_cancel (Rat.ne_of_gt hN),Rat.natCast_lt_natCast,Nat.not_lt]
theorem Ds.part {T A B:List (Rat × Rat)} (h:Ds T) (hp:(A ++ B).Perm T):FQ (sW A)/\0 <= sW A/\sW A <= 1/\sW A + sW B = 1:=by
 obtain ⟨N,n1,n2,d⟩:=h
 obtain ⟨a,a1,_⟩:=fM (N:=N) (A:=A) fun e he=>d.wts e (hp.mem_iff.1 (List.mem_append_left _ he))
 obtain ⟨b,b1,_⟩:=fM (N:=N) (A:=B) fun e he=>d.wts e (hp.mem_iff.1 (List.mem_append_right _ he))
 have hs:sW A + sW B = un N N:=by rw [<- eC,hS hp,d.sum]
 have h1:a + b = N:=by
  have h2:un (a + b) N = un N N:=by rw [<- hs,a1,b1,dK]
  exact Nat.le_antisymm ((dJ n1).1 (h2 ▸ Rat.le_refl)) ((dJ n1).1 (h2 ▸ Rat.le_refl))
 refine ⟨by rw [a1]; exact iE n1 n2 (by omega),?_,?_,by rw [hs,bS n1]⟩
 ·rw [a1,<- fx N]; exact (dJ n1).2 (Nat.zero_le _)
 ·rw [a1,<- bS n1]; exact (dJ n1).2 (by omega)
theorem Ds.fq {T:List (Rat × Rat)} (h:Ds T):∀ e ∈ T,FQ e.1/\FQ e.2:=by
 obtain ⟨N,n1,n2,d⟩:=h
 intro e he
 obtain ⟨k,_,k2,k3⟩:=d.wts e he
 exact ⟨(d.key e he).k,by rw [k3]; exact iE n1 n2 (by omega)⟩
theorem Ds.pos {T:List (Rat × Rat)} (h:Ds T):∀ e ∈ T,0 < e.2:=by
 obtain ⟨N,n1,n2,d⟩:=h
 intro e he
 obtain ⟨k,k1,_,k2⟩:=d.wts e he
 rw [k2]
 refine Rat.not_le.1 fun hc=>?_
 rw [<- fx N] at hc
 have:=(dJ n1).1 hc
 omega
theorem Ds.up {T:List (Rat × Rat)} (h:Ds T):Up T:=by
 obtain ⟨N,n1,n2,d⟩:=h
 exact d.up
theorem Ds.one {T:List (Rat × Rat)} (h:Ds T):sW T = 1:=by
 obtain ⟨N,n1,n2,d⟩:=h
 rw [d.sum,bS n1]
theorem Ds.len {T:List (Rat × Rat)} (h:Ds T):0 < T.length/\T.length <= 400:=by
 refine ⟨?_,?_⟩
 ·cases T with
  | nil=>exact absurd h.one (by decide)
  | cons e l=>simp
 ·obtain ⟨N,n1,n2,d⟩:=h
  have:=d.len
  omega
theorem lQ (z:Int) (h:Sm z):aB_p FU z = some ⟨L z,L 1⟩:=by
 have hF:=aT
 unfold aB_p bQ_p
 rw [gN FU z h (by omega),ab,gN FU 1 (by unfold Sm; decide) (by omega),ab,ab]
theorem from0:aB_p FU 0 = some (Rt 0):=lQ 0 (by unfold Sm; decide)
theorem from1:aB_p FU 1 = some (Rt 1):=lQ 1 (by unfold Sm; decide)
theorem FQ1:FQ 1:=(Bt.fq (i:=1) (j:=2) ⟨by decide,by decide⟩ (by decide) (by decide))
theorem pG {e:Rat × Rat} (h:FQ e.2):aK_p FU (ms e) = some (Rt e.2):=by
 have hF:=aT
 unfold aK_p
 rw [show (ms e).fP = Sg e.2 from I,cY FU _ h (by omega),ab]
theorem jd (T:List (Rat × Rat)) (i:Nat):(T.take i ++ T.drop i).Perm T:=by rw [List.take_append_drop]
theorem sW_take {T:List (Rat × Rat)} {i:Nat} (h:i < T.length):sW (T.take (i + 1)) = sW (T.take i) + T[i].2:=by
 rw [List.take_succ_eq_append_getElem h,eC]
 show _ + (T[i].2 + 0) = _
 grind
theorem up_at {T:List (Rat × Rat)} (h:Up T) {i j:Nat} (hj:j < T.length) (hij:i < j):(T[i]'(by omega)).1 < T[j].1:=Rat.not_le.1 (List.pairwise_iff_getElem.1 h i j (by omega) hj hij)
theorem numpos {q:Rat} (h:0 < q):0 < q.num:=by
 have h1:=(Rat.lt_iff _ _).1 h
 have e1:(0:Rat).num = 0:=rfl
 have e2:((0:Rat).den:Int) = 1:=rfl
 rw [e1,e2] at h1
 omega
theorem loop2 {α β:Type} {B:(α -> Oa β) -> α -> Oa β} {s:α} {n:Nat} (h:2 <= n):az B n s = B (B (az B (n - 2))) s:=by
 obtain ⟨m,rfl⟩:∃ m,n = m + 2:=⟨n - 2,by omega⟩
 rfl
theorem io {T:List (Rat × Rat)} (h:Ds T):ap_p FU (T.map ms) = some 0:=by
 have hF:=aT
 obtain ⟨l1,l2⟩:=h.len
 have h2:=aN (B:=ap_l2 FU (T.map ms)) (fun i:Nat=>T.length - i) (fun i=>i <= T.length) (fun r=>r = .inr ()) ?_ FU 0 (Nat.zero_le _) (by omega)
 ·have h1:=aN (B:=ap_l1 FU (T.map ms)) (fun s=>T.length - s.1) (fun s=>∃ i,i <= T.length/\s = (i,(Rt (sW (T.take i))).fh.fc,(Rt (sW (T.take i))).fh.fj,(Rt (sW (T.take i))).fe.fc,(Rt (sW (T.take i))).fe.fj))
   (fun r=>r = ((Rt 1).fh.fc,(Rt 1).fh.fj,(Rt 1).fe.fc,(Rt 1).fe.fj)) ?_ FU (0,(Rt 0).fh.fc,(Rt 0).fh.fj,(Rt 0).fe.fc,(Rt 0).fe.fj) ⟨0,Nat.zero_le _,rfl⟩ (by simp only; omega)
  ·obtain ⟨r2,e2,rfl⟩:=h2
   obtain ⟨r1,e1,rfl⟩:=h1
   unfold ap_p
   rw [if_neg (by simp only [List.length_map]; omega),if_neg (by simp only [List.length_map]; omega),e2]
   show ((aB_p FU 0).bind fun y303=>_) = _
   rw [from0]
   show Option.bind (az (ap_l1 FU (T.map ms)) FU _) _ = _
   rw [e1,ab]
   simp only
   rw [from1,ab,show (⟨⟨(Rt 1).fh.fc,(Rt 1).fh.fj⟩,⟨(Rt 1).fe.fc,(Rt 1).fe.fj⟩⟩:Tc) = Rt 1 from I,lM FQ1 FQ1,ab,if_pos (lq.2 I)]
  ·rintro s J ⟨i,hi,rfl⟩ hJ
   simp only at hJ
   unfold ap_l1
   simp only
   by_cases c:i < T.length
   ·have f:=h.fq _ (List.getElem_mem c)
    rw [if_pos (by simpa using c),geE (by simpa using c),ab,List.getElem_map,pG f.2,ab]
    rw [show (⟨⟨(Rt (sW (T.take i))).fh.fc,(Rt (sW (T.take i))).fh.fj⟩,⟨(Rt (sW (T.take i))).fe.fc,(Rt (sW (T.take i))).fe.fj⟩⟩:Tc) = Rt (sW (T.take i)) from I,(lV FU 8 _ _ (h.part (jd T i)).1.rf f.2.rf (by decide) hF).1,ab,<- sW_take c]
    exact hJ _ ⟨i + 1,c,rfl⟩ (by simp only; omega)
   ·rw [if_neg (by simpa using c)]
    refine ⟨_,I,?_⟩
    rw [List.take_of_length_le (by omega),h.one]
 ·intro i J hi hJ
  unfold ap_l2
  simp only
  by_cases c:i < T.length
  ·have f:=h.fq _ (List.getElem_mem c)
   have hp:=h.pos _ (List.getElem_mem c)
   rw [if_pos (by simpa using c),geE (by simpa using c),ab,List.getElem_map]
   unfold jn
   simp only
   rw [show (ms T[i]).fm = Sg T[i].1 from I,show (ms T[i]).fP = Sg T[i].2 from I,jq FU _ f.1 hF,ab,if_pos I,jq FU _ f.2 hF,ab,if_pos I,pG f.2,ab,show (Rt T[i].2).fh = L T[i].2.num from I,fo,ab]
   rw [if_neg (by rw [Int.sign_eq_one_of_pos (numpos hp)]; decide)]
   by_cases c0:0 < i
   ·have g:=h.fq _ (List.getElem_mem (show i - 1 < T.length by omega))
    rw [if_pos c0,geE (by simp only [List.length_map]; omega),ab,List.getElem_map,show (ms T[i - 1]).fm = Sg T[i - 1].1 from rfl,cY FU _ g.1 (by omega),ab,cY FU _ f.1 (by omega),ab,lM g.1 f.1,ab]
    have hu:=up_at h.up c (show i - 1 < i by omega)
    have hs:=jO.2 hu
    rw [if_neg (by rw [decide_eq_true_iff]; omega)]
    exact hJ (i + 1) c (by omega)
   ·rw [if_neg c0,if_neg (by decide)]
    exact hJ (i + 1) c (by omega)
  ·rw [if_neg (by simpa using c)]
   exact ⟨_,I,I⟩
set_option maxRecDepth 8000
theorem ll {q:Rat} (h:FQ q):ak_p FU (Rt q) = some (Sg q,0):=by
 have hF:=aT
 rw [rtoldG FU q (by omega),if_pos h]
theorem jG (P:Rat × Rat -> Bool) (T:List (Rat × Rat)) (i:Nat):((T.take i).filter P ++ ((T.take i).filter (fun e=>!P e) ++ T.drop i)).Perm T:=by
 rw [<- List.append_assoc]
 refine ((List.filter_append_perm P (T.take i)).append_right _).trans ?_
 rw [List.take_append_drop]
structure Qn (T:List (Rat × Rat)) (x:Rat) (j:Nat):Prop where
 lt:sW (T.take j) < x
 le:x <= sW (T.take (j + 1))
set_option maxRecDepth 8000
theorem Gat.perm2 {P D E:List (Rat × Rat)} (h:Gat P D) (k:Gat P E):D.Perm E:=(List.perm_ext_iff_of_nodup (nd_of h.nd) (nd_of k.nd)).2 fun e=>(h.mem e).trans (k.mem e).symm
theorem Gat.self {P:List (Rat × Rat)} (h:(P.map (·.1)).Nodup):Gat P P:=⟨h,fun _=>Iff.rfl,fun _=>rfl,Nat.le_refl _⟩
def bK (P:List (Rat × Rat)):List (Rat × Rat):=P.foldl gh []
theorem da (P:List (Rat × Rat)):Gat P (bK P):=by
 suffices ∀ (l P D:List (Rat × Rat)),Gat P D -> Gat (P ++ l) (l.foldl gh D) from this P [] [] Gat.nil
 intro l
 induction l with
 | nil=>intro P D h; rw [List.append_nil]; exact h
 | cons e l ih=>
  intro P D h
  have:=ih (P ++ [e]) (gh D e) (h.add e)
  rwa [List.append_assoc] at this
theorem kM {P:List (Rat × Rat)} {i:Nat} (h:i < P.length):bK (P.take (i + 1)) = gh (bK (P.take i)) P[i]:=by
 unfold bK
 rw [List.take_succ_eq_append_getElem h,List.foldl_append]; rfl
theorem eK (x:Rat):∀ P:List (Rat × Rat),wt x P = sW (P.filter fun e=>decide (e.1 = x))
 | []=>rfl
 | e :: l=>by
  show (if e.1 = x then e.2 else 0) + wt x l = _
  rw [List.filter_cons,eK x l]
  by_cases c:e.1 = x
  ·rw [if_pos c,if_pos (by simpa using c)]; rfl
  ·rw [if_neg c,if_neg (by simpa using c),Rat.zero_add]
def mk2 (e:Rat × Rat):Ta × Tc:=(Sg e.1,Rt e.2)
theorem jN {x:Rat} (hx:FQ x):∀ {D:List (Rat × Rat)},(∀ e ∈ D,FQ e.1) -> bc (D.map mk2) (Sg x) = (bc D x).map Rt
 | [],_=>rfl
 | e :: D,h=>by
  rw [List.map_cons,bc,bc]
  by_cases c:x = e.1
  ·rw [if_pos c,if_pos (show Sg x = (mk2 e).1 from congrArg Sg c)]; rfl
  ·rw [if_neg c,if_neg (fun hc:Sg x = (mk2 e).1=>c (gX hx (h e (List.mem_cons_self ..)) hc)),jN hx fun d hd=>h d (List.mem_cons_of_mem _ hd)]
theorem gS {x:Rat} (hx:FQ x) (v:Rat):∀ {D:List (Rat × Rat)},(∀ e ∈ D,FQ e.1) -> aB (D.map mk2) (Sg x) (Rt v) = (aB D x v).map mk2
 | [],_=>rfl
 | e :: D,h=>by
  rw [List.map_cons,aB,aB]
  by_cases c:x = e.1
  ·rw [if_pos c,if_pos (show Sg x = (mk2 e).1 from congrArg Sg c)]; rfl
  ·rw [if_neg c,if_neg (fun hc:Sg x = (mk2 e).1=>c (gX hx (h e (List.mem_cons_self ..)) hc)),gS hx v fun d hd=>h d (List.mem_cons_of_mem _ hd)]; rfl
theorem ma {β:Type} {D:List (Rat × Rat)} {x p:Rat} (hx:FQ x) (hp:FQ p) (hD:∀ e ∈ D,FQ e.1/\FQ e.2) (J:List (Ta × Tc) -> Oa β) :
  dh (bc (D.map mk2) (Sg x)) (J (aB (D.map mk2) (Sg x) (Rt p))) (fun y=>(ae_p FU (Rt p) y).bind fun z=>J (aB (D.map mk2) (Sg x) z)) = J ((gh D (x,p)).map mk2):=by
 have hF:=aT
 have h1:∀ e ∈ D,FQ e.1:=fun e he=>(hD e he).1
 rw [jN hx h1]
 unfold gh
 simp only
 cases hm:bc D x with
 | none=>
  show J _ = _
  rw [gS hx _ h1]
 | some o=>
  show ((ae_p FU (Rt p) (Rt o)).bind fun z=>J (aB (D.map mk2) (Sg x) z)) = _
  rw [(lV FU 8 _ _ hp.rf (hD _ (fI hm)).2.rf (by decide) hF).1,ab,gS hx _ h1]
theorem lT:(List.range 420).all (fun l=>match aQ_p FU (ai ((l:Nat):Int)) with | some y=>decide (0 <= y/\y < 100) | none=>false) = true:=by kernel_rfl
theorem lens_ok (l:Nat) (h:l < 420):∃ y,aQ_p FU (ai ((l:Nat):Int)) = some y/\0 <= y/\y < 4611686018427387904:=by
 have:=List.all_eq_true.1 lT l (List.mem_range.2 h)
 split at this
 ·rename_i y e
  have:=of_decide_eq_true this
  exact ⟨y,e,by omega,by omega⟩
 ·cases this
theorem cmpM {e d:Rat × Rat} (he:FQ e.1) (hd:FQ d.1):aj_p FU (ms e) (ms d) = some (sgn e.1 d.1):=by
 have hF:=aT
 unfold aj_p
 rw [show (ms e).fm = Sg e.1 from I,show (ms d).fm = Sg d.1 from I,cY FU _ he (by omega),ab,cY FU _ hd (by omega),ab,lM he hd,ab]
theorem sort_ms {D U:List (Rat × Rat)} {xs:List Tb} (hf:∀ e ∈ D,FQ e.1) (hn:(D.map (·.1)).Nodup) (hx:xs.Perm (D.map ms)) (hu:Up U) (hp:U.Perm D) (hl:D.length < 420) :
  ((aQ_p FU (ai ((xs.length:Nat):Int))).bind fun y=>(de (fun x9 y9=>aj_p FU x9 y9) y xs).bind fun z=>some (z,(0:Int))) = some (U.map ms,0):=by
 have hm:∀ x ∈ xs,∃ e ∈ D,x = ms e:=fun x hx' =>by
  obtain ⟨e,he,rfl⟩:=List.mem_map.1 (hx.mem_iff.1 hx')
  exact ⟨e,he,I⟩
 have hlt:∀ e ∈ D,∀ d ∈ D,ltQ (fun x9 y9=>aj_p FU x9 y9) (ms e) (ms d) = decide (e.1 < d.1):=fun e he d hd=>by
  refine (congrArg (fun o:Oa Int=>decide (o.getD 0 < 0)) (cmpM (hf e he) (hf d hd))).trans ?_
  show decide (sgn e.1 d.1 < 0) = _
  exact decide_eq_decide.2 jO
 have hs:SortOk (fun x9 y9=>aj_p FU x9 y9) xs:=by
  refine ⟨fun x hx=>?_,fun x hx y hy=>?_,fun x hx y hy h1 h2=>?_,fun x hx y hy z hz h1 h2=>?_⟩
  ·obtain ⟨e,he,rfl⟩:=hm x hx
   rw [hlt e he e he]
   exact decide_eq_false (by grind)
  ·obtain ⟨e,he,rfl⟩:=hm x hx
   obtain ⟨d,hd,rfl⟩:=hm y hy
   exact ⟨_,cmpM (hf e he) (hf d hd)⟩
  ·obtain ⟨e,he,rfl⟩:=hm x hx
   obtain ⟨d,hd,rfl⟩:=hm y hy
   rw [hlt e he d hd] at h1
   rw [hlt d hd e he] at h2
   have h3:=of_decide_eq_false h1
   have h4:=of_decide_eq_false h2
   have h5:e.1 = d.1:=by grind
   have h6:e.2 = d.2:=by rw [<- dL hn he,<- dL hn hd,h5]
   rw [show e = d from Prod.ext h5 h6]
  ·obtain ⟨e,he,rfl⟩:=hm x hx
   obtain ⟨d,hd,rfl⟩:=hm y hy
   obtain ⟨f,hf,rfl⟩:=hm z hz
   rw [hlt e he d hd] at h1
   rw [hlt d hd f hf] at h2
   rw [hlt e he f hf]
   have h3:=of_decide_eq_true h1
   have h4:=of_decide_eq_true h2
   exact decide_eq_true (by grind)
 obtain ⟨y,e1,e2,e3⟩:=lens_ok xs.length (by rw [hx.length_eq,List.length_map]; exact hl)
 have hz:bX (ltQ (fun x9 y9=>aj_p FU x9 y9)) xs = U.map ms:=by
  refine fB hs (bJ _ _) ((hp.map ms).trans hx.symm) (cN hs xs fun y hy=>hy) ?_
  rw [List.pairwise_map]
  refine List.Pairwise.imp_of_mem (fun {a b} ha hb h=>?_) hu
  rw [hlt b (hp.mem_iff.1 hb) a (hp.mem_iff.1 ha)]
  exact decide_eq_false (by grind)
 rw [e1,ab]
 unfold de lm
 rw [if_pos ⟨e2,e3⟩,if_pos (gH.2 hs),ab,hz]
theorem jZ {X:List Tb × Bool -> Oa (List Tb × Int)} {B:Ta × Tc -> (List Tb × Bool -> Oa (List Tb × Int)) -> List Tb × Bool -> Oa (List Tb × Int)}
  (hX:∀ xs:List Tb,X (xs,false) = ((aQ_p FU (ai ((xs.length:Nat):Int))).bind fun y=>(de (fun x9 y9=>aj_p FU x9 y9) y xs).bind fun z=>some (z,(0:Int))))
  (hB:∀ e J xs,B e J (xs,false) = ((ak_p FU e.2).bind fun y861=>jn (fun q876=>(app xs ([(⟨e.1,y861.1⟩:Tb)]:List Tb)).bind fun xs888=>J (xs888,q876)) (fun J880=>(if y861.2 = 0 then J880 false else J880 true))))
  {D U:List (Rat × Rat)} (hf:∀ e ∈ D,FQ e.1/\FQ e.2) (hn:(D.map (·.1)).Nodup) (hu:Up U) (hp:U.Perm D) (hl:D.length < 420) :
  mloop X B FU (D.map mk2) ([],false) = some (U.map ms,0):=by
 have hF:=aT
 let cv:Ta × Tc -> Tb:=fun e=>⟨e.1,((ak_p FU e.2).getD (noS,0)).1⟩
 have hcv:∀ e ∈ D,cv (mk2 e) = ms e:=fun e he=>by
  show (⟨Sg e.1,((ak_p FU (Rt e.2)).getD (noS,0)).1⟩:Tb) = _
  rw [ll (hf e he).2]; rfl
 refine fK (D:=D.map mk2) (fun s e=>(s.1 ++ [cv e],s.2)) (fun k s=>s.2 = false/\s.1.length + k <= 1000) _ ?_ FU (D.map mk2) ([],false) (by rw [List.length_map]; omega) (fun e he=>he) ⟨rfl,by rw [List.length_map]; show 0 + _ <= _; omega⟩ fun l' hl' =>?_
 ·rintro k e J ⟨xs,q⟩ ⟨h1,h2⟩ he
  simp only at h1 h2
  subst h1
  obtain ⟨d,hd,rfl⟩:=List.mem_map.1 he
  refine ⟨?_,rfl,by simp only [List.length_append,leC,leN]; omega⟩
  rw [hB,show (mk2 d).2 = Rt d.2 from I,ll (hf d hd).2,ab]
  show ((app xs [_]).bind _) = _
  rw [appS _ _ (by simp only [leC,leN]; omega),ab,hcv d hd]; rfl
 ·have hfold:∀ (l:List (Ta × Tc)) (xs:List Tb),l.foldl (fun s e=>(s.1 ++ [cv e],s.2)) (xs,false) = (xs ++ l.map cv,false):=by
   intro l
   induction l with
   | nil=>intro xs; simp
   | cons e l ih=>intro xs; rw [List.foldl_cons,ih]; simp
  rw [hfold,hX]
  refine sort_ms (fun e he=>(hf e he).1) hn ?_ hu hp hl
  refine (hl'.map cv).trans (.of_eq ?_)
  rw [List.map_map]
  exact List.map_congr_left hcv
set_option maxRecDepth 8000
def mv (g:Rat -> Rat) (T:List (Rat × Rat)):List (Rat × Rat):=T.map fun e=>(g e.1,e.2)
def neg (T:List (Rat × Rat)):List (Rat × Rat):=(mv (fun x=>-1 * x) T).reverse
def bL (f:Rat -> Rat):List Rat -> Rat
 | []=>0
 | x :: K=>f x + bL f K
theorem gG (f:Rat -> Rat) {K L:List Rat} (h:K.Perm L):bL f K = bL f L:=by
 induction h with
 | nil=>rfl
 | cons x _ ih=>show f x + _ = f x + _; rw [ih]
 | swap x y l=>show f y + (f x + bL f l) = f x + (f y + bL f l); grind
 | trans _ _ h1 h2=>rw [h1,h2]
theorem iP (f:Rat -> Rat):∀ K L,bL f (K ++ L) = bL f K + bL f L
 | [],L=>by show bL f L = 0 + bL f L; grind
 | x :: K,L=>by show f x + bL f (K ++ L) = f x + bL f K + bL f L; rw [iP f K L]; grind
theorem eH {f:Rat -> Rat}:∀ {K:List Rat},(∀ x ∈ K,f x = 0) -> bL f K = 0
 | [],_=>rfl
 | x :: K,h=>by
  show f x + bL f K = 0
  rw [h x (List.mem_cons_self ..),eH fun y hy=>h y (List.mem_cons_of_mem _ hy)]; grind
theorem kB {f:Rat -> Rat} {K L:List Rat} (hK:K.Nodup) (hL:L.Nodup) (hs:∀ x ∈ K,x ∈ L) (h0:∀ x ∈ L,x ∉ K -> f x = 0):bL f L = bL f K:=by
 have h1:=List.filter_append_perm (fun x=>decide (x ∈ K)) L
 rw [<- gG f h1,iP,eH (K:=L.filter fun x=>!decide (x ∈ K)) fun x hx=>by
  obtain ⟨a,b⟩:=List.mem_filter.1 hx
  exact h0 x a (by simpa using b)]
 have h2:(L.filter fun x=>decide (x ∈ K)).Perm K:=(List.perm_ext_iff_of_nodup (hL.filter _) hK).2 fun x=>by
  rw [List.mem_filter]
  exact ⟨fun h=>of_decide_eq_true h.2,fun h=>⟨hs x h,decide_eq_true h⟩⟩
 rw [gG f h2]; grind
theorem iI (f g:Rat -> Rat):∀ K:List Rat,bL (fun x=>f x + g x) K = bL f K + bL g K
 | []=>by show (0:Rat) = 0 + 0; grind
 | x :: K=>by show f x + g x + bL _ K = f x + bL f K + (g x + bL g K); rw [iI f g K]; grind
theorem kH {T:List (Rat × Rat)} (hn:(T.map (·.1)).Nodup):bL (fun x=>wt x T) (T.map (·.1)) = sW T:=by
 suffices ∀ l:List (Rat × Rat),(∀ e ∈ l,wt e.1 T = e.2) -> bL (fun x=>wt x T) (l.map (·.1)) = sW l from this T fun e he=>dL hn he
 intro l
 induction l with
 | nil=>exact fun _=>rfl
 | cons e l ih=>
  intro h
  show wt e.1 T + bL _ (l.map (·.1)) = e.2 + sW l
  rw [h e (List.mem_cons_self ..),ih fun d hd=>h d (List.mem_cons_of_mem _ hd)]
structure Cov (T:List (Rat × Rat)) (K:List Rat):Prop where
 nt:(T.map (·.1)).Nodup
 nd:K.Nodup
 sub:∀ x ∈ T.map (·.1),x ∈ K
set_option maxRecDepth 8000
theorem kP {T U:List (Rat × Rat)} (h:Ds T) (k:Ds U):aq_p FU [T.map ms,U.map ms] [] = some 0:=by
 have hF:=aT
 have e3:az (aq_l3 FU [T.map ms,U.map ms] []) FU 0 = some (.inr ()):=by
  have s0:∀ J,aq_l3 FU [T.map ms,U.map ms] [] J 0 = J 1:=fun J=>by
   show ((bj_p FU (T.map ms)).bind _) = _
   unfold bj_p
   rw [io h]; rfl
  have s1:∀ J,aq_l3 FU [T.map ms,U.map ms] [] J 1 = J 2:=fun J=>by
   show ((bj_p FU (U.map ms)).bind _) = _
   unfold bj_p
   rw [io k]; rfl
  obtain ⟨m,hm⟩:∃ m,FU = m + 3:=⟨FU - 3,by omega⟩
  have e:az (aq_l3 FU [T.map ms,U.map ms] []) (m + 3) 0 = some (.inr ()):=by
   rw [aU,s0,aU,s1,aU]; rfl
  rw [<- hm] at e
  exact e
 have e2:az (aq_l2 FU []) FU 0 = some (.inr ()):=by
  rw [loop2 (by omega)]; rfl
 unfold aq_p
 rw [e3]
 show (if (0:Int) <= -1 then some (50:Int) else _) = _
 rw [if_neg (by decide),e2]; rfl
def gL (W:List (Rat × Rat)):List (Rat × Rat):=W.foldl (fun T e=>cX e.1 e.2 T) []
theorem gZ (W:List (Rat × Rat)):Gat W (gL W)/\Up (gL W):=by
 suffices ∀ (l P D:List (Rat × Rat)),Gat P D -> Up D -> Gat (P ++ l) (l.foldl (fun T e=>cX e.1 e.2 T) D)/\Up (l.foldl (fun T e=>cX e.1 e.2 T) D) from this W [] [] Gat.nil List.Pairwise.nil
 intro l
 induction l with
 | nil=>intro P D h u; rw [List.append_nil]; exact ⟨h,u⟩
 | cons e l ih=>
  intro P D h u
  have:=ih (P ++ [e]) _ (h.put u e.1 e.2) (gM e.1 e.2 u)
  rwa [List.append_assoc] at this
theorem Gat.sW {P D:List (Rat × Rat)} (h:Gat P D):Go.Proofs.YtkommhmbkbhmlaaGreat.sW D = Go.Proofs.YtkommhmbkbhmlaaGreat.sW P:=by
 have h1:=kH h.nd
 rw [<- h1,show (fun x=>wt x D) = fun x=>wt x P from funext h.wts]
 suffices ∀ (P:List (Rat × Rat)) (K:List Rat),K.Nodup -> (∀ x ∈ P.map (·.1),x ∈ K) -> bL (fun x=>wt x P) K = Go.Proofs.YtkommhmbkbhmlaaGreat.sW P from this P _ h.nd fun x hx=>(h.keys x).2 hx
 intro P
 induction P with
 | nil=>exact fun K _ _=>eH fun x _=>rfl
 | cons e l ih=>
  intro K hK hs
  have e1:(fun x=>wt x (e :: l)) = fun x=>(if e.1 = x then e.2 else 0) + wt x l:=rfl
  rw [e1,iI,ih K hK fun x hx=>hs x (List.mem_cons_of_mem _ hx)]
  have h2:=kB (f:=fun x=>if e.1 = x then e.2 else 0) (K:=[e.1]) (L:=K) (by simp) hK (fun x hx=>by rw [List.mem_singleton.1 hx]; exact hs _ (List.mem_cons_self ..)) fun x _ hx=>if_neg fun hc=>hx (by rw [hc]; exact List.mem_singleton.2 rfl)
  rw [h2]
  show (if e.1 = e.1 then e.2 else 0) + 0 + _ = e.2 + _
  rw [if_pos I]; grind
structure Wd (N:Nat) (W:List (Rat × Rat)):Prop where
 pos:0 < N
 le:N <= 1000000
 key:∀ e ∈ W,Bt 40 40 e.1
 wts:∀ e ∈ W,∃ k,0 < k/\k <= N/\e.2 = un k N
 sum:sW W = 1
 len:W.length <= 400
theorem Wd.part {N:Nat} {W A B:List (Rat × Rat)} (h:Wd N W) (hp:(A ++ B).Perm W):∃ a,a <= N/\sW A = un a N/\(A ≠ [] -> 0 < a):=by
 obtain ⟨a,a1,a2⟩:=fM (N:=N) (A:=A) fun e he=>h.wts e (hp.mem_iff.1 (List.mem_append_left _ he))
 obtain ⟨b,b1,_⟩:=fM (N:=N) (A:=B) fun e he=>h.wts e (hp.mem_iff.1 (List.mem_append_right _ he))
 have hs:sW A + sW B = un N N:=by rw [<- eC,hS hp,h.sum,bS h.pos]
 have h2:un (a + b) N = un N N:=by rw [<- hs,a1,b1,dK]
 have h1:a + b <= N:=(dJ h.pos).1 (h2 ▸ Rat.le_refl)
 exact ⟨a,by omega,a1,a2⟩
theorem Wd.atw {N:Nat} {W:List (Rat × Rat)} (h:Wd N W) (x:Rat) (i:Nat):∃ a,a <= N/\wt x (W.take i) = un a N/\(x ∈ (W.take i).map (·.1) -> 0 < a):=by
 obtain ⟨a,a1,a2,a3⟩:=h.part (jG (fun e=>decide (e.1 = x)) W i)
 refine ⟨a,a1,by rw [eK]; exact a2,fun hx=>a3 fun hc=>?_⟩
 obtain ⟨e,he,h1⟩:=List.mem_map.1 hx
 have h2:e ∈ (W.take i).filter fun e=>decide (e.1 = x):=List.mem_filter.2 ⟨he,decide_eq_true h1⟩
 rw [hc] at h2
 cases h2
theorem Wd.dw {N:Nat} {W Z:List (Rat × Rat)} (h:Wd N W) (g:Gat W Z) (u:Up Z):Dw N Z:=by
 refine ⟨u,fun e he=>?_,fun e he=>?_,by rw [g.sW,h.sum,bS h.pos],Nat.le_trans g.len h.len⟩
 ·obtain ⟨h1,_⟩:=(g.mem e).1 he
  obtain ⟨d,hd,e1⟩:=List.mem_map.1 h1
  rw [<- e1]; exact h.key d hd
 ·obtain ⟨h1,h2⟩:=(g.mem e).1 he
  obtain ⟨a,a1,a2,a3⟩:=h.atw e.1 W.length
  rw [List.take_length] at a2 a3
  exact ⟨a,a3 h1,a1,by rw [h2,a2]⟩
theorem Wd.ds {N:Nat} {W Z:List (Rat × Rat)} (h:Wd N W) (g:Gat W Z) (u:Up Z):Ds Z:=⟨N,h.pos,h.le,h.dw g u⟩
theorem un_mm (a b c d:Nat):un a b * un c d = un (a * c) (b * d):=by
 unfold un
 rw [Rat.divInt_mul_divInt,Int.natCast_mul,Int.natCast_mul]
def wf (f:Rat -> Rat) (W:List (Rat × Rat)):List (Rat × Rat):=W.map fun e=>(e.1,e.2 * f e.1)
def ex (f:Rat -> Rat) (W:List (Rat × Rat)):Rat:=sW (wf f W)
theorem jX (f:Rat -> Rat) (e:Rat × Rat) (l:List (Rat × Rat)):ex f (e :: l) = e.2 * f e.1 + ex f l:=rfl
theorem ex_app (f:Rat -> Rat) (A B:List (Rat × Rat)):ex f (A ++ B) = ex f A + ex f B:=by
 unfold ex wf
 rw [List.map_append,eC]
theorem ib (c:Rat):∀ W,ex (fun _=>c) W = c * sW W
 | []=>by show (0:Rat) = c * 0; grind
 | e :: l=>by
  rw [jX,ib c l]
  show _ = c * (e.2 + sW l)
  grind
def row (e:Rat × Rat) (U:List (Rat × Rat)):List (Rat × Rat):=U.map fun y=>(e.1 + y.1,e.2 * y.2)
def prs (T U:List (Rat × Rat)):List (Rat × Rat):=T.flatMap fun e=>row e U
theorem fH (e:Rat × Rat) (l U:List (Rat × Rat)):prs (e :: l) U = row e U ++ prs l U:=rfl
theorem mb (f:Rat -> Rat) (e:Rat × Rat):∀ U,ex f (row e U) = e.2 * ex (fun y=>f (e.1 + y)) U
 | []=>by show (0:Rat) = e.2 * 0; grind
 | d :: U=>by
  show e.2 * d.2 * f (e.1 + d.1) + ex f (row e U) = e.2 * (d.2 * f (e.1 + d.1) + ex (fun y=>f (e.1 + y)) U)
  rw [mb f e U]
  grind
theorem lF (f:Rat -> Rat) (U:List (Rat × Rat)):∀ T,ex f (prs T U) = ex (fun x=>ex (fun y=>f (x + y)) U) T
 | []=>rfl
 | e :: l=>by rw [fH,ex_app,mb,lF f U l,jX]
def mean (T:List (Rat × Rat)):Rat:=ex (fun x=>x) T
theorem prs_sW {T U:List (Rat × Rat)} (h:sW T = 1) (k:sW U = 1):sW (prs T U) = 1:=by
 have h1:=lF (fun _=>1) U T
 rw [ib,ib,ib,k,h] at h1
 grind
set_option maxRecDepth 8000
theorem askedL {L:List (List (Rat × Rat))} {l:List Rat} (h:∀ T ∈ L,Ds T) (k:∀ x ∈ l,FQ x) (hL:L.length < 1000) (hl:l.length < 1000):aq_p FU (L.map fun T=>T.map ms) (l.map Sg) = some 0:=by
 have hF:=aT
 have h3:=aN (B:=aq_l3 FU (L.map fun T=>T.map ms) (l.map Sg)) (fun i:Nat=>L.length - i) (fun i=>i <= L.length) (fun r=>r = .inr ()) ?_ FU 0 (Nat.zero_le _) (by omega)
 ·have h2:=aN (B:=aq_l2 FU (l.map Sg)) (fun i:Nat=>l.length - i) (fun i=>i <= l.length) (fun r=>r = .inr ()) ?_ FU 0 (Nat.zero_le _) (by omega)
  ·obtain ⟨r,e3,rfl⟩:=h3
   obtain ⟨r,e2,rfl⟩:=h2
   unfold aq_p
   rw [e3]
   show (if (0:Int) <= -1 then some (50:Int) else _) = _
   rw [if_neg (by decide),e2]; rfl
  ·intro i J hi hJ
   unfold aq_l2 bz_p
   simp only
   by_cases c:i < l.length
   ·rw [if_pos (by simpa using c),geE (by simpa using c),ab,List.getElem_map,jq FU _ (k _ (List.getElem_mem c)) hF]
    exact hJ (i + 1) c (by omega)
   ·rw [if_neg (by simpa using c)]
    exact ⟨_,I,I⟩
 ·intro i J hi hJ
  unfold aq_l3 bj_p
  simp only
  by_cases c:i < L.length
  ·rw [if_pos (by simpa using c),geE (by simpa using c),ab,List.getElem_map,io (h _ (List.getElem_mem c))]
   exact hJ (i + 1) c (by omega)
  ·rw [if_neg (by simpa using c)]
   exact ⟨_,I,I⟩
theorem kr (A:List (Rat × Rat)) (e:Rat × Rat):bK (A ++ [e]) = gh (bK A) e:=by
 unfold bK
 rw [List.foldl_append]; rfl
theorem ms_inj {a b:Rat × Rat} (ha:FQ a.1/\FQ a.2) (hb:FQ b.1/\FQ b.2):ms a = ms b ↔ a = b:=by
 refine ⟨fun h=>?_,fun h=>by rw [h]⟩
 have h1:Sg a.1 = Sg b.1:=congrArg Tb.fm h
 have h2:Sg a.2 = Sg b.2:=congrArg Tb.fP h
 exact Prod.ext (gX ha.1 hb.1 h1) (gX ha.2 hb.2 h2)
theorem sameD {T U:List (Rat × Rat)} (hT:∀ e ∈ T,FQ e.1/\FQ e.2) (hU:∀ e ∈ U,FQ e.1/\FQ e.2) (hl:T.length < 1000):bc_p FU (T.map ms) (U.map ms) = some (decide (T = U)):=by
 have hF:=aT
 unfold bc_p
 by_cases h0:T.length = U.length
 ·have hh:=aN (B:=bc_l1 FU (T.map ms) (U.map ms)) (fun i:Nat=>T.length - i) (fun i=>i <= T.length/\T.take i = U.take i) (fun r=>thn (some r) (fun _=>some true) = some (decide (T = U))) ?_ FU 0 ⟨Nat.zero_le _,I⟩ (by omega)
  ·obtain ⟨r,e,e2⟩:=hh
   rw [if_pos (by simpa using h0),e,e2]
  ·rintro i J ⟨hi,ht⟩ hJ
   unfold bc_l1 bN_p
   simp only
   by_cases c:i < T.length
   ·have cu:i < U.length:=by omega
    rw [if_pos (by simpa using c),geE (by simpa using c),ab,geE (by simpa using cu),ab,List.getElem_map,List.getElem_map,ab]
    by_cases ce:T[i] = U[i]
    ·rw [if_pos (by rw [ce]; exact decide_eq_true I)]
     exact hJ (i + 1) ⟨c,by rw [List.take_succ_eq_append_getElem c,List.take_succ_eq_append_getElem cu,ht,ce]⟩ (by omega)
    ·rw [if_neg (by rw [decide_eq_true_iff,ms_inj (hT _ (List.getElem_mem c)) (hU _ (List.getElem_mem cu))]; exact ce)]
     refine ⟨_,I,?_⟩
     rw [decide_eq_false fun hc=>ce (by simp only [hc])]; rfl
   ·rw [if_neg (by simpa using c)]
    refine ⟨_,I,?_⟩
    rw [List.take_of_length_le (by omega),List.take_of_length_le (by omega)] at ht
    rw [decide_eq_true ht]; rfl
 ·rw [if_neg (by simpa using h0),decide_eq_false fun hc=>h0 (by rw [hc])]
theorem jL {e:Rat × Rat} {T U:List (Rat × Rat)}:e ∈ prs T U ↔ ∃ x ∈ T,∃ y ∈ U,e = (x.1 + y.1,x.2 * y.2):=by
 unfold prs row
 rw [List.mem_flatMap]
 constructor
 ·rintro ⟨x,hx,he⟩
  obtain ⟨y,hy,rfl⟩:=List.mem_map.1 he
  exact ⟨x,hx,y,hy,I⟩
 ·rintro ⟨x,hx,y,hy,rfl⟩
  exact ⟨x,hx,List.mem_map.2 ⟨y,hy,I⟩⟩
theorem jP (U:List (Rat × Rat)):∀ T,(prs T U).length = T.length * U.length
 | []=>by simp [prs]
 | e :: l=>by
  rw [fH,List.length_append,jP U l,leC,Nat.add_mul,Nat.one_mul]
  unfold row
  rw [List.length_map]; omega
structure Wq (W:List (Rat × Rat)):Prop where
 fq:∀ e ∈ W,FQ e.1/\FQ e.2
 pre:∀ A B,W = A ++ B -> ∀ d ∈ bK A,FQ d.1/\FQ d.2
theorem wq_of {N:Nat} {W:List (Rat × Rat)} (n0:0 < N) (n1:N <= 1000000) (key:∀ e ∈ W,Bt 40 40 e.1) (wts:∀ e ∈ W,∃ k,0 < k/\k <= N/\e.2 = un k N) (sum:sW W = 1):Wq W:=by
 have part:∀ A B,(A ++ B).Perm W -> ∃ a,a <= N/\sW A = un a N:=fun A B hp=>by
  obtain ⟨a,a1,_⟩:=fM (N:=N) (A:=A) fun e he=>wts e (hp.mem_iff.1 (List.mem_append_left _ he))
  obtain ⟨b,b1,_⟩:=fM (N:=N) (A:=B) fun e he=>wts e (hp.mem_iff.1 (List.mem_append_right _ he))
  have hs:sW A + sW B = un N N:=by rw [<- eC,hS hp,sum,bS n0]
  have h2:un (a + b) N = un N N:=by rw [<- hs,a1,b1,dK]
  have h1:a + b <= N:=(dJ n0).1 (h2 ▸ Rat.le_refl)
  exact ⟨a,by omega,a1⟩
 refine ⟨fun e he=>?_,fun A B e d hd=>?_⟩
 ·obtain ⟨k,k0,k1,k2⟩:=wts e he
  exact ⟨(key e he).k,by rw [k2]; exact iE n0 n1 (by omega)⟩
 ·obtain ⟨h1,h2⟩:=((da A).mem d).1 hd
  refine ⟨?_,?_⟩
  ·obtain ⟨x,hx,e1⟩:=List.mem_map.1 h1
   rw [<- e1]
   exact (key x (by rw [e]; exact List.mem_append_left _ hx)).k
  ·obtain ⟨a,a1,a2⟩:=part (A.filter fun e=>decide (e.1 = d.1)) (A.filter (fun e=>!decide (e.1 = d.1)) ++ B) (by
    rw [e,<- List.append_assoc]; exact (List.filter_append_perm _ A).append_right B)
   rw [h2,eK,a2]
   exact iE n0 n1 (by omega)
theorem Wd.wq {N:Nat} {W:List (Rat × Rat)} (h:Wd N W):Wq W:=wq_of h.pos h.le h.key h.wts h.sum
theorem sumL1q {W A B U:List (Rat × Rat)} {d:Rat × Rat} (hW:Wq W) (hu:Ds U) (fd:FQ d.1/\FQ d.2) (e:W = A ++ (row d U ++ B)) :
  az (aA_l1 FU (U.map ms) (ms d)) FU (0,[],false,(bK A).map mk2) = some ([],false,(bK (A ++ row d U)).map mk2):=by
 have hF:=aT
 obtain ⟨l1,l2⟩:=hu.len
 have hs:(row d U).length = U.length:=List.length_map ..
 have hh:=aN (B:=aA_l1 FU (U.map ms) (ms d)) (fun s=>U.length - s.1) (fun s=>∃ i,i <= U.length/\s = (i,[],false,(bK (A ++ (row d U).take i)).map mk2)) (fun r=>r = ([],false,(bK (A ++ row d U)).map mk2)) ?_ FU (0,[],false,(bK A).map mk2) ⟨0,Nat.zero_le _,by rw [List.take_zero,List.append_nil]⟩ (by simp only; omega)
 ·obtain ⟨r,e,rfl⟩:=hh
  exact e
 ·rintro s J ⟨i,hi,rfl⟩ hJ
  unfold aA_l1 jn
  simp only
  by_cases c:i < U.length
  ·have f:=hu.fq _ (List.getElem_mem c)
   have hin:(row d U)[i]'(by omega) = (d.1 + U[i].1,d.2 * U[i].2):=by unfold row; rw [List.getElem_map]
   obtain ⟨g1,g2⟩:=hW.fq (d.1 + U[i].1,d.2 * U[i].2) (by
    rw [e,<- hin]
    exact List.mem_append_right _ (List.mem_append_left _ (List.getElem_mem _)))
   have hd:=hW.pre (A ++ (row d U).take i) ((row d U).drop i ++ B) (by
    rw [e,List.append_assoc,<- List.append_assoc (List.take i _),List.take_append_drop])
   rw [if_pos (by simpa using c),geE (by simpa using c),ab,List.getElem_map,show (ms d).fm = Sg d.1 from rfl,cY FU _ fd.1 (by omega),ab,show (ms U[i]).fm = Sg U[i].1 from rfl,cY FU _ f.1 (by omega),ab,(lV FU 8 _ _ fd.1.rf f.1.rf (by decide) hF).1,ab,ll g1,ab]
   simp only
   rw [if_pos trivial,pG fd.2,ab,pG f.2,ab,(timesG FU 8 _ _ fd.2.rf f.2.rf (by decide) hF).1,ab,ab]
   simp only
   rw [if_pos trivial,ma g1 g2 hd (fun D=>J (i + 1,[],false,D))]
   refine hJ _ ⟨i + 1,c,?_⟩ (by simp only; omega)
   rw [List.take_succ_eq_append_getElem (by omega),hin,<- List.append_assoc,kr]
  ·rw [if_neg (by simpa using c)]
   refine ⟨_,I,?_⟩
   rw [List.take_of_length_le (by omega)]
theorem lr {T U:List (Rat × Rat)} (h:Ds T) (k:Ds U) (hW:Wq (prs T U)):az (aA_l2 FU (T.map ms) (U.map ms)) FU (0,[],false,[]) = some ((bK (prs T U)).map mk2,[],false):=by
 have hF:=aT
 obtain ⟨l1,l2⟩:=h.len
 have hh:=aN (B:=aA_l2 FU (T.map ms) (U.map ms)) (fun s=>T.length - s.1) (fun s=>∃ i,i <= T.length/\s = (i,[],false,(bK (prs (T.take i) U)).map mk2)) (fun r=>r = ((bK (prs T U)).map mk2,[],false)) ?_ FU (0,[],false,[]) ⟨0,Nat.zero_le _,rfl⟩ (by simp only; omega)
 ·obtain ⟨r,e,rfl⟩:=hh
  exact e
 ·rintro s J ⟨i,hi,rfl⟩ hJ
  unfold aA_l2
  simp only
  by_cases c:i < T.length
  ·have f:=h.fq _ (List.getElem_mem c)
   have ht:prs (T.take (i + 1)) U = prs (T.take i) U ++ row T[i] U:=by
    unfold prs
    rw [List.take_succ_eq_append_getElem c,List.flatMap_append]
    simp
   have hsp:prs T U = prs (T.take i) U ++ (row T[i] U ++ prs (T.drop (i + 1)) U):=by
    rw [<- List.append_assoc,<- ht]
    unfold prs
    rw [<- List.flatMap_append,List.take_append_drop]
   rw [if_pos (by simpa using c),geE (by simpa using c),ab,List.getElem_map,sumL1q hW k f hsp,ab]
   simp only
   refine hJ _ ⟨i + 1,c,?_⟩ (by simp only; omega)
   rw [ht]
  ·rw [if_neg (by simpa using c)]
   refine ⟨_,I,?_⟩
   rw [List.take_of_length_le (by omega)]
theorem sumLong {T U:List (Rat × Rat)} (h:Ds T) (k:Ds U) (hW:Wq (prs T U)) (h4:400 < (bK (prs T U)).length):aA_p FU (T.map ms) (U.map ms) = some ([],3):=by
 have hF:=aT
 have l1:=h.len
 have l2:=k.len
 have hlen:=(da (prs T U)).len
 have hm:T.length * U.length <= 400 * 400:=Nat.mul_le_mul l1.2 l2.2
 rw [jP] at hlen
 unfold aA_p
 rw [kP h k,ab,if_pos I,lr h k hW,ab]
 simp only
 rw [cm (by simp only [List.length_map,leN]; omega) (by simp only [List.length_map,leN]; omega),ab]
 rw [if_pos (show 400 < ((((bK (prs T U)).map mk2).length:Nat):Int) + ((([]:List (ByteArray × Bool)).length:Nat):Int) by simp only [List.length_map,leN]; omega)]
theorem kZ {N:Nat} {T U:List (Rat × Rat)} (h:Ds T) (k:Ds U) (hW:Wd N (prs T U)):aA_p FU (T.map ms) (U.map ms) = some ((gL (prs T U)).map ms,0):=by
 have hF:=aT
 have g:=da (prs T U)
 have hlen:=Nat.le_trans g.len hW.len
 have hfq:=hW.wq.pre (prs T U) [] (List.append_nil _).symm
 obtain ⟨c1,c2⟩:=gZ (prs T U)
 unfold aA_p
 rw [kP h k,ab,if_pos I,lr h k hW.wq,ab]
 simp only
 rw [cm (by simp only [List.length_map,leN]; omega) (by simp only [List.length_map,leN]; omega),ab]
 rw [if_neg (show ¬ 400 < ((((bK (prs T U)).map mk2).length:Nat):Int) + ((([]:List (ByteArray × Bool)).length:Nat):Int) by simp only [List.length_map,leN]; omega),if_neg (show ¬ 400 < ((bK (prs T U)).map mk2).length by rw [List.length_map]; omega)]
 exact jZ (fun xs=>rfl) (fun e J xs=>rfl) hfq g.nd c2 (c1.perm2 g) (by omega)
def raw (l:List Rat) (N:Nat):List (Rat × Rat):=l.map fun q=>(q,un 1 N)
theorem lP (N:Nat):∀ l,sW (raw l N) = un l.length N
 | []=>by rw [leN,fx]; rfl
 | q :: l=>by
  show un 1 N + sW (raw l N) = un (l.length + 1) N
  rw [lP N l,dK,Nat.add_comm]
theorem kc (l:List Rat) (N:Nat):(raw l N).length = l.length:=List.length_map ..
theorem lD {l:List Rat} (hk:∀ q ∈ l,Bt 40 40 q) (h0:0 < l.length) (h4:l.length <= 400):Wd l.length (raw l l.length):=by
 refine ⟨h0,by omega,fun e he=>?_,fun e he=>?_,by rw [lP,bS h0],by rw [kc]; exact h4⟩
 ·obtain ⟨q,hq,rfl⟩:=List.mem_map.1 he
  exact hk q hq
 ·obtain ⟨q,hq,rfl⟩:=List.mem_map.1 he
  exact ⟨1,by decide,h0,I⟩
theorem overN {N:Nat} (h0:0 < N) (h4:N <= 1000000):br_p FU (Rt 1) (Rt (Rat.divInt N 1)) = some (Rt (un 1 N)):=by
 have hF:=aT
 have f:FQ (Rat.divInt N 1):=(Bt.of (i:=40) (j:=40) (by decide) (by omega) (by decide)).fq (by decide) (by decide)
 have hn:Rat.divInt N 1 ≠ 0:=fun hc=>by
  have h2:Rat.divInt N 1 = Rat.divInt 0 1:=hc
  rw [Rat.divInt_eq_divInt_iff (by decide) (by decide)] at h2
  omega
 rw [(overG FU 8 _ _ FQ1.rf f.rf hn (by decide) hF).1]
 have e:(1:Rat) = Rat.divInt 1 1:=rfl
 rw [e,Rat.div_def,Rat.inv_divInt,Rat.divInt_mul_divInt]
 unfold un
 rw [Int.mul_one,Int.one_mul]; rfl
theorem div_one (z:Int):(Rat.divInt z 1).num = z/\(Rat.divInt z 1).den = 1:=by
 rw [show (1:Int) = ((1:Nat):Int) from I,Rat.divInt_ofNat,Rat.mkRat_one]
 exact ⟨I,I⟩
theorem fromN {N:Nat} (h4:N <= 1000000):aB_p FU (N:Int) = some (Rt (Rat.divInt N 1)):=by
 rw [lQ (N:Int) (by unfold Sm; omega)]
 obtain ⟨e1,e2⟩:=div_one (N:Int)
 show some (⟨Go.Proofs.YtkommhmbkbhmlaaGreat.L (N:Int),Go.Proofs.YtkommhmbkbhmlaaGreat.L 1⟩:Tc) = some (⟨Go.Proofs.YtkommhmbkbhmlaaGreat.L (Rat.divInt N 1).num,Go.Proofs.YtkommhmbkbhmlaaGreat.L ((Rat.divInt N 1).den:Int)⟩:Tc)
 rw [e1,e2]; rfl
theorem tallyL {l:List Rat} {N:Nat} (hW:Wq (raw l N)) (hl:l.length <= 1000) (hN:FQ (un 1 N)):az (aM_l1 FU (l.map Sg) (Rt (un 1 N))) FU (0,[]) = some ((bK (raw l N)).map mk2):=by
 have hF:=aT
 have hrl:=kc l N
 have hh:=aN (B:=aM_l1 FU (l.map Sg) (Rt (un 1 N))) (fun s=>l.length - s.1) (fun s=>∃ i,i <= l.length/\s = (i,(bK ((raw l N).take i)).map mk2)) (fun r=>r = (bK (raw l N)).map mk2) ?_ FU (0,[]) ⟨0,Nat.zero_le _,rfl⟩ (by simp only; omega)
 ·obtain ⟨r,e,rfl⟩:=hh
  exact e
 ·rintro s J ⟨i,hi,rfl⟩ hJ
  unfold aM_l1
  simp only
  by_cases c:i < l.length
  ·have hin:(raw l N)[i]'(by omega) = (l[i],un 1 N):=by unfold raw; rw [List.getElem_map]
   have f:=(hW.fq _ (List.getElem_mem (show i < (raw l N).length by omega))).1
   rw [hin] at f
   have hd:=hW.pre ((raw l N).take i) ((raw l N).drop i) (List.take_append_drop ..).symm
   rw [if_pos (by simpa using c),geE (by simpa using c),ab,List.getElem_map]
   rw [ma f hN hd (fun D=>J (i + 1,D))]
   refine hJ _ ⟨i + 1,c,?_⟩ (by simp only; omega)
   rw [kM (by omega),hin]
  ·rw [if_neg (by simpa using c)]
   refine ⟨_,I,?_⟩
   rw [List.take_of_length_le (by omega)]
theorem tallyG {l:List Rat} (hk:∀ q ∈ l,Bt 40 40 q) (h0:0 < l.length) (h4:l.length <= 400):aM_p FU (l.map Sg) = some ((gL (raw l l.length)).map ms,0):=by
 have hF:=aT
 have hW:=lD hk h0 h4
 have g:=da (raw l l.length)
 have hlen:=Nat.le_trans g.len hW.len
 have hfq:=hW.wq.pre _ [] (List.append_nil _).symm
 obtain ⟨c1,c2⟩:=gZ (raw l l.length)
 have ha:=askedL (L:=[]) (l:=l) (fun T hT=>by cases hT) (fun x hx=>(hk x hx).k) (by simp) (by omega)
 unfold aM_p
 rw [if_neg (by simp only [List.length_map]; omega)]
 rw [show aq_p FU [] (l.map Sg) = some 0 from ha,ab,if_pos rfl,if_neg (by simp only [List.length_map]; omega),from1,ab,List.length_map,fromN (by omega),ab,overN h0 (by omega),ab,tallyL hW.wq (by omega) (iE h0 (by omega) (by omega)),ab]
 rw [if_neg (show ¬ 400 < ((bK (raw l l.length)).map mk2).length by rw [List.length_map]; omega)]
 exact jZ (fun xs=>rfl) (fun e J xs=>rfl) hfq g.nd c2 (c1.perm2 g) (by omega)
set_option maxRecDepth 8000
theorem qG {a b:Int} (h0:b ≠ 0) (ha:Sm a) (hb:Sm b):ac_p FU a b = some (Sg (Rat.divInt a b)):=by
 unfold ac_p
 rw [sof h0 ha hb,ab]
def sqs (n:Nat):List Rat:=(List.range n).map fun i=>un (i * i) 1
theorem bt (n:Nat):(sqs n).length = n:=by unfold sqs; rw [List.length_map,List.length_range]
theorem eZ {n:Nat} {q:Rat} (h:q ∈ sqs n):∃ i,i < n/\q = un (i * i) 1:=by
 obtain ⟨i,hi,rfl⟩:=List.mem_map.1 h
 exact ⟨i,List.mem_range.1 hi,I⟩
theorem ly {i:Nat} (h:i <= 401):Bt 18 1 (un (i * i) 1):=by
 have h1:i * i <= 401 * 401:=Nat.mul_le_mul h h
 generalize i * i = z at h1 ⊢
 exact Bt.of (by decide) (by omega) (by decide)
theorem iz (n:Nat):sqs (n + 1) = sqs n ++ [un (n * n) 1]:=by
 unfold sqs
 rw [List.range_succ,List.map_append]; rfl
theorem un_lt {a b:Nat} (h:a < b):¬ un (b * b) 1 <= un (a * a) 1:=fun hc=>by
 have h1:=(dJ (by decide)).1 hc
 have h2:a * a < b * b:=Nat.mul_lt_mul'' h h
 omega
theorem un_inj {a b:Nat} (h:un a 1 = un b 1):a = b:=by
 have h1:un a 1 <= un b 1:=by rw [h]; exact Rat.le_refl
 have h2:un b 1 <= un a 1:=by rw [h]; exact Rat.le_refl
 exact Nat.le_antisymm ((dJ (N:=1) (by decide)).1 h1) ((dJ (N:=1) (by decide)).1 h2)
def fl:List (Rat × Rat):=raw (sqs 400) 400
theorem fl_up:Up fl:=by
 unfold fl raw sqs Up
 rw [List.map_map,List.pairwise_map]
 exact List.pairwise_lt_range.imp fun h=>un_lt h
theorem sqs_nd:(sqs 400).Nodup:=by
 have h:=fl_up.nodup
 unfold fl raw at h
 rw [List.map_map] at h
 rwa [show ((fun x:Rat × Rat=>x.1) ∘ fun q=>(q,un 1 400)) = id from I,List.map_id] at h
theorem lG:∀ q ∈ sqs 400,Bt 40 40 q:=fun q hq=>by
 obtain ⟨i,hi,rfl⟩:=eZ hq
 exact (ly (by omega)).mono (by decide) (by decide)
theorem fl_wd:Wd 400 fl:=by
 have h:=lD lG (by rw [bt]; decide) (by rw [bt]; decide)
 rw [bt] at h
 exact h
theorem fl_ds:Ds fl:=fl_wd.ds (Gat.self fl_up.nodup) fl_up
theorem iX:gL fl = fl:=(gZ fl).1.one (Gat.self fl_up.nodup) (gZ fl).2 fl_up
theorem ld:aM_p FU ((sqs 400).map Sg) = some (fl.map ms,0):=by
 have h:=tallyG lG (by rw [bt]; decide) (by rw [bt]; decide)
 rw [bt] at h
 rw [h]
 show some ((gL fl).map ms,0) = _
 rw [iX]
theorem cut_sqs:cut ((sqs 401).map Sg) 0 400 = some ((sqs 400).map Sg):=by
 have h:=lR (xs:=(sqs 401).map Sg) (z:=400) (by rw [List.length_map,bt]; decide)
 refine h.trans (congrArg some ?_)
 rw [iz 400,List.map_append,List.take_left' (by rw [List.length_map,bt])]
theorem jh:aM_p FU ((sqs 401).map Sg) = some ([],3):=by
 unfold aM_p
 rw [if_pos (by rw [List.length_map,bt]; decide)]
def d2:List (Rat × Rat):=[(0,un 1 2),(1,un 1 2)]
def p0:List (Rat × Rat):=[(0,1)]
theorem d2_ds:Ds d2:=by
 refine ⟨2,by decide,by decide,?_,fun e he=>?_,fun e he=>?_,?_,by decide⟩
 ·unfold Up d2
  rw [List.pairwise_cons]
  refine ⟨fun x hx=>?_,List.pairwise_singleton ..⟩
  rw [List.mem_singleton.1 hx]; decide
 ·rcases List.mem_cons.1 he with rfl | he
  ·exact ⟨by decide,by decide⟩
  ·rw [List.mem_singleton.1 he]; exact ⟨by decide,by decide⟩
 ·rcases List.mem_cons.1 he with rfl | he
  ·exact ⟨1,by decide,by decide,I⟩
  ·rw [List.mem_singleton.1 he]; exact ⟨1,by decide,by decide,rfl⟩
 ·show un 1 2 + (un 1 2 + 0) = un 2 2
  rw [Rat.add_zero,dK]
theorem p0_ds:Ds p0:=by
 refine ⟨1,by decide,by decide,List.pairwise_singleton ..,fun e he=>?_,fun e he=>?_,?_,by decide⟩
 ·rw [List.mem_singleton.1 he]; exact ⟨by decide,by decide⟩
 ·rw [List.mem_singleton.1 he]; exact ⟨1,by decide,by decide,(bS (by decide)).symm⟩
 ·show (1:Rat) + 0 = un 1 1
  rw [Rat.add_zero,bS (by decide)]
theorem jk:∀ T,prs T p0 = T
 | []=>rfl
 | e :: l=>by
  rw [fH,jk l]
  show (e.1 + 0,e.2 * 1) :: ([] ++ l) = e :: l
  rw [Rat.add_zero,Rat.mul_one]; rfl
theorem sum_p0:aA_p FU (fl.map ms) (p0.map ms) = some (fl.map ms,0):=by
 have h:=kZ fl_ds p0_ds (N:=400) (by rw [jk]; exact fl_wd)
 rwa [jk,iX] at h
theorem len_sub {K L:List Rat} (hK:K.Nodup) (hL:L.Nodup) (hs:∀ x ∈ K,x ∈ L):K.length <= L.length:=by
 have h2:(L.filter fun x=>decide (x ∈ K)).Perm K:=(List.perm_ext_iff_of_nodup (hL.filter _) hK).2 fun x=>by
  rw [List.mem_filter]
  exact ⟨fun h=>of_decide_eq_true h.2,fun h=>⟨hs x h,decide_eq_true h⟩⟩
 rw [<- h2.length_eq]
 exact List.length_filter_le ..
theorem lZ {e:Rat × Rat} (h:e ∈ prs fl d2):∃ i,i < 400/\(e = (un (i * i) 1 + 0,un 1 400 * un 1 2) ∨ e = (un (i * i) 1 + 1,un 1 400 * un 1 2)):=by
 obtain ⟨x,hx,y,hy,rfl⟩:=jL.1 h
 obtain ⟨q,hq,rfl⟩:=List.mem_map.1 hx
 obtain ⟨i,hi,rfl⟩:=eZ hq
 refine ⟨i,hi,?_⟩
 rcases List.mem_cons.1 hy with rfl | hy
 ·exact .inl I
 ·rw [List.mem_singleton.1 hy]; exact .inr I
theorem d2_wq:Wq (prs fl d2):=by
 refine wq_of (N:=800) (by decide) (by decide) (fun e he=>?_) (fun e he=>?_) (prs_sW fl_ds.one d2_ds.one)
 ·obtain ⟨i,hi,rfl | rfl⟩:=lZ he
  ·exact ((ly (show i <= 401 by omega)).add (i2:=1) (j2:=1) (b:=0) ⟨by decide,by decide⟩ (i:=20) (by decide) (by decide)).mono (by decide) (by decide)
  ·exact ((ly (show i <= 401 by omega)).add (i2:=1) (j2:=1) (b:=1) ⟨by decide,by decide⟩ (i:=20) (by decide) (by decide)).mono (by decide) (by decide)
 ·obtain ⟨i,hi,rfl | rfl⟩:=lZ he
  ·exact ⟨1,by decide,by decide,un_mm 1 400 1 2⟩
  ·exact ⟨1,by decide,by decide,un_mm 1 400 1 2⟩
theorem d2_long:400 < (bK (prs fl d2)).length:=by
 have g:=da (prs fl d2)
 have hin:∀ i,i < 400 -> ∀ y ∈ d2,un (i * i) 1 + y.1 ∈ (bK (prs fl d2)).map (·.1):=fun i hi y hy=>by
  rw [g.keys]
  refine List.mem_map.2 ⟨(un (i * i) 1 + y.1,un 1 400 * y.2),jL.2 ⟨(un (i * i) 1,un 1 400),List.mem_map.2 ⟨un (i * i) 1,List.mem_map.2 ⟨i,List.mem_range.2 hi,I⟩,I⟩,y,hy,I⟩,I⟩
 have h:=len_sub (K:=un 2 1 :: sqs 400) (L:=(bK (prs fl d2)).map (·.1)) (List.nodup_cons.2 ⟨fun hc=>?_,sqs_nd⟩) g.nd fun x hx=>?_
 ·rw [leC,bt,List.length_map] at h
  omega
 ·obtain ⟨i,hi,e⟩:=eZ hc
  have h2:=un_inj e
  by_cases c:i <= 1
  ·have:i * i <= 1 * 1:=Nat.mul_le_mul c c
   omega
  ·have:2 * 2 <= i * i:=Nat.mul_le_mul (by omega) (by omega)
   omega
 ·rcases List.mem_cons.1 hx with rfl | hx
  ·have h2:=hin 1 (by decide) (1,un 1 2) (by unfold d2; simp)
   rwa [show un (1 * 1) 1 + (1,un 1 2).1 = un 2 1 from by
    show un 1 1 + 1 = un 2 1
    conv=>lhs; rw [<- bS (N:=1) (by decide)]
    rw [bS (N:=1) (by decide),<- bS (N:=1) (by decide),dK]] at h2
  ·obtain ⟨i,hi,rfl⟩:=eZ hx
   have h2:=hin i hi (0,un 1 2) (by unfold d2; simp)
   rwa [show un (i * i) 1 + (0,un 1 2).1 = un (i * i) 1 from Rat.add_zero _] at h2
theorem sum_d2:aA_p FU (fl.map ms) (d2.map ms) = some ([],3):=sumLong fl_ds d2_ds d2_wq d2_long
theorem made_d2:ah_p FU 2 [(0,1),(2,1)] = some (d2.map ms):=by kernel_rfl
theorem made_p0:ah_p FU 1 [(0,1)] = some (p0.map ms):=by kernel_rfl
end Go.Proofs.YtkommhmbkbhmlaaGreat
