/- Plain laws: words, their value, and integers of any length: sum, difference, product. No program in sight but the printed functions. -/
import Derived.Test.YtmhnkiifknjgaaaGreatDoorPA12
namespace Go.Proofs.YtmhnkiifknjgaaaGreatDoor
open Go
theorem ab {α β:Type} (x:α) (f:α -> Oa β):(some x).bind f = f x:=Eq.trans (Eq.refl _) (Eq.refl _)
theorem bc {α β:Type} (B:(α -> Oa β) -> α -> Oa β) (n:Nat) (s:α):au B (n + 1) s = B (au B n) s:=rfl
theorem aw {α β:Type} {B:(α -> Oa β) -> α -> Oa β} (m:α -> Nat) (I:α -> Prop) (Q:β -> Prop)
  (step:∀ s J,I s -> (∀ s', I s' -> m s' < m s -> ∃ r,J s' = some r/\Q r) -> ∃ r,B J s = some r/\Q r):∀ n s,I s -> m s < n -> ∃ r,au B n s = some r/\Q r:=by
 intro n
 induction n with
 | zero=>intro s _ h; omega
 | succ n ih=>intro s hI h; exact step s (au B n) hI fun s' h1 h2=>ih s' h1 (by omega)
theorem aN {x:Int} (h1:-9223372036854775808 <= x) (h2:x <= 9223372036854775807):chk x = some x:=if_pos ⟨h1,h2⟩
theorem aY {α:Type} {xs:La α} {i:Int} (h0:0 <= i) (h:i.toNat < xs.length):idx xs i = some xs[i.toNat]:=by unfold idx; rw [if_pos h0,geE h]
theorem bh {α:Type} {xs:La α} {i:Nat} (x:α) (h:i < xs.length):put xs (i:Int) x = some (xs.set i x):=by
 unfold put; rw [if_pos ⟨Int.natCast_nonneg _,by omega⟩]; rfl
theorem mC {α:Type} {xs:La α} {z:Nat} (h:z <= xs.length):cut xs 0 (z:Int) = some (xs.take z):=by
 unfold cut; rw [if_pos ⟨Int.le_refl _,Int.natCast_nonneg _,by omega⟩]; rfl
theorem cT {α:Type} (n:Nat) (x:α) (h:n <= 4294967296):mk (n:Int) x = some (List.replicate n x):=by
 unfold mk; rw [if_pos ⟨Int.natCast_nonneg _,by omega⟩]; rfl
def val:La Ua -> Nat
 | []=>0
 | x :: xs=>x.toNat + 18446744073709551616 * val xs
theorem ep (xs ys:La Ua):val (xs ++ ys) = val xs + 18446744073709551616 ^ xs.length * val ys:=by
 induction xs with
 | nil=>simp [val]
 | cons x xs ih=>simp only [List.cons_append,val,ih,leC,Nat.pow_succ]; grind
theorem cw (xs:La Ua):val xs < 18446744073709551616 ^ xs.length:=by
 induction xs with
 | nil=>simp [val]
 | cons x xs ih=>
  have:=x.toNat_lt
  have h2:18446744073709551616 * (val xs + 1) <= 18446744073709551616 * 18446744073709551616 ^ xs.length:=Nat.mul_le_mul_left _ ih
  simp only [val,leC,Nat.pow_succ]
  rw [Nat.mul_comm (_ ^ _)]
  omega
theorem bU (a:La Ua) {i:Nat} (h:i < a.length):val (a.take (i + 1)) = val (a.take i) + 18446744073709551616 ^ i * a[i].toNat:=by
 rw [<- List.take_append_getElem h,ep,List.length_take,Nat.min_eq_left (Nat.le_of_lt h)]
 simp [val]
theorem nc {xs:La Ua} {i:Nat} (s:Ua) (h:i < xs.length):(xs.set i s).take (i + 1) = xs.take i ++ [s]:=by
 rw [<- List.take_append_getElem (by simpa using h),List.take_set_of_le (Nat.le_refl _)]
 simp
theorem eG {xs:La Ua} {i:Nat} (s:Ua) (h:i < xs.length):val ((xs.set i s).take (i + 1)) = val (xs.take i) + 18446744073709551616 ^ i * s.toNat:=by
 rw [nc s h,ep,List.length_take,Nat.min_eq_left (Nat.le_of_lt h)]
 simp [val]
theorem cm:∀ (xs:La Ua),(∀ x ∈ xs,x = 0) -> val xs = 0
 | [],_=>rfl
 | x :: xs,h=>by
  have h1:=h x (List.mem_cons_self ..)
  have h2:=cm xs fun y hy=>h y (List.mem_cons_of_mem _ hy)
  subst h1; simp [val,h2]
def dg (m:Nat):La Ua:=if m = 0 then [] else UInt64.ofNat m :: dg (m / 18446744073709551616)
termination_by m
decreasing_by exact Nat.div_lt_self (by omega) (by omega)
theorem dg0:dg 0 = []:=by unfold dg; simp
theorem iu {m:Nat} (h:m ≠ 0):dg m = UInt64.ofNat m :: dg (m / 18446744073709551616):=by rw [dg]; rw [if_neg h]
theorem aF (m:Nat):val (dg m) = m:=by
 induction m using Nat.strongRecOn with
 | _ m ih=>
  by_cases h:m = 0
  ·subst h; rw [dg0]; rfl
  ·rw [iu h]; simp only [val]
   rw [ih _ (Nat.div_lt_self (by omega) (by omega)),UInt64.toNat_ofNat']
   exact Nat.mod_add_div m 18446744073709551616
def Nm (xs:La Ua):Prop:=∀ x,xs.getLast? = some x -> x ≠ 0
theorem Nm.tail {x y:Ua} {xs:La Ua} (h:Nm (x :: y :: xs)):Nm (y :: xs):=fun z hz=>h z (by rw [List.getLast?_cons_cons]; exact hz)
theorem gg:∀ {xs:La Ua},Nm xs -> xs ≠ [] -> 0 < val xs
 | [],_,h=>absurd I h
 | [x],h,_=>by
  have h1:=h x I
  have:x.toNat ≠ 0:=fun e=>h1 (UInt64.toNat_inj.1 (by simpa using e))
  simp only [val]; omega
 | x :: y :: xs,h,_=>by
  have:=gg h.tail (by simp)
  simp only [val] at this ⊢
  omega
theorem iH:∀ {xs:La Ua},Nm xs -> xs ≠ [] -> 18446744073709551616 ^ (xs.length - 1) <= val xs
 | [],_,h=>absurd I h
 | [x],h,_=>by
  have h1:=gg h (by simp)
  show 18446744073709551616 ^ 0 <= _
  rw [Nat.pow_zero]; exact h1
 | x :: y :: xs,h,_=>by
  have h1:=iH h.tail (by simp)
  have h2:18446744073709551616 * 18446744073709551616 ^ xs.length <= 18446744073709551616 * val (y :: xs):=Nat.mul_le_mul_left _ (by simpa using h1)
  show 18446744073709551616 ^ (xs.length + 1) <= x.toNat + 18446744073709551616 * val (y :: xs)
  rw [Nat.pow_succ,Nat.mul_comm]; omega
theorem mK:∀ {xs:La Ua},Nm xs -> dg (val xs) = xs
 | [],_=>dg0
 | x :: xs,h=>by
  have hp:=gg h (by simp)
  rw [iu (by omega)]
  have hx:=x.toNat_lt
  have h1:UInt64.ofNat (val (x :: xs)) = x:=UInt64.toNat_inj.1 (by rw [UInt64.toNat_ofNat']; simp only [val]; omega)
  have h2:val (x :: xs) / 18446744073709551616 = val xs:=by simp only [val]; omega
  have h3:Nm xs:=by
   cases xs with
   | nil=>intro z hz; simp at hz
   | cons y ys=>exact h.tail
  rw [h1,h2,mK h3]
theorem gH (m:Nat):Nm (dg m):=by
 induction m using Nat.strongRecOn with
 | _ m ih=>
  intro x hx
  by_cases h:m = 0
  ·subst h; rw [dg0] at hx; cases hx
  ·rw [iu h] at hx
   by_cases h2:m / 18446744073709551616 = 0
   ·rw [h2,dg0] at hx
    simp at hx
    intro e; subst e
    have:=congrArg UInt64.toNat hx
    rw [UInt64.toNat_ofNat'] at this
    simp at this; omega
   ·have h3:=ih (m / 18446744073709551616) (Nat.div_lt_self (by omega) (by omega))
    rw [iu h2] at hx h3
    rw [List.getLast?_cons_cons] at hx
    exact h3 x hx
theorem gT {m l:Nat} (h:m < 18446744073709551616 ^ l):(dg m).length <= l:=by
 by_cases h0:dg m = []
 ·rw [h0]; simp
 ·have h1:=iH (gH m) h0
  rw [aF] at h1
  have h2:=Nat.lt_of_le_of_lt h1 h
  have h3:=(Nat.pow_lt_pow_iff_right (by omega)).1 h2
  omega
theorem aJ (n:Nat) (b:Bool) (ws:La Ua) (hn:ws.length < n) (hl:ws.length <= 4294967296):az_p n b ws = some ⟨b && decide (0 < val ws),dg (val ws)⟩:=by
 have h:=aw (B:=az_l1 n ws) (fun z:Int=>z.toNat) (fun z=>0 <= z/\z <= ws.length/\∀ i:Nat,z.toNat <= i -> ∀ h:i < ws.length,ws[i] = 0)
  (fun z=>∃ k:Nat,z = k/\k <= ws.length/\(∀ i:Nat,k <= i -> ∀ h:i < ws.length,ws[i] = 0)/\∀ h:0 < k,∀ h2:k - 1 < ws.length,ws[k - 1] ≠ 0) ?_ n (ws.length:Int) ⟨by omega,by omega,fun i h1 h2=>by omega⟩ (by simpa using hn)
 ·obtain ⟨z,hz,k,rfl,hk,hz0,hz1⟩:=h
  have e:val ws = val (ws.take k):=by
   conv=>lhs; rw [<- List.take_append_drop k ws,ep]
   rw [cm (ws.drop k) fun x hx=>?_]
   ·simp
   ·obtain ⟨i,hi,rfl⟩:=List.getElem_of_mem hx
    rw [List.getElem_drop]
    exact hz0 _ (by omega) _
  have hnm:Nm (ws.take k):=by
   intro x hx
   rw [List.getLast?_eq_getElem?,List.length_take,Nat.min_eq_left hk] at hx
   obtain ⟨h1,rfl⟩:=List.getElem?_eq_some_iff.1 hx
   have h2:k - 1 < ws.length:=by rw [List.length_take] at h1; omega
   by_cases h0:0 < k
   ·rw [List.getElem_take]; exact hz1 h0 h2
   ·rw [List.length_take] at h1; omega
  have e2:dg (val ws) = ws.take k:=by rw [e]; exact mK hnm
  have e3:decide (0 < val ws) = decide (0 < (k:Int)):=by
   rw [decide_eq_decide]
   constructor
   ·intro h0
    by_cases hk0:k = 0
    ·subst hk0; rw [e] at h0; simp [val] at h0
    ·omega
   ·intro h0; rw [e]; refine gg hnm fun h1=>?_
    have:=congrArg List.length h1
    rw [List.length_take,leN] at this; omega
  unfold az_p jn
  simp only [hz,ab,mC hk]
  cases b
  ·simp [e2]
  ·simp [e2,e3]
 ·intro z J ⟨h1,h2,h3⟩ hJ
  unfold az_l1
  simp only
  by_cases h0:0 < z
  ·rw [if_pos h0,aN (by omega) (by omega),ab,aY (by omega) (by omega),ab]
   split
   ·rename_i hx
    rw [ab]
    refine hJ (z - 1) ⟨by omega,by omega,fun i h4 h5=>?_⟩ (by omega)
    by_cases h6:i = (z - 1).toNat
    ·subst h6; exact hx
    ·exact h3 i (by omega) h5
   ·rename_i hx
    refine ⟨z,I,z.toNat,by omega,by omega,h3,fun h4 h5=>?_⟩
    have:(z - 1).toNat = z.toNat - 1:=by omega
    simp only [this] at hx
    exact hx
  ·rw [if_neg h0]
   exact ⟨z,I,0,by omega,by omega,fun i h4 h5=>h3 i (by omega) h5,fun h4=>by omega⟩
theorem gu (x y c:Ua) (h:c.toNat <= 1):∃ s d:Ua,add64 x y c = some (s,d)/\s.toNat + 18446744073709551616 * d.toNat = x.toNat + y.toNat + c.toNat/\d.toNat <= 1:=by
 refine ⟨_,_,if_pos h,?_⟩
 have hx:=x.toNat_lt
 have hy:=y.toNat_lt
 rw [UInt64.toNat_ofNat', UInt64.toNat_ofNat']
 omega
theorem bH (x y c:Ua) (h:c.toNat <= 1):∃ s d:Ua,sub64 x y c = some (s,d)/\s.toNat + y.toNat + c.toNat = x.toNat + 18446744073709551616 * d.toNat/\d.toNat <= 1:=by
 refine ⟨_,_,if_pos h,?_⟩
 have hx:=x.toNat_lt
 have hy:=y.toNat_lt
 rw [UInt64.toNat_ofNat']
 split <;> simp <;> omega
theorem bs {α:Type} {l:La α} {i:Nat} (h:l.length <= i):l.take i = l:=List.take_of_length_le h
theorem ic (b:La Ua) (i:Nat):val (b.take (i + 1)) = val (b.take i) + 18446744073709551616 ^ i * (b[i]?.getD 0).toNat:=by
 by_cases h:i < b.length
 ·rw [bU b h,geE h]; rfl
 ·rw [bs (by omega),bs (by omega),List.getElem?_eq_none (by omega)]; simp
theorem kf (n:Nat) (a b:La Ua) (hb:b.length <= a.length) (hn:a.length < n):∃ xs u,au (cu_l1 n a b) n (0,0,List.replicate (a.length + 1) 0) = some (xs,u)/\xs.length = a.length + 1/\val (xs.take a.length) + 18446744073709551616 ^ a.length * u.toNat = val a + val b:=by
 have h:=aw (B:=cu_l1 n a b) (fun s:Ua × Nat × La Ua=>a.length - s.2.1) (fun s=>s.2.1 <= a.length/\s.2.2.length = a.length + 1/\s.1.toNat <= 1/\val (s.2.2.take s.2.1) + 18446744073709551616 ^ s.2.1 * s.1.toNat = val (a.take s.2.1) + val (b.take s.2.1))
  (fun r:La Ua × Ua=>r.1.length = a.length + 1/\val (r.1.take a.length) + 18446744073709551616 ^ a.length * r.2.toNat = val a + val b) ?_ n (0,0,List.replicate (a.length + 1) 0) ⟨by simp,by simp,by simp,by simp [val]⟩ (by simpa using hn)
 ·obtain ⟨⟨xs,u⟩,h1,h2,h3⟩:=h; exact ⟨xs,u,h1,h2,h3⟩
 ·rintro ⟨u,i,xs⟩ J ⟨h1,h2,h3,h4⟩ hJ
  simp only at h1 h2 h3 h4 hJ
  unfold cu_l1
  simp only
  by_cases hi:i < a.length
  ·rw [if_pos hi,geE hi,ab]
   have key:∀ y:Ua,y = b[i]?.getD 0 -> ∃ r,((add64 a[i] y u).bind fun z198=>(xs[i]?).bind fun x199=>(put xs ((i:Nat):Int) z198.1).bind fun xs212=>J (z198.2,i + 1,xs212)) = some r/\r.1.length = a.length + 1/\val (r.1.take a.length) + 18446744073709551616 ^ a.length * r.2.toNat = val a + val b:=by
    intro y hy
    obtain ⟨s,d,e1,e2,e3⟩:=gu a[i] y u h3
    rw [e1,ab,geE (by omega),ab,bh _ (by omega),ab]
    refine hJ (d,i + 1,xs.set i s) ⟨by show i + 1 <= _; omega,by simpa using h2,e3,?_⟩ (by simp only; omega)
    simp only
    rw [eG s (by omega),bU a hi,ic b i,<- hy,Nat.pow_succ]
    grind
   unfold jn
   simp only
   by_cases hj:i < b.length
   ·rw [if_pos hj,geE hj,ab]; exact key _ (by rw [geE hj]; rfl)
   ·rw [if_neg hj]; exact key _ (by rw [List.getElem?_eq_none (by omega)]; rfl)
  ·rw [if_neg hi]
   have:i = a.length:=by omega
   subst this
   refine ⟨_,I,h2,?_⟩
   simp only
   rw [h4,List.take_length,bs hb]
theorem ni (n:Nat) (a b:La Ua) (hn:a.length < n/\b.length < n) (hl:a.length < 4294967296/\b.length < 4294967296):∃ xs,cu_p n a b = some xs/\xs.length <= max a.length b.length + 1/\val xs = val a + val b:=by
 have key:∀ a b:La Ua,b.length <= a.length -> a.length < n -> a.length < 4294967296 -> ∃ xs,((mk ((a.length + 1:Nat):Int) (0:Ua)).bind fun xs17=>Option.bind (au (cu_l1 n a b) n ((0:Ua),0,xs17)) (fun (xs157,u155)=>(xs157[a.length]?).bind fun x229=>(put xs157 ((a.length:Nat):Int) u155).bind fun xs241=>some xs241)) = some xs/\xs.length = a.length + 1/\val xs = val a + val b:=by
  intro a b hb h1 h2
  obtain ⟨xs,u,e1,e2,e3⟩:=kf n a b hb h1
  rw [cT _ _ (by omega),ab,e1,ab]
  simp only
  rw [geE (by omega),ab,bh _ (by omega),ab]
  refine ⟨_,rfl,by simpa using e2,?_⟩
  rw [<- e3]
  conv=>lhs; rw [<- bs (l:=xs.set a.length u) (i:=a.length + 1) (by simp [e2])]
  exact eG u (by omega)
 unfold cu_p jn
 simp only
 by_cases h:a.length < b.length
 ·rw [if_pos h]
  obtain ⟨xs,e1,e2,e3⟩:=key b a (by omega) hn.2 hl.2
  exact ⟨xs,e1,by omega,by omega⟩
 ·rw [if_neg h]
  obtain ⟨xs,e1,e2,e3⟩:=key a b (by omega) hn.1 hl.1
  exact ⟨xs,e1,by omega,e3⟩
theorem jH (n:Nat) (a b:La Ua) (hb:b.length <= a.length) (hv:val b <= val a) (hn:a.length < n) (hl:a.length < 4294967296):∃ xs,ca_p n a b = some xs/\xs.length = a.length/\val xs = val a - val b:=by
 have h:=aw (B:=ca_l1 n a b) (fun s:Ua × Nat × La Ua=>a.length - s.2.1) (fun s=>s.2.1 <= a.length/\s.2.2.length = a.length/\s.1.toNat <= 1/\val (s.2.2.take s.2.1) + val (b.take s.2.1) = val (a.take s.2.1) + 18446744073709551616 ^ s.2.1 * s.1.toNat)
  (fun r:La Ua=>r.length = a.length/\val r = val a - val b) ?_ n (0,0,List.replicate a.length 0) ⟨by simp,by simp,by simp,by simp [val]⟩ (by simpa using hn)
 ·obtain ⟨xs,h1,h2,h3⟩:=h
  refine ⟨xs,?_,h2,h3⟩
  unfold ca_p
  rw [cT _ _ (by omega),ab,h1,ab]
 ·rintro ⟨u,i,xs⟩ J ⟨h1,h2,h3,h4⟩ hJ
  simp only at h1 h2 h3 h4 hJ
  unfold ca_l1
  simp only
  by_cases hi:i < a.length
  ·rw [if_pos hi,geE hi,ab]
   have key:∀ y:Ua,y = b[i]?.getD 0 -> ∃ r,((sub64 a[i] y u).bind fun z184=>(xs[i]?).bind fun x185=>(put xs ((i:Nat):Int) z184.1).bind fun xs198=>J (z184.2,i + 1,xs198)) = some r/\r.length = a.length/\val r = val a - val b:=by
    intro y hy
    obtain ⟨s,d,e1,e2,e3⟩:=bH a[i] y u h3
    rw [e1,ab,geE (by omega),ab,bh _ (by omega),ab]
    refine hJ (d,i + 1,xs.set i s) ⟨by show i + 1 <= _; omega,by simpa using h2,e3,?_⟩ (by simp only; omega)
    simp only
    rw [eG s (by omega),bU a hi,ic b i,<- hy,Nat.pow_succ]
    grind
   unfold jn
   simp only
   by_cases hj:i < b.length
   ·rw [if_pos hj,geE hj,ab]; exact key _ (by rw [geE hj]; rfl)
   ·rw [if_neg hj]; exact key _ (by rw [List.getElem?_eq_none (by omega)]; rfl)
  ·rw [if_neg hi]
   have:i = a.length:=by omega
   subst this
   rw [List.take_length,bs hb,bs (by omega)] at h4
   refine ⟨xs,I,h2,?_⟩
   have h5:=cw xs
   rw [h2] at h5
   by_cases hu:u.toNat = 0
   ·rw [hu] at h4; omega
   ·have:u.toNat = 1:=by omega
    rw [this] at h4; omega
theorem dG (a:La Ua) {i:Nat} (h:i < a.length):val a = val (a.take i) + 18446744073709551616 ^ i * a[i].toNat + 18446744073709551616 ^ (i + 1) * val (a.drop (i + 1)):=by
 conv=>lhs; rw [<- List.take_append_drop (i + 1) a,ep]
 rw [bU a h,List.length_take,Nat.min_eq_left (by omega)]
theorem mt {a b:La Ua} (hb:Nm b) (h:a.length < b.length):val a < val b:=by
 have h1:=cw a
 have h2:=iH hb (by intro e; rw [e] at h; simp at h)
 have h3:18446744073709551616 ^ a.length <= 18446744073709551616 ^ (b.length - 1):=Nat.pow_le_pow_right (by omega) (by omega)
 omega
theorem gh {a b:La Ua} {i:Nat} (ha:i < a.length) (hb:i < b.length) (hd:a.drop (i + 1) = b.drop (i + 1)) (h:a[i] < b[i]):val a < val b:=by
 rw [dG a ha,dG b hb,hd]
 have h1:=cw (a.take i)
 rw [List.length_take,Nat.min_eq_left (by omega)] at h1
 have h2:18446744073709551616 ^ i * (a[i].toNat + 1) <= 18446744073709551616 ^ i * b[i].toNat:=Nat.mul_le_mul_left _ (UInt64.lt_iff_toNat_lt.1 h)
 rw [Nat.mul_add] at h2
 omega
theorem fU (n:Nat) (a b:La Ua) (ha:Nm a) (hb:Nm b) (hn:a.length < n) (hl:a.length < 4294967296):∃ c,bP_p n a b = some c/\(c < 0 ↔ val a < val b)/\(c = 0 ↔ val a = val b):=by
 unfold bP_p
 by_cases h:a.length = b.length
 ·rw [if_pos h]
  have hh:=aw (B:=bP_l1 n a b) (fun z:Int=>(z + 1).toNat) (fun z=>-1 <= z/\z < a.length/\a.drop (z + 1).toNat = b.drop (z + 1).toNat)
   (fun r=>(r = .inl (-1)/\val a < val b) ∨ (r = .inl 1/\val b < val a) ∨ (r = .inr ()/\a = b)) ?_ n ((a.length:Int) - 1) ⟨by omega,by omega,?_⟩ (by omega)
  ·obtain ⟨r,hr,h1 | h1 | h1⟩:=hh
   ·rw [hr,h1.1]; exact ⟨_,rfl,by have:=h1.2; omega,by have:=h1.2; omega⟩
   ·rw [hr,h1.1]; exact ⟨_,rfl,by have:=h1.2; omega,by have:=h1.2; omega⟩
   ·rw [hr,h1.1,h1.2]; exact ⟨_,rfl,by omega,by omega⟩
  ·intro z J ⟨h1,h2,h3⟩ hJ
   unfold bP_l1
   simp only
   by_cases h0:0 <= z
   ·have e1:(z + 1).toNat = z.toNat + 1:=by omega
    rw [e1] at h3
    rw [if_pos h0,aY h0 (by omega),ab,aY h0 (by omega),ab]
    split
    ·rename_i hlt; exact ⟨_,I,.inl ⟨I,gh (by omega) (by omega) h3 hlt⟩⟩
    ·rename_i h4
     split
     ·rename_i hlt; exact ⟨_,I,.inr (.inl ⟨I,gh (by omega) (by omega) h3.symm hlt⟩)⟩
     ·rename_i h5
      have he:a[z.toNat]'(by omega) = b[z.toNat]'(by omega):=UInt64.toNat_inj.1 (by rw [UInt64.lt_iff_toNat_lt] at h4 h5; omega)
      rw [aN (by omega) (by omega),ab]
      refine hJ (z - 1) ⟨by omega,by omega,?_⟩ (by omega)
      rw [show (z - 1 + 1).toNat = z.toNat by omega,List.drop_eq_getElem_cons (by omega),List.drop_eq_getElem_cons (l:=b) (by omega),h3,he]
   ·rw [if_neg h0]
    have e1:(z + 1).toNat = 0:=by omega
    rw [e1] at h3
    exact ⟨_,rfl,.inr (.inr ⟨rfl,by simpa using h3⟩)⟩
  ·rw [show ((a.length:Int) - 1 + 1).toNat = a.length by omega,List.drop_length,h,List.drop_length]
 ·rw [if_neg h]
  refine ⟨_,I,?_⟩
  by_cases h1:a.length < b.length
  ·have:=mt hb h1; omega
  ·have:=mt (a:=b) ha (by omega); omega
theorem kg (a:Ua):(shrU a 32).toNat = a.toNat / 4294967296:=by
 unfold shrU; rw [if_pos (by decide),UInt64.toNat_ofNat']
 have:=a.toNat_lt
 omega
theorem mV (a:Ua):(a &&& (4294967295:Ua)).toNat = a.toNat % 4294967296:=by
 rw [UInt64.toNat_and]; exact Nat.and_two_pow_sub_one_eq_mod a.toNat 32
theorem lT (x1 x0 y1 y0:Nat) (h1:x1 < 4294967296) (h2:x0 < 4294967296) (h3:y1 < 4294967296) (h4:y0 < 4294967296) :
  ((x1 * y0 + x0 * y0 / 4294967296) < 18446744073709551616)/\((x1 * y0 + x0 * y0 / 4294967296) % 4294967296 + x0 * y1 < 18446744073709551616)/\
  x1 * y1 + (x1 * y0 + x0 * y0 / 4294967296) / 4294967296 + ((x1 * y0 + x0 * y0 / 4294967296) % 4294967296 + x0 * y1) / 4294967296 < 18446744073709551616/\
  (((x1 * 4294967296 + x0) * (y1 * 4294967296 + y0)) % 18446744073709551616) + 18446744073709551616 * (x1 * y1 + (x1 * y0 + x0 * y0 / 4294967296) / 4294967296 + ((x1 * y0 + x0 * y0 / 4294967296) % 4294967296 + x0 * y1) / 4294967296) = (x1 * 4294967296 + x0) * (y1 * 4294967296 + y0):=by
 have e:(x1 * 4294967296 + x0) * (y1 * 4294967296 + y0) = 18446744073709551616 * (x1 * y1) + 4294967296 * (x1 * y0 + x0 * y1) + x0 * y0:=by grind
 have b1:x1 * y1 <= 4294967295 * 4294967295:=Nat.mul_le_mul (by omega) (by omega)
 have b2:x1 * y0 <= 4294967295 * 4294967295:=Nat.mul_le_mul (by omega) (by omega)
 have b3:x0 * y1 <= 4294967295 * 4294967295:=Nat.mul_le_mul (by omega) (by omega)
 have b4:x0 * y0 <= 4294967295 * 4294967295:=Nat.mul_le_mul (by omega) (by omega)
 rw [e]
 generalize x1 * y1 = s at *
 generalize x1 * y0 = q at *
 generalize x0 * y1 = r at *
 generalize x0 * y0 = p at *
 clear e h1 h2 h3 h4
 refine ⟨by omega,by omega,by omega,by omega⟩
theorem mA (n:Nat) (x y:Ua):∃ hi lo,df_p n x y = some (hi,lo)/\lo.toNat + 18446744073709551616 * hi.toNat = x.toNat * y.toNat:=by
 refine ⟨_,_,I,?_⟩
 have hx:=x.toNat_lt
 have hy:=y.toNat_lt
 have ex:x.toNat = x.toNat / 4294967296 * 4294967296 + x.toNat % 4294967296:=by omega
 have ey:y.toNat = y.toNat / 4294967296 * 4294967296 + y.toNat % 4294967296:=by omega
 obtain ⟨h1,h2,h3,h4⟩:=lT (x.toNat / 4294967296) (x.toNat % 4294967296) (y.toNat / 4294967296) (y.toNat % 4294967296) (by omega) (by omega) (by omega) (by omega)
 rw [<- ex,<- ey] at h4
 have b1:x.toNat / 4294967296 * (y.toNat / 4294967296) < 18446744073709551616:=by omega
 have b2:x.toNat / 4294967296 * (y.toNat % 4294967296) < 18446744073709551616:=by omega
 have b3:x.toNat % 4294967296 * (y.toNat / 4294967296) < 18446744073709551616:=by omega
 have b4:x.toNat % 4294967296 * (y.toNat % 4294967296) < 18446744073709551616:=by
  have:x.toNat % 4294967296 * (y.toNat % 4294967296) <= 4294967295 * 4294967295:=Nat.mul_le_mul (by omega) (by omega)
  omega
 simp only [UInt64.toNat_add,UInt64.toNat_mul,kg,mV,show (2:Nat) ^ 64 = 18446744073709551616 from rfl]
 rw [Nat.mod_eq_of_lt b1,Nat.mod_eq_of_lt b2,Nat.mod_eq_of_lt b3,Nat.mod_eq_of_lt b4,Nat.mod_eq_of_lt h1,Nat.mod_eq_of_lt h2]
 rw [Nat.mod_eq_of_lt (a:=x.toNat / 4294967296 * (y.toNat / 4294967296) + _) (by omega),Nat.mod_eq_of_lt h3]
 exact h4
theorem mult_in (n:Nat) (b:La Ua) (x:Ua) (i:Nat) (xs0:La Ua) (hi:i + b.length < xs0.length) (hn:b.length < n) :
  ∃ xs u,au (aX_l1 n b x i) n (0,0,xs0) = some (xs,u)/\xs.length = xs0.length/\val (xs.take (i + b.length)) + 18446744073709551616 ^ (i + b.length) * u.toNat = val (xs0.take (i + b.length)) + x.toNat * val b * 18446744073709551616 ^ i:=by
 have h:=aw (B:=aX_l1 n b x i) (fun s:Ua × Nat × La Ua=>b.length - s.2.1) (fun s=>s.2.1 <= b.length/\s.2.2.length = xs0.length/\(∀ k,i + s.2.1 <= k -> s.2.2[k]? = xs0[k]?)/\val (s.2.2.take (i + s.2.1)) + 18446744073709551616 ^ (i + s.2.1) * s.1.toNat = val (xs0.take (i + s.2.1)) + x.toNat * val (b.take s.2.1) * 18446744073709551616 ^ i)
  (fun r:La Ua × Ua=>r.1.length = xs0.length/\val (r.1.take (i + b.length)) + 18446744073709551616 ^ (i + b.length) * r.2.toNat = val (xs0.take (i + b.length)) + x.toNat * val b * 18446744073709551616 ^ i) ?_ n (0,0,xs0) ⟨by simp,rfl,fun _ _=>rfl,by simp [val]⟩ (by simpa using hn)
 ·obtain ⟨⟨xs,u⟩,h1,h2,h3⟩:=h; exact ⟨xs,u,h1,h2,h3⟩
 ·rintro ⟨u,j,xs⟩ J ⟨h1,h2,h3,h4⟩ hJ
  simp only at h1 h2 h3 h4 hJ
  unfold aX_l1
  simp only
  by_cases hj:j < b.length
  ·obtain ⟨hi', lo,e1,e2⟩:=mA n x b[j]
   have hx0:xs[i + j]'(by omega) = xs0[i + j]'(by omega):=by
    have:=h3 (i + j) (by omega)
    rw [geE (by omega),geE (by omega)] at this
    exact Option.some.inj this
   rw [if_pos hj,geE hj,ab,e1,ab,geE (by omega),ab]
   obtain ⟨s,c,f1,f2,f3⟩:=gu (xs[i + j]'(by omega)) lo 0 (by simp)
   obtain ⟨s', c', g1,g2,g3⟩:=gu s u 0 (by simp)
   simp only [f1,ab,g1]
   rw [bh _ (by omega),ab]
   simp only [UInt64.toNat_zero,Nat.add_zero] at f2 g2
   have bx:x.toNat * b[j].toNat <= 18446744073709551615 * 18446744073709551615:=Nat.mul_le_mul (by have:=x.toNat_lt; omega) (by have:=b[j].toNat_lt; omega)
   have bo:=(xs[i + j]'(by omega)).toNat_lt
   have bu:=u.toNat_lt
   have e3:(hi' + c + c').toNat = hi'.toNat + c.toNat + c'.toNat:=by
    rw [UInt64.toNat_add,UInt64.toNat_add]; omega
   have e4:s'.toNat + 18446744073709551616 * (hi' + c + c').toNat = (xs[i + j]'(by omega)).toNat + x.toNat * b[j].toNat + u.toNat:=by rw [e3]; omega
   refine hJ (hi' + c + c', j + 1,xs.set (i + j) s') ⟨hj,by simpa using h2,fun k hk=>?_,?_⟩ (by simp only; omega)
   ·simp only at hk ⊢
    rw [List.getElem?_set_ne (by omega)]; exact h3 k (by omega)
   ·simp only
    rw [<- Nat.add_assoc,eG s' (by omega),bU xs0 (by omega),bU b hj,<- hx0,Nat.pow_succ]
    rw [Nat.pow_add] at h4 ⊢
    grind
  ·rw [if_neg hj]
   have:j = b.length:=by omega
   subst this
   refine ⟨_,I,h2,?_⟩
   simp only
   rw [h4,List.take_length]
theorem hH (n:Nat) (a b:La Ua) (hn:a.length < n/\b.length < n) (hl:a.length + b.length <= 4294967296):∃ xs,aX_p n a b = some xs/\xs.length = a.length + b.length/\val xs = val a * val b:=by
 have h:=aw (B:=aX_l2 n a b) (fun s:Nat × La Ua=>a.length - s.1) (fun s=>s.1 <= a.length/\s.2.length = a.length + b.length/\val (s.2.take (s.1 + b.length)) = val (a.take s.1) * val b)
  (fun r:La Ua=>r.length = a.length + b.length/\val r = val a * val b) ?_ n (0,List.replicate (a.length + b.length) 0) ⟨by simp,by simp,?_⟩ (by simpa using hn.1)
 ·obtain ⟨xs,h1,h2,h3⟩:=h
  refine ⟨xs,?_,h2,h3⟩
  unfold aX_p
  rw [cT _ _ hl,ab,h1,ab]
 ·rintro ⟨i,xs⟩ J ⟨h1,h2,h3⟩ hJ
  simp only at h1 h2 h3 hJ
  unfold aX_l2
  simp only
  by_cases hi:i < a.length
  ·obtain ⟨ys,u,e1,e2,e3⟩:=mult_in n b a[i] i xs (by omega) hn.2
   rw [if_pos hi,geE hi,ab,e1,ab]
   simp only
   rw [geE (by omega),ab,bh _ (by omega),ab]
   refine hJ (i + 1,ys.set (i + b.length) u) ⟨hi,by simp; omega,?_⟩ (by simp only; omega)
   simp only
   rw [show i + 1 + b.length = i + b.length + 1 by omega,eG u (by omega),bU a hi,e3,h3]
   grind
  ·rw [if_neg hi]
   have:i = a.length:=by omega
   subst this
   rw [List.take_length,bs (by omega)] at h3
   exact ⟨xs,I,h2,h3⟩
 ·simp only [List.take_zero,val,Nat.zero_mul]
  exact cm _ fun x hx=>(List.mem_replicate.1 (List.mem_of_mem_take hx)).2
def L (z:Int):Th:=⟨decide (z < 0),dg z.natAbs⟩
def Fit (l:Nat) (z:Int):Prop:=z.natAbs < 18446744073709551616 ^ l
theorem Fit.len {l:Nat} {z:Int} (h:Fit l z):(dg z.natAbs).length <= l:=gT h
def sg (s:Bool) (m:Nat):Int:=if s = true then -(m:Int) else m
theorem lJ (s:Bool) (m:Nat):(⟨s && decide (0 < m),dg m⟩:Th) = L (sg s m):=by
 unfold L sg
 cases s
 ·simp
 ·simp
theorem kN (z:Int):z = sg (decide (z < 0)) z.natAbs:=by
 unfold sg; split <;> rename_i h <;> simp at h <;> omega
theorem gp (s:Bool) (m:Nat):(sg s m).natAbs = m:=by unfold sg; split <;> omega
theorem cg (n l:Nat) (z:Int) (h:Fit l z) (hn:l < n) (hl:l < 1000000):bz_p n (L z) = some (L (-z)):=by
 unfold bz_p
 have h1:=h.len
 rw [aJ n _ _ (by show (dg z.natAbs).length < n; omega) (by show (dg z.natAbs).length <= _; omega),ab]
 show some (⟨!decide (z < 0) && decide (0 < val (dg z.natAbs)),dg (val (dg z.natAbs))⟩:Th) = _
 rw [aF,lJ]
 refine congrArg (fun x=>some (L x)) ?_
 unfold sg
 by_cases hz:z < 0 <;> simp [hz] <;> omega
theorem cn (n l m:Nat) (a b:Int) (ha:Fit l a) (hb:Fit m b) (hn:l + m < n) (hl:l + m < 1000000):aH_p n (L a) (L b) = some (L (a * b)):=by
 unfold aH_p
 have h1:=ha.len
 have h2:=hb.len
 obtain ⟨xs,e1,e2,e3⟩:=hH n (L a).fu (L b).fu ⟨by show (dg a.natAbs).length < n; omega,by show (dg b.natAbs).length < n; omega⟩ (by show (dg a.natAbs).length + (dg b.natAbs).length <= _; omega)
 have e4:xs.length = (dg a.natAbs).length + (dg b.natAbs).length:=e2
 rw [e1,ab,aJ n _ _ (by omega) (by omega),ab,e3]
 show some (⟨!(decide (a < 0) == decide (b < 0)) && decide (0 < val (dg a.natAbs) * val (dg b.natAbs)),dg (val (dg a.natAbs) * val (dg b.natAbs))⟩:Th) = _
 rw [aF,aF,lJ]
 refine congrArg (fun x=>some (L x)) ?_
 conv=>rhs; rw [kN a,kN b]
 unfold sg
 by_cases h3:a < 0 <;> by_cases h4:b < 0 <;> simp [h3,h4,Int.neg_mul,Int.mul_neg,Int.neg_mul_neg]
theorem gm {a b:Nat} (h:a <= b):(dg a).length <= (dg b).length:=gT (Nat.lt_of_le_of_lt h (by have:=cw (dg b); rwa [aF] at this))
theorem lh (n l a b:Nat) (s:Bool) (h:a <= b) (hl:(dg b).length <= l) (hn:l < n) (hl2:l < 1000000):((ca_p n (dg b) (dg a)).bind fun y67=>(az_p n s y67).bind fun y75=>some y75) = some (L (sg s (b - a))):=by
 obtain ⟨xs,e1,e2,e3⟩:=jH n (dg b) (dg a) (gm h) (by rw [aF,aF]; exact h) (by omega) (by omega)
 rw [e1,ab,aJ n _ _ (by omega) (by omega),ab,e3,aF,aF,lJ]
theorem dw (n l:Nat) (a b:Int) (ha:Fit l a) (hb:Fit l b) (hn:l + 1 < n) (hl:l < 1000000):bO_p n (L a) (L b) = some (L (a + b)):=by
 unfold bO_p
 have h1:=ha.len
 have h2:=hb.len
 by_cases h:((L a).fh == (L b).fh) = true
 ·rw [if_pos h]
  obtain ⟨xs,e1,e2,e3⟩:=ni n (L a).fu (L b).fu ⟨by show (dg a.natAbs).length < n; omega,by show (dg b.natAbs).length < n; omega⟩ ⟨by show (dg a.natAbs).length < _; omega,by show (dg b.natAbs).length < _; omega⟩
  have e4:xs.length <= max (dg a.natAbs).length (dg b.natAbs).length + 1:=e2
  rw [e1,ab,aJ n _ _ (by omega) (by omega),ab,e3]
  show some (⟨decide (a < 0) && decide (0 < val (dg a.natAbs) + val (dg b.natAbs)),dg (val (dg a.natAbs) + val (dg b.natAbs))⟩:Th) = _
  rw [aF,aF,lJ]
  refine congrArg (fun x=>some (L x)) ?_
  have h3:decide (a < 0) = decide (b < 0):=eq_of_beq h
  unfold sg
  by_cases h4:a < 0 <;> by_cases h5:b < 0 <;> simp [h4,h5] at h3 ⊢ <;> omega
 ·rw [if_neg h]
  obtain ⟨c,e1,e2,e3⟩:=fU n (L a).fu (L b).fu (gH _) (gH _) (by show (dg a.natAbs).length < n; omega) (by show (dg a.natAbs).length < _; omega)
  have h3:decide (a < 0) ≠ decide (b < 0):=fun e=>h (by rw [beq_iff_eq]; exact e)
  rw [e1,ab]
  unfold jn
  simp only
  have e4:c < 0 ↔ a.natAbs < b.natAbs:=by rw [e2]; show val (dg a.natAbs) < val (dg b.natAbs) ↔ _; rw [aF,aF]
  by_cases hc:c < 0
  ·rw [if_pos hc]
   show ((ca_p n (dg b.natAbs) (dg a.natAbs)).bind fun y67=>(az_p n (decide (b < 0)) y67).bind fun y75=>some y75) = _
   rw [lh n l _ _ _ (by omega) h2 (by omega) hl]
   refine congrArg (fun x=>some (L x)) ?_
   unfold sg
   by_cases h4:a < 0 <;> by_cases h5:b < 0 <;> simp [h4,h5] at h3 ⊢ <;> omega
  ·rw [if_neg hc]
   show ((ca_p n (dg a.natAbs) (dg b.natAbs)).bind fun y67=>(az_p n (decide (a < 0)) y67).bind fun y75=>some y75) = _
   rw [lh n l _ _ _ (by omega) h1 (by omega) hl]
   refine congrArg (fun x=>some (L x)) ?_
   unfold sg
   by_cases h4:a < 0 <;> by_cases h5:b < 0 <;> simp [h4,h5] at h3 ⊢ <;> omega
theorem Fit.neg {l:Nat} {z:Int} (h:Fit l z):Fit l (-z):=by unfold Fit at *; rwa [Int.natAbs_neg]
theorem mZ (n l:Nat) (a b:Int) (ha:Fit l a) (hb:Fit l b) (hn:l + 1 < n) (hl:l < 1000000):cO_p n (L a) (L b) = some (L (a - b)):=by
 unfold cO_p
 rw [cg n l b hb (by omega) hl,ab,dw n l a (-b) ha hb.neg hn hl,ab,Int.sub_eq_add_neg]
theorem kP (n:Nat) (a:Int):ct_p n (L a) = some a.sign:=by
 unfold ct_p
 by_cases h:a < 0
 ·rw [if_pos (by simpa [L] using h),Int.sign_eq_neg_one_of_neg h]
 ·rw [if_neg (by simpa [L] using h)]
  by_cases h0:a = 0
  ·subst h0; rw [if_pos (by simp [L,dg0])]; rfl
  ·rw [if_neg,Int.sign_eq_one_of_pos (by omega)]
   show ¬ (dg a.natAbs).length = 0
   rw [iu (by omega)]; simp
theorem dg1 {m:Nat} (h0:m ≠ 0) (h:m < 18446744073709551616):dg m = [UInt64.ofNat m]:=by
 rw [iu h0,show m / 18446744073709551616 = 0 by omega,dg0]
theorem jW {m:Nat} (h0:m ≠ 0) (h:m < 18446744073709551616):UInt64.ofNat m ≠ 0:=fun e=>by
 have:=congrArg UInt64.toNat e
 rw [UInt64.toNat_ofNat'] at this
 simp at this; omega
theorem bW {m:Nat} (h:m < 18446744073709551616):(UInt64.ofNat m).toNat = m:=by rw [UInt64.toNat_ofNat']; exact Nat.mod_eq_of_lt h
theorem mw (n:Nat) (x y:Ua) (h:y ≠ 0):aO_p n 0 x y = some (x / y,x % y):=by
 unfold aO_p
 have h1:¬ y <= 0:=fun h1=>h (UInt64.toNat_inj.1 (by rw [UInt64.le_iff_toNat_le] at h1; simpa using h1))
 rw [if_neg h,if_neg h1,if_pos I]
 unfold iQ lG
 rw [if_neg h,ab,if_neg h,ab]
theorem gV (n a b:Nat) (ha:a < 18446744073709551616) (hb:b < 18446744073709551616) (h0:b ≠ 0) (hn:4 < n):∃ q,aT_p n (dg a) (dg b) = some (q,dg (a % b))/\q.length <= 1/\val q = a / b:=by
 obtain ⟨k,rfl⟩:∃ k,n = k + 3:=⟨n - 3,by omega⟩
 rw [dg1 h0 hb]
 unfold aT_p
 by_cases h:a = 0
 ·subst h
  refine ⟨[],?_,by simp,by simp [val]⟩
  rw [dg0,Nat.zero_mod,dg0]
  rw [cT _ _ (by simp),ab,if_pos (show [UInt64.ofNat b].length = 1 from rfl),bc]
  unfold aT_l1
  simp only
  rw [if_neg (by decide),ab]
  simp only
  rw [aJ _ _ _ (by simp) (by simp),ab]
  simp [val,dg0]
 ·have hm:a % b < 18446744073709551616:=Nat.lt_of_le_of_lt (Nat.mod_le _ _) ha
  have e2:(UInt64.ofNat a % UInt64.ofNat b).toNat = a % b:=by rw [UInt64.toNat_mod,bW ha,bW hb]
  refine ⟨[UInt64.ofNat a / UInt64.ofNat b],?_,by simp,?_⟩
  ·rw [dg1 h ha,cT _ _ (by simp),ab,if_pos (show [UInt64.ofNat b].length = 1 from rfl),bc]
   unfold aT_l1
   simp only
   rw [if_pos (show (0:Int) <= ((([UInt64.ofNat a]:La Ua).length:Nat):Int) - 1 by simp),aY (by simp) (by simp),ab]
   simp only [leC,leN,List.getElem?_cons_zero,ab]
   show ((aO_p (k + 3) 0 (UInt64.ofNat a) (UInt64.ofNat b)).bind _).bind _ = _
   rw [mw _ _ _ (jW h0 hb),ab]
   show (((some (0:Ua)).bind _)).bind _ = _
   rw [ab]
   show ((put [(0:Ua)] ((0:Nat):Int) _).bind _).bind _ = _
   rw [bh _ (by decide),ab]
   show (((some (-1:Int)).bind _)).bind _ = _
   rw [ab,bc]
   simp only
   rw [if_neg (by decide),ab]
   simp only
   rw [aJ _ _ _ (by simp) (by simp),ab]
   simp [val,e2]
  ·simp only [val]
   rw [UInt64.toNat_div,bW ha,bW hb]; simp
theorem dJ {a b q r:Int} (h:a = b * q + r) (h0:0 <= r) (h1:r < b.natAbs):a / b = q/\a % b = r:=by
 by_cases hb:0 < b
 ·exact (Int.ediv_emod_unique hb).2 ⟨by rw [h]; omega,h0,by omega⟩
 ·have hb2:0 < -b:=by omega
  have h3:a = (-b) * (-q) + r:=by rw [h,Int.neg_mul_neg]
  obtain ⟨e1,e2⟩:=(Int.ediv_emod_unique (a:=a) (r:=r) (q:=-q) hb2).2 ⟨by rw [h3]; omega,h0,by omega⟩
  rw [Int.ediv_neg] at e1
  rw [Int.emod_neg] at e2
  exact ⟨by omega,e2⟩
def W1 (z:Int):Prop:=z.natAbs < 18446744073709551616
theorem jU (n:Nat) (a b:Int) (ha:W1 a) (hb:W1 b) (h0:b ≠ 0) (hn:10 < n):bV_p n (L a) (L b) = some (L (a / b),L (a % b)):=by
 obtain ⟨q,e1,e2,e3⟩:=gV n a.natAbs b.natAbs ha hb (by omega) (by omega)
 have hm:a.natAbs % b.natAbs < b.natAbs:=Nat.mod_lt _ (by omega)
 have hl:(dg (a.natAbs % b.natAbs)).length <= 1:=gT (by rw [Nat.pow_one]; unfold W1 at hb; omega)
 have hdm:=Nat.div_add_mod a.natAbs b.natAbs
 have hq:a.natAbs / b.natAbs <= a.natAbs:=Nat.div_le_self _ _
 unfold bV_p
 rw [show (L a).fu = dg a.natAbs from I,show (L b).fu = dg b.natAbs from I,e1,ab]
 simp only
 rw [aJ n _ _ (by omega) (by omega),ab,aJ n _ _ (by omega) (by omega),ab,e3,aF]
 generalize hx:a.natAbs / b.natAbs = x at *
 generalize hy:a.natAbs % b.natAbs = y at *
 simp only [lJ]
 show (if (decide (a < 0) && decide (0 < y)) = true then _ else _) = _
 unfold W1 at ha hb
 have hab:(b.natAbs:Int) * x + y = a.natAbs:=by exact_mod_cast hdm
 by_cases hr:a < 0/\0 < y
 ·obtain ⟨h1,h2⟩:=hr
  rw [if_pos (by simp [h1,h2])]
  have f1:(⟨false,dg b.natAbs⟩:Th) = L b.natAbs:=by unfold L; simp
  have f2:(⟨!(L b).fh,([(1:Ua)]:La Ua)⟩:Th) = L (if b < 0 then 1 else -1):=by
   unfold L
   by_cases hb0:b < 0 <;> simp [hb0] <;> rw [dg1 (by decide) (by decide)] <;> rfl
  rw [f1,f2,dw n 1 _ _ ?_ ?_ (by omega) (by omega),ab,dw n 1 _ _ ?_ ?_ (by omega) (by omega),ab]
  ·have e:sg (!(decide (a < 0) == decide (b < 0))) x + (if b < 0 then 1 else -1) = a / b/\sg (decide (a < 0)) y + b.natAbs = a % b:=by
    have:=dJ (a:=a) (b:=b) (q:=sg (!(decide (a < 0) == decide (b < 0))) x + (if b < 0 then 1 else -1)) (r:=sg (decide (a < 0)) y + b.natAbs) ?_ ?_ ?_
    ·exact ⟨this.1.symm,this.2.symm⟩
    ·unfold sg
     by_cases hb0:b < 0
     ·have:(b.natAbs:Int) = -b:=by omega
      rw [this] at hab ⊢
      have h3:(a.natAbs:Int) = -a:=by omega
      simp [h1,hb0]
      rw [Int.mul_add]; grind
     ·have:(b.natAbs:Int) = b:=by omega
      rw [this] at hab ⊢
      have h3:(a.natAbs:Int) = -a:=by omega
      simp [h1,hb0]
      rw [Int.mul_add]; grind
    ·unfold sg; simp [h1]; omega
    ·unfold sg; simp [h1]; omega
   show some (L (sg (!(decide (a < 0) == decide (b < 0))) x + (if b < 0 then 1 else -1)),L (sg (decide (a < 0)) y + b.natAbs)) = _
   rw [e.1,e.2]
  ·unfold Fit; rw [Nat.pow_one,gp]; omega
  ·unfold Fit; rw [Nat.pow_one]; split <;> decide
  ·unfold Fit; rw [Nat.pow_one,gp]; omega
  ·unfold Fit; rw [Nat.pow_one]; omega
 ·rw [if_neg (by simpa using hr)]
  have e:=dJ (a:=a) (b:=b) (q:=sg (!(decide (a < 0) == decide (b < 0))) x) (r:=sg (decide (a < 0)) y) ?_ ?_ ?_
  ·rw [e.1,e.2]; rfl
  ·unfold sg
   by_cases h1:a < 0
   ·have hy0:y = 0:=by omega
    have h3:(a.natAbs:Int) = -a:=by omega
    by_cases hb0:b < 0
    ·have:(b.natAbs:Int) = -b:=by omega
     rw [this] at hab; simp [h1,hb0,hy0] at hab ⊢; grind
    ·have:(b.natAbs:Int) = b:=by omega
     rw [this] at hab; simp [h1,hb0,hy0] at hab ⊢; grind
   ·have h3:(a.natAbs:Int) = a:=by omega
    by_cases hb0:b < 0
    ·have:(b.natAbs:Int) = -b:=by omega
     rw [this] at hab; simp [h1,hb0] at hab ⊢; grind
    ·have:(b.natAbs:Int) = b:=by omega
     rw [this] at hab; simp [h1,hb0] at hab ⊢; grind
  ·unfold sg
   by_cases h1:a < 0
   ·have hy0:y = 0:=by omega
    simp [hy0]
   ·simp [h1]
  ·unfold sg
   by_cases h1:a < 0
   ·have hy0:y = 0:=by omega
    simp [hy0]; omega
   ·simp [h1]; omega
theorem lD (n:Nat) (a b:Int) (ha:W1 a) (hb:W1 b) (hn:18446744073709551616 < n):aK_p n (L a) (L b) = some (L (Nat.gcd a.natAbs b.natAbs:Nat)):=by
 have h:=aw (B:=aK_l1 n) (fun s:La Ua × La Ua=>val s.2) (fun s=>∃ x y,s = (dg x,dg y)/\x < 18446744073709551616/\y < 18446744073709551616/\Nat.gcd x y = Nat.gcd a.natAbs b.natAbs)
  (fun r=>r = dg (Nat.gcd a.natAbs b.natAbs)) ?_ n (dg a.natAbs,dg b.natAbs) ⟨_,_,rfl,ha,hb,rfl⟩ (by simp only [aF]; unfold W1 at hb; omega)
 ·obtain ⟨r,h1,rfl⟩:=h
  unfold aK_p
  rw [show (L a).fu = dg a.natAbs from I,show (L b).fu = dg b.natAbs from I,h1,ab]
  unfold L
  simp
 ·rintro _ J ⟨x,y,rfl,h1,h2,h3⟩ hJ
  unfold aK_l1
  simp only
  by_cases h0:y = 0
  ·subst h0
   rw [if_neg (by rw [dg0]; simp)]
   exact ⟨_,rfl,by rw [<- h3,Nat.gcd_zero_right]⟩
  ·obtain ⟨q,e1,_,_⟩:=gV n x y h1 h2 h0 (by omega)
   have hm:x % y < y:=Nat.mod_lt _ (by omega)
   rw [if_pos (by rw [dg1 h0 h2]; simp),e1,ab]
   simp only
   refine hJ (dg y,dg (x % y)) ⟨_,_,rfl,h2,by omega,?_⟩ (by simp only [aF]; exact hm)
   rw [<- h3,Nat.gcd_comm x y,Nat.gcd_rec y x,Nat.gcd_comm]
def W8 (z:Int):Ua × Ua × Ua × Ua × Ua × Ua × Ua × Ua:=
 if z < 0 then (ah z,18446744073709551615,18446744073709551615,18446744073709551615,18446744073709551615,18446744073709551615,18446744073709551615,18446744073709551615) else (ah z,0,0,0,0,0,0,0)
def Sm (z:Int):Prop:=z.natAbs < 9223372036854775808
theorem Sm.w {z:Int} (h:Sm z):W1 z:=by unfold Sm W1 at *; omega
theorem eA {z:Int} (h:Sm z) (h0:z < 0):(ah z).toNat = 18446744073709551616 - z.natAbs:=by
 unfold ah Sm at *; rw [UInt64.toNat_ofNat']; omega
theorem eL {z:Int} (h:Sm z) (h0:¬ z < 0):ah z = UInt64.ofNat z.natAbs:=by
 unfold ah Sm at *; congr 1; omega
theorem mY (n:Nat) (z:Int) (hn:10 < n):dq_p n z = some (W8 z):=by
 obtain ⟨k,rfl⟩:∃ k,n = k + 9:=⟨n - 9,by omega⟩
 unfold dq_p W8
 by_cases h:z < 0
 ·rw [if_pos h,if_pos h]
  simp [bc,dq_l1,az]
 ·rw [if_neg h,if_neg h]
theorem sub_m1:sub64 0 18446744073709551615 1 = some (0,1):=rfl
theorem sub_01:sub64 0 0 1 = some (18446744073709551615,1):=rfl
theorem read_ok (n:Nat) (z:Int) (h:Sm z):dB_p n (W8 z) = some ⟨decide (z < 0),(UInt64.ofNat z.natAbs,0,0,0,0,0,0,0)⟩:=by
 unfold dB_p W8
 by_cases h0:z < 0
 ·rw [if_pos h0]
  have e:sub64 0 (ah z) 0 = some (UInt64.ofNat z.natAbs,1):=by
   unfold sub64
   rw [if_pos (by decide),eA h h0]
   unfold Sm at h
   rw [if_pos (by simp; omega)]
   congr 2
   simp; congr 1; omega
  rw [if_pos (show shrU 18446744073709551615 63 = 1 from I)]
  unfold bF_p
  simp only [e,ab,sub_m1]
  simp [h0]; rfl
 ·rw [if_neg h0]
  rw [if_neg (show ¬ shrU 0 63 = 1 from by decide),eL h h0]
  simp [h0]; decide
theorem fR (n:Nat) (z:Int) (h:Sm z) (hn:10 < n):bR_p n (W8 z) = some (L z):=by
 unfold bR_p
 rw [read_ok n z h,ab]
 simp only
 rw [show app ([]:La Ua) [UInt64.ofNat z.natAbs,0,0,0,0,0,0,0] = some [UInt64.ofNat z.natAbs,0,0,0,0,0,0,0] from rfl,ab,aJ n _ _ (by simpa using by omega) (by simp),ab]
 have e:val [UInt64.ofNat z.natAbs,0,0,0,0,0,0,0] = z.natAbs:=by
  have:=h.w; unfold W1 at this
  simp only [val,bW this]; simp
 rw [e]
 unfold L
 by_cases h0:z < 0
 ·simp [h0]; omega
 ·simp [h0]
theorem from_ok (n:Nat) (z:Int) (h:Sm z) (hn:10 < n):dD_p n z = some (L z):=by
 unfold dD_p; rw [mY n z hn,ab,fR n z h hn,ab]
theorem mx {m:Nat} (h:m < 18446744073709551616):aQ (dg m) 0 0 = UInt64.ofNat m:=by
 by_cases h0:m = 0
 ·subst h0; rw [dg0]; rfl
 ·rw [dg1 h0 h]; rfl
theorem co {m:Nat} (j:Nat) (h:m < 18446744073709551616):aQ (dg m) (j + 1) 0 = 0:=by
 by_cases h0:m = 0
 ·subst h0; rw [dg0]; rfl
 ·rw [dg1 h0 h]; rfl
theorem kX (n:Nat) (z:Int) (h:Sm z) (hn:10 < n):bZ_p n (L z) = some (W8 z,0):=by
 have hw:=h.w
 unfold W1 at hw
 have hl:¬ 8 < (L z).fu.length:=by
  have:(dg z.natAbs).length <= 1:=gT (by rw [Nat.pow_one]; exact hw)
  show ¬ 8 < (dg z.natAbs).length
  omega
 unfold bZ_p
 rw [if_neg hl,show (L z).fu = dg z.natAbs from I,mx hw,co 0 hw,co 1 hw,co 2 hw,co 3 hw,co 4 hw,co 5 hw,co 6 hw]
 unfold cr_p
 have ho:∀ x:Ua,bf_p n (x,0,0,0,0,0,0,0) (0,0,0,0,0,0,0,9223372036854775808) = some (-1):=fun x=>by
  obtain ⟨k,rfl⟩:∃ k,n = k + 1:=⟨n - 1,by omega⟩
  unfold bf_p
  rw [bc]
  rfl
 rw [ho,ab,if_neg (by decide),if_neg (by decide)]
 unfold W8
 by_cases h0:z < 0
 ·have e:sub64 0 (UInt64.ofNat z.natAbs) 0 = some (ah z,1):=by
   unfold sub64
   rw [if_pos (by decide),bW hw]
   rw [if_pos (by simp; omega)]
   congr 2
   refine UInt64.toNat_inj.1 ?_
   rw [eA h h0,UInt64.toNat_ofNat']
   unfold Sm at h
   simp; omega
  rw [if_pos h0,if_pos (by simpa [L] using h0)]
  unfold bF_p
  simp only [e,ab,sub_01]
 ·rw [if_neg h0,if_neg (by simpa [L] using h0),ab,eL h h0]
def Rt (q:Rat):Tg:=⟨L q.num,L q.den⟩
def Sh (q:Rat):Ta:=⟨W8 q.num,W8 q.den⟩
theorem fQ {x y:Int} (hy:0 < y) (hc:x.natAbs.Coprime y.natAbs):(Rat.divInt x y).num = x/\((Rat.divInt x y).den:Int) = y:=by
 have e:Rat.divInt x y = { num:=x,den:=y.natAbs,den_nz:=by omega,reduced:=hc }:=by
  rw [Rat.mk_eq_divInt]; congr 1; omega
 rw [e]; exact ⟨rfl,by simp only; omega⟩
theorem lV (n:Nat) (a b:Int) (ha:W1 a) (hb:W1 b) (h0:b ≠ 0) (hn:18446744073709551616 < n) :
  bU_p n (L a) (L b) = some (Rt (Rat.divInt a b))/\(Rat.divInt a b).num.natAbs <= a.natAbs/\(Rat.divInt a b).den <= b.natAbs:=by
 have hg:0 < Nat.gcd a.natAbs b.natAbs:=Nat.gcd_pos_of_pos_right _ (by omega)
 have hgb:Nat.gcd a.natAbs b.natAbs <= b.natAbs:=Nat.gcd_le_right _ (by omega)
 have hgw:W1 ((Nat.gcd a.natAbs b.natAbs:Nat):Int):=by unfold W1 at *; omega
 obtain ⟨x,hx⟩:((Nat.gcd a.natAbs b.natAbs:Nat):Int) ∣ a:=Int.ofNat_dvd_left.2 (Nat.gcd_dvd_left _ _)
 obtain ⟨y,hy⟩:((Nat.gcd a.natAbs b.natAbs:Nat):Int) ∣ b:=Int.ofNat_dvd_left.2 (Nat.gcd_dvd_right _ _)
 have hco:=Nat.coprime_div_gcd_div_gcd hg
 generalize Nat.gcd a.natAbs b.natAbs = g at *
 have hg0:(g:Int) ≠ 0:=by omega
 have e1:a / (g:Int) = x:=by rw [hx]; exact Int.mul_ediv_cancel_left _ hg0
 have e2:b / (g:Int) = y:=by rw [hy]; exact Int.mul_ediv_cancel_left _ hg0
 have e3:a.natAbs = g * x.natAbs:=by rw [hx,Int.natAbs_mul]; rfl
 have e4:b.natAbs = g * y.natAbs:=by rw [hy,Int.natAbs_mul]; rfl
 have hc:x.natAbs.Coprime y.natAbs:=by
  rw [e3,e4,Nat.mul_div_cancel_left _ hg,Nat.mul_div_cancel_left _ hg] at hco; exact hco
 have hxl:x.natAbs <= a.natAbs:=by rw [e3]; exact Nat.le_mul_of_pos_left _ hg
 have hyl:y.natAbs <= b.natAbs:=by rw [e4]; exact Nat.le_mul_of_pos_left _ hg
 have hy0:y ≠ 0:=fun e=>h0 (by rw [hy,e,Int.mul_zero])
 have eq:Rat.divInt a b = Rat.divInt x y:=by
  conv=>lhs; rw [hx,hy]
  exact Rat.divInt_mul_left hg0
 have xw:Fit 1 x:=by unfold Fit; unfold W1 at ha; rw [Nat.pow_one]; omega
 have yw:Fit 1 y:=by unfold Fit; unfold W1 at hb; rw [Nat.pow_one]; omega
 have gc:aK_p n (L a) (L b) = some (L g):=by
  have:=lD n a b ha hb hn
  rw [this]
  have h5:Nat.gcd a.natAbs b.natAbs = g:=by
   rw [e3,e4,Nat.gcd_mul_left,show Nat.gcd x.natAbs y.natAbs = 1 from hc,Nat.mul_one]
  rw [h5]
 unfold bU_p
 rw [gc,ab,jU n a g ha hgw hg0 (by omega),ab,jU n b g hb hgw hg0 (by omega),ab,e1,e2]
 simp only
 rw [eq]
 by_cases hs:y < 0
 ·rw [if_pos (by simpa [L] using hs),cg n 1 x xw (by omega) (by omega),ab,cg n 1 y yw (by omega) (by omega),ab]
  have h5:=fQ (x:=-x) (y:=-y) (by omega) (by rwa [Int.natAbs_neg,Int.natAbs_neg])
  rw [Rat.neg_divInt_neg] at h5
  unfold Rt
  rw [h5.1,h5.2]
  exact ⟨rfl,by rw [Int.natAbs_neg]; exact hxl,by have:=h5.2; omega⟩
 ·rw [if_neg (by simpa [L] using hs)]
  have h5:=fQ (x:=x) (y:=y) (by omega) hc
  unfold Rt
  rw [h5.1,h5.2]
  exact ⟨I,hxl,by have:=h5.2; omega⟩
theorem W8_ne {z:Int} (h:Sm z) (h0:z ≠ 0):W8 z ≠ (0,0,0,0,0,0,0,0):=fun e=>by
 have e1:ah z = 0:=by
  have:=congrArg Prod.fst e
  unfold W8 at this
  split at this <;> exact this
 by_cases hz:z < 0
 ·have:=eA h hz
  rw [e1] at this; unfold Sm at h; simp at this; omega
 ·rw [eL h hz] at e1
  exact jW (by omega) h.w e1
theorem nk (n:Nat) (q:Rat) (h1:Sm q.num) (h2:Sm (q.den:Int)) (hn:10 < n):bN_p n (Rt q) = some (Sh q,0):=by
 unfold bN_p
 rw [show (Rt q).fC = L q.num from I,show (Rt q).fA = L q.den from I,kX n _ h1 hn,ab,kX n _ h2 hn,ab]
 rfl
theorem jP (n:Nat) (a b:Int) (ha:Sm a) (hb:Sm b) (h0:b ≠ 0) (hn:18446744073709551616 < n):dA_p n a b = some (Sh (Rat.divInt a b),0):=by
 obtain ⟨e1,e2,e3⟩:=lV n a b ha.w hb.w h0 hn
 unfold dA_p
 rw [mY n a (by omega),ab,mY n b (by omega),ab]
 unfold dF_p
 rw [if_neg (W8_ne hb h0),fR n a ha (by omega),ab,fR n b hb (by omega),ab,e1,ab,nk n _ (by unfold Sm at *; omega) (by unfold Sm at *; omega) (by omega)]
 rfl
theorem ce {x y:Int} (h:y ≠ 0):ci x y = some (x.tmod y):=if_neg h
theorem cC {α:Type} (xs ys:La α) (h:xs.length + ys.length <= 1000000):app xs ys = some (xs ++ ys):=if_pos (Nat.le_trans h (by decide))
def FU:Nat:=18446744073709552000
def nm (i:Nat):ByteArray:=⟨#[117,UInt8.ofNat (97 + i),97]⟩
theorem ir {κ ν:Type} [DecidableEq κ]:∀ (D:La (κ × ν)) (k x:κ) (v:ν),hO (bF D k v) x = if x = k then some v else hO D x
 | [],k,x,v=>by simp [bF,hO]
 | e :: D,k,x,v=>by
  unfold bF
  split
  ·rename_i h; subst h; simp only [hO]; split <;> rfl
  ·rename_i h
   simp only [hO]
   rw [ir D k x v]
   by_cases h1:x = k
   ·subst h1; simp [h]
   ·simp [h1]
theorem mg (n:Nat) (l:La Bool) (h:∀ b ∈ l,b = true) (hn:l.length < n):bv_p n l = some true:=by
 have hh:=aw (B:=aJ_l1 n l false) (fun i:Nat=>l.length - i) (fun i=>i <= l.length) (fun r=>r = .inr ()) ?_ n 0 (Nat.zero_le _) (by omega)
 ·obtain ⟨r,e,rfl⟩:=hh
  unfold bv_p bE_p aJ_p
  rw [e]
  rfl
 ·intro i J hi hJ
  unfold aJ_l1
  simp only
  split
  ·rename_i h0
   rw [geE h0,ab,h l[i] (List.getElem_mem _),if_neg (by decide)]
   exact hJ (i + 1) h0 (by omega)
  ·exact ⟨_,I,I⟩
theorem jX (n:Nat) (d:Tk) (i:Int) (h:0 <= i):∃ y,aW_p n d i = some y/\0 <= y/\y <= 255:=by
 unfold aW_p
 split
 ·exact ⟨_,I,by omega,by omega⟩
 ·rename_i h0
  have h1:=Int.emod_nonneg i (b:=(d.fNums.length:Int)) (by omega)
  have h2:=Int.emod_lt_of_pos i (b:=(d.fNums.length:Int)) (by omega)
  rw [ce (by omega),ab,Int.tmod_eq_emod_of_nonneg h,aY h1 (by omega),ab]
  have:=(d.fNums[(i % (d.fNums.length:Int)).toNat]'(by omega)).toNat_lt
  exact ⟨_,I,by omega,by omega⟩
theorem jO (n:Nat) (d:Tk) (c at_ br:Int) (h0:0 <= c) (h1:c <= 100) (h2:0 <= at_) (h3:at_ <= 1000) (h4:0 <= br) (hn:200 < n):∃ l,aF_p n d c at_ br = some l/\(l.length:Int) = c/\∀ x ∈ l,0 <= x/\x <= br/\x <= 255:=by
 have hh:=aw (B:=aF_l1 n c at_ d br) (fun s:Int × La Int=>101 - s.1.toNat) (fun s=>0 <= s.1/\s.1 <= c/\(s.2.length:Int) = s.1/\∀ x ∈ s.2,0 <= x/\x <= br/\x <= 255)
  (fun l=>(l.length:Int) = c/\∀ x ∈ l,0 <= x/\x <= br/\x <= 255) ?_ n (0,[]) ⟨by simp,h0,by simp,by simp⟩ (by simp only; omega)
 ·obtain ⟨l,e,h⟩:=hh
  refine ⟨l,?_,h⟩
  unfold aF_p
  rw [e,ab]
 ·rintro ⟨z,xs⟩ J ⟨a1,a2,a3,a4⟩ hJ
  simp only at a1 a2 a3 a4 hJ
  unfold aF_l1
  simp only
  split
  ·obtain ⟨y,e,y0,y1⟩:=jX n d (at_ + z) (by omega)
   rw [aN (by omega) (by omega),ab,e,ab,cC _ _ (by simp only [leC,leN]; omega),ab,aN (by omega) (by omega),ab]
   refine hJ _ ⟨by simp only; omega,by simp only; omega,by simp only [List.length_append,leC,leN]; omega,fun x hx=>?_⟩ (by simp only; omega)
   rcases List.mem_append.1 hx with hx | hx
   ·exact a4 x hx
   ·rw [List.mem_singleton.1 hx]; omega
  ·exact ⟨_,I,by omega,a4⟩
def UnitOk (G P L:Int) (u:Tb):Prop:=u.fp = false/\(0 <= u.ft/\u.ft <= 255)/\((u.fl.length:Int) = G/\∀ x ∈ u.fl,0 <= x/\x <= u.ft)/\((u.fH.length:Int) = P/\∀ x ∈ u.fH,0 <= x/\x <= 255)/\((u.fI.length:Int) = L/\∀ x ∈ u.fI,0 <= x/\x <= 63)
def sea (G P L:Int):Tb:=⟨⟨#[115,101,97]⟩,0,List.replicate G.toNat 0,List.replicate P.toNat 0,List.replicate L.toNat 0,true⟩
structure RollOk (r:Te) (us:List Tb):Prop where
 g:0 <= r.fl/\r.fl <= 2
 p:0 <= r.fj/\r.fj <= 3
 l:0 <= r.fm/\r.fm <= 2
 len:1 <= us.length/\us.length <= 9
 land:∀ i (h:i < us.length),us[i].fB = nm i/\UnitOk r.fl r.fj r.fm us[i]
 all:r.fv = us ∨ r.fv = us ++ [sea r.fl r.fj r.fm]
theorem cD:(1000000:Nat) < FU:=by decide
def tot (us:La Tb):Int:=(us.map (·.ft)).sum
set_option maxRecDepth 8000
theorem gt (l:La Bool) (hn:l.length <= 1000):bv_p FU l = some (decide (∀ b ∈ l,b = true)):=by
 have hF:=cD
 by_cases h:∀ b ∈ l,b = true
 ·rw [decide_eq_true h]; exact mg FU l h (by omega)
 ·rw [decide_eq_false h]
  have hh:=aw (B:=aJ_l1 FU l false) (fun i:Nat=>l.length - i) (fun i=>i <= l.length/\∀ b ∈ l.take i,b = true) (fun r=>∃ j:Nat,r = .inl (j:Int)) ?_ FU 0 ⟨Nat.zero_le _,by simp⟩ (by omega)
  ·obtain ⟨r,e,j,rfl⟩:=hh
   unfold bv_p bE_p aJ_p
   rw [e]
   show (((some (j:Int)).bind fun y1=>some (decide (0 <= y1))).bind fun y1=>some (!y1)) = some false
   rw [ab,ab,decide_eq_true (by omega)]; rfl
  ·rintro i J ⟨hi,h2⟩ hJ
   unfold aJ_l1
   simp only
   split
   ·rename_i h0
    rw [geE h0,ab]
    rcases hb:l[i] with _ | _
    ·rw [if_pos (by decide)]; exact ⟨_,rfl,i,rfl⟩
    ·rw [if_neg (by decide)]
     refine hJ (i + 1) ⟨h0,fun b hb2=>?_⟩ (by omega)
     rw [List.take_succ_eq_append_getElem h0,List.mem_append,List.mem_singleton,hb] at hb2
     exact hb2.elim (h2 b) id
   ·rw [List.take_of_length_le (by omega)] at h2
    exact absurd h2 h
def Wi (l:La Int) (a br:Int):Prop:=(l.length:Int) = a/\∀ x ∈ l,0 <= x/\x <= br
instance (l:List Int) (a br:Int):Decidable (Wi l a br):=by unfold Wi; infer_instance
theorem eZ (l:La Int) (a br:Int) (hn:l.length <= 1000):bs_p FU l a br = some (decide (Wi l a br)):=by
 have hF:=cD
 unfold bs_p
 by_cases hl:(l.length:Int) = a
 ·rw [if_pos hl]
  have hh:=aw (B:=bs_l1 FU l br) (fun i:Nat=>l.length - i) (fun i=>i <= l.length/\∀ x ∈ l.take i,0 <= x/\x <= br) (fun r=>r = .inr ()/\Wi l a br ∨ r = .inl false/\¬ Wi l a br) ?_ FU 0 ⟨Nat.zero_le _,by simp⟩ (by omega)
  ·obtain ⟨r,e,hr⟩:=hh
   rw [e]
   rcases hr with ⟨rfl,hr⟩ | ⟨rfl,hr⟩
   ·rw [decide_eq_true hr]; rfl
   ·rw [decide_eq_false hr]; rfl
  ·rintro i J ⟨hi,h2⟩ hJ
   unfold bs_l1 dp_p
   simp only
   split
   ·rename_i h0
    rw [geE h0,ab]
    by_cases h3:0 <= l[i]/\l[i] <= br
    ·rw [if_neg (by omega),ab,decide_eq_false (by omega),if_neg (by decide)]
     refine hJ (i + 1) ⟨h0,fun x hx=>?_⟩ (by omega)
     rw [List.take_succ_eq_append_getElem h0,List.mem_append,List.mem_singleton] at hx
     rcases hx with hx | rfl
     ·exact h2 x hx
     ·exact h3
    ·have hbad:¬ Wi l a br:=fun h=>h3 (h.2 _ (List.getElem_mem _))
     by_cases h4:l[i] < 0
     ·rw [if_pos h4,ab,if_pos I,decide_eq_true (Nat.zero_le _)]
      exact ⟨_,I,.inr ⟨I,hbad⟩⟩
     ·rw [if_neg h4,ab,decide_eq_true (by omega),if_pos I,decide_eq_true (Nat.zero_le _)]
      exact ⟨_,I,.inr ⟨I,hbad⟩⟩
   ·rw [List.take_of_length_le (by omega)] at h2
    exact ⟨_,I,.inl ⟨I,hl,h2⟩⟩
 ·rw [if_neg hl,decide_eq_false fun h=>hl h.1]
theorem ck (l:La Int) (a br:Int) (hn:l.length <= 1000):aw_p FU l a br = some (decide (Wi l a br)):=by
 have hF:=cD
 have hh:=aw (B:=aw_l1 FU l br) (fun i:Nat=>l.length - i) (fun i=>i <= l.length/\∀ x ∈ l.take i,0 <= x/\x <= br) (fun r=>r = .inr ()/\(∀ x ∈ l,0 <= x/\x <= br) ∨ r = .inl false/\¬ ∀ x ∈ l,0 <= x/\x <= br) ?_ FU 0 ⟨Nat.zero_le _,by simp⟩ (by omega)
 ·obtain ⟨r,e,hr⟩:=hh
  unfold aw_p
  rw [e]
  rcases hr with ⟨rfl,hr⟩ | ⟨rfl,hr⟩
  ·exact congrArg some (decide_eq_decide.2 ⟨fun h=>⟨h,hr⟩,fun h=>h.1⟩)
  ·rw [decide_eq_false fun h:Wi l a br=>hr h.2]; rfl
 ·rintro i J ⟨hi,h2⟩ hJ
  unfold aw_l1
  simp only
  split
  ·rename_i h0
   rw [geE h0,ab]
   by_cases h3:0 <= l[i]/\l[i] <= br
   ·rw [if_neg (by omega),if_neg (by omega)]
    refine hJ (i + 1) ⟨h0,fun x hx=>?_⟩ (by omega)
    rw [List.take_succ_eq_append_getElem h0,List.mem_append,List.mem_singleton] at hx
    rcases hx with hx | rfl
    ·exact h2 x hx
    ·exact h3
   ·have hbad:¬ ∀ x ∈ l,0 <= x/\x <= br:=fun h=>h3 (h _ (List.getElem_mem _))
    by_cases h4:l[i] < 0
    ·rw [if_pos h4]; exact ⟨_,rfl,.inr ⟨rfl,hbad⟩⟩
    ·rw [if_neg h4,if_pos (by omega)]; exact ⟨_,rfl,.inr ⟨rfl,hbad⟩⟩
  ·rw [List.take_of_length_le (by omega)] at h2
   exact ⟨_,I,.inl ⟨I,h2⟩⟩
def NS:La ByteArray:=⟨#[115,101,97]⟩ :: (List.range 13).map nm
@[reducible] def ltrs:ByteArray:=⟨#[65,66,67,68,69,70,71,72,73,74,75,76,77,78,79,80,81,82,83,84,85,86,87,88,89,90,97,98,99,100,101,102,103,104,105,106,107,108,109,110,111,112,113,114,115,116,117,118,119,120,121,122,48,49,50,51,52,53,54,55,56,57,45,95]⟩
theorem ns_all:NS.all (fun b=>decide (bH_p FU b ltrs = some ⟨#[]⟩) && !decide (b = ⟨#[]⟩) && decide (b.size <= 12)) = true:=by kernel_rfl
theorem ns_ok {b:ByteArray} (h:b ∈ NS):bH_p FU b ltrs = some ⟨#[]⟩/\¬ b = ⟨#[]⟩/\b.size <= 12:=by
 have:=List.all_eq_true.1 ns_all b h
 simpa [Bool.and_eq_true,and_assoc] using this
theorem nsR_all:NS.all (fun b=>decide (bC_p FU b = some true)) = true:=by kernel_rfl
theorem nsR_ok {b:ByteArray} (h:b ∈ NS):bC_p FU b = some true:=by simpa using List.all_eq_true.1 nsR_all b h
def UV (r:Te) (u:Tb):Prop:=0 <= u.ft/\u.ft <= (if u.fp = true then 0 else 1000000000)/\Wi u.fl r.fl u.ft/\Wi u.fH r.fj (if u.fp = true then 0 else 1000000000)/\Wi u.fI r.fm (if u.fp = true then 0 else 63)
instance (r:Te) (u:Tb):Decidable (UV r u):=by unfold UV; infer_instance
structure Sm4 (u:Tb):Prop where
 n:u.fB ∈ NS
 g:u.fl.length <= 1000
 v:u.fH.length <= 1000
 q:u.fI.length <= 1000
theorem mh (r:Te) (u:Tb) (h:Sm4 u):dr_p FU r u = some (decide (UV r u)):=by
 obtain ⟨n1,n3,n4⟩:=ns_ok h.n
 have key:∀ (V P:Nat),V = (if u.fp = true then 0 else 1000000000) -> P = (if u.fp = true then 0 else 63) -> ((bH_p FU u.fB ltrs).bind fun y30=>(bs_p FU u.fl r.fl u.ft).bind fun y31=>(bs_p FU u.fH r.fj ((V:Nat):Int)).bind fun y32=>(bs_p FU u.fI r.fm ((P:Nat):Int)).bind fun y33=>(bv_p FU ([(!(decide (u.fB = ⟨#[]⟩))),(decide (u.fB.size <= 12)),(decide (y30 = ⟨#[]⟩)),(decide (0 <= u.ft)),(decide (u.ft <= ((V:Nat):Int))),y31,y32,y33]:La Bool)).bind fun y40=>some y40) = some (decide (UV r u)):=by
  intro V P hV hP
  rw [n1,ab,eZ _ _ _ h.g,ab,eZ _ _ _ h.v,ab,eZ _ _ _ h.q,ab,gt _ (by simp),ab]
  refine congrArg some (decide_eq_decide.2 ?_)
  have eV:((V:Nat):Int) = (if u.fp = true then 0 else 1000000000):=by rw [hV]; split <;> rfl
  have eP:((P:Nat):Int) = (if u.fp = true then 0 else 63):=by rw [hP]; split <;> rfl
  rw [eV,eP]
  unfold UV
  simp only [List.mem_cons,List.not_mem_nil,or_false,forall_eq_or_imp,forall_eq,Bool.not_eq_true', decide_eq_false_iff_not,decide_eq_true_eq]
  constructor
  ·rintro ⟨_,_,_,a,b,c,d,e⟩; exact ⟨a,b,c,d,e⟩
  ·rintro ⟨a,b,c,d,e⟩; exact ⟨n3,n4,trivial,a,b,c,d,e⟩
 unfold dr_p jn
 simp only
 by_cases hw:u.fp = true
 ·rw [if_pos hw]; exact key 0 0 (by rw [if_pos hw]) (by rw [if_pos hw])
 ·rw [if_neg hw]; exact key 1000000000 63 (by rw [if_neg hw]) (by rw [if_neg hw])
theorem lO (r:Te) (u:Tb) (h:Sm4 u):cg_p FU r u = some (decide (UV r u)):=by
 have n2:=nsR_ok h.n
 unfold cg_p
 rw [n2,ab,if_pos I]
 by_cases h1:u.ft < 0
 ·rw [if_pos h1,decide_eq_false fun h=>absurd h.1 (by omega)]
 ·rw [if_neg h1]
  by_cases h2:1000000000 < u.ft
  ·rw [if_pos h2,decide_eq_false fun h=>by have:=h.2.1; split at this <;> omega]
  ·rw [if_neg h2,ck _ _ _ h.g,ab]
   by_cases h3:Wi u.fl r.fl u.ft
   ·rw [if_pos (decide_eq_true h3),ck _ _ _ h.v,ab]
    by_cases h4:Wi u.fH r.fj 1000000000
    ·rw [if_pos (decide_eq_true h4),ck _ _ _ h.q,ab]
     by_cases h5:Wi u.fI r.fm 63
     ·rw [if_pos (decide_eq_true h5)]
      by_cases hw:u.fp = true
      ·rw [if_pos hw]
       by_cases h6:u.ft = 0
       ·rw [if_pos h6,ck _ _ _ h.v,ab]
        by_cases h7:Wi u.fH r.fj 0
        ·rw [if_pos (decide_eq_true h7),ck _ _ _ h.q,ab]
         refine congrArg some (decide_eq_decide.2 ?_)
         unfold UV
         simp only [if_pos hw]
         exact ⟨fun h8=>⟨by omega,by omega,h3,h7,h8⟩,fun h=>h.2.2.2.2⟩
        ·rw [if_neg (by simpa using h7),decide_eq_false fun h=>h7 (by have:=h.2.2.2.1; rwa [if_pos hw] at this)]
       ·rw [if_neg h6,decide_eq_false fun h=>h6 (by have h8:=h.2.1; have:=h.1; rw [if_pos hw] at h8; omega)]
      ·rw [if_neg hw,decide_eq_true ⟨by omega,by rw [if_neg hw]; omega,h3,by rw [if_neg hw]; exact h4,by rw [if_neg hw]; exact h5⟩]
     ·rw [if_neg (by simpa using h5),decide_eq_false fun h=>h5 ⟨h.2.2.2.2.1,fun x hx=>by have:=h.2.2.2.2.2 x hx; split at this <;> omega⟩]
    ·rw [if_neg (by simpa using h4),decide_eq_false fun h=>h4 ⟨h.2.2.2.1.1,fun x hx=>by have:=h.2.2.2.1.2 x hx; split at this <;> omega⟩]
   ·rw [if_neg (by simpa using h3),decide_eq_false fun h=>h3 h.2.2.1]
structure RV (r:Te):Prop where
 g:0 <= r.fl/\r.fl <= 6
 p:0 <= r.fj/\r.fj <= 12
 l:0 <= r.fm/\r.fm <= 3
 n:1 <= r.fv.length/\r.fv.length <= 64
 u:∀ i (h:i < r.fv.length),UV r r.fv[i]
 nm:∀ i (h:i < r.fv.length) j (h' : j < i),r.fv[j].fB ≠ r.fv[i].fB
 w:∀ i (h:i < r.fv.length) j (h' : j < i),r.fv[j].fp = true -> r.fv[i].fp = true
 z:∀ h:0 < r.fv.length,r.fv[0].fp = false
open Classical in
theorem eE (r:Te) (h:∀ u ∈ r.fv,Sm4 u):bA_p FU r = some (if RV r then 0 else 161):=by
 have hF:=cD
 unfold bA_p
 rw [gt _ (by simp),ab]
 by_cases h0:((0 <= r.fl/\r.fl <= 6)/\(0 <= r.fj/\r.fj <= 12)/\(0 <= r.fm/\r.fm <= 3)/\1 <= r.fv.length/\r.fv.length <= 64)
 ·rw [if_pos]
  ·have hh:=aw (B:=bA_l1 FU r) (fun s:Bool × Nat × La (ByteArray × Bool)=>r.fv.length - s.2.1)
    (fun s=>s.2.1 <= r.fv.length/\(s.2.1 = 0 -> s.1 = false)/\(∀ h:0 < s.2.1,∀ h' : s.2.1 - 1 < r.fv.length,s.1 = r.fv[s.2.1 - 1].fp)/\(∀ x,aG s.2.2 x false = true ↔ ∃ j,∃ hj:j < r.fv.length,j < s.2.1/\r.fv[j].fB = x)/\
     (∀ i (h:i < r.fv.length),i < s.2.1 -> UV r r.fv[i])/\(∀ i (h:i < r.fv.length) j (h' : j < i),i < s.2.1 -> r.fv[j].fB ≠ r.fv[i].fB)/\(∀ i (h:i < r.fv.length) j (h' : j < i),i < s.2.1 -> r.fv[j].fp = true -> r.fv[i].fp = true)/\(∀ h:0 < r.fv.length,0 < s.2.1 -> r.fv[0].fp = false))
    (fun y=>y = .inr ()/\RV r ∨ y = .inl 161/\¬ RV r) ?_ FU (false,0,[]) ⟨Nat.zero_le _,fun _=>rfl,fun h=>absurd h (by simp),fun x=>⟨fun hx=>by simp [aG,hO] at hx,fun ⟨j,_,hj,_⟩=>by simp at hj⟩,fun i _ hi=>by simp at hi,fun i _ j _ hi=>by simp at hi,fun i _ j _ hi=>by simp at hi,fun _ hi=>by simp at hi⟩ (by simp only; omega)
   ·obtain ⟨y,e,hy⟩:=hh
    rw [e]
    rcases hy with ⟨rfl,hv⟩ | ⟨rfl,hv⟩
    ·rw [if_pos hv]; rfl
    ·rw [if_neg hv]; rfl
   ·rintro ⟨q,i,D⟩ J ⟨a1,a2,a3,a4,a5,a6,a7,a8⟩ hJ
    simp only at a1 a2 a3 a4 a5 a6 a7 a8 hJ
    unfold bA_l1
    simp only
    by_cases hi:i < r.fv.length
    ·rw [if_pos hi,geE hi,ab,mh r _ (h _ (List.getElem_mem _)),ab]
     -- what has to hold of this unit
     have good:UV r r.fv[i] -> aG D r.fv[i].fB false = false -> (q = true -> r.fv[i].fp = true) -> (i = 0 -> r.fv[i].fp = false) -> ∃ y,J (r.fv[i].fp,i + 1,bF D r.fv[i].fB true) = some y/\(y = .inr ()/\RV r ∨ y = .inl 161/\¬ RV r):=by
      intro g1 g2 g3 g4
      have gn:∀ j (hj:j < i),r.fv[j].fB ≠ r.fv[i].fB:=fun j hj e=>by
       have:=(a4 r.fv[i].fB).2 ⟨j,by omega,hj,e⟩
       rw [g2] at this; cases this
      have gw:∀ j (hj:j < i),r.fv[j].fp = true -> r.fv[i].fp = true:=fun j hj hw=>by
       refine g3 ?_
       rw [a3 (by omega) (by omega)]
       by_cases e:j = i - 1
       ·subst e; exact hw
       ·exact a7 (i - 1) (by omega) j (by omega) (by omega) hw
      refine hJ _ ⟨hi,fun e=>absurd e (by simp),fun _ h' =>rfl,fun x=>?_,fun k hk hki=>?_,fun k hk j hj hki=>?_,fun k hk j hj hki=>?_,fun hk _=>?_⟩ (by simp only; omega)
      ·simp only
       unfold aG
       rw [ir]
       have:=a4 x
       unfold aG at this
       by_cases e:x = r.fv[i].fB
       ·rw [if_pos e]
        exact ⟨fun _=>⟨i,hi,by omega,e.symm⟩,fun _=>rfl⟩
       ·rw [if_neg e,this]
        constructor
        ·rintro ⟨j,hj,hji,ej⟩; exact ⟨j,hj,by omega,ej⟩
        ·rintro ⟨j,hj,hji,ej⟩
         by_cases e2:j = i
         ·subst e2; exact absurd ej.symm e
         ·exact ⟨j,hj,by omega,ej⟩
      ·by_cases e:k = i
       ·subst e; exact g1
       ·exact a5 k hk (by simp only at hki; omega)
      ·by_cases e:k = i
       ·subst e; exact gn j hj
       ·exact a6 k hk j hj (by simp only at hki; omega)
      ·by_cases e:k = i
       ·subst e; exact gw j hj
       ·exact a7 k hk j hj (by simp only at hki; omega)
      ·by_cases e:i = 0
       ·subst e; exact g4 rfl
       ·exact a8 hk (by omega)
     have bad:(¬ UV r r.fv[i] ∨ aG D r.fv[i].fB false = true ∨ (q = true/\r.fv[i].fp = false) ∨ (i = 0/\r.fv[i].fp = true)) -> ¬ RV r:=by
      rintro hb hv
      rcases hb with hb | hb | ⟨hb,hb2⟩ | ⟨hb,hb2⟩
      ·exact hb (hv.u i hi)
      ·obtain ⟨j,hj,hji,e⟩:=(a4 _).1 hb
       exact hv.nm i hi j hji e
      ·by_cases e:i = 0
       ·rw [a2 e] at hb; cases hb
       ·have:=hv.w i hi (i - 1) (by omega) (by rw [<- a3 (by omega) (by omega)]; exact hb)
        rw [hb2] at this; cases this
      ·subst hb
       have:=hv.z hi
       rw [hb2] at this; cases this
     have fin:∀ l:La Bool,l.length <= 1000 -> ((∀ b ∈ l,b = true) ↔ (UV r r.fv[i]/\aG D r.fv[i].fB false = false/\(q = true -> r.fv[i].fp = true)/\(i = 0 -> r.fv[i].fp = false))) -> ∃ y,((bv_p FU l).bind fun y=>(if y = true then J (r.fv[i].fp,i + 1,bF D r.fv[i].fB true) else some (.inl (161:Int)))) = some y/\(y = .inr ()/\RV r ∨ y = .inl 161/\¬ RV r):=by
      intro l hl hiff
      rw [gt l hl,ab]
      by_cases hq:∀ b ∈ l,b = true
      ·rw [if_pos (decide_eq_true hq)]
       obtain ⟨g1,g2,g3,g4⟩:=hiff.1 hq
       exact good g1 g2 g3 g4
      ·rw [if_neg (by simpa using hq)]
       refine ⟨_,I,.inr ⟨I,bad ?_⟩⟩
       refine Classical.byContradiction fun hc=>hq (hiff.2 ?_)
       simp only [not_or,not_and,Bool.not_eq_true,Classical.not_not] at hc
       obtain ⟨c1,c2,c3,c4⟩:=hc
       refine ⟨c1,c2,fun e=>?_,fun e=>?_⟩
       ·rcases hww:r.fv[i].fp with _ | _
        ·exact absurd hww (by simpa using c3 e)
        ·rfl
       ·simpa using c4 e
     rcases hw:r.fv[i].fp with _ | _
     ·rw [if_neg (by decide)]
      by_cases hp:0 < i
      ·rw [if_pos hp]
       have:=fin [decide (UV r r.fv[i]),!(aG D r.fv[i].fB false),!q,true] (by simp) (by
        rw [hw]
        simp only [List.mem_cons,List.not_mem_nil,or_false,forall_eq_or_imp,forall_eq,Bool.not_eq_true', decide_eq_true_eq]
        constructor
        ·rintro ⟨b1,b2,b3,_⟩; exact ⟨b1,b2,fun e=>(by rw [e] at b3; cases b3),fun _=>trivial⟩
        ·rintro ⟨b1,b2,b3,_⟩; exact ⟨b1,b2,by rcases q with _ | _; rfl; exact absurd (b3 rfl) (by decide),trivial⟩)
       rw [hw] at this
       exact this
      ·rw [if_neg hp]
       have:=fin [decide (UV r r.fv[i]),!(aG D r.fv[i].fB false),!q,!r.fv[i].fp] (by simp) (by
        rw [hw]
        simp only [List.mem_cons,List.not_mem_nil,or_false,forall_eq_or_imp,forall_eq,Bool.not_eq_true', decide_eq_true_eq]
        constructor
        ·rintro ⟨b1,b2,b3,_⟩; exact ⟨b1,b2,fun e=>(by rw [e] at b3; cases b3),fun _=>trivial⟩
        ·rintro ⟨b1,b2,b3,_⟩; exact ⟨b1,b2,by rcases q with _ | _; rfl; exact absurd (b3 rfl) (by decide),trivial⟩)
       rw [hw] at this
       exact this
     ·rw [if_pos I]
      by_cases hp:0 < i
      ·rw [if_pos hp]
       have:=fin [decide (UV r r.fv[i]),!(aG D r.fv[i].fB false),true,true] (by simp) (by
        rw [hw]
        simp only [List.mem_cons,List.not_mem_nil,or_false,forall_eq_or_imp,forall_eq,Bool.not_eq_true', decide_eq_true_eq]
        constructor
        ·rintro ⟨b1,b2,_,_⟩; exact ⟨b1,b2,fun _=>trivial,fun e=>by omega⟩
        ·rintro ⟨b1,b2,_,_⟩; exact ⟨b1,b2,trivial,trivial⟩)
       rw [hw] at this
       exact this
      ·rw [if_neg hp]
       have:=fin [decide (UV r r.fv[i]),!(aG D r.fv[i].fB false),true,!r.fv[i].fp] (by simp) (by
        rw [hw]
        simp only [List.mem_cons,List.not_mem_nil,or_false,forall_eq_or_imp,forall_eq,Bool.not_eq_true', decide_eq_true_eq]
        constructor
        ·rintro ⟨_,_,_,b4⟩; cases b4
        ·rintro ⟨_,_,_,b4⟩; exact absurd (b4 (by omega)) (by decide))
       rw [hw] at this
       exact this
    ·rw [if_neg hi]
     refine ⟨_,I,.inl ⟨I,h0.1,h0.2.1,h0.2.2.1,h0.2.2.2,fun i hi2=>a5 i hi2 (by omega),fun i hi2 j hj=>a6 i hi2 j hj (by omega),fun i hi2 j hj=>a7 i hi2 j hj (by omega),fun hi2=>a8 hi2 (by omega)⟩⟩
  ·simp only [List.mem_cons,List.not_mem_nil,or_false,forall_eq_or_imp,forall_eq,decide_eq_true_eq]
   omega
 ·rw [if_neg,if_neg fun hv:RV r=>h0 ⟨hv.g,hv.p,hv.l,hv.n⟩]
  simp only [List.mem_cons,List.not_mem_nil,or_false,forall_eq_or_imp,forall_eq,decide_eq_true_eq]
  omega
open Classical in
theorem dM (r:Te) (h:∀ u ∈ r.fv,Sm4 u):ap_p FU r = some (if RV r then 0 else 161):=by
 have hF:=cD
 unfold ap_p jn
 simp only [if_true]
 by_cases g1:r.fl < 0
 ·rw [if_pos g1,if_neg fun hv:RV r=>by have:=hv.g; omega]
 rw [if_neg g1]
 by_cases g2:6 < r.fl
 ·rw [if_pos g2,if_neg fun hv:RV r=>by have:=hv.g; omega]
 rw [if_neg g2]
 by_cases g3:r.fj < 0
 ·rw [if_pos g3,if_neg fun hv:RV r=>by have:=hv.p; omega]
 rw [if_neg g3]
 by_cases g4:12 < r.fj
 ·rw [if_pos g4,if_neg fun hv:RV r=>by have:=hv.p; omega]
 rw [if_neg g4]
 by_cases g5:r.fm < 0
 ·rw [if_pos g5,if_neg fun hv:RV r=>by have:=hv.l; omega]
 rw [if_neg g5]
 by_cases g6:3 < r.fm
 ·rw [if_pos (decide_eq_true g6),if_neg fun hv:RV r=>by have:=hv.l; omega]
 rw [if_neg (by simpa using g6)]
 by_cases g7:r.fv.length < 1
 ·rw [if_pos g7,if_neg fun hv:RV r=>by have:=hv.n; omega]
 rw [if_neg g7]
 by_cases g8:64 < r.fv.length
 ·rw [if_pos g8,if_neg fun hv:RV r=>by have:=hv.n; omega]
 rw [if_neg g8,geE (by omega),ab]
 by_cases g9:r.fv[0].fp = true
 ·rw [if_pos g9,if_neg fun hv:RV r=>by have:=hv.z (by omega); rw [g9] at this; cases this]
 rw [if_neg g9]
 have hh:=aw (B:=ap_l2 FU r) (fun i:Nat=>r.fv.length - i)
  (fun s=>s <= r.fv.length/\(∀ i (h:i < r.fv.length),i < s -> UV r r.fv[i])/\(∀ i (h:i < r.fv.length) j (h' : j < i),i < s -> r.fv[j].fB ≠ r.fv[i].fB)/\(∀ i (h:i < r.fv.length) j (h' : j < i),i < s -> r.fv[j].fp = true -> r.fv[i].fp = true))
  (fun y=>y = .inr ()/\RV r ∨ y = .inl 161/\¬ RV r) ?_ FU 0 ⟨Nat.zero_le _,fun i _ hi=>by omega,fun i _ j _ hi=>by omega,fun i _ j _ hi=>by omega⟩ (by omega)
 ·obtain ⟨y,e,hy⟩:=hh
  rw [e]
  rcases hy with ⟨rfl,hv⟩ | ⟨rfl,hv⟩
  ·rw [if_pos hv]; rfl
  ·rw [if_neg hv]; rfl
 ·rintro i J ⟨a1,a5,a6,a7⟩ hJ
  unfold ap_l2
  simp only
  by_cases hi:i < r.fv.length
  ·rw [if_pos hi,geE hi,ab,lO r _ (h _ (List.getElem_mem _)),ab]
   by_cases hu:UV r r.fv[i]
   ·rw [if_pos (decide_eq_true hu)]
    have hin:=aw (B:=ap_l1 FU i r r.fv[i]) (fun j:Nat=>i - j) (fun s=>s <= i/\∀ j (hj:j < r.fv.length),j < s -> r.fv[j].fB ≠ r.fv[i].fB/\(r.fv[j].fp = true -> r.fv[i].fp = true))
     (fun y=>y = .inr ()/\(∀ j (hj:j < r.fv.length),j < i -> r.fv[j].fB ≠ r.fv[i].fB/\(r.fv[j].fp = true -> r.fv[i].fp = true)) ∨ y = .inl (.inl 161)/\¬ RV r) ?_ FU 0 ⟨Nat.zero_le _,fun j _ hj=>by omega⟩ (by omega)
    ·obtain ⟨y,e,hy⟩:=hin
     rw [e]
     rcases hy with ⟨rfl,hy⟩ | ⟨rfl,hy⟩
     ·refine hJ (i + 1) ⟨hi,fun k hk hki=>?_,fun k hk j hj hki=>?_,fun k hk j hj hki=>?_⟩ (by omega)
      ·by_cases e:k = i
       ·subst e; exact hu
       ·exact a5 k hk (by omega)
      ·by_cases e:k = i
       ·subst e; exact (hy j (by omega) hj).1
       ·exact a6 k hk j hj (by omega)
      ·by_cases e:k = i
       ·subst e; exact (hy j (by omega) hj).2
       ·exact a7 k hk j hj (by omega)
     ·exact ⟨_,I,.inr ⟨I,hy⟩⟩
    ·rintro j J' ⟨b1,b2⟩ hJ'
     unfold ap_l1
     simp only
     by_cases hj:j < i
     ·have next:r.fv[j].fB ≠ r.fv[i].fB -> (r.fv[j].fp = true -> r.fv[i].fp = true) -> _:=fun c1 c2=>hJ' (j + 1) ⟨hj,fun k hk hkj=>by
       by_cases e:k = j
       ·subst e; exact ⟨c1,c2⟩
       ·exact b2 k hk (by omega)⟩ (by omega)
      rw [if_pos hj,geE (by omega),ab]
      by_cases c1:r.fv[j].fB = r.fv[i].fB
      ·rw [if_pos c1]
       exact ⟨_,I,.inr ⟨I,fun hv=>hv.nm i hi j hj c1⟩⟩
      ·rw [if_neg c1]
       by_cases c2:r.fv[j].fp = true
       ·rw [if_pos c2]
        by_cases c3:r.fv[i].fp = true
        ·rw [if_pos c3]; exact next c1 fun _=>c3
        ·rw [if_neg c3]; exact ⟨_,rfl,.inr ⟨rfl,fun hv=>c3 (hv.w i hi j hj c2)⟩⟩
       ·rw [if_neg c2]; exact next c1 fun e=>absurd e c2
     ·rw [if_neg hj]
      exact ⟨_,I,.inl ⟨I,fun k hk hki=>b2 k hk (by omega)⟩⟩
   ·rw [if_neg (by simpa using hu)]
    exact ⟨_,I,.inr ⟨I,fun hv=>hu (hv.u i hi)⟩⟩
  ·rw [if_neg hi]
   exact ⟨_,rfl,.inl ⟨rfl,by omega,by omega,by omega,by omega,fun i hi2=>a5 i hi2 (by omega),fun i hi2 j hj=>a6 i hi2 j hj (by omega),fun i hi2 j hj=>a7 i hi2 j hj (by omega),fun hi2=>by simpa using g9⟩⟩
set_option maxRecDepth 8000
structure Lnd (r:Te) (us:List Tb):Prop where
 all:∃ ws,r.fv = us ++ ws/\∀ u ∈ ws,u.fp = true
 w:∀ u ∈ us,u.fp = false
theorem lnd_of {r:Te} (h:RV r):∃ us,Lnd r us/\1 <= us.length:=by
 have key:∀ (l:La Tb),(∀ i (h:i < l.length) j (h' : j < i),l[j].fp = true -> l[i].fp = true) -> ∃ us ws,l = us ++ ws/\(∀ u ∈ us,u.fp = false)/\(∀ u ∈ ws,u.fp = true)/\((∀ h:0 < l.length,l[0].fp = false) -> 0 < l.length -> 1 <= us.length):=by
  intro l
  induction l with
  | nil=>intro _; exact ⟨[],[],rfl,by simp,by simp,fun _ h=>by simp at h⟩
  | cons u l ih=>
   intro hl
   rcases hu:u.fp with _ | _
   ·obtain ⟨us,ws,e,h1,h2,_⟩:=ih fun i hi j hj=>hl (i + 1) (by simpa using hi) (j + 1) (by omega)
    refine ⟨u :: us,ws,by rw [e]; rfl,fun v hv=>?_,h2,fun _ _=>by simp⟩
    rcases List.mem_cons.1 hv with rfl | hv
    ·exact hu
    ·exact h1 v hv
   ·refine ⟨[],u :: l,rfl,by simp,fun v hv=>?_,fun h0 _=>?_⟩
    ·obtain ⟨i,hi,rfl⟩:=List.getElem_of_mem hv
     cases i with
     | zero=>exact hu
     | succ i=>exact hl (i + 1) hi 0 (by omega) hu
    ·have:=h0 (by simp)
     simp only [List.getElem_cons_zero] at this
     rw [hu] at this; cases this
 obtain ⟨us,ws,e,h1,h2,h3⟩:=key r.fv h.w
 exact ⟨us,⟨⟨ws,e,h2⟩,h1⟩,h3 h.z h.n.1⟩
theorem Lnd.at {r:Te} {us:La Tb} (h:Lnd r us) {i:Nat} (hi:i < r.fv.length):(∃ h2:i < us.length,r.fv[i] = us[i]/\r.fv[i].fp = false) ∨ us.length <= i/\r.fv[i].fp = true:=by
 obtain ⟨ws,e,hw⟩:=h.all
 have hz:r.fv.length = us.length + ws.length:=by rw [e,List.length_append]
 by_cases h2:i < us.length
 ·have e0:r.fv[i] = us[i]:=by simp only [e]; exact List.getElem_append_left h2
  exact .inl ⟨h2,e0,by rw [e0]; exact h.w _ (List.getElem_mem _)⟩
 ·refine .inr ⟨by omega,hw _ ?_⟩
  have:r.fv[i] = ws[i - us.length]'(by omega):=by simp only [e]; exact List.getElem_append_right (by omega)
  rw [this]; exact List.getElem_mem _
theorem Lnd.le {r:Te} {us:La Tb} (h:Lnd r us):us.length <= r.fv.length:=by
 obtain ⟨ws,e,_⟩:=h.all
 rw [e,List.length_append]; omega
theorem na {r:Te} {us:La Tb} (h:Lnd r us) (hn:r.fv.length <= 1000):bh_p FU r = some (us.length:Int):=by
 have hF:=cD
 have hle:=h.le
 have hh:=aw (B:=bh_l1 FU r) (fun i:Nat=>r.fv.length - i) (fun i=>i <= us.length) (fun y=>y = us.length) ?_ FU 0 (Nat.zero_le _) (by omega)
 ·obtain ⟨y,e,rfl⟩:=hh
  unfold bh_p jn
  simp only
  rw [e,ab]
 ·intro i J hi hJ
  unfold bh_l1
  simp only
  by_cases h0:i < r.fv.length
  ·rw [if_pos h0,geE h0,ab]
   rcases h.at h0 with ⟨h2,_,hw⟩ | ⟨h2,hw⟩
   ·rw [if_neg (by rw [hw]; decide)]
    exact hJ (i + 1) h2 (by omega)
   ·rw [if_pos hw]
    exact ⟨_,I,by omega⟩
  ·rw [if_neg h0]
   exact ⟨_,I,by omega⟩
open Classical in
theorem iU {r:Te} (hS:∀ u ∈ r.fv,Sm4 u) (hv:RV r) {us:La Tb} (hL:Lnd r us):cn_p FU r = some (us.length:Int):=by
 have hn:=hv.n
 unfold cn_p cI_p
 rw [dM r hS,if_pos hv,ab,if_pos I,na hL (by omega),ab,ab]
set_option maxRecDepth 8000
structure D0 (r:Te):Prop where
 n:r.fv.length <= 13
 s:∀ u ∈ r.fv,Sm4 u
 k:∀ u ∈ r.fv,u.fH.length <= 100/\u.fl.length <= 100
 q:∀ u ∈ r.fv,∀ x ∈ u.fI,0 <= x/\x <= 2
theorem mF (d:Tk) (z:Int) (h0:0 <= z) (h1:z <= 100):∃ l,au (ak_l1 FU d z) FU (0,[]) = some l/\l.length = (d.fm % 3).toNat/\∀ x ∈ l,0 <= x/\x <= 2:=by
 have hF:=cD
 have hk:(d.fm % 3).toNat < 3:=by rw [UInt8.toNat_mod]; exact Nat.mod_lt _ (by decide)
 refine aw (B:=ak_l1 FU d z) (fun s:Nat × La Int=>3 - s.1) (fun s=>s.1 <= (d.fm % 3).toNat/\s.2.length = s.1/\∀ x ∈ s.2,0 <= x/\x <= 2) _ ?_ FU (0,[]) ⟨by simp,rfl,by simp⟩ (by simp only; omega)
 rintro ⟨i,xs⟩ J ⟨a1,a2,a3⟩ hJ
 simp only at a1 a2 a3 hJ
 unfold ak_l1
 simp only
 split
 ·rename_i hi
  obtain ⟨y,e,y0,y1⟩:=jX FU d (9 * z + 7 + i) (by omega)
  rw [aN (by omega) (by omega),ab,aN (by omega) (by omega),ab,aN (by omega) (by omega),ab,e,ab,ce (by decide),ab,cC _ _ (by simp only [leC,leN]; omega),ab]
  refine hJ _ ⟨by simp only; omega,by simp only [List.length_append,leC,leN]; omega,fun x hx=>?_⟩ (by simp only; omega)
  rcases List.mem_append.1 hx with hx | hx
  ·exact a3 x hx
  ·rw [List.mem_singleton.1 hx,Int.tmod_eq_emod_of_nonneg y0]
   have a1:=Int.emod_nonneg y (b:=(3:Int)) (by omega)
   have a2:=Int.emod_lt_of_pos y (b:=(3:Int)) (by omega)
   omega
 ·exact ⟨_,I,by omega,a3⟩
theorem name12 (i:Nat) (h:i < 13):(kr ⟨#[117]⟩ (bstr ([aO (97 + (i:Int)),aO (97 + 0)]:La UInt8))) = some (nm i):=by
 have:aO (97 + (i:Int)) = UInt8.ofNat (97 + i):=by unfold aO; congr 1; omega
 rw [this]; rfl
theorem nm_ns {i:Nat} (h:i < 13):nm i ∈ NS:=List.mem_cons_of_mem _ (List.mem_map.2 ⟨i,List.mem_range.2 h,rfl⟩)
def Du (u:Tb):Prop:=Sm4 u/\(u.fH.length <= 100/\u.fl.length <= 100)/\∀ x ∈ u.fI,0 <= x/\x <= 2
theorem jI (d:Tk) (m:Nat) (h2:m <= 12):∃ r,ak_p FU d m = some r/\D0 r/\r.fm = ((d.fm % 3).toNat:Int):=by
 have hF:=cD
 have hG:(d.fl % 3).toNat < 3:=by rw [UInt8.toNat_mod]; exact Nat.mod_lt _ (by decide)
 have hP:(d.fj % 4).toNat < 4:=by rw [UInt8.toNat_mod]; exact Nat.mod_lt _ (by decide)
 have hL:(d.fm % 3).toNat < 3:=by rw [UInt8.toNat_mod]; exact Nat.mod_lt _ (by decide)
 have hW:(d.fp % 2).toNat < 2:=by rw [UInt8.toNat_mod]; exact Nat.mod_lt _ (by decide)
 have hh:=aw (B:=ak_l3 FU (m:Int) d) (fun s:Int × La Tb=>13 - s.1.toNat) (fun s=>0 <= s.1/\s.1 <= m/\(s.2.length:Int) = s.1/\∀ u ∈ s.2,Du u)
  (fun us=>us.length = m/\∀ u ∈ us,Du u) ?_ FU (0,[]) ⟨by simp,by simp,by simp,fun u h=>by cases h⟩ (by simp only; omega)
 ·obtain ⟨us,e,u1,u2⟩:=hh
  have hs:=aw (B:=ak_l2 FU d) (fun s:Nat × La Tb=>2 - s.1) (fun s=>s.1 <= (d.fp % 2).toNat/\s.2.length = m + s.1/\∀ u ∈ s.2,Du u)
   (fun all=>all.length <= m + 1/\∀ u ∈ all,Du u) ?_ FU (0,us) ⟨by simp,u1,u2⟩ (by simp only; omega)
  ·obtain ⟨all,e2,ha,hd⟩:=hs
   refine ⟨⟨(d.fl % 3).toNat,(d.fj % 4).toNat,(d.fm % 3).toNat,all⟩,?_,⟨by simp only; omega,fun u hu=>(hd u hu).1,fun u hu=>(hd u hu).2.1,fun u hu=>(hd u hu).2.2⟩,rfl⟩
   unfold ak_p
   rw [e,ab,e2,ab]
  ·rintro ⟨i,xs⟩ J ⟨a1,a2,a3⟩ hJ
   simp only at a1 a2 a3 hJ
   unfold ak_l2
   simp only
   split
   ·rename_i hi
    rw [cT _ _ (by omega),ab,cT _ _ (by omega),ab,cT _ _ (by omega),ab,cC _ _ (by simp only [leC,leN]; omega),ab]
    refine hJ _ ⟨by simp only; omega,by simp only [List.length_append,leC,leN]; omega,fun u hu=>?_⟩ (by simp only; omega)
    rcases List.mem_append.1 hu with hu | hu
    ·exact a3 u hu
    ·rw [List.mem_singleton.1 hu]
     refine ⟨⟨List.mem_cons_self ..,?_,?_,?_⟩,⟨?_,?_⟩,fun x hx=>?_⟩
     ·simp only [List.length_replicate]; omega
     ·simp only [List.length_replicate]; omega
     ·simp only [List.length_replicate]; omega
     ·simp only [List.length_replicate]; omega
     ·simp only [List.length_replicate]; omega
     ·rw [List.eq_of_mem_replicate hx]; omega
   ·exact ⟨_,I,by omega,a3⟩
 ·rintro ⟨z,xs⟩ J ⟨a1,a2,a3,a4⟩ hJ
  simp only at a1 a2 a3 a4 hJ
  unfold ak_l3
  simp only
  split
  ·rename_i hz
   obtain ⟨i,rfl⟩:∃ i:Nat,z = i:=⟨z.toNat,by omega⟩
   have t1:Int.tmod (i:Int) 26 = i:=by rw [Int.tmod_eq_emod_of_nonneg (by omega)]; omega
   have t2:Int.tdiv (i:Int) 26 = 0:=by rw [Int.tdiv_eq_ediv_of_nonneg (by omega)]; omega
   obtain ⟨y,e,y0,y1⟩:=jX FU d (9 * (i:Int)) (by omega)
   obtain ⟨g,eg,g1,g2⟩:=jO FU d ((d.fl % 3).toNat:Nat) (9 * (i:Int) + 1) y (by omega) (by omega) (by omega) (by omega) y0 (by omega)
   obtain ⟨v,ev,v1,v2⟩:=jO FU d ((d.fj % 4).toNat:Nat) (9 * (i:Int) + 3) 255 (by omega) (by omega) (by omega) (by omega) (by omega) (by omega)
   obtain ⟨q,eq,q1,q2⟩:=mF d (i:Int) (by omega) (by omega)
   rw [ce (by decide),ab,t1,aN (by omega) (by omega),ab]
   unfold cL
   rw [if_neg (by decide),t2,aN (by omega) (by omega),ab,ce (by decide),ab,show Int.tmod 0 26 = 0 from I,aN (by omega) (by omega),ab,aN (by omega) (by omega),ab,e,ab,name12 i (by omega)]
   simp only [ab]
   rw [aN (by omega) (by omega)]
   simp only [ab,eg]
   rw [aN (by omega) (by omega)]
   simp only [ab,ev,eq]
   rw [cC _ _ (by simp only [leC,leN]; omega)]
   simp only [ab]
   try rw [aN (by omega) (by omega),ab]
   refine hJ _ ⟨by simp only; omega,by simp only; omega,by simp only [List.length_append,leC,leN]; omega,fun u hu=>?_⟩ (by simp only; omega)
   rcases List.mem_append.1 hu with hu | hu
   ·exact a4 u hu
   ·rw [List.mem_singleton.1 hu]
    exact ⟨⟨nm_ns (by omega),by simp only; omega,by simp only; omega,by simp only; omega⟩,⟨by simp only; omega,by simp only; omega⟩,q2⟩
  ·exact ⟨_,I,by omega,a4⟩
theorem mU (a n:Nat) (hn:0 < n):∃ j:Nat,j < n/\ci (a:Int) (n:Int) = some (j:Int):=by
 refine ⟨a % n,Nat.mod_lt _ hn,?_⟩
 rw [ce (by omega),Int.tmod_eq_emod_of_nonneg (by omega)]
 rfl
theorem idxK {α:Type} {xs:La α} {j:Nat} (h:j < xs.length):idx xs (j:Int) = some xs[j]:=aY (i:=(j:Int)) (by omega) h
structure Dn (r:Te):Prop where
 n:r.fv.length <= 13
 s:∀ u ∈ r.fv,Sm4 u
theorem D0.dn {r:Te} (h:D0 r):Dn r:=⟨h.n,h.s⟩
theorem Dn.set {r:Te} (h:Dn r) (j:Nat) {u:Tb} (hs:Sm4 u):Dn ⟨r.fl,r.fj,r.fm,r.fv.set j u⟩:=
 ⟨by rw [List.length_set]; exact h.n,fun v hv=>(List.mem_or_eq_of_mem_set hv).elim (h.s v) fun e=>by rw [e]; exact hs⟩
theorem bend_ok (b:TBend) {r:Te} (h:D0 r):∃ r', bW_p FU b r = some r' /\Dn r' :=by
 have hn:=h.n
 unfold bW_p
 rw [cC _ _ (by simp only [leN]; omega),ab,List.nil_append]
 by_cases hz:r.fv.length = 0
 ·rw [if_pos hz]
  exact ⟨_,I,h.dn⟩
 obtain ⟨j,hj,e⟩:=mU b.fAt.toNat r.fv.length (by omega)
 have hm:=List.getElem_mem hj
 have hs:=h.s _ hm
 have hk:=h.k _ hm
 rw [if_neg hz,e,ab,idxK hj,ab,Int.toNat_natCast]
 by_cases c0:(b.fM % (7:UInt8)).toNat = 0
 ·rw [if_pos c0,bh _ hj,ab]
  exact ⟨_,I,h.dn.set j ⟨hs.n,hs.g,hs.v,hs.q⟩⟩
 rw [if_neg c0]
 by_cases c1:(b.fM % (7:UInt8)).toNat = 1
 ·rw [if_pos c1,cC _ _ (by simp only [leC,leN]; omega),ab,bh _ hj,ab]
  exact ⟨_,rfl,h.dn.set j ⟨hs.n,hs.g,by simp only [List.length_append,leC,leN]; omega,hs.q⟩⟩
 rw [if_neg c1]
 by_cases c2:(b.fM % (7:UInt8)).toNat = 2
 ·rw [if_pos c2,cC _ _ (by simp only [leN]; omega),ab,List.nil_append,cC _ _ (by simp only [leC,leN]; omega),ab,bh _ hj,ab]
  exact ⟨_,rfl,h.dn.set j ⟨hs.n,by simp only [List.length_append,leC,leN]; omega,hs.v,hs.q⟩⟩
 rw [if_neg c2]
 by_cases c3:(b.fM % (7:UInt8)).toNat = 3
 ·rw [if_pos c3,bh _ hj,ab]
  exact ⟨_,I,h.dn.set j ⟨hs.n,hs.g,hs.v,hs.q⟩⟩
 rw [if_neg c3]
 by_cases c4:(b.fM % (7:UInt8)).toNat = 4
 ·have h00:0 < r.fv.length:=by omega
  rw [if_pos c4,geE h00,ab,bh _ hj,ab]
  exact ⟨_,I,h.dn.set j ⟨(h.s _ (List.getElem_mem h00)).n,hs.g,hs.v,hs.q⟩⟩
 rw [if_neg c4]
 by_cases c5:(b.fM % (7:UInt8)).toNat = 5
 ·rw [if_pos c5]
  exact ⟨_,I,hn,h.s⟩
 rw [if_neg c5,bh _ hj,ab]
 exact ⟨_,rfl,h.dn.set j ⟨hs.n,hs.g,hs.v,by simp only [leC,leN]; omega⟩⟩
def dv:La Int -> Nat
 | []=>0
 | x :: xs=>x.toNat + 4294967296 * dv xs
def Dig (xs:La Int):Prop:=∀ x ∈ xs,0 <= x/\x < 4294967296
theorem eB:Dig []:=fun x hx=>by cases hx
theorem gO (xs ys:La Int):dv (xs ++ ys) = dv xs + 4294967296 ^ xs.length * dv ys:=by
 induction xs with
 | nil=>simp [dv]
 | cons x xs ih=>simp only [List.cons_append,dv,ih,leC,Nat.pow_succ]; grind
theorem Dig.tl {x:Int} {xs:La Int} (h:Dig (x :: xs)):Dig xs:=fun y hy=>h y (List.mem_cons_of_mem _ hy)
theorem cE:∀ {xs:La Int},Dig xs -> dv xs < 4294967296 ^ xs.length
 | [],_=>by simp [dv]
 | x :: xs,h=>by
  have h1:=h x (List.mem_cons_self ..)
  have h2:4294967296 * (dv xs + 1) <= 4294967296 * 4294967296 ^ xs.length:=Nat.mul_le_mul_left _ (cE h.tl)
  simp only [dv,leC,Nat.pow_succ]
  rw [Nat.mul_comm (_ ^ _)]
  omega
theorem bT (a:La Int) {i:Nat} (h:i < a.length):dv (a.take (i + 1)) = dv (a.take i) + 4294967296 ^ i * a[i].toNat:=by
 rw [<- List.take_append_getElem h,gO,List.length_take,Nat.min_eq_left (Nat.le_of_lt h)]
 simp [dv]
theorem eF (b:La Int) (i:Nat):dv (b.take (i + 1)) = dv (b.take i) + 4294967296 ^ i * (b[i]?.getD 0).toNat:=by
 by_cases h:i < b.length
 ·rw [bT b h,geE h]; rfl
 ·rw [bs (by omega),bs (by omega),List.getElem?_eq_none (by omega)]; simp
theorem gx (a:La Int) {i:Nat} (h:i < a.length):dv a = dv (a.take i) + 4294967296 ^ i * a[i].toNat + 4294967296 ^ (i + 1) * dv (a.drop (i + 1)):=by
 conv=>lhs; rw [<- List.take_append_drop (i + 1) a,gO]
 rw [bT a h,List.length_take,Nat.min_eq_left (by omega)]
theorem kn:∀ {xs:La Int} {j:Nat} (v:Int) (h:j < xs.length),dv (xs.set j v) + 4294967296 ^ j * xs[j].toNat = dv xs + 4294967296 ^ j * v.toNat
 | x :: xs,0,v,_=>by simp only [List.set_cons_zero,dv,List.getElem_cons_zero,Nat.pow_zero]; omega
 | x :: xs,j + 1,v,h=>by
  have:=kn (xs:=xs) (j:=j) v (by simpa using h)
  simp only [List.set_cons_succ,dv,List.getElem_cons_succ,Nat.pow_succ]
  grind
theorem dY:∀ (xs:La Int),(∀ x ∈ xs,x = 0) -> dv xs = 0
 | [],_=>rfl
 | x :: xs,h=>by
  have h1:=h x (List.mem_cons_self ..)
  have h2:=dY xs fun y hy=>h y (List.mem_cons_of_mem _ hy)
  subst h1; simp [dv,h2]
def rd (m:Nat):La Int:=if m = 0 then [] else ((m % 4294967296:Nat):Int) :: rd (m / 4294967296)
termination_by m
decreasing_by exact Nat.div_lt_self (by omega) (by omega)
theorem rd0:rd 0 = []:=by unfold rd; simp
theorem im {m:Nat} (h:m ≠ 0):rd m = ((m % 4294967296:Nat):Int) :: rd (m / 4294967296):=by rw [rd]; rw [if_neg h]
theorem aM (m:Nat):dv (rd m) = m:=by
 induction m using Nat.strongRecOn with
 | _ m ih=>
  by_cases h:m = 0
  ·subst h; rw [rd0]; rfl
  ·rw [im h]; simp only [dv]
   rw [ih _ (Nat.div_lt_self (by omega) (by omega)),Int.toNat_natCast]
   exact Nat.mod_add_div m 4294967296
theorem aE (m:Nat):Dig (rd m):=by
 induction m using Nat.strongRecOn with
 | _ m ih=>
  by_cases h:m = 0
  ·subst h; rw [rd0]; intro x hx; cases hx
  ·rw [im h]
   intro x hx
   rcases List.mem_cons.1 hx with rfl | hx
   ·omega
   ·exact ih _ (Nat.div_lt_self (by omega) (by omega)) x hx
def Nr (xs:La Int):Prop:=∀ x,xs.getLast? = some x -> x ≠ 0
theorem Nr.tail {x y:Int} {xs:La Int} (h:Nr (x :: y :: xs)):Nr (y :: xs):=fun z hz=>h z (by rw [List.getLast?_cons_cons]; exact hz)
theorem jL:∀ {xs:La Int},Dig xs -> Nr xs -> xs ≠ [] -> 4294967296 ^ (xs.length - 1) <= dv xs
 | [],_,_,h=>absurd I h
 | [x],hd,h,_=>by
  have h1:=h x I
  have h2:=hd x (List.mem_cons_self ..)
  simp only [dv,leC,leN]
  show 4294967296 ^ 0 <= _
  rw [Nat.pow_zero]; omega
 | x :: y :: xs,hd,h,_=>by
  have h1:=jL hd.tl h.tail (by simp)
  have h2:4294967296 * 4294967296 ^ xs.length <= 4294967296 * dv (y :: xs):=Nat.mul_le_mul_left _ (by simpa using h1)
  show 4294967296 ^ (xs.length + 1) <= x.toNat + 4294967296 * dv (y :: xs)
  rw [Nat.pow_succ,Nat.mul_comm]; omega
theorem dv_pos {xs:La Int} (hd:Dig xs) (h:Nr xs) (h0:xs ≠ []):0 < dv xs:=by
 have:=jL hd h h0
 have h2:0 < 4294967296 ^ (xs.length - 1):=Nat.pow_pos (by decide)
 omega
theorem mX:∀ {xs:La Int},Dig xs -> Nr xs -> rd (dv xs) = xs
 | [],_,_=>rd0
 | x :: xs,hd,h=>by
  have hp:=dv_pos hd h (by simp)
  have hx:=hd x (List.mem_cons_self ..)
  rw [im (by omega)]
  have h1:((dv (x :: xs) % 4294967296:Nat):Int) = x:=by simp only [dv]; omega
  have h2:dv (x :: xs) / 4294967296 = dv xs:=by simp only [dv]; omega
  have h3:Nr xs:=by
   cases xs with
   | nil=>intro z hz; simp at hz
   | cons y ys=>exact h.tail
  rw [h1,h2,mX hd.tl h3]
theorem fW (m:Nat):Nr (rd m):=by
 induction m using Nat.strongRecOn with
 | _ m ih=>
  intro x hx
  by_cases h:m = 0
  ·subst h; rw [rd0] at hx; cases hx
  ·rw [im h] at hx
   by_cases h2:m / 4294967296 = 0
   ·rw [h2,rd0] at hx
    simp at hx
    omega
   ·have h3:=ih (m / 4294967296) (Nat.div_lt_self (by omega) (by omega))
    rw [im h2] at hx h3
    rw [List.getLast?_cons_cons] at hx
    exact h3 x hx
theorem cy {m l:Nat} (h:m < 4294967296 ^ l):(rd m).length <= l:=by
 by_cases h0:rd m = []
 ·rw [h0]; simp
 ·have h1:=jL (aE m) (fW m) h0
  rw [aM] at h1
  have h2:=Nat.lt_of_le_of_lt h1 h
  have h3:=(Nat.pow_lt_pow_iff_right (by omega)).1 h2
  omega
theorem jY {m:Nat}:rd m = [] ↔ m = 0:=⟨fun h=>by have:=aM m; rw [h] at this; exact this.symm,fun h=>by rw [h]; exact rd0⟩
theorem cP {a b:Nat} (h:a <= b):(rd a).length <= (rd b).length:=cy (Nat.lt_of_le_of_lt h (by have:=cE (aE b); rwa [aM] at this))
theorem dI (n:Nat) (ws:La Int) (hd:Dig ws) (hn:ws.length < n) (hl:ws.length <= 1000000):aA_p n ws = some (rd (dv ws)):=by
 have h:=aw (B:=aA_l1 n ws) (fun z:Int=>z.toNat) (fun z=>0 <= z/\z <= ws.length/\∀ i:Nat,z.toNat <= i -> ∀ h:i < ws.length,ws[i] = 0)
  (fun z=>∃ k:Nat,z = k/\k <= ws.length/\(∀ i:Nat,k <= i -> ∀ h:i < ws.length,ws[i] = 0)/\∀ h:0 < k,∀ h2:k - 1 < ws.length,ws[k - 1] ≠ 0) ?_ n (ws.length:Int) ⟨by omega,by omega,fun i h1 h2=>by omega⟩ (by simpa using hn)
 ·obtain ⟨z,hz,k,rfl,hk,hz0,hz1⟩:=h
  have e:dv ws = dv (ws.take k):=by
   conv=>lhs; rw [<- List.take_append_drop k ws,gO]
   rw [dY (ws.drop k) fun x hx=>?_]
   ·simp
   ·obtain ⟨i,hi,rfl⟩:=List.getElem_of_mem hx
    rw [List.getElem_drop]
    exact hz0 _ (by omega) _
  have hnm:Nr (ws.take k):=by
   intro x hx
   rw [List.getLast?_eq_getElem?,List.length_take,Nat.min_eq_left hk] at hx
   obtain ⟨h1,rfl⟩:=List.getElem?_eq_some_iff.1 hx
   have h2:k - 1 < ws.length:=by rw [List.length_take] at h1; omega
   by_cases h0:0 < k
   ·rw [List.getElem_take]; exact hz1 h0 h2
   ·rw [List.length_take] at h1; omega
  have e2:rd (dv ws) = ws.take k:=by rw [e]; exact mX (fun x hx=>hd x (List.mem_of_mem_take hx)) hnm
  unfold aA_p jn
  simp only [hz,ab,mC hk,e2]
 ·intro z J ⟨h1,h2,h3⟩ hJ
  unfold aA_l1
  simp only
  by_cases h0:0 < z
  ·rw [if_pos h0,aN (by omega) (by omega),ab,aY (by omega) (by omega),ab]
   split
   ·rename_i hx
    rw [ab]
    refine hJ (z - 1) ⟨by omega,by omega,fun i h4 h5=>?_⟩ (by omega)
    by_cases h6:i = (z - 1).toNat
    ·subst h6; exact hx
    ·exact h3 i (by omega) h5
   ·rename_i hx
    refine ⟨z,I,z.toNat,by omega,by omega,h3,fun h4 h5=>?_⟩
    have:(z - 1).toNat = z.toNat - 1:=by omega
    simp only [this] at hx
    exact hx
  ·rw [if_neg h0]
   exact ⟨z,I,0,by omega,by omega,fun i h4 h5=>h3 i (by omega) h5,fun h4=>by omega⟩
theorem kL {a b:La Int} (ha:Dig a) (hbd:Dig b) (hb:Nr b) (h:a.length < b.length):dv a < dv b:=by
 have h1:=cE ha
 have h2:=jL hbd hb (by intro e; rw [e] at h; simp at h)
 have h3:4294967296 ^ a.length <= 4294967296 ^ (b.length - 1):=Nat.pow_le_pow_right (by omega) (by omega)
 omega
theorem jr {a b:La Int} {i:Nat} (hda:Dig a) (hdb:Dig b) (ha:i < a.length) (hb:i < b.length) (hd:a.drop (i + 1) = b.drop (i + 1)) (h:a[i] < b[i]):dv a < dv b:=by
 rw [gx a ha,gx b hb,hd]
 have h1:=cE (xs:=a.take i) fun x hx=>hda x (List.mem_of_mem_take hx)
 rw [List.length_take,Nat.min_eq_left (by omega)] at h1
 have h3:=hda a[i] (List.getElem_mem _)
 have h4:=hdb b[i] (List.getElem_mem _)
 have h2:4294967296 ^ i * (a[i].toNat + 1) <= 4294967296 ^ i * b[i].toNat:=Nat.mul_le_mul_left _ (by omega)
 rw [Nat.mul_add] at h2
 omega
theorem gC (n:Nat) (a b:La Int) (hda:Dig a) (hdb:Dig b) (ha:Nr a) (hb:Nr b) (hn:a.length < n) (hl:a.length < 1000000):∃ c,aL_p n a b = some c/\(c < 0 ↔ dv a < dv b)/\(c = 0 ↔ dv a = dv b):=by
 unfold aL_p
 by_cases h:a.length = b.length
 ·rw [if_pos h]
  have hh:=aw (B:=aL_l1 n a b) (fun z:Int=>(z + 1).toNat) (fun z=>-1 <= z/\z < a.length/\a.drop (z + 1).toNat = b.drop (z + 1).toNat)
   (fun r=>(∃ c,r = .inl c/\(c < 0/\dv a < dv b ∨ 0 < c/\dv b < dv a)) ∨ (r = .inr ()/\a = b)) ?_ n ((a.length:Int) - 1) ⟨by omega,by omega,?_⟩ (by omega)
  ·obtain ⟨r,hr,⟨c,h1,h2⟩ | h1⟩:=hh
   ·rw [hr,h1]; exact ⟨_,rfl,by omega,by omega⟩
   ·rw [hr,h1.1,h1.2]; exact ⟨_,rfl,by omega,by omega⟩
  ·intro z J ⟨h1,h2,h3⟩ hJ
   unfold aL_l1
   simp only
   by_cases h0:0 <= z
   ·have e1:(z + 1).toNat = z.toNat + 1:=by omega
    rw [e1] at h3
    have d1:=hda (a[z.toNat]'(by omega)) (List.getElem_mem _)
    have d2:=hdb (b[z.toNat]'(by omega)) (List.getElem_mem _)
    rw [if_pos h0,aY h0 (by omega),ab,aY h0 (by omega),ab]
    split
    ·rename_i he
     rw [aN (by omega) (by omega),ab]
     refine hJ (z - 1) ⟨by omega,by omega,?_⟩ (by omega)
     rw [show (z - 1 + 1).toNat = z.toNat by omega,List.drop_eq_getElem_cons (by omega),List.drop_eq_getElem_cons (l:=b) (by omega),h3,he]
    ·rename_i hne
     rw [aN (by omega) (by omega),ab]
     by_cases hlt:a[z.toNat]'(by omega) < b[z.toNat]'(by omega)
     ·exact ⟨_,I,.inl ⟨_,I,.inl ⟨by omega,jr hda hdb (by omega) (by omega) h3 hlt⟩⟩⟩
     ·exact ⟨_,I,.inl ⟨_,I,.inr ⟨by omega,jr hdb hda (by omega) (by omega) h3.symm (by omega)⟩⟩⟩
   ·rw [if_neg h0]
    have e1:(z + 1).toNat = 0:=by omega
    rw [e1] at h3
    exact ⟨_,rfl,.inr ⟨rfl,by simpa using h3⟩⟩
  ·rw [show ((a.length:Int) - 1 + 1).toNat = a.length by omega,List.drop_length,h,List.drop_length]
 ·rw [if_neg h]
  refine ⟨_,I,?_⟩
  by_cases h1:a.length < b.length
  ·have:=kL hda hdb hb h1; omega
  ·have:=kL (a:=b) hdb hda ha (by omega); omega
theorem dh {xs:La Int} {x:Int} (h:Dig xs) (hx:0 <= x/\x < 4294967296):Dig (xs ++ [x]):=fun y hy=>(List.mem_append.1 hy).elim (h y) fun e=>by rw [List.mem_singleton.1 e]; exact hx
theorem ek (xs:La Int) (x:Int):dv (xs ++ [x]) = dv xs + 4294967296 ^ xs.length * x.toNat:=by rw [gO]; simp [dv]
theorem gA (n:Nat) (a b:La Int) (hda:Dig a) (hdb:Dig b) (hb:b.length <= a.length) (hv:dv b <= dv a) (hn:a.length < n) (hl:a.length < 100000):aq_p n a b = some (rd (dv a - dv b)):=by
 have h:=aw (B:=aq_l1 n a b) (fun s:Nat × Nat × La Int=>a.length - s.2.1) (fun s=>s.2.1 <= a.length/\s.2.2.length = s.2.1/\s.1 <= 1/\Dig s.2.2/\dv s.2.2 + dv (b.take s.2.1) = dv (a.take s.2.1) + 4294967296 ^ s.2.1 * s.1)
  (fun r:La Int=>r.length = a.length/\Dig r/\dv r = dv a - dv b) ?_ n (0,0,[]) ⟨by simp,by simp,by simp,eB,by simp [dv]⟩ (by simpa using hn)
 ·obtain ⟨xs,h1,h2,h3,h4⟩:=h
  unfold aq_p
  rw [h1,ab,dI n xs h3 (by omega) (by omega),ab,h4]
 ·rintro ⟨u,i,xs⟩ J ⟨h1,h2,h3,h4,h5⟩ hJ
  simp only at h1 h2 h3 h4 h5 hJ
  unfold aq_l1
  simp only
  by_cases hi:i < a.length
  ·have da:=hda a[i] (List.getElem_mem _)
   rw [if_pos hi,geE hi,ab,aN (by omega) (by omega),ab]
   have key:∀ y:Int,0 <= y -> y < 4294967296 -> y.toNat = (b[i]?.getD 0).toNat -> ∃ r,(if a[i] - (u:Int) - y < 0 then (chk (a[i] - (u:Int) - y + 4294967296)).bind fun s245=>(app xs ([s245]:La Int)).bind fun xs230=>J (1,i + 1,xs230) else (app xs ([a[i] - (u:Int) - y]:La Int)).bind fun xs230=>J (0,i + 1,xs230)) = some r/\r.length = a.length/\Dig r/\dv r = dv a - dv b:=by
    intro y y0 y1 hy
    split
    ·rename_i hneg
     rw [aN (by omega) (by omega),ab,cC _ _ (by simp only [leC,leN]; omega),ab]
     have e:dv (xs ++ [a[i] - (u:Int) - y + 4294967296]) + dv (b.take (i + 1)) = dv (a.take (i + 1)) + 4294967296 ^ (i + 1) * 1:=by
      rw [ek,h2,bT a hi,eF b i,<- hy,Nat.pow_succ]
      have e1:(a[i] - (u:Int) - y + 4294967296).toNat + u + y.toNat = a[i].toNat + 4294967296:=by omega
      have e2:=congrArg (4294967296 ^ i * ·) e1
      simp only [Nat.mul_add] at e2
      omega
     refine hJ (1,i + 1,_) ⟨hi,by simp only [List.length_append,leC,leN]; omega,by simp,dh h4 (by omega),by simpa using e⟩ (by simp only; omega)
    ·rename_i hneg
     rw [cC _ _ (by simp only [leC,leN]; omega),ab]
     have e:dv (xs ++ [a[i] - (u:Int) - y]) + dv (b.take (i + 1)) = dv (a.take (i + 1)) + 4294967296 ^ (i + 1) * 0:=by
      rw [ek,h2,bT a hi,eF b i,<- hy,Nat.mul_zero]
      have e1:(a[i] - (u:Int) - y).toNat + u + y.toNat = a[i].toNat:=by omega
      have e2:=congrArg (4294967296 ^ i * ·) e1
      simp only [Nat.mul_add] at e2
      omega
     refine hJ (0,i + 1,_) ⟨hi,by simp only [List.length_append,leC,leN]; omega,by simp,dh h4 (by omega),by simpa using e⟩ (by simp only; omega)
   unfold jn
   simp only
   by_cases hj:i < b.length
   ·have db:=hdb b[i] (List.getElem_mem _)
    rw [if_pos hj,geE hj,ab,aN (by omega) (by omega),ab]
    exact key b[i] db.1 db.2 (by rw [geE hj]; rfl)
   ·rw [if_neg hj]
    have:=key 0 (by decide) (by decide) (by rw [List.getElem?_eq_none (by omega)]; rfl)
    rwa [Int.sub_zero] at this
  ·rw [if_neg hi]
   have:i = a.length:=by omega
   subst this
   rw [List.take_length,bs hb] at h5
   refine ⟨xs,I,h2,h4,?_⟩
   have h6:=cE h4
   rw [h2] at h6
   by_cases hu:u = 0
   ·rw [hu] at h5; omega
   ·have:u = 1:=by omega
    rw [this] at h5; omega
theorem mb (n:Nat) (a:La Int) (bit:Int) (hda:Dig a) (h0:0 <= bit/\bit <= 1) (hn:a.length + 1 < n) (hl:a.length < 100000):bg_p n a bit = some (rd (2 * dv a + bit.toNat)):=by
 have h:=aw (B:=bg_l1 n a) (fun s:Int × Nat × La Int=>a.length - s.2.1) (fun s=>s.2.1 <= a.length/\s.2.2.length = s.2.1/\(0 <= s.1/\s.1 <= 1)/\Dig s.2.2/\dv s.2.2 + 4294967296 ^ s.2.1 * s.1.toNat = 2 * dv (a.take s.2.1) + bit.toNat)
  (fun r:La Int × Int=>r.1.length = a.length/\Dig r.1/\(0 <= r.2/\r.2 <= 1)/\dv r.1 + 4294967296 ^ a.length * r.2.toNat = 2 * dv a + bit.toNat) ?_ n (bit,0,[]) ⟨by simp,by simp,h0,eB,by simp [dv]⟩ (by simp only; omega)
 ·obtain ⟨⟨xs,c⟩,h1,h2,h3,h4,h5⟩:=h
  simp only at h2 h3 h4 h5
  unfold bg_p
  rw [h1,ab]
  simp only
  rw [cC _ _ (by simp only [leC,leN]; omega),ab,dI n _ (dh h3 (by omega)) (by simp only [List.length_append,leC,leN]; omega) (by simp only [List.length_append,leC,leN]; omega),ab,ek,h2,h5]
 ·rintro ⟨c,i,xs⟩ J ⟨h1,h2,h3,h4,h5⟩ hJ
  simp only at h1 h2 h3 h4 h5 hJ
  unfold bg_l1
  simp only
  by_cases hi:i < a.length
  ·have da:=hda a[i] (List.getElem_mem _)
   have q0:Int.tdiv (2 * a[i] + c) 4294967296 = (2 * a[i] + c) / 4294967296:=Int.tdiv_eq_ediv_of_nonneg (by omega)
   have m0:Int.tmod (2 * a[i] + c) 4294967296 = (2 * a[i] + c) % 4294967296:=Int.tmod_eq_emod_of_nonneg (by omega)
   rw [if_pos hi,geE hi,ab,aN (by omega) (by omega),ab,aN (by omega) (by omega),ab,ce (by decide),ab,m0,cC _ _ (by simp only [leC,leN]; omega),ab]
   unfold cL
   rw [if_neg (by decide),q0,aN (by omega) (by omega),ab]
   refine hJ (_,i + 1,_) ⟨hi,by simp only [List.length_append,leC,leN]; omega,by simp only; omega,dh h4 (by omega),?_⟩ (by simp only; omega)
   simp only
   rw [ek,h2,bT a hi,Nat.pow_succ]
   have e1:((2 * a[i] + c) % 4294967296).toNat + 4294967296 * ((2 * a[i] + c) / 4294967296).toNat = 2 * a[i].toNat + c.toNat:=by omega
   have e2:=congrArg (4294967296 ^ i * ·) e1
   simp only [Nat.mul_add] at e2
   rw [Nat.mul_assoc]
   have e3:4294967296 ^ i * (2 * a[i].toNat) = 2 * (4294967296 ^ i * a[i].toNat):=Nat.mul_left_comm ..
   omega
  ·rw [if_neg hi]
   have:i = a.length:=by omega
   subst this
   rw [List.take_length] at h5
   exact ⟨_,I,h2,h4,h3,h5⟩
theorem dH:∀ {xs:La Ua} {j:Nat} (v:Ua) (h:j < xs.length),val (xs.set j v) + 18446744073709551616 ^ j * xs[j].toNat = val xs + 18446744073709551616 ^ j * v.toNat
 | x :: xs,0,v,_=>by simp only [List.set_cons_zero,val,List.getElem_cons_zero,Nat.pow_zero]; omega
 | x :: xs,j + 1,v,h=>by
  have:=dH (xs:=xs) (j:=j) v (by simpa using h)
  simp only [List.set_cons_succ,val,List.getElem_cons_succ,Nat.pow_succ]
  grind
theorem kA {a b:Ua} {s:Nat} (ha:a.toNat < 2 ^ s) (hb:2 ^ s ∣ b.toNat):(a ||| b).toNat = a.toNat + b.toNat:=by
 obtain ⟨y,e⟩:=hb
 rw [UInt64.toNat_or,e,Nat.or_comm,<- Nat.two_pow_add_eq_or_of_lt ha,Nat.add_comm]
theorem dL (w:Nat):18446744073709551616 ^ w = 2 ^ (64 * w):=by
 rw [show (18446744073709551616:Nat) = 2 ^ 64 from I,<- Nat.pow_mul]
theorem dF (x:Ua) {s:Nat} (hs:s < 64):(shlU x s).toNat = x.toNat * 2 ^ s % 18446744073709551616:=by
 unfold shlU; rw [if_pos hs,UInt64.toNat_ofNat']
theorem bS (x:Ua) {s:Nat} (hs:s < 64):(shrU x s).toNat = x.toNat / 2 ^ s:=by
 unfold shrU; rw [if_pos hs,UInt64.toNat_ofNat']
 exact Nat.mod_eq_of_lt (Nat.lt_of_le_of_lt (Nat.div_le_self _ _) x.toNat_lt)
theorem split64 {s:Nat} (hs:s <= 64):(18446744073709551616:Nat) = 2 ^ (64 - s) * 2 ^ s:=by
 rw [<- Nat.pow_add,show 64 - s + s = 64 by omega]
theorem iA (x:Ua) {s:Nat} (h0:0 < s) (hs:s < 64):(shlU x s).toNat + 18446744073709551616 * (shrU x (64 - s)).toNat = x.toNat * 2 ^ s/\2 ^ s ∣ (shlU x s).toNat/\(shrU x (64 - s)).toNat < 2 ^ s:=by
 have e:=split64 (s:=s) (by omega)
 have e1:x.toNat * 2 ^ s / 18446744073709551616 = x.toNat / 2 ^ (64 - s):=by
  rw [e]; exact Nat.mul_div_mul_right _ _ (Nat.two_pow_pos s)
 have e2:x.toNat * 2 ^ s % 18446744073709551616 = x.toNat % 2 ^ (64 - s) * 2 ^ s:=by
  rw [e]; exact Nat.mul_mod_mul_right ..
 rw [dF x hs,bS x (by omega)]
 refine ⟨?_,?_,?_⟩
 ·rw [<- e1]; exact Nat.mod_add_div ..
 ·rw [e2]; exact Nat.dvd_mul_left ..
 ·refine Nat.div_lt_of_lt_mul ?_
  rw [<- e]; exact x.toNat_lt
theorem cW (x:Ua):shlU x 0 = x:=by
 refine UInt64.toNat_inj.1 ?_
 rw [dF x (by decide),Nat.pow_zero,Nat.mul_one]
 exact Nat.mod_eq_of_lt x.toNat_lt
theorem eJ (x:Ua):(0:Ua) ||| x = x:=by
 refine UInt64.toNat_inj.1 ?_
 rw [UInt64.toNat_or]; simp
theorem bit_add {q:La Ua} {k:Nat} (h:k / 64 < q.length) (hd:2 ^ (k + 1) ∣ val q) (hb:(shlU 1 (k % 64)).toNat = 2 ^ (k % 64)):val (q.set (k / 64) (q[k / 64] ||| shlU 1 (k % 64))) = val q + 2 ^ k:=by
 have hs:=dG q h
 have hl:=cw (q.take (k / 64))
 rw [List.length_take,Nat.min_eq_left (by omega)] at hl
 have hk:k = 64 * (k / 64) + k % 64:=by omega
 have hm:k % 64 < 64:=by omega
 have e1:2 ^ (k + 1) = 18446744073709551616 ^ (k / 64) * 2 ^ (k % 64 + 1):=by rw [dL,<- Nat.pow_add]; congr 1; omega
 have e2:(18446744073709551616:Nat) = 2 ^ (k % 64 + 1) * 2 ^ (63 - k % 64):=by rw [<- Nat.pow_add,show k % 64 + 1 + (63 - k % 64) = 64 by omega]
 have h0:val (q.take (k / 64)) = 0:=by
  have h1:18446744073709551616 ^ (k / 64) ∣ val q:=Nat.dvd_trans ⟨_,e1⟩ hd
  rw [hs,Nat.pow_succ,Nat.mul_assoc,Nat.add_assoc,<- Nat.mul_add] at h1
  have h2:=(Nat.dvd_add_left (Nat.dvd_mul_right ..)).1 h1
  exact Nat.eq_zero_of_dvd_of_lt h2 hl
 have h3:2 ^ (k % 64 + 1) ∣ (q[k / 64]).toNat:=by
  rw [e1,hs,h0,Nat.zero_add,show (18446744073709551616:Nat) ^ (k / 64 + 1) = 18446744073709551616 ^ (k / 64) * 18446744073709551616 from Nat.pow_succ ..,Nat.mul_assoc (18446744073709551616 ^ (k / 64)) 18446744073709551616,<- Nat.mul_add] at hd
  have h4:=Nat.dvd_of_mul_dvd_mul_left (Nat.pow_pos (by decide)) hd
  have h5:2 ^ (k % 64 + 1) ∣ 18446744073709551616 * val (q.drop (k / 64 + 1)):=Nat.dvd_trans ⟨_,e2⟩ (Nat.dvd_mul_right ..)
  exact (Nat.dvd_add_left h5).1 h4
 have h6:(q[k / 64] ||| shlU 1 (k % 64)).toNat = 2 ^ (k % 64) + (q[k / 64]).toNat:=by
  rw [UInt64.or_comm]
  have:=kA (a:=shlU 1 (k % 64)) (b:=q[k / 64]) (s:=k % 64 + 1) (by rw [hb]; exact Nat.pow_lt_pow_right (by decide) (by omega)) h3
  rw [this,hb]
 have h7:=dH (q[k / 64] ||| shlU 1 (k % 64)) h
 have e3:2 ^ k = 18446744073709551616 ^ (k / 64) * 2 ^ (k % 64):=by rw [dL,<- Nat.pow_add]; congr 1
 rw [h6,Nat.mul_add,<- e3] at h7
 omega
theorem shl_one {s:Nat} (hs:s < 64):(shlU 1 s).toNat = 2 ^ s:=by
 rw [dF 1 hs]
 have:2 ^ s < 2 ^ 64:=Nat.pow_lt_pow_right (by decide) hs
 simp only [UInt64.toNat_one,Nat.one_mul]
 exact Nat.mod_eq_of_lt (by omega)
theorem nq {a b q r k:Nat} (h1:a = b * q + r) (h2:r < b * 2 ^ (k + 1)) (h3:2 ^ (k + 1) ∣ q) :
  (b * 2 ^ k <= r -> a = b * (q + 2 ^ k) + (r - b * 2 ^ k)/\r - b * 2 ^ k < b * 2 ^ k/\2 ^ k ∣ q + 2 ^ k)/\(r < b * 2 ^ k -> 2 ^ k ∣ q):=by
 have h4:2 ^ k ∣ q:=Nat.dvd_trans ⟨2,by rw [Nat.pow_succ]⟩ h3
 rw [Nat.pow_succ,<- Nat.mul_assoc] at h2
 refine ⟨fun h=>⟨?_,by omega,Nat.dvd_add h4 (Nat.dvd_refl _)⟩,fun _=>h4⟩
 rw [Nat.mul_add]; omega
def eu (x y:Nat):Nat:=if y = 0 then 0 else (if x < y then 1 else 0) + Nat.log2 (x * y) + 1
theorem kU {x y:Nat} (h:y ≠ 0):eu y (x % y) < eu x y:=by
 have hm:x % y < y:=Nat.mod_lt _ (by omega)
 unfold eu
 rw [if_neg h]
 by_cases h0:x % y = 0
 ·rw [if_pos h0]; omega
 ·rw [if_neg h0,if_neg (show ¬ y < x % y by omega)]
  by_cases h1:x < y
  ·rw [if_pos h1,Nat.mod_eq_of_lt h1,Nat.mul_comm y x]; omega
  ·rw [if_neg h1]
   have h2:2 * (x % y) < x ∨ 2 * (x % y) = x:=by
    have h3:=Nat.div_add_mod x y
    have h4:1 <= x / y:=Nat.div_pos (by omega) (by omega)
    have h5:y * 1 <= y * (x / y):=Nat.mul_le_mul_left _ h4
    omega
   have h6:2 * (y * (x % y)) <= x * y:=by
    rw [Nat.mul_comm x y,Nat.mul_left_comm]
    exact Nat.mul_le_mul_left _ (by omega)
   have h7:y * (x % y) ≠ 0:=Nat.mul_ne_zero h h0
   have h8:Nat.log2 (y * (x % y)) + 1 <= Nat.log2 (x * y):=by
    rw [Nat.le_log2 (by omega),Nat.pow_succ]
    have:=Nat.log2_self_le h7
    omega
   omega
theorem eu_le {x y l:Nat} (hx:x < 2 ^ l) (hy:y < 2 ^ l):eu x y <= 2 * l + 2:=by
 unfold eu
 split
 ·omega
 ·rename_i h
  have h1:Nat.log2 (x * y) <= 2 * l:=by
   by_cases h0:x * y = 0
   ·rw [h0]; simp
   ·have:Nat.log2 (x * y) < 2 * l:=by
     rw [Nat.log2_lt h0,Nat.two_mul,Nat.pow_add]
     exact Nat.mul_lt_mul'' hx hy
    omega
  split <;> omega
theorem me:(List.range 32).all (fun k=>decide (shlS 1 k = (2:Int) ^ k)) = true:=by kernel_rfl
theorem shlS_ok {k:Nat} (h:k < 32):shlS 1 k = (2:Int) ^ k:=of_decide_eq_true (List.all_eq_true.1 me k (List.mem_range.2 h))
theorem jV (k:Nat):(2:Int) ^ k = ((2 ^ k:Nat):Int):=by norm_cast
theorem bit_ok {x:Int} {k:Nat} (hx:0 <= x) (hk:k < 32):ci (shrS x k) 2 = some ((x.toNat / 2 ^ k % 2:Nat):Int):=by
 obtain ⟨m,rfl⟩:=Int.eq_ofNat_of_zero_le hx
 unfold shrS
 rw [Nat.min_eq_left (by omega),jV,Int.fdiv_eq_ediv_of_nonneg _ (Int.natCast_nonneg _),ce (by decide),<- Int.natCast_ediv,Int.tmod_eq_emod_of_nonneg (Int.natCast_nonneg _),Int.toNat_natCast]
 congr 1
theorem iq (w:Nat):4294967296 ^ w = 2 ^ (32 * w):=by
 rw [show (4294967296:Nat) = 2 ^ 32 from I,<- Nat.pow_mul]
theorem mR {xs:La Int} (h:Dig xs) (i:Nat) (hi:i <= xs.length):dv xs / 4294967296 ^ i = dv (xs.drop i):=by
 have h1:=cE (xs:=xs.take i) fun x hx=>h x (List.mem_of_mem_take hx)
 rw [List.length_take,Nat.min_eq_left hi] at h1
 have e:dv xs = dv (xs.take i) + 4294967296 ^ i * dv (xs.drop i):=by
  conv=>lhs; rw [<- List.take_append_drop i xs,gO,List.length_take,Nat.min_eq_left hi]
 rw [e,Nat.add_mul_div_left _ _ (Nat.pow_pos (by decide)),Nat.div_eq_of_lt h1,Nat.zero_add]
theorem ln (a i k:Nat) (hk:k < 32) (hi:i < (rd a).length):(rd a)[i].toNat / 2 ^ k % 2 = a / 2 ^ (32 * i + k) % 2:=by
 have h1:=mR (aE a) i (by omega)
 rw [aM,List.drop_eq_getElem_cons hi] at h1
 simp only [dv] at h1
 rw [Nat.pow_add,<- iq,<- Nat.div_div_eq_div_mul,h1]
 have e:(4294967296:Nat) = 2 ^ k * (2 * 2 ^ (31 - k)):=by
  rw [<- Nat.pow_succ', <- Nat.pow_add,show k + (31 - k).succ = 32 by omega]
 generalize dv (List.drop (i + 1) (rd a)) = r
 rw [e,Nat.mul_assoc,Nat.add_mul_div_left _ _ (Nat.two_pow_pos k),Nat.mul_assoc]
 omega
theorem dig_dvd {q:La Int} {i k:Nat} (hd:Dig q) (h:i < q.length) (hk:k < 32) (hv:2 ^ (32 * i + k + 1) ∣ dv q):2 ^ (k + 1) ∣ q[i].toNat:=by
 have hs:=gx q h
 have hl:=cE (xs:=q.take i) fun x hx=>hd x (List.mem_of_mem_take hx)
 rw [List.length_take,Nat.min_eq_left (by omega)] at hl
 have e1:2 ^ (32 * i + k + 1) = 4294967296 ^ i * 2 ^ (k + 1):=by rw [iq,<- Nat.pow_add]; congr 1
 have e2:(4294967296:Nat) = 2 ^ (k + 1) * 2 ^ (31 - k):=by rw [<- Nat.pow_add,show k + 1 + (31 - k) = 32 by omega]
 have h0:dv (q.take i) = 0:=by
  have h1:4294967296 ^ i ∣ dv q:=Nat.dvd_trans ⟨_,e1⟩ hv
  rw [hs,Nat.pow_succ,Nat.mul_assoc,Nat.add_assoc,<- Nat.mul_add] at h1
  have h2:=(Nat.dvd_add_left (Nat.dvd_mul_right ..)).1 h1
  exact Nat.eq_zero_of_dvd_of_lt h2 hl
 rw [e1,hs,h0,Nat.zero_add,show (4294967296:Nat) ^ (i + 1) = 4294967296 ^ i * 4294967296 from Nat.pow_succ ..,Nat.mul_assoc (4294967296 ^ i) 4294967296,<- Nat.mul_add] at hv
 have h4:=Nat.dvd_of_mul_dvd_mul_left (Nat.pow_pos (by decide)) hv
 have h5:2 ^ (k + 1) ∣ 4294967296 * dv (q.drop (i + 1)):=Nat.dvd_trans ⟨_,e2⟩ (Nat.dvd_mul_right ..)
 exact (Nat.dvd_add_left h5).1 h4
theorem dig_set {q:La Int} {i:Nat} {v:Int} (h:Dig q) (hv:0 <= v/\v < 4294967296):Dig (q.set i v):=fun x hx=>(List.mem_or_eq_of_mem_set hx).elim (h x) fun e=>e ▸ hv
theorem ky {t k:Nat} (hk:k < 32) (ht:t < 4294967296) (hd:2 ^ (k + 1) ∣ t):t + 2 ^ k < 4294967296:=by
 obtain ⟨c,rfl⟩:=hd
 have e2:(4294967296:Nat) = 2 ^ (k + 1) * 2 ^ (31 - k):=by rw [<- Nat.pow_add,show k + 1 + (31 - k) = 32 by omega]
 rw [e2] at ht
 have h1:=Nat.lt_of_mul_lt_mul_left ht
 have h2:2 ^ (k + 1) * (c + 1) <= 2 ^ (k + 1) * 2 ^ (31 - k):=Nat.mul_le_mul_left _ h1
 rw [<- e2,Nat.mul_add,Nat.pow_succ] at h2
 have:=Nat.two_pow_pos k
 rw [Nat.pow_succ]
 omega
theorem mJ (n:Nat) (a b i:Nat) (q:La Int) (hb:(rd b).length < 10000) (hi:i < (rd a).length) (hq:i < q.length) (hqd:Dig q) (Q R:Nat) (h1:dv q = 2 ^ (32 * i + 32) * Q) (h2:a / 2 ^ (32 * i + 32) = b * Q + R) (h3:R < b) (hn:20000 < n) :
  ∃ q' Q' R', au (aB_l1 n (rd a) (i:Int) (rd b)) n (rd R,31,q) = some (rd R', q')/\q'.length = q.length/\Dig q' /\dv q' = 2 ^ (32 * i) * Q' /\a / 2 ^ (32 * i) = b * Q' + R' /\R' < b:=by
 have hh:=aw (B:=aB_l1 n (rd a) (i:Int) (rd b)) (fun s:La Int × Int × La Int=>(s.2.1 + 1).toNat)
  (fun s=>(-1 <= s.2.1/\s.2.1 <= 31)/\s.2.2.length = q.length/\Dig s.2.2/\∃ Q R,s.1 = rd R/\dv s.2.2 = 2 ^ (32 * i + (s.2.1 + 1).toNat) * Q/\a / 2 ^ (32 * i + (s.2.1 + 1).toNat) = b * Q + R/\R < b)
  (fun y=>y.2.length = q.length/\Dig y.2/\∃ Q R,y.1 = rd R/\dv y.2 = 2 ^ (32 * i) * Q/\a / 2 ^ (32 * i) = b * Q + R/\R < b) ?_ n (rd R,31,q) ⟨by simp,rfl,hqd,Q,R,rfl,h1,h2,h3⟩ (by simp only; omega)
 ·obtain ⟨⟨x,q'⟩,e,e1,e2,Q', R', e3,e4,e5,e6⟩:=hh
  simp only at e3
  subst e3
  exact ⟨q', Q', R', e,e1,e2,e4,e5,e6⟩
 ·rintro ⟨xs,z,q⟩ J ⟨a1,a2,a3,Q,R,rfl,a4,a5,a6⟩ hJ
  simp only at a1 a2 a3 a4 a5 hJ
  unfold aB_l1
  simp only
  by_cases hz:0 <= z
  ·obtain ⟨k,rfl⟩:∃ k:Nat,z = k:=⟨z.toNat,by omega⟩
   have hk:k < 32:=by omega
   have e0:(((k:Int) + 1).toNat) = k + 1:=by omega
   rw [e0] at a4 a5
   have hdi:=aE a (rd a)[i] (List.getElem_mem _)
   have hRl:=cP (Nat.le_of_lt a6)
   rw [if_pos hz,aY (by omega) (by rw [Int.toNat_natCast]; exact hi),ab,show bE (k:Int) = some k from by unfold bE; rw [if_pos hz,Int.toNat_natCast],ab]
   simp only [Int.toNat_natCast]
   rw [bit_ok hdi.1 hk,ab,ln a i k hk hi,mb n _ _ (aE R) (by omega) (by omega) (by omega),ab,aM,Int.toNat_natCast]
   have hbit:a / 2 ^ (32 * i + k) % 2 < 2:=Nat.mod_lt _ (by decide)
   have hab:a / 2 ^ (32 * i + k) = b * (2 * Q) + (2 * R + a / 2 ^ (32 * i + k) % 2):=by
    have:a / 2 ^ (32 * i + (k + 1)) = a / 2 ^ (32 * i + k) / 2:=by rw [<- Nat.add_assoc,Nat.pow_succ,Nat.div_div_eq_div_mul]
    rw [this] at a5
    rw [Nat.mul_left_comm]; omega
   have hdq:dv q = 2 ^ (32 * i + k) * (2 * Q):=by rw [a4,<- Nat.add_assoc,Nat.pow_succ,Nat.mul_assoc]
   generalize a / 2 ^ (32 * i + k) % 2 = t at hbit hab ⊢
   obtain ⟨c,ec,c1,c2⟩:=gC n (rd (2 * R + t)) (rd b) (aE _) (aE _) (fW _) (fW _) (by have:=cy (m:=2 * R + t) (l:=(rd b).length + 1) (by have:=cE (aE b); rw [aM] at this; rw [Nat.pow_succ]; omega); omega) (by have:=cy (m:=2 * R + t) (l:=(rd b).length + 1) (by have:=cE (aE b); rw [aM] at this; rw [Nat.pow_succ]; omega); omega)
   rw [aM,aM] at c1 c2
   have hl2:(rd (2 * R + t)).length < 10002:=by have:=cy (m:=2 * R + t) (l:=(rd b).length + 1) (by have:=cE (aE b); rw [aM] at this; rw [Nat.pow_succ]; omega); omega
   rw [ec,ab]
   unfold jn
   simp only
   have eN:(((k:Int) - 1 + 1)).toNat = k:=by omega
   by_cases hc:0 <= c
   ·have hge:b <= 2 * R + t:=by omega
    have hdd:=dig_dvd a3 (by omega:i < q.length) hk (by rw [a4]; exact Nat.dvd_mul_right ..)
    have hqi:=a3 (q[i]'(by omega)) (List.getElem_mem _)
    have hroom:=ky hk (by omega) hdd
    have hk2:(2:Nat) ^ k < 4294967296:=by have:=Nat.zero_le (q[i]'(by omega)).toNat; omega
    rw [if_pos hc,gA n _ _ (aE _) (aE _) (cP hge) (by rw [aM,aM]; exact hge) (by omega) (by omega),ab,aM,aM,aY (by omega) (by rw [Int.toNat_natCast]; omega),ab]
    simp only [Int.toNat_natCast]
    rw [ab,shlS_ok hk,jV,aN (by omega) (by omega),ab,bh _ (by omega),ab,aN (by omega) (by omega),ab]
    refine hJ (_,_,_) ⟨by simp only; omega,by simpa using a2,dig_set a3 (by omega),2 * Q + 1,2 * R + t - b,rfl,?_,?_,by omega⟩ (by simp only; omega)
    ·simp only
     rw [eN]
     have hp:=kn ((q[i]'(by omega)) + ((2 ^ k:Nat):Int)) (by omega:i < q.length)
     rw [show ((q[i]'(by omega)) + ((2 ^ k:Nat):Int)).toNat = (q[i]'(by omega)).toNat + 2 ^ k by omega,Nat.mul_add] at hp
     have e5:2 ^ (32 * i + k) = 4294967296 ^ i * 2 ^ k:=by rw [iq,<- Nat.pow_add]
     rw [Nat.mul_add,Nat.mul_one,<- hdq,e5]
     omega
    ·simp only
     rw [eN,hab,Nat.mul_add]; omega
   ·rw [if_neg hc,aN (by omega) (by omega),ab]
    refine hJ (_,_,_) ⟨by simp only; omega,a2,a3,2 * Q,2 * R + t,rfl,?_,?_,by omega⟩ (by simp only; omega)
    ·simp only; rw [eN]; exact hdq
    ·simp only; rw [eN]; exact hab
  ·rw [if_neg hz]
   have e0:(z + 1).toNat = 0:=by omega
   rw [e0] at a4 a5
   exact ⟨_,I,a2,a3,Q,R,I,a4,a5,a6⟩
theorem ij (n:Nat) (a b:Nat) (h0:b ≠ 0) (ha:(rd a).length < 10000) (hb:(rd b).length < 10000) (hn:20000 < n):aB_p n (rd a) (rd b) = some (rd (a / b),rd (a % b)):=by
 have hbn:rd b ≠ []:=fun e=>h0 (jY.1 e)
 have hbp:=jL (aE b) (fW b) hbn
 have hal:=cE (aE a)
 rw [aM] at hbp hal
 have hb1:1 <= (rd b).length:=by
  rcases h:rd b with _ | ⟨x,xs⟩
  ·exact absurd h hbn
  ·simp
 unfold aB_p
 by_cases hc:(((rd a).length:Nat):Int) <= (((rd b).length:Nat):Int) - 1
 ·have hab:a < b:=Nat.lt_of_lt_of_le hal (Nat.le_trans (Nat.pow_le_pow_right (by decide) (by omega)) hbp)
  rw [if_pos hc,cC _ _ (by simp only [leN]; omega),ab,List.nil_append,Nat.div_eq_of_lt hab,Nat.mod_eq_of_lt hab,rd0]
 ·obtain ⟨lq,hlq⟩:∃ lq:Nat,(((rd a).length:Nat):Int) - ((((rd b).length:Nat):Int) - 1) = lq:=⟨(rd a).length - ((rd b).length - 1),by omega⟩
  have hdr:(rd a).drop lq = rd (a / 2 ^ (32 * lq)):=by
   have h1:=mR (aE a) lq (by omega)
   rw [aM,iq] at h1
   rw [h1]
   refine (mX (fun x hx=>aE a x (List.mem_of_mem_drop hx)) fun x hx=>?_).symm
   rw [List.getLast?_drop] at hx
   split at hx
   ·cases hx
   ·exact fW a x hx
  have hR:a / 2 ^ (32 * lq) < b:=by
   rw [<- iq]
   refine Nat.lt_of_lt_of_le ?_ hbp
   refine Nat.div_lt_of_lt_mul ?_
   rw [<- Nat.pow_add,show lq + ((rd b).length - 1) = (rd a).length by omega]
   exact hal
  rw [if_neg hc,hlq,cT _ _ (by omega),ab]
  rw [show cut (rd a) (lq:Int) (((rd a).length:Nat):Int) = some ((rd a).drop lq) from by unfold cut; rw [if_pos ⟨by omega,by omega,by omega⟩,Int.toNat_natCast,Int.toNat_natCast,List.take_length],ab,cC _ _ (by rw [List.length_drop]; simp only [leN]; omega),ab,List.nil_append,hdr,List.length_replicate]
  have hh:=aw (B:=aB_l2 n (rd a) (rd b)) (fun s:La Int × Int × La Int=>(s.2.1 + 1).toNat)
   (fun s=>(-1 <= s.2.1/\s.2.1 < lq)/\s.2.2.length = lq/\Dig s.2.2/\∃ Q R,s.1 = rd R/\dv s.2.2 = 2 ^ (32 * (s.2.1 + 1).toNat) * Q/\a / 2 ^ (32 * (s.2.1 + 1).toNat) = b * Q + R/\R < b)
   (fun y=>y.1.length = lq/\Dig y.1/\dv y.1 = a / b/\y.2 = rd (a % b)) ?_ n (rd (a / 2 ^ (32 * lq)),(lq:Int) - 1,List.replicate lq 0)
   ⟨by simp only; omega,by simp,fun x hx=>by rw [(List.mem_replicate.1 hx).2]; decide,0,a / 2 ^ (32 * lq),rfl,by simp only [Nat.mul_zero]; exact dY _ fun x hx=>(List.mem_replicate.1 hx).2,by simp only [Nat.mul_zero,Nat.zero_add]; congr 2; omega,hR⟩ (by simp only; omega)
  ·obtain ⟨⟨q,r⟩,e,e1,e2,e3,e4⟩:=hh
   simp only at e1 e2 e3 e4
   rw [e,ab]
   simp only
   rw [dI n q e2 (by omega) (by omega),ab,e3,e4]
  ·rintro ⟨xs,z,q⟩ J ⟨a1,a2,a3,Q,R,rfl,a4,a5,a6⟩ hJ
   simp only at a1 a2 a3 a4 a5 hJ
   unfold aB_l2
   simp only
   by_cases hz:0 <= z
   ·obtain ⟨k,rfl⟩:∃ k:Nat,z = k:=⟨z.toNat,by omega⟩
    have e0:32 * (((k:Int) + 1).toNat) = 32 * k + 32:=by omega
    rw [e0] at a4 a5
    obtain ⟨q', Q', R', e,e1,e2,e3,e4,e5⟩:=mJ n a b k q hb (by omega) (by omega) a3 Q R a4 a5 a6 hn
    rw [if_pos hz,e,ab]
    simp only
    rw [aN (by omega) (by omega),ab]
    have eN:(((k:Int) - 1 + 1)).toNat = k:=by omega
    refine hJ (_,_,_) ⟨by simp only; omega,by simp only; omega,e2,Q', R', rfl,by simp only; rw [eN]; exact e3,by simp only; rw [eN]; exact e4,e5⟩ (by simp only; omega)
   ·rw [if_neg hz]
    have e0:(z + 1).toNat = 0:=by omega
    rw [e0,Nat.mul_zero,Nat.pow_zero] at a4 a5
    rw [Nat.div_one] at a5
    rw [Nat.one_mul] at a4
    have hu:=(Nat.div_mod_unique (a:=a) (b:=b) (c:=R) (d:=Q) (by omega)).2 ⟨by omega,a6⟩
    exact ⟨_,rfl,a2,a3,by simp only; rw [a4,hu.1],by simp only; rw [hu.2]⟩
theorem gS (n:Nat) (x y:Nat) (s t:Bool) (hx:(rd x).length < 10000) (hy:(rd y).length < 10000) (hn:18446744073709551616 < n):aN_p n ⟨s,rd x⟩ ⟨t,rd y⟩ = some ⟨false,rd (Nat.gcd x y)⟩:=by
 have hxl:=cE (aE x)
 have hyl:=cE (aE y)
 rw [aM,iq] at hxl hyl
 obtain ⟨M,hM⟩:∃ M:Nat,M = 320000:=⟨_,I⟩
 have hx2:x < 2 ^ M:=Nat.lt_of_lt_of_le hxl (Nat.pow_le_pow_right (by decide) (by omega))
 have hy2:y < 2 ^ M:=Nat.lt_of_lt_of_le hyl (Nat.pow_le_pow_right (by decide) (by omega))
 have he:=eu_le hx2 hy2
 have hh:=aw (B:=aN_l1 n) (fun s:La Int × La Int=>eu (dv s.1) (dv s.2)) (fun s=>∃ a b,s = (rd a,rd b)/\(rd a).length < 10000/\(rd b).length < 10000/\Nat.gcd a b = Nat.gcd x y)
  (fun r=>r = rd (Nat.gcd x y)) ?_ n (rd x,rd y) ⟨_,_,rfl,hx,hy,rfl⟩ (by simp only [aM]; omega)
 ·obtain ⟨r,h1,rfl⟩:=hh
  unfold aN_p
  simp only
  rw [h1,ab]
 ·rintro _ J ⟨a,b,rfl,h1,h2,h3⟩ hJ
  unfold aN_l1
  simp only
  by_cases h0:b = 0
  ·subst h0
   rw [if_neg (by rw [rd0]; simp)]
   exact ⟨_,rfl,by rw [<- h3,Nat.gcd_zero_right]⟩
  ·have hm:a % b < b:=Nat.mod_lt _ (by omega)
   have hbl:0 < (rd b).length:=by
    rcases h:rd b with _ | ⟨z,zs⟩
    ·exact absurd (jY.1 h) h0
    ·simp
   rw [if_pos hbl,ij n a b h0 h1 h2 (by omega),ab]
   simp only
   refine hJ (rd b,rd (a % b)) ⟨_,_,rfl,h2,Nat.lt_of_le_of_lt (cP (Nat.le_of_lt hm)) h2,?_⟩ (by simp only [aM]; exact kU h0)
   rw [<- h3,Nat.gcd_comm a b,Nat.gcd_rec b a,Nat.gcd_comm]
theorem kl {m:Nat}:0 < (rd m).length ↔ 0 < m:=by
 constructor
 ·intro h
  by_cases h0:m = 0
  ·rw [h0,rd0] at h; simp at h
  ·omega
 ·intro h
  rcases e:rd m with _ | ⟨x,xs⟩
  ·have:=jY.1 e; omega
  ·simp
theorem cd (n:Nat) (b:Bool) (ws:La Int) (hd:Dig ws) (hn:ws.length < n) (hl:ws.length <= 1000000):ae_p n b ws = some ⟨b && decide (0 < dv ws),rd (dv ws)⟩:=by
 unfold ae_p
 rw [dI n ws hd hn hl,ab]
 cases b
 ·simp
 ·rw [if_pos I,decide_eq_decide.2 kl,Bool.true_and]
def R8 (z:Int):Td:=⟨decide (z < 0),rd z.natAbs⟩
theorem nr (s:Bool) (m:Nat):(⟨s && decide (0 < m),rd m⟩:Td) = R8 (sg s m):=by
 unfold R8
 rw [gp]
 cases s
 ·simp [sg]
 ·simp [sg]
theorem jM (n:Nat) (z:Int) (h:Sm z) (hn:10 < n):a9_p n z = some (R8 z):=by
 have key:∀ u:Ua,u.toNat = z.natAbs -> ((ae_p n (decide (z < 0)) ([aC (u % (4294967296:Ua)),aC (u / (4294967296:Ua))]:La Int)).bind fun y28=>some y28) = some (R8 z):=fun u hu=>by
  unfold Sm at h
  have h1:aC (u % (4294967296:Ua)) = ((z.natAbs % 4294967296:Nat):Int):=by
   unfold aC
   rw [UInt64.toNat_mod,hu]
   rw [if_pos (by simp; omega)]
   rfl
  have h2:aC (u / (4294967296:Ua)) = ((z.natAbs / 4294967296:Nat):Int):=by
   unfold aC
   rw [UInt64.toNat_div,hu]
   rw [if_pos (by simp; omega)]
   rfl
  rw [h1,h2,cd n _ _ (fun x hx=>by
   rcases List.mem_cons.1 hx with rfl | hx
   ·omega
   ·rw [List.mem_singleton.1 hx]; omega) (by simp only [leC,leN]; omega) (by simp),ab]
  have e:dv [((z.natAbs % 4294967296:Nat):Int),((z.natAbs / 4294967296:Nat):Int)] = z.natAbs:=by
   simp only [dv,Int.toNat_natCast]; omega
  rw [e]
  unfold R8
  congr 2
  by_cases hz:z < 0
  ·simp [hz]; omega
  ·simp [hz]
 unfold a9_p jn
 simp only
 by_cases hz:z < 0
 ·rw [if_pos hz]
  refine key _ ?_
  rw [UInt64.toNat_neg,eA h hz,show UInt64.size = 18446744073709551616 from I]
  unfold Sm at h
  omega
 ·rw [if_neg hz]
  refine key _ ?_
  rw [eL h hz,bW h.w]
theorem jh (n:Nat) (z:Int) (h:(rd z.natAbs).length < 10000) (hn:20000 < n):bB_p n (R8 z) = some (R8 (-z)):=by
 unfold bB_p
 rw [show (R8 z).fD = rd z.natAbs from I,cd n _ _ (aE _) (by omega) (by omega),ab,aM]
 unfold R8
 rw [Int.natAbs_neg]
 congr 2
 show (!decide (z < 0) && decide (0 < z.natAbs)) = decide (-z < 0)
 by_cases hz:z < 0
 ·rw [decide_eq_true hz,decide_eq_false (show ¬ -z < 0 by omega)]; rfl
 ·rw [decide_eq_false hz]
  by_cases h0:z = 0
  ·subst h0; rfl
  ·rw [decide_eq_true (by omega),decide_eq_true (by omega)]; rfl
theorem sg_mul (g x:Int) (hg:g ≠ 0):sg (!(decide (g * x < 0) == decide (g < 0))) x.natAbs = x:=by
 unfold sg
 by_cases h1:g < 0
 ·by_cases h2:x < 0
  ·have:=Int.mul_pos_of_neg_of_neg h1 h2
   rw [decide_eq_true h1,decide_eq_false (by omega)]; simp; omega
  ·by_cases h3:x = 0
   ·subst h3; simp
   ·have:=Int.mul_neg_of_neg_of_pos h1 (by omega:0 < x)
    rw [decide_eq_true h1,decide_eq_true this]; simp; omega
 ·by_cases h2:x < 0
  ·have:=Int.mul_neg_of_pos_of_neg (by omega:0 < g) h2
   rw [decide_eq_false h1,decide_eq_true this]; simp; omega
  ·have:=Int.mul_nonneg (by omega:0 <= g) (by omega:0 <= x)
   rw [decide_eq_false h1,decide_eq_false (by omega)]; simp; omega
theorem iF (n:Nat) (a g x:Int) (e:a = g * x) (hg:g ≠ 0) (ha:(rd a.natAbs).length < 10000) (hl:(rd g.natAbs).length < 10000) (hn:20000 < n):br_p n (R8 a) (R8 g) = some (R8 x,R8 0):=by
 subst e
 have hd:(g * x).natAbs / g.natAbs = x.natAbs:=by rw [Int.natAbs_mul]; exact Nat.mul_div_cancel_left _ (by omega)
 have hm:(g * x).natAbs % g.natAbs = 0:=by rw [Int.natAbs_mul]; exact Nat.mul_mod_right ..
 have hx:(rd x.natAbs).length < 10000:=Nat.lt_of_le_of_lt (cP (by rw [Int.natAbs_mul]; exact Nat.le_mul_of_pos_left _ (by omega))) ha
 unfold br_p
 rw [show (R8 (g * x)).fD = rd (g * x).natAbs from I,show (R8 g).fD = rd g.natAbs from I,ij n _ _ (by omega) ha hl hn,ab,hd,hm]
 simp only
 rw [cd n _ _ (aE _) (by omega) (by omega),ab,aM,rd0,cd n _ [] eB (by simp; omega) (by simp),ab]
 show (if ((decide (g * x < 0)) && decide (0 < 0)) = true then _ else _) = _
 rw [if_neg (by simp)]
 rw [show (R8 (g * x)).fh = decide (g * x < 0) from I,show (R8 g).fh = decide (g < 0) from I,nr,sg_mul g x hg,show dv [] = 0 from I,nr]
 congr 2
 congr 1
 unfold sg; split <;> simp
theorem iJ (n:Nat) (a b:Int) (h0:b ≠ 0) (ha:(rd a.natAbs).length < 10000) (hb:(rd b.natAbs).length < 10000) (hn:18446744073709551616 < n) :
  aR_p n (R8 a) (R8 b) = some ⟨R8 (Rat.divInt a b).num,R8 ((Rat.divInt a b).den:Int)⟩/\(Rat.divInt a b).num.natAbs <= a.natAbs/\(Rat.divInt a b).den <= b.natAbs:=by
 have hg:0 < Nat.gcd a.natAbs b.natAbs:=Nat.gcd_pos_of_pos_right _ (by omega)
 have hgl:(rd (Nat.gcd a.natAbs b.natAbs)).length < 10000:=Nat.lt_of_le_of_lt (cP (Nat.gcd_le_right _ (by omega))) hb
 obtain ⟨x,hx⟩:((Nat.gcd a.natAbs b.natAbs:Nat):Int) ∣ a:=Int.ofNat_dvd_left.2 (Nat.gcd_dvd_left _ _)
 obtain ⟨y,hy⟩:((Nat.gcd a.natAbs b.natAbs:Nat):Int) ∣ b:=Int.ofNat_dvd_left.2 (Nat.gcd_dvd_right _ _)
 have hco:=Nat.coprime_div_gcd_div_gcd hg
 unfold aR_p
 rw [show R8 a = ⟨decide (a < 0),rd a.natAbs⟩ from I,show R8 b = ⟨decide (b < 0),rd b.natAbs⟩ from I,gS n _ _ _ _ ha hb hn,ab,<- show R8 a = ⟨decide (a < 0),rd a.natAbs⟩ from I,<- show R8 b = ⟨decide (b < 0),rd b.natAbs⟩ from I]
 generalize Nat.gcd a.natAbs b.natAbs = g at *
 have hg0:(g:Int) ≠ 0:=by omega
 have e3:a.natAbs = g * x.natAbs:=by rw [hx,Int.natAbs_mul]; rfl
 have e4:b.natAbs = g * y.natAbs:=by rw [hy,Int.natAbs_mul]; rfl
 have hc:x.natAbs.Coprime y.natAbs:=by
  rw [e3,e4,Nat.mul_div_cancel_left _ hg,Nat.mul_div_cancel_left _ hg] at hco; exact hco
 have hxl:x.natAbs <= a.natAbs:=by rw [e3]; exact Nat.le_mul_of_pos_left _ hg
 have hyl:y.natAbs <= b.natAbs:=by rw [e4]; exact Nat.le_mul_of_pos_left _ hg
 have hy0:y ≠ 0:=fun e=>h0 (by rw [hy,e,Int.mul_zero])
 have eq:Rat.divInt a b = Rat.divInt x y:=by
  conv=>lhs; rw [hx,hy]
  exact Rat.divInt_mul_left hg0
 rw [eq]
 have egR:(⟨false,rd g⟩:Td) = R8 (g:Int):=by unfold R8; simp
 unfold jn
 simp only
 by_cases hs:b < 0
 ·have hyn:y < 0:=by
   by_cases hy1:y < 0
   ·exact hy1
   ·have:=Int.mul_nonneg (by omega:(0:Int) <= g) (by omega:0 <= y); omega
  rw [if_pos (show (R8 b).fh = true from decide_eq_true hs),egR,jh n _ (by simpa using hgl) (by omega),ab]
  show (br_p n (R8 a) (R8 (-(g:Int)))).bind _ = _/\_
  rw [iF n a (-(g:Int)) (-x) (by rw [Int.neg_mul_neg]; exact hx) (by omega) ha (by rw [Int.natAbs_neg]; simpa using hgl) (by omega),ab,iF n b (-(g:Int)) (-y) (by rw [Int.neg_mul_neg]; exact hy) (by omega) hb (by rw [Int.natAbs_neg]; simpa using hgl) (by omega),ab]
  have h5:=fQ (x:=-x) (y:=-y) (by omega) (by rwa [Int.natAbs_neg,Int.natAbs_neg])
  rw [Rat.neg_divInt_neg] at h5
  rw [h5.1,h5.2]
  exact ⟨rfl,by rw [Int.natAbs_neg]; exact hxl,by have:=h5.2; omega⟩
 ·have hyp:0 < y:=by
   by_cases hy1:0 < y
   ·exact hy1
   ·have:=Int.mul_neg_of_pos_of_neg (by omega:(0:Int) < g) (by omega:y < 0); omega
  rw [if_neg (show ¬ (R8 b).fh = true from by simpa [R8] using hs)]
  show (br_p n (R8 a) (⟨false,rd g⟩:Td)).bind _ = _/\_
  rw [egR,iF n a g x hx hg0 ha (by simpa using hgl) (by omega),ab,iF n b g y hy hg0 hb (by simpa using hgl) (by omega),ab]
  have h5:=fQ (x:=x) (y:=y) hyp hc
  rw [h5.1,h5.2]
  exact ⟨I,hxl,by have:=h5.2; omega⟩
def bln (m:Nat):Nat:=if m = 0 then 0 else Nat.log2 m + 1
theorem jb (m:Nat):m < 2 ^ bln m:=by
 unfold bln
 split
 ·rename_i h; rw [h]; decide
 ·rename_i h; exact Nat.lt_log2_self
theorem gP {m:Nat} (h:m ≠ 0):2 ^ (bln m - 1) <= m:=by
 unfold bln
 rw [if_neg h]
 exact Nat.log2_self_le h
theorem eh {m:Nat} (h:m ≠ 0):1 <= bln m:=by unfold bln; rw [if_neg h]; omega
theorem nC {m l:Nat} (h1:2 ^ l <= m) (h2:m < 2 ^ (l + 1)):bln m = l + 1:=by
 have h0:m ≠ 0:=fun e=>by have:=Nat.two_pow_pos l; omega
 have h3:=jb m
 have h4:=gP h0
 have h5:=eh h0
 have h6:=(Nat.pow_lt_pow_iff_right (by decide:1 < 2)).1 (Nat.lt_of_le_of_lt h1 h3)
 have h7:=(Nat.pow_lt_pow_iff_right (by decide:1 < 2)).1 (Nat.lt_of_le_of_lt h4 h2)
 omega
theorem dA {m s:Nat} (h:2 ^ s <= m):bln m = s + bln (m / 2 ^ s):=by
 have hp:=Nat.two_pow_pos s
 have h0:m / 2 ^ s ≠ 0:=fun e=>by have:=Nat.div_pos h hp; omega
 have h1:=jb (m / 2 ^ s)
 have h2:=gP h0
 have h3:=eh h0
 have e1:2 ^ (s + (bln (m / 2 ^ s) - 1)) <= m:=by
  rw [Nat.pow_add,Nat.mul_comm]
  exact (Nat.le_div_iff_mul_le hp).1 h2
 have e2:m < 2 ^ (s + bln (m / 2 ^ s)):=by
  rw [Nat.pow_add,Nat.mul_comm]
  exact (Nat.div_lt_iff_lt_mul hp).1 h1
 have:=nC (l:=s + (bln (m / 2 ^ s) - 1)) e1 (by rw [show s + (bln (m / 2 ^ s) - 1) + 1 = s + bln (m / 2 ^ s) by omega]; exact e2)
 omega
theorem cF {m l:Nat} (h:m < 2 ^ l):bln m <= l:=by
 by_cases h0:m = 0
 ·subst h0; simp [bln]
 ·have h4:=gP h0
  have h7:=(Nat.pow_lt_pow_iff_right (by decide:1 < 2)).1 (Nat.lt_of_le_of_lt h4 h)
  have:=eh h0
  omega
theorem tab_all:(List.range 256).all (fun v=>decide (cX[v]? = some (UInt8.ofNat (bln v)))) = true:=by kernel_rfl
theorem tab_ok {v:Nat} (h:v < 256):cX[v]? = some (UInt8.ofNat (bln v)):=of_decide_eq_true (List.all_eq_true.1 tab_all v (List.mem_range.2 h))
theorem kY (u:Ua) (z:Int) (h:u.toNat < 256) (hz:0 <= z/\z <= 64):((cX[(eR u).toNat]?).bind fun z27=>(chk (z + ((z27.toNat:Nat):Int))).bind fun s29=>some s29) = some (z + bln u.toNat):=by
 have hb:=cF (l:=8) (m:=u.toNat) (by omega)
 have e:(eR u).toNat = u.toNat:=by unfold eR; rw [UInt8.toNat_ofNat']; omega
 have e2:(UInt8.ofNat (bln u.toNat)).toNat = bln u.toNat:=by rw [UInt8.toNat_ofNat']; omega
 rw [e,tab_ok h,ab,e2,aN (by omega) (by omega),ab]
theorem mE (n:Nat) (x:Ua):cM_p n x = some (bln x.toNat:Int):=by
 have hx:=x.toNat_lt
 have k16:∀ (u:Ua) (z:Int),u.toNat < 65536 -> (0 <= z/\z <= 48) -> ((if (256:Ua) <= u then (chk (z + 8)).bind fun s31=>((cX[(eR (shrU u 8)).toNat]?).bind fun z27=>(chk (s31 + ((z27.toNat:Nat):Int))).bind fun s29=>some s29) else ((cX[(eR u).toNat]?).bind fun z27=>(chk (z + ((z27.toNat:Nat):Int))).bind fun s29=>some s29))) = some (z + bln u.toNat):=fun u z hu hz=>by
  by_cases c:(256:Ua) <= u
  ·have c2:256 <= u.toNat:=by rw [UInt64.le_iff_toNat_le] at c; simpa using c
   rw [if_pos c,aN (by omega) (by omega),ab,kY _ _ (by rw [bS _ (by decide)]; omega) (by omega),bS _ (by decide),dA (m:=u.toNat) (s:=8) (by omega)]
   congr 1; omega
  ·have c2:u.toNat < 256:=by rw [UInt64.le_iff_toNat_le] at c; simpa using c
   rw [if_neg c,kY _ _ c2 (by omega)]
 have k32:∀ (u:Ua) (z:Nat),u.toNat < 4294967296 -> z <= 32 -> ((if (65536:Ua) <= u then (chk ((z:Int) + 16)).bind fun s33=>(if (256:Ua) <= shrU u 16 then (chk (s33 + 8)).bind fun s31=>((cX[(eR (shrU (shrU u 16) 8)).toNat]?).bind fun z27=>(chk (s31 + ((z27.toNat:Nat):Int))).bind fun s29=>some s29) else ((cX[(eR (shrU u 16)).toNat]?).bind fun z27=>(chk (s33 + ((z27.toNat:Nat):Int))).bind fun s29=>some s29)) else (if (256:Ua) <= u then (chk ((z:Int) + 8)).bind fun s31=>((cX[(eR (shrU u 8)).toNat]?).bind fun z27=>(chk (s31 + ((z27.toNat:Nat):Int))).bind fun s29=>some s29) else ((cX[(eR u).toNat]?).bind fun z27=>(chk ((z:Int) + ((z27.toNat:Nat):Int))).bind fun s29=>some s29)))) = some ((z:Int) + bln u.toNat):=fun u z hu hz=>by
  by_cases c:(65536:Ua) <= u
  ·have c2:65536 <= u.toNat:=by rw [UInt64.le_iff_toNat_le] at c; simpa using c
   rw [if_pos c,aN (by omega) (by omega),ab,k16 _ _ (by rw [bS _ (by decide)]; omega) (by omega),bS _ (by decide),dA (m:=u.toNat) (s:=16) (by omega)]
   congr 1; omega
  ·have c2:u.toNat < 65536:=by rw [UInt64.le_iff_toNat_le] at c; simpa using c
   rw [if_neg c,k16 _ _ c2 (by omega)]
 unfold cM_p jn
 simp only
 by_cases c:(4294967296:Ua) <= x
 ·have c2:4294967296 <= x.toNat:=by rw [UInt64.le_iff_toNat_le] at c; simpa using c
  rw [if_pos c]
  refine (k32 (shrU x 32) 32 (by rw [bS _ (by decide)]; omega) (by omega)).trans ?_
  rw [bS _ (by decide),dA (m:=x.toNat) (s:=32) (by omega)]
  congr 1
 ·have c2:x.toNat < 4294967296:=by rw [UInt64.le_iff_toNat_le] at c; simpa using c
  rw [if_neg c]
  refine (k32 x 0 c2 (by omega)).trans ?_
  congr 1; omega
theorem lz_ok (n:Nat) (x:Ua):bj_p n x = some (64 - bln x.toNat:Int):=by
 have:=cF (l:=64) (m:=x.toNat) (by have:=x.toNat_lt; omega)
 unfold bj_p
 rw [mE,ab,aN (by omega) (by omega),ab]
theorem div_top {m lo t l:Nat} (hv:m = lo + 18446744073709551616 ^ l * t) (hlow:lo < 18446744073709551616 ^ l):m / 2 ^ (64 * l) = t:=by
 rw [<- dL,hv,Nat.add_mul_div_left _ _ (Nat.lt_of_le_of_lt (Nat.zero_le _) hlow),Nat.div_eq_of_lt hlow,Nat.zero_add]
theorem iy (n:Nat) (m:Nat) (hl:(dg m).length <= 1000000):di_p n (dg m) = some (bln m:Int):=by
 unfold di_p
 by_cases h0:m = 0
 ·subst h0
  rw [dg0,if_pos (show ([]:La Ua).length = 0 from I)]
  unfold bln
  rw [if_pos I]; rfl
 ·have hne:dg m ≠ []:=fun e=>h0 (by have:=aF m; rw [e] at this; exact this.symm)
  obtain ⟨l,hl1⟩:∃ l,(dg m).length = l + 1:=⟨(dg m).length - 1,by cases h:dg m with | nil=>exact absurd h hne | cons x xs=>simp⟩
  have hlast:l < (dg m).length:=by omega
  have hv:=dG (dg m) hlast
  rw [List.drop_eq_nil_of_le (by omega),aF,show val ([]:La Ua) = 0 from I,Nat.mul_zero,Nat.add_zero] at hv
  have hlow:=cw ((dg m).take l)
  rw [List.length_take,Nat.min_eq_left (by omega)] at hlow
  have htop:(dg m)[l] ≠ 0:=gH m _ (by rw [List.getLast?_eq_getElem?,hl1]; exact geE hlast)
  have ht0:((dg m)[l]).toNat ≠ 0:=fun e=>htop (UInt64.toNat_inj.1 (by simpa using e))
  have hb:bln m = 64 * l + bln ((dg m)[l]).toNat:=by
   have e:m / 2 ^ (64 * l) = ((dg m)[l]).toNat:=div_top hv hlow
   have:=dA (m:=m) (s:=64 * l) (by
    have h1:2 ^ (64 * l) * 1 <= 2 ^ (64 * l) * ((dg m)[l]).toNat:=Nat.mul_le_mul_left _ (by omega)
    rw [dL] at hv
    omega)
   rw [e] at this
   exact this
  have hbt:=cF (l:=64) (m:=((dg m)[l]).toNat) (by have:=((dg m)[l]).toNat_lt; omega)
  have hi:((((dg m).length:Nat):Int) - 1).toNat = l:=by omega
  rw [if_neg (by omega),aN (by omega) (by omega),ab,aY (by omega) (by omega),ab]
  simp only [hi]
  rw [lz_ok,ab,aN (by omega) (by omega),ab,hb]
  congr 1; omega
theorem ne (k:Nat) (h:k < 1000000000):cL (k:Int) 64 = some ((k / 64:Nat):Int):=by
 unfold cL
 rw [if_neg (by decide),Int.tdiv_eq_ediv_of_nonneg (by omega),aN (by omega) (by omega)]
 congr 1
theorem rem64 (k:Nat):ci (k:Int) 64 = some ((k % 64:Nat):Int):=by
 rw [ce (by decide),Int.tmod_eq_emod_of_nonneg (by omega)]
 congr 1
theorem fP (k:Nat):bE (k:Int) = some k:=by unfold bE; rw [if_pos (Int.natCast_nonneg _),Int.toNat_natCast]
theorem idxN {α:Type} {xs:La α} {i:Nat} (h:i < xs.length):idx xs (i:Int) = some xs[i]:=by
 rw [aY (by omega) (by rw [Int.toNat_natCast]; exact h)]
 simp only [Int.toNat_natCast]
theorem putN {α:Type} {xs:La α} {i:Nat} (x:α) (h:i < xs.length):put xs ((((i:Nat):Int).toNat:Nat):Int) x = some (xs.set i x):=by rw [Int.toNat_natCast]; exact bh x h
theorem mI (n:Nat) (a:La Ua) (k:Nat) (hk:k < 1000000) (hl:a.length < 100000) (hn:200000 < n):cN_p n a (k:Int) = some (dg (val a * 2 ^ k)):=by
 have hkw:2 ^ k = 18446744073709551616 ^ (k / 64) * 2 ^ (k % 64):=by rw [dL,<- Nat.pow_add]; congr 1; omega
 have hs:k % 64 < 64:=Nat.mod_lt _ (by decide)
 have hh:=aw (B:=cN_l1 n a (k:Int)) (fun s:Nat × La Ua=>a.length - s.1) (fun s=>s.1 <= a.length/\∃ hx:s.2.length = a.length + k / 64 + 1,val s.2 = val (a.take s.1) * 2 ^ k/\(∀ j (h:j < s.2.length),s.1 + k / 64 < j -> s.2[j] = 0)/\(s.2[s.1 + k / 64]?.getD 0).toNat < 2 ^ (k % 64))
  (fun xs=>xs.length = a.length + k / 64 + 1/\val xs = val a * 2 ^ k) ?_ n (0,List.replicate (a.length + k / 64 + 1) 0) ⟨Nat.zero_le _,by simp,?_,fun j h _=>by simp,?_⟩ (by simp only; omega)
 ·obtain ⟨xs,e,h1,h2⟩:=hh
  unfold cN_p
  rw [ne k (by omega),ab,aN (by omega) (by omega),ab,aN (by omega) (by omega),ab,show ((a.length:Nat):Int) + ((k / 64:Nat):Int) + 1 = ((a.length + k / 64 + 1:Nat):Int) by omega,cT _ _ (by omega),ab,e,ab,aJ n false xs (by omega) (by omega),ab,h2]
 ·rintro ⟨i,xs⟩ J ⟨a1,a2,a3,a4,a5⟩ hJ
  simp only at a1 a2 a3 a4 a5 hJ
  unfold cN_l1
  simp only
  by_cases hi:i < a.length
  ·have hw:i + k / 64 < xs.length:=by omega
   have hw1:i + k / 64 + 1 < xs.length:=by omega
   rw [geE hw] at a5
   have a5' : (xs[i + k / 64]).toNat < 2 ^ (k % 64):=a5
   rw [if_pos hi,geE hi,ab,ne k (by omega),ab,aN (by omega) (by omega),ab,show ((i:Nat):Int) + ((k / 64:Nat):Int) = ((i + k / 64:Nat):Int) by omega,idxN hw,ab,rem64,ab,fP,ab,putN _ hw,ab,ab]
   have e0:val (a.take (i + 1)) * 2 ^ k = val (a.take i) * 2 ^ k + 18446744073709551616 ^ (i + k / 64) * (a[i].toNat * 2 ^ (k % 64)):=by
    rw [bU a hi,Nat.add_mul,hkw,Nat.pow_add]
    congr 1
    grind
   by_cases c:0 < k % 64
   ·obtain ⟨s1,s2,s3⟩:=iA a[i] c hs
    have hor:=kA (a:=xs[i + k / 64]) (b:=shlU a[i] (k % 64)) a5' s2
    have v1:=dH (xs[i + k / 64] ||| shlU a[i] (k % 64)) hw
    rw [hor,Nat.mul_add] at v1
    generalize hys:xs.set (i + k / 64) (xs[i + k / 64] ||| shlU a[i] (k % 64)) = ys at *
    have hyl:ys.length = xs.length:=by rw [<- hys,List.length_set]
    have hy1:i + k / 64 + 1 < ys.length:=by omega
    have hy0:ys[i + k / 64 + 1] = 0:=by
     have:=a4 (i + k / 64 + 1) hw1 (by omega)
     simp only [<- hys]
     rw [List.getElem_set_ne (by omega)]; exact this
    have v2:=dH (shrU a[i] (64 - k % 64)) hy1
    rw [hy0] at v2
    rw [if_pos (by omega),ab,aN (by omega) (by omega),ab,aN (by omega) (by omega),ab,ab,aN (by omega) (by omega),ab,show (64:Int) - ((k % 64:Nat):Int) = ((64 - k % 64:Nat):Int) by omega,fP,ab,show ((i:Nat):Int) + ((k / 64:Nat):Int) + 1 = ((i + k / 64 + 1:Nat):Int) by omega,idxN hy1,ab,putN _ hy1,ab]
    refine hJ _ ⟨hi,by simp only [List.length_set]; omega,?_,fun j hj hlt=>?_,?_⟩ (by simp only; omega)
    ·simp only
     rw [e0,<- s1,Nat.mul_add,<- Nat.mul_assoc,<- Nat.pow_succ]
     simp only [UInt64.toNat_zero,Nat.mul_zero,Nat.add_zero] at v2
     rw [v2,<- a3]
     show val ys + 18446744073709551616 ^ (i + k / 64 + 1) * _ = val xs + (_ + 18446744073709551616 ^ (i + k / 64 + 1) * _)
     omega
    ·simp only at hj hlt ⊢
     rw [List.getElem_set_ne (by omega)]
     simp only [<- hys]
     rw [List.getElem_set_ne (by omega)]
     exact a4 j (by simpa [<- hys] using hj) (by omega)
    ·simp only
     rw [show i + 1 + k / 64 = i + k / 64 + 1 by omega,List.getElem?_set_self hy1]
     exact s3
   ·have c0:k % 64 = 0:=by omega
    rw [c0,Nat.pow_zero] at a5'
    have hz:xs[i + k / 64] = 0:=UInt64.toNat_inj.1 (by simp; omega)
    have v1:=dH (xs[i + k / 64] ||| shlU a[i] (k % 64)) hw
    rw [hz,eJ,c0,cW] at v1
    rw [if_neg (by omega),hz,eJ,c0,cW]
    refine hJ _ ⟨hi,by simp only [List.length_set]; omega,?_,fun j hj hlt=>?_,?_⟩ (by simp only; omega)
    ·simp only
     rw [e0,c0,Nat.pow_zero,Nat.mul_one,<- a3]
     simp only [UInt64.toNat_zero,Nat.mul_zero,Nat.add_zero] at v1
     exact v1
    ·simp only at hj hlt ⊢
     rw [List.getElem_set_ne (by omega)]
     exact a4 j (by simpa using hj) (by omega)
    ·simp only
     rw [show i + 1 + k / 64 = i + k / 64 + 1 by omega,List.getElem?_set_ne (by omega),geE hw1,a4 _ hw1 (by omega),c0]
     decide
  ·rw [if_neg hi]
   rw [List.take_of_length_le (by omega)] at a3
   exact ⟨_,I,a2,a3⟩
 ·simp only [List.take_zero,val,Nat.zero_mul]
  exact cm _ fun x hx=>(List.mem_replicate.1 hx).2
 ·simp only
  rw [List.getElem?_replicate]
  split <;> simp <;> exact Nat.two_pow_pos _
set_option maxRecDepth 8000
theorem lR {B:(Ua × Ua -> Oa Ua) -> Ua × Ua -> Oa Ua} {y1 y0 un:Ua}
  (hB:∀ J q rh,B J (q,rh) = if (4294967296:Ua) <= q then (if (4294967296:Ua) <= rh + y1 then some (q - 1) else J (q - 1,rh + y1)) else (if 4294967296 * rh + un < q * y0 then (if (4294967296:Ua) <= rh + y1 then some (q - 1) else J (q - 1,rh + y1)) else some q))
  {U:Nat} (h1:2147483648 <= y1.toNat) (h1' : y1.toNat < 4294967296) (h0:y0.toNat < 4294967296) (hu:un.toNat < 4294967296) (hU:U < y1.toNat * 4294967296 + y0.toNat) (q0 r0:Ua) (e:U = q0.toNat * y1.toNat + r0.toNat) (hr:r0.toNat < y1.toNat) (n:Nat) (hn:4294967300 < n) :
  ∃ q:Ua,au B n (q0,r0) = some q/\q.toNat = (U * 4294967296 + un.toNat) / (y1.toNat * 4294967296 + y0.toNat):=by
 obtain ⟨V,hV⟩:∃ V,y1.toNat * 4294967296 + y0.toNat = V:=⟨_,I⟩
 obtain ⟨N,hN⟩:∃ N,U * 4294967296 + un.toNat = N:=⟨_,I⟩
 rw [hV] at hU
 rw [hV,hN]
 have hVp:0 < V:=by omega
 obtain ⟨D,hD⟩:∃ D,N / V = D:=⟨_,I⟩
 have hle:∀ x,x <= D ↔ x * V <= N:=fun x=>by rw [<- hD]; exact Nat.le_div_iff_mul_le hVp
 have hlt:∀ x,D < x ↔ N < x * V:=fun x=>by rw [<- hD]; exact Nat.div_lt_iff_lt_mul hVp
 rw [hD]
 have hNV:D < 4294967296:=by
  rw [hlt]
  omega
 have hq0:q0.toNat <= 4294967297:=by
  have h2:q0.toNat * 2147483648 <= q0.toNat * y1.toNat:=Nat.mul_le_mul_left _ h1
  by_cases h3:q0.toNat <= 4294967297
  ·exact h3
  ·exfalso
   have h4:4294967298 * y1.toNat <= q0.toNat * y1.toNat:=Nat.mul_le_mul_right _ (by omega)
   omega
 have up:D <= q0.toNat:=by
  rw [<- hD]
  have h3:N / V <= N / (y1.toNat * 4294967296):=Nat.div_le_div_left (by omega) (by omega)
  have h4:N / (y1.toNat * 4294967296) = U / y1.toNat:=by
   rw [Nat.mul_comm,<- Nat.div_div_eq_div_mul]
   congr 1
   omega
  have h5:U / y1.toNat = q0.toNat:=by
   rw [e,Nat.mul_comm,Nat.add_comm,Nat.add_mul_div_left _ _ (by omega),Nat.div_eq_of_lt hr,Nat.zero_add]
  rw [h4,h5] at h3
  exact h3
 refine aw (B:=B) (fun s:Ua × Ua=>s.1.toNat) (fun s=>U = s.1.toNat * y1.toNat + s.2.toNat/\s.2.toNat < 4294967296/\D <= s.1.toNat/\s.1.toNat <= 4294967297) (fun q=>q.toNat = D) ?_ n (q0,r0) ⟨e,by simp only; omega,up,hq0⟩ (by simp only; omega)
 rintro ⟨q,rh⟩ J ⟨i1,i2,i3,i4⟩ hJ
 simp only at i1 i2 i3 i4 hJ
 rw [hB]
 have c32:(4294967296:Ua).toNat = 4294967296:=rfl
 have hrh:(rh + y1).toNat = rh.toNat + y1.toNat:=by rw [UInt64.toNat_add]; omega
 -- what follows once the guess is too great
 have over:D + 1 <= q.toNat -> ∃ r,(if (4294967296:Ua) <= rh + y1 then some (q - 1) else J (q - 1,rh + y1)) = some r/\r.toNat = D:=fun ho=>by
  have hq1:(q - 1).toNat = q.toNat - 1:=by
   rw [UInt64.toNat_sub]
   have:=q.toNat_lt
   simp only [UInt64.toNat_one]
   omega
  have e1:q.toNat * y1.toNat = (q.toNat - 1) * y1.toNat + y1.toNat:=by
   rw [<- Nat.succ_mul]; congr 1; omega
  split
  ·rename_i hbig
   rw [UInt64.le_iff_toNat_le,c32,hrh] at hbig
   refine ⟨_,I,?_⟩
   rw [hq1]
   refine Nat.le_antisymm ?_ (by omega)
   rw [hle,<- hV,Nat.mul_add,<- Nat.mul_assoc]
   have h5:(q.toNat - 1) * y0.toNat <= 4294967296 * 4294967295:=Nat.mul_le_mul (by omega) (by omega)
   omega
  ·rename_i hbig
   rw [UInt64.le_iff_toNat_le,c32,hrh] at hbig
   exact hJ _ ⟨by simp only; rw [hq1,hrh]; omega,by simp only; rw [hrh]; omega,by simp only; rw [hq1]; omega,by simp only; rw [hq1]; omega⟩ (by simp only; rw [hq1]; omega)
 by_cases c:(4294967296:Ua) <= q
 ·rw [if_pos c]
  rw [UInt64.le_iff_toNat_le,c32] at c
  exact over (by omega)
 ·rw [if_neg c]
  rw [UInt64.le_iff_toNat_le,c32] at c
  have m1:(4294967296 * rh + un).toNat = 4294967296 * rh.toNat + un.toNat:=by
   rw [UInt64.toNat_add,UInt64.toNat_mul,c32]; omega
  have m2:(q * y0).toNat = q.toNat * y0.toNat:=by
   rw [UInt64.toNat_mul]
   have:q.toNat * y0.toNat <= 4294967295 * 4294967295:=Nat.mul_le_mul (by omega) (by omega)
   omega
  have eqV:q.toNat * V = q.toNat * y1.toNat * 4294967296 + q.toNat * y0.toNat:=by rw [<- hV,Nat.mul_add,<- Nat.mul_assoc]
  by_cases c2:4294967296 * rh + un < q * y0
  ·rw [if_pos c2]
   rw [UInt64.lt_iff_toNat_lt,m1,m2] at c2
   refine over ?_
   have:D < q.toNat:=by
    rw [hlt,eqV]
    omega
   omega
  ·rw [if_neg c2]
   rw [UInt64.lt_iff_toNat_lt,m1,m2] at c2
   refine ⟨_,I,Nat.le_antisymm ?_ i3⟩
   rw [hle,eqV]
   omega
theorem kV {N M R:Nat} (h:N = M + R) (hR:R < 18446744073709551616):(18446744073709551616 - M % 18446744073709551616 + N % 18446744073709551616) % 18446744073709551616 = R:=by omega
theorem glue2 {hi lo p u t w:Nat} (t1:u = hi * p + t) (t2:w + 18446744073709551616 * t = lo * p):(hi * 18446744073709551616 + lo) * p = u * 18446744073709551616 + w:=by
 rw [Nat.add_mul,Nat.mul_right_comm hi 18446744073709551616 p,t1,<- t2]
 generalize hi * p = z
 omega
theorem glue {P Q R1 R0 u w:Nat} (h1:P + R1 = u * 4294967296 + w / 4294967296) (h2:Q + R0 = R1 * 4294967296 + w % 4294967296):u * 18446744073709551616 + w = P * 4294967296 + Q + R0:=by omega
theorem lr (n:Nat) (hi lo y:Ua) (h:hi.toNat < y.toNat) (hn:4294967300 < n):∃ q r:Ua,aO_p n hi lo y = some (q,r)/\hi.toNat * 18446744073709551616 + lo.toNat = q.toNat * y.toNat + r.toNat/\r.toNat < y.toNat:=by
 have hy:=y.toNat_lt
 have hlo:=lo.toNat_lt
 have hy0:y ≠ 0:=fun e=>by rw [e] at h; simp at h
 unfold aO_p
 rw [if_neg hy0,if_neg (by rw [UInt64.le_iff_toNat_le]; omega)]
 by_cases h0:hi = 0
 ·subst h0
  rw [if_pos I]
  unfold iQ lG
  rw [if_neg hy0,ab,if_neg hy0,ab]
  refine ⟨_,_,I,?_,?_⟩
  ·rw [UInt64.toNat_div,UInt64.toNat_mod]
   have:=Nat.div_add_mod lo.toNat y.toNat
   rw [Nat.mul_comm] at this
   simp; omega
  ·rw [UInt64.toNat_mod]; exact Nat.mod_lt _ (by omega)
 ·rw [if_neg h0,lz_ok,ab]
  have hyn:y.toNat ≠ 0:=by omega
  have b1:=eh hyn
  have b2:=cF (l:=64) (m:=y.toNat) (by omega)
  have b3:=jb y.toNat
  have b4:=gP hyn
  obtain ⟨s,hs⟩:∃ s,s = 64 - bln y.toNat:=⟨_,I⟩
  have e1:(ah (64 - (bln y.toNat:Int))).toNat = s:=by unfold ah; rw [UInt64.toNat_ofNat']; omega
  have e2:((64:Ua) - ah (64 - (bln y.toNat:Int))).toNat = 64 - s:=by
   rw [UInt64.toNat_sub,e1]
   simp only [show (64:Ua).toNat = 64 from rfl]
   omega
  have hs64:s < 64:=by omega
  have hps:=Nat.two_pow_pos s
  -- the divisor,moved
  have v2:y.toNat * 2 ^ s < 18446744073709551616:=by
   have:y.toNat * 2 ^ s < 2 ^ bln y.toNat * 2 ^ s:=Nat.mul_lt_mul_of_pos_right b3 hps
   rw [<- Nat.pow_add,show bln y.toNat + s = 64 by omega] at this
   exact this
  have v1:9223372036854775808 <= y.toNat * 2 ^ s:=by
   have:2 ^ (bln y.toNat - 1) * 2 ^ s <= y.toNat * 2 ^ s:=Nat.mul_le_mul_right _ b4
   rw [<- Nat.pow_add,show bln y.toNat - 1 + s = 63 by omega] at this
   exact this
  have hyv:(shlU y s).toNat = y.toNat * 2 ^ s:=by rw [dF y hs64,Nat.mod_eq_of_lt v2]
  have hhi:hi.toNat * 2 ^ s < 18446744073709551616:=Nat.lt_of_le_of_lt (Nat.mul_le_mul_right _ (Nat.le_of_lt h)) v2
  have hhv:(shlU hi s).toNat = hi.toNat * 2 ^ s:=by rw [dF hi hs64,Nat.mod_eq_of_lt hhi]
  -- the dividend,moved
  have hun:∃ t:Nat,(shlU hi s ||| shrU lo (64 - s)).toNat = hi.toNat * 2 ^ s + t/\(shlU lo s).toNat + 18446744073709551616 * t = lo.toNat * 2 ^ s:=by
   by_cases s0:s = 0
   ·subst s0
    refine ⟨0,?_,by rw [cW]; simp⟩
    rw [cW,show shrU lo (64 - 0) = 0 from by unfold shrU; rw [if_neg (by decide)],UInt64.toNat_or]
    simp
   ·obtain ⟨t1,t2,t3⟩:=iA lo (by omega) hs64
    refine ⟨(shrU lo (64 - s)).toNat,?_,t1⟩
    rw [UInt64.or_comm,kA t3 (by rw [hhv]; exact Nat.dvd_mul_left ..),hhv,Nat.add_comm]
  obtain ⟨t,t1,t2⟩:=hun
  rw [e1,e2]
  generalize hyy:shlU y s = yy at *
  generalize hun32:shlU hi s ||| shrU lo (64 - s) = un32 at *
  generalize hun10:shlU lo s = un10 at *
  have hun10l:=un10.toNat_lt
  have hun32l:=un32.toNat_lt
  -- both halves of the divisor
  have w1:(shrU yy 32).toNat = yy.toNat / 4294967296:=kg yy
  have w0:(yy &&& (4294967295:Ua)).toNat = yy.toNat % 4294967296:=mV yy
  have x1:(shrU un10 32).toNat = un10.toNat / 4294967296:=kg un10
  have x0:(un10 &&& (4294967295:Ua)).toNat = un10.toNat % 4294967296:=mV un10
  have hyyl:=yy.toNat_lt
  have hV:(shrU yy 32).toNat * 4294967296 + (yy &&& (4294967295:Ua)).toNat = yy.toNat:=by rw [w1,w0]; omega
  have hy1:2147483648 <= (shrU yy 32).toNat:=by rw [w1]; omega
  have hy1' : (shrU yy 32).toNat < 4294967296:=by rw [w1]; omega
  have hy0' : (yy &&& (4294967295:Ua)).toNat < 4294967296:=by rw [w0]; omega
  have hne:shrU yy 32 ≠ 0:=fun e=>by rw [e] at hy1; simp at hy1
  have hUV:un32.toNat < yy.toNat:=by
   have h5:(hi.toNat * 18446744073709551616 + lo.toNat) * 2 ^ s < y.toNat * 18446744073709551616 * 2 ^ s:=Nat.mul_lt_mul_of_pos_right (by omega) hps
   rw [Nat.add_mul,Nat.mul_right_comm,Nat.mul_right_comm y.toNat] at h5
   omega
  -- the first digit
  have d1:∀ (U:Ua) (hU:U.toNat < yy.toNat) (un:Ua) (hu:un.toNat < 4294967296) (B:(Ua × Ua -> Oa Ua) -> Ua × Ua -> Oa Ua) (hB:∀ J q rh,B J (q,rh) = if (4294967296:Ua) <= q then (if (4294967296:Ua) <= rh + shrU yy 32 then some (q - 1) else J (q - 1,rh + shrU yy 32)) else (if 4294967296 * rh + un < q * (yy &&& (4294967295:Ua)) then (if (4294967296:Ua) <= rh + shrU yy 32 then some (q - 1) else J (q - 1,rh + shrU yy 32)) else some q)),
    ∃ q:Ua,au B n (U / shrU yy 32,U - U / shrU yy 32 * shrU yy 32) = some q/\q.toNat = (U.toNat * 4294967296 + un.toNat) / yy.toNat:=fun U hU un hu B hB=>by
   have hm:=Nat.div_add_mod U.toNat (shrU yy 32).toNat
   have hml:=Nat.mod_lt U.toNat (show 0 < (shrU yy 32).toNat by omega)
   have hUl:=U.toNat_lt
   have e3:(U - U / shrU yy 32 * shrU yy 32).toNat = U.toNat % (shrU yy 32).toNat:=by
    rw [UInt64.toNat_sub,UInt64.toNat_mul,UInt64.toNat_div]
    rw [Nat.mul_comm] at hm
    have:U.toNat / (shrU yy 32).toNat * (shrU yy 32).toNat <= U.toNat:=by omega
    rw [Nat.mod_eq_of_lt (a:=U.toNat / (shrU yy 32).toNat * (shrU yy 32).toNat) (by omega)]
    omega
   obtain ⟨q,a1,a2⟩:=lR hB (U:=U.toNat) hy1 hy1' hy0' hu (by rw [hV]; exact hU) (U / shrU yy 32) (U - U / shrU yy 32 * shrU yy 32) (by rw [UInt64.toNat_div,e3,Nat.mul_comm]; exact hm.symm) (by rw [e3]; exact hml) n hn
   exact ⟨q,a1,by rw [a2,hV]⟩
  obtain ⟨q1,l2,q1v⟩:=d1 un32 hUV (shrU un10 32) (by rw [x1]; omega) (aO_l2 n y (64 - (bln y.toNat:Int)) lo) (fun J q rh=>by unfold aO_l2; simp only [e1,hyy,hun10])
  have hm1:=Nat.div_add_mod (un32.toNat * 4294967296 + (shrU un10 32).toNat) yy.toNat
  have hml1:=Nat.mod_lt (un32.toNat * 4294967296 + (shrU un10 32).toNat) (show 0 < yy.toNat by omega)
  rw [<- q1v] at hm1
  generalize hR1:(un32.toNat * 4294967296 + (shrU un10 32).toNat) % yy.toNat = R1 at hm1 hml1
  have u21:(un32 * 4294967296 + shrU un10 32 - q1 * yy).toNat = R1:=by
   rw [UInt64.toNat_sub,UInt64.toNat_add,UInt64.toNat_mul,UInt64.toNat_mul]
   rw [show (4294967296:Ua).toNat = 4294967296 from I]
   have:=kV (N:=un32.toNat * 4294967296 + (shrU un10 32).toNat) (M:=q1.toNat * yy.toNat) (R:=R1) (by rw [Nat.mul_comm q1.toNat]; exact hm1.symm) (by omega)
   generalize q1.toNat * yy.toNat = M at *
   omega
  obtain ⟨q0,l1,q0v⟩:=d1 (un32 * 4294967296 + shrU un10 32 - q1 * yy) (by rw [u21]; exact hml1) (un10 &&& (4294967295:Ua)) (by rw [x0]; omega) (aO_l1 n y (64 - (bln y.toNat:Int)) lo) (fun J q rh=>by unfold aO_l1; simp only [e1,hyy,hun10])
  rw [u21] at q0v
  have hm0:=Nat.div_add_mod (R1 * 4294967296 + (un10 &&& (4294967295:Ua)).toNat) yy.toNat
  have hml0:=Nat.mod_lt (R1 * 4294967296 + (un10 &&& (4294967295:Ua)).toNat) (show 0 < yy.toNat by omega)
  rw [<- q0v] at hm0
  generalize hR0:(R1 * 4294967296 + (un10 &&& (4294967295:Ua)).toNat) % yy.toNat = R0 at hm0 hml0
  have u00:((un32 * 4294967296 + shrU un10 32 - q1 * yy) * 4294967296 + (un10 &&& (4294967295:Ua)) - q0 * yy).toNat = R0:=by
   rw [UInt64.toNat_sub,UInt64.toNat_add,UInt64.toNat_mul,UInt64.toNat_mul,u21]
   rw [show (4294967296:Ua).toNat = 4294967296 from I]
   have:=kV (N:=R1 * 4294967296 + (un10 &&& (4294967295:Ua)).toNat) (M:=q0.toNat * yy.toNat) (R:=R0) (by rw [Nat.mul_comm q0.toNat]; exact hm0.symm) (by omega)
   generalize q0.toNat * yy.toNat = M at *
   omega
  have q1l:q1.toNat < 4294967296:=by
   rw [q1v,Nat.div_lt_iff_lt_mul (by omega)]; rw [x1]; omega
  have q0l:q0.toNat < 4294967296:=by
   rw [q0v,Nat.div_lt_iff_lt_mul (by omega)]; rw [x0]; omega
  -- all together
  have all:(hi.toNat * 18446744073709551616 + lo.toNat) * 2 ^ s = (q1.toNat * 4294967296 + q0.toNat) * y.toNat * 2 ^ s + R0:=by
   have a1:(hi.toNat * 18446744073709551616 + lo.toNat) * 2 ^ s = un32.toNat * 18446744073709551616 + un10.toNat:=by
    exact glue2 t1 t2
   have a2:(q1.toNat * 4294967296 + q0.toNat) * y.toNat * 2 ^ s = yy.toNat * q1.toNat * 4294967296 + yy.toNat * q0.toNat:=by
    rw [Nat.mul_assoc,<- hyv]; grind
   rw [a1,a2]
   rw [x1] at hm1
   rw [x0] at hm0
   exact glue hm1 hm0
  have hq:(q1 * 4294967296 + q0).toNat = q1.toNat * 4294967296 + q0.toNat:=by
   rw [UInt64.toNat_add,UInt64.toNat_mul,show (4294967296:Ua).toNat = 4294967296 from I]; omega
  have hd:2 ^ s ∣ R0:=by
   have:=(Nat.dvd_add_right (Nat.dvd_mul_left (2 ^ s) ((q1.toNat * 4294967296 + q0.toNat) * y.toNat))).1 (by rw [<- all]; exact Nat.dvd_mul_left ..)
   exact this
  obtain ⟨rr,hrr⟩:=hd
  have hrv:(shrU ((un32 * 4294967296 + shrU un10 32 - q1 * yy) * 4294967296 + (un10 &&& (4294967295:Ua)) - q0 * yy) s).toNat = rr:=by
   rw [bS _ hs64,u00,hrr,Nat.mul_div_cancel_left _ hps]
  unfold jn iQ
  rw [if_neg hne,ab,ab]
  dsimp only
  rw [l2,ab,ab,if_neg hne,ab,ab]
  try dsimp only
  rw [l1,ab,ab,ab]
  refine ⟨_,_,I,?_,?_⟩
  ·rw [hq,hrv]
   rw [hrr,Nat.mul_comm (2 ^ s) rr,<- Nat.add_mul] at all
   exact Nat.mul_right_cancel hps all
  ·rw [hrv]
   rw [hrr,Nat.mul_comm,hyv] at hml0
   exact Nat.lt_of_mul_lt_mul_right hml0
set_option maxRecDepth 8000
theorem nx (a:Nat):bln a <= 64 * (dg a).length:=cF (by
 have:=cw (dg a)
 rw [aF,dL] at this
 exact this)
theorem dg_one {m:Nat} (h:(dg m).length = 1):∃ y:Ua,dg m = [y]/\y.toNat = m:=by
 rcases e:dg m with _ | ⟨y,_ | ⟨z,zs⟩⟩
 ·rw [e] at h; simp at h
 ·refine ⟨y,I,?_⟩
  have:=aF m
  rw [e] at this
  simp only [val] at this
  omega
 ·rw [e] at h; simp at h
theorem gZ {xs:La Ua} {i:Nat} (v:Ua) (h:i < xs.length):(xs.set i v).drop i = v :: xs.drop (i + 1):=by
 rw [List.drop_eq_getElem_cons (by simpa using h),List.getElem_set_self,List.drop_set_of_lt (by omega)]
theorem ku (n:Nat) (a:La Ua) (y:Ua) (hy:0 < y.toNat) (hl:a.length < 100000) (hn:4294967300 < n):∃ u xs,au (aT_l1 n a [y]) n (0,((a.length:Nat):Int) - 1,List.replicate a.length 0) = some (u,xs)/\xs.length = a.length/\val a = val xs * y.toNat + u.toNat/\u.toNat < y.toNat:=by
 have hh:=aw (B:=aT_l1 n a [y]) (fun s:Ua × Int × La Ua=>(s.2.1 + 1).toNat) (fun s=>(-1 <= s.2.1/\s.2.1 < a.length)/\s.2.2.length = a.length/\val (a.drop (s.2.1 + 1).toNat) = val (s.2.2.drop (s.2.1 + 1).toNat) * y.toNat + s.1.toNat/\s.1.toNat < y.toNat)
  (fun r=>r.2.length = a.length/\val a = val r.2 * y.toNat + r.1.toNat/\r.1.toNat < y.toNat) ?_ n (0,((a.length:Nat):Int) - 1,List.replicate a.length 0) ⟨by simp only; omega,by simp,?_,by simpa using hy⟩ (by simp only; omega)
 ·obtain ⟨⟨u,xs⟩,e,h1,h2,h3⟩:=hh; exact ⟨u,xs,e,h1,h2,h3⟩
 ·rintro ⟨u,z,xs⟩ J ⟨a1,a2,a3,a4⟩ hJ
  simp only at a1 a2 a3 a4 hJ
  unfold aT_l1
  simp only
  by_cases hz:0 <= z
  ·obtain ⟨k,rfl⟩:∃ k:Nat,z = k:=⟨z.toNat,by omega⟩
   have e0:(((k:Int) + 1).toNat) = k + 1:=by omega
   rw [e0] at a3
   have hka:k < a.length:=by omega
   have hkx:k < xs.length:=by omega
   obtain ⟨q,r,d1,d2,d3⟩:=lr n u a[k] y a4 hn
   rw [if_pos hz,idxN hka,ab]
   simp only [List.getElem?_cons_zero,ab]
   rw [d1,ab,idxN hkx,ab,putN _ hkx,ab,aN (by omega) (by omega),ab]
   have eN:(((k:Int) - 1 + 1)).toNat = k:=by omega
   refine hJ (_,_,_) ⟨by simp only; omega,by simpa using a2,?_,d3⟩ (by simp only; omega)
   simp only
   rw [eN,gZ q hkx,List.drop_eq_getElem_cons hka]
   simp only [val]
   rw [a3,Nat.add_mul,Nat.mul_add,<- Nat.mul_assoc]
   omega
  ·rw [if_neg hz]
   have e0:(z + 1).toNat = 0:=by omega
   rw [e0] at a3
   exact ⟨_,rfl,a2,by simpa using a3,a4⟩
 ·simp only
  rw [show ((((a.length:Nat):Int) - 1 + 1)).toNat = a.length by omega,List.drop_length,List.drop_eq_nil_of_le (by simp)]
  simp [val]
theorem jy (n:Nat) (a b:Nat) (h0:b ≠ 0) (ha:(dg a).length < 10000) (hb:(dg b).length < 10000) (hn:18446744073709551616 < n):∃ q,aT_p n (dg a) (dg b) = some (q,dg (a % b))/\q.length <= (dg a).length/\val q = a / b:=by
 unfold aT_p
 rw [cT _ _ (by omega),ab]
 by_cases h1:(dg b).length = 1
 ·obtain ⟨y,e,hy⟩:=dg_one h1
  obtain ⟨u,xs,l1,l2,l3,l4⟩:=ku n (dg a) y (by omega) (by omega) (by omega)
  rw [e,if_pos (show ([y]:La Ua).length = 1 from I),l1,ab]
  simp only
  rw [aJ n false _ (by simp only [leC,leN]; omega) (by simp),ab]
  rw [aF,hy] at l3
  rw [hy] at l4
  have hu:=(Nat.div_mod_unique (a:=a) (b:=b) (c:=u.toNat) (d:=val xs) (by omega)).2 ⟨by rw [Nat.mul_comm]; omega,l4⟩
  refine ⟨xs,?_,by omega,hu.1.symm⟩
  simp only [val,Nat.mul_zero,Nat.add_zero]
  rw [hu.2]
 ·rw [if_neg h1,iy n a (by omega),ab,iy n b (by omega),ab]
  have bla:=nx a
  have blb:=nx b
  rw [aN (by omega) (by omega),ab]
  have hbp:=eh h0
  have hbg:=gP h0
  have hal:=jb a
  by_cases hK:(bln a:Int) - bln b < 0
  ·obtain ⟨m,rfl⟩:∃ m,n = m + 1:=⟨n - 1,by omega⟩
   have hab:a < b:=Nat.lt_of_lt_of_le hal (Nat.le_trans (Nat.pow_le_pow_right (by decide) (by omega)) hbg)
   rw [bc]
   unfold aT_l2
   simp only
   rw [if_neg (by omega),ab]
   refine ⟨_,by rw [Nat.mod_eq_of_lt hab],by simp,?_⟩
   rw [Nat.div_eq_of_lt hab]
   exact cm _ fun x hx=>(List.mem_replicate.1 hx).2
  ·obtain ⟨K,hKe⟩:∃ K:Nat,(bln a:Int) - bln b = K:=⟨bln a - bln b,by omega⟩
   rw [hKe]
   have hstart:a < b * 2 ^ (K + 1):=by
    have h2:2 ^ bln a <= b * 2 ^ (K + 1):=by
     have:2 ^ (bln b - 1) * 2 ^ (K + 1) <= b * 2 ^ (K + 1):=Nat.mul_le_mul_right _ hbg
     rw [<- Nat.pow_add,show bln b - 1 + (K + 1) = bln a by omega] at this
     exact this
    omega
   have hh:=aw (B:=aT_l2 n (dg b)) (fun s:La Ua × Int × La Ua=>(s.2.1 + 1).toNat)
    (fun s=>(-1 <= s.2.1/\s.2.1 <= K)/\s.2.2.length = (dg a).length/\∃ R,s.1 = dg R/\R <= a/\a = b * val s.2.2 + R/\R < b * 2 ^ (s.2.1 + 1).toNat/\2 ^ (s.2.1 + 1).toNat ∣ val s.2.2)
    (fun r=>r.1.length = (dg a).length/\val r.1 = a / b/\r.2 = dg (a % b)) ?_ n (dg a,(K:Int),List.replicate (dg a).length 0)
    ⟨by simp only; omega,by simp,a,rfl,Nat.le_refl _,?_,?_,?_⟩ (by simp only; omega)
   ·obtain ⟨⟨q,r⟩,e,e1,e2,e3⟩:=hh
    simp only at e1 e2 e3
    rw [e,ab]
    simp only
    rw [e3]
    exact ⟨q,I,by omega,e2⟩
   ·rintro ⟨rw_,z,q⟩ J ⟨a1,a2,R,rfl,a3,a4,a5,a6⟩ hJ
    simp only at a1 a2 a3 a4 a5 a6 hJ
    unfold aT_l2
    simp only
    by_cases hz:0 <= z
    ·obtain ⟨k,rfl⟩:∃ k:Nat,z = k:=⟨z.toNat,by omega⟩
     have e0:(((k:Int) + 1).toNat) = k + 1:=by omega
     rw [e0] at a5 a6
     have eN:(((k:Int) - 1 + 1)).toNat = k:=by omega
     have hRl:=gm a3
     obtain ⟨st1,st2⟩:=nq a4 a5 a6
     rw [if_pos hz,mI n (dg b) k (by omega) (by omega) (by omega),ab,aF]
     obtain ⟨c,ec,c1,c2⟩:=fU n (dg R) (dg (b * 2 ^ k)) (gH _) (gH _) (by omega) (by omega)
     rw [aF,aF] at c1 c2
     rw [ec,ab]
     unfold jn
     simp only
     by_cases hc:0 <= c
     ·have hge:b * 2 ^ k <= R:=by omega
      obtain ⟨g1,g2,g3⟩:=st1 hge
      obtain ⟨xs,t1,t2,t3⟩:=jH n (dg R) (dg (b * 2 ^ k)) (gm hge) (by rw [aF,aF]; exact hge) (by omega) (by omega)
      rw [aF,aF] at t3
      have hkq:k / 64 < q.length:=by
       have h2:2 ^ k < 2 ^ (64 * (dg a).length):=by
        have h3:=cw (dg a)
        rw [aF,dL] at h3
        have h4:1 * 2 ^ k <= b * 2 ^ k:=Nat.mul_le_mul_right _ (by omega)
        omega
       have h5:=(Nat.pow_lt_pow_iff_right (by decide:1 < 2)).1 h2
       omega
      have hbit:=bit_add hkq a6 (shl_one (Nat.mod_lt _ (by decide)))
      rw [if_pos hc,t1,ab,aJ n false xs (by omega) (by omega),ab,ne k (by omega),ab,idxN hkq,ab,rem64,ab,fP,ab,putN _ hkq,ab]
      simp only
      rw [aN (by omega) (by omega),ab,t3]
      refine hJ (_,_,_) ⟨by simp only; omega,by simpa using a2,R - b * 2 ^ k,rfl,by omega,?_,?_,?_⟩ (by simp only; omega)
      ·simp only; rw [hbit]; exact g1
      ·simp only; rw [eN]; exact g2
      ·simp only; rw [eN,hbit]; exact g3
     ·rw [if_neg hc,aN (by omega) (by omega),ab]
      refine hJ (_,_,_) ⟨by simp only; omega,a2,R,rfl,a3,a4,?_,?_⟩ (by simp only; omega)
      ·simp only; rw [eN]; omega
      ·simp only; rw [eN]; exact st2 (by omega)
    ·rw [if_neg hz]
     have e0:(z + 1).toNat = 0:=by omega
     rw [e0,Nat.pow_zero,Nat.mul_one] at a5
     have hu:=(Nat.div_mod_unique (a:=a) (b:=b) (c:=R) (d:=val q) (by omega)).2 ⟨by omega,a5⟩
     exact ⟨_,rfl,a2,hu.1.symm,by simp only; rw [hu.2]⟩
   ·simp only
    rw [cm _ fun x hx=>(List.mem_replicate.1 hx).2]; omega
   ·simp only
    rw [show (((K:Int) + 1).toNat) = K + 1 by omega]
    exact hstart
   ·simp only
    rw [cm _ fun x hx=>(List.mem_replicate.1 hx).2]
    exact Nat.dvd_zero _
theorem mz (n l:Nat) (a b:Int) (ha:Fit l a) (hb:Fit l b) (h0:b ≠ 0) (hl:l < 5000) (hn:18446744073709551616 < n):bV_p n (L a) (L b) = some (L (a / b),L (a % b)):=by
 have hal:=ha.len
 have hbl:=hb.len
 obtain ⟨q,e1,e2,e3⟩:=jy n a.natAbs b.natAbs (by omega) (by omega) (by omega) hn
 have hm:a.natAbs % b.natAbs < b.natAbs:=Nat.mod_lt _ (by omega)
 have hl2:(dg (a.natAbs % b.natAbs)).length <= l:=gT (Nat.lt_trans hm hb)
 have hdm:=Nat.div_add_mod a.natAbs b.natAbs
 have hq:a.natAbs / b.natAbs <= a.natAbs:=Nat.div_le_self _ _
 unfold bV_p
 rw [show (L a).fu = dg a.natAbs from I,show (L b).fu = dg b.natAbs from I,e1,ab]
 simp only
 rw [aJ n _ _ (by omega) (by omega),ab,aJ n _ _ (by omega) (by omega),ab,e3,aF]
 generalize hx:a.natAbs / b.natAbs = x at *
 generalize hy:a.natAbs % b.natAbs = y at *
 simp only [lJ]
 show (if (decide (a < 0) && decide (0 < y)) = true then _ else _) = _
 have hqf:x < 18446744073709551616 ^ l:=Nat.lt_of_le_of_lt hq ha
 have hyf:y < 18446744073709551616 ^ l:=Nat.lt_trans hm hb
 have hpw:2 * 18446744073709551616 ^ l <= 18446744073709551616 ^ (l + 1):=by rw [Nat.pow_succ,Nat.mul_comm]; exact Nat.mul_le_mul_left _ (by decide)
 have hp1:1 <= 18446744073709551616 ^ l:=Nat.pow_pos (by decide)
 have hbb:b.natAbs < 18446744073709551616 ^ l:=hb
 have hab:(b.natAbs:Int) * x + y = a.natAbs:=by exact_mod_cast hdm
 by_cases hr:a < 0/\0 < y
 ·obtain ⟨h1,h2⟩:=hr
  rw [if_pos (by simp [h1,h2])]
  have f1:(⟨false,dg b.natAbs⟩:Th) = L b.natAbs:=by unfold L; simp
  have f2:(⟨!(L b).fh,([(1:Ua)]:La Ua)⟩:Th) = L (if b < 0 then 1 else -1):=by
   unfold L
   by_cases hb0:b < 0 <;> simp [hb0] <;> rw [dg1 (by decide) (by decide)] <;> rfl
  rw [f1,f2,dw n (l + 1) _ _ ?_ ?_ (by omega) (by omega),ab,dw n (l + 1) _ _ ?_ ?_ (by omega) (by omega),ab]
  ·have e:sg (!(decide (a < 0) == decide (b < 0))) x + (if b < 0 then 1 else -1) = a / b/\sg (decide (a < 0)) y + b.natAbs = a % b:=by
    have:=dJ (a:=a) (b:=b) (q:=sg (!(decide (a < 0) == decide (b < 0))) x + (if b < 0 then 1 else -1)) (r:=sg (decide (a < 0)) y + b.natAbs) ?_ ?_ ?_
    ·exact ⟨this.1.symm,this.2.symm⟩
    ·unfold sg
     by_cases hb0:b < 0
     ·have:(b.natAbs:Int) = -b:=by omega
      rw [this] at hab ⊢
      have h3:(a.natAbs:Int) = -a:=by omega
      simp [h1,hb0]
      rw [Int.mul_add]; grind
     ·have:(b.natAbs:Int) = b:=by omega
      rw [this] at hab ⊢
      have h3:(a.natAbs:Int) = -a:=by omega
      simp [h1,hb0]
      rw [Int.mul_add]; grind
    ·unfold sg; simp [h1]; omega
    ·unfold sg; simp [h1]; omega
   show some (L (sg (!(decide (a < 0) == decide (b < 0))) x + (if b < 0 then 1 else -1)),L (sg (decide (a < 0)) y + b.natAbs)) = _
   rw [e.1,e.2]
  ·unfold Fit; rw [gp]; omega
  ·unfold Fit; split <;> simp <;> omega
  ·unfold Fit; rw [gp]; omega
  ·unfold Fit; rw [Int.natAbs_natCast]; omega
 ·rw [if_neg (by simpa using hr)]
  have e:=dJ (a:=a) (b:=b) (q:=sg (!(decide (a < 0) == decide (b < 0))) x) (r:=sg (decide (a < 0)) y) ?_ ?_ ?_
  ·rw [e.1,e.2]; rfl
  ·unfold sg
   by_cases h1:a < 0
   ·have hy0:y = 0:=by omega
    have h3:(a.natAbs:Int) = -a:=by omega
    by_cases hb0:b < 0
    ·have:(b.natAbs:Int) = -b:=by omega
     rw [this] at hab; simp [h1,hb0,hy0] at hab ⊢; grind
    ·have:(b.natAbs:Int) = b:=by omega
     rw [this] at hab; simp [h1,hb0,hy0] at hab ⊢; grind
   ·have h3:(a.natAbs:Int) = a:=by omega
    by_cases hb0:b < 0
    ·have:(b.natAbs:Int) = -b:=by omega
     rw [this] at hab; simp [h1,hb0] at hab ⊢; grind
    ·have:(b.natAbs:Int) = b:=by omega
     rw [this] at hab; simp [h1,hb0] at hab ⊢; grind
  ·unfold sg
   by_cases h1:a < 0
   ·have hy0:y = 0:=by omega
    simp [hy0]
   ·simp [h1]
  ·unfold sg
   by_cases h1:a < 0
   ·have hy0:y = 0:=by omega
    simp [hy0]; omega
   ·simp [h1]; omega
theorem ll (n l:Nat) (a b:Int) (ha:Fit l a) (hb:Fit l b) (hl:l < 5000) (hn:18446744073709551616 < n):aK_p n (L a) (L b) = some (L (Nat.gcd a.natAbs b.natAbs:Nat)):=by
 obtain ⟨M,hM⟩:∃ M:Nat,M = 64 * l:=⟨_,I⟩
 have hx2:a.natAbs < 2 ^ M:=by unfold Fit at ha; rw [dL,<- hM] at ha; exact ha
 have hy2:b.natAbs < 2 ^ M:=by unfold Fit at hb; rw [dL,<- hM] at hb; exact hb
 have he:=eu_le hx2 hy2
 have h:=aw (B:=aK_l1 n) (fun s:La Ua × La Ua=>eu (val s.1) (val s.2)) (fun s=>∃ x y,s = (dg x,dg y)/\(dg x).length < 10000/\(dg y).length < 10000/\Nat.gcd x y = Nat.gcd a.natAbs b.natAbs)
  (fun r=>r = dg (Nat.gcd a.natAbs b.natAbs)) ?_ n (dg a.natAbs,dg b.natAbs) ⟨_,_,rfl,by have:=ha.len; omega,by have:=hb.len; omega,rfl⟩ (by simp only [aF]; omega)
 ·obtain ⟨r,h1,rfl⟩:=h
  unfold aK_p
  rw [show (L a).fu = dg a.natAbs from I,show (L b).fu = dg b.natAbs from I,h1,ab]
  unfold L
  simp
 ·rintro _ J ⟨x,y,rfl,h1,h2,h3⟩ hJ
  unfold aK_l1
  simp only
  by_cases h0:y = 0
  ·subst h0
   rw [if_neg (by rw [dg0]; simp)]
   exact ⟨_,rfl,by rw [<- h3,Nat.gcd_zero_right]⟩
  ·obtain ⟨q,e1,_,_⟩:=jy n x y h0 h1 h2 hn
   have hm:x % y < y:=Nat.mod_lt _ (by omega)
   have hyl:0 < (dg y).length:=by
    rcases e:dg y with _ | ⟨z,zs⟩
    ·have:=aF y; rw [e] at this; exact absurd this.symm h0
    ·simp
   rw [if_pos hyl,e1,ab]
   simp only
   refine hJ (dg y,dg (x % y)) ⟨_,_,rfl,h2,Nat.lt_of_le_of_lt (gm (Nat.le_of_lt hm)) h2,?_⟩ (by simp only [aF]; exact kU h0)
   rw [<- h3,Nat.gcd_comm x y,Nat.gcd_rec y x,Nat.gcd_comm]
theorem iB (n l:Nat) (a b:Int) (ha:Fit l a) (hb:Fit l b) (h0:b ≠ 0) (hl:l < 5000) (hn:18446744073709551616 < n) :
  bU_p n (L a) (L b) = some (Rt (Rat.divInt a b))/\(Rat.divInt a b).num.natAbs <= a.natAbs/\(Rat.divInt a b).den <= b.natAbs:=by
 have hg:0 < Nat.gcd a.natAbs b.natAbs:=Nat.gcd_pos_of_pos_right _ (by omega)
 have hgb:Nat.gcd a.natAbs b.natAbs <= b.natAbs:=Nat.gcd_le_right _ (by omega)
 have hgw:Fit l ((Nat.gcd a.natAbs b.natAbs:Nat):Int):=by unfold Fit at *; rw [Int.natAbs_natCast]; omega
 obtain ⟨x,hx⟩:((Nat.gcd a.natAbs b.natAbs:Nat):Int) ∣ a:=Int.ofNat_dvd_left.2 (Nat.gcd_dvd_left _ _)
 obtain ⟨y,hy⟩:((Nat.gcd a.natAbs b.natAbs:Nat):Int) ∣ b:=Int.ofNat_dvd_left.2 (Nat.gcd_dvd_right _ _)
 have hco:=Nat.coprime_div_gcd_div_gcd hg
 generalize Nat.gcd a.natAbs b.natAbs = g at *
 have hg0:(g:Int) ≠ 0:=by omega
 have e1:a / (g:Int) = x:=by rw [hx]; exact Int.mul_ediv_cancel_left _ hg0
 have e2:b / (g:Int) = y:=by rw [hy]; exact Int.mul_ediv_cancel_left _ hg0
 have e3:a.natAbs = g * x.natAbs:=by rw [hx,Int.natAbs_mul]; rfl
 have e4:b.natAbs = g * y.natAbs:=by rw [hy,Int.natAbs_mul]; rfl
 have hc:x.natAbs.Coprime y.natAbs:=by
  rw [e3,e4,Nat.mul_div_cancel_left _ hg,Nat.mul_div_cancel_left _ hg] at hco; exact hco
 have hxl:x.natAbs <= a.natAbs:=by rw [e3]; exact Nat.le_mul_of_pos_left _ hg
 have hyl:y.natAbs <= b.natAbs:=by rw [e4]; exact Nat.le_mul_of_pos_left _ hg
 have hy0:y ≠ 0:=fun e=>h0 (by rw [hy,e,Int.mul_zero])
 have eq:Rat.divInt a b = Rat.divInt x y:=by
  conv=>lhs; rw [hx,hy]
  exact Rat.divInt_mul_left hg0
 have xw:Fit l x:=Nat.lt_of_le_of_lt hxl ha
 have yw:Fit l y:=Nat.lt_of_le_of_lt hyl hb
 have gc:aK_p n (L a) (L b) = some (L g):=by
  have:=ll n l a b ha hb hl hn
  rw [this]
  have h5:Nat.gcd a.natAbs b.natAbs = g:=by
   rw [e3,e4,Nat.gcd_mul_left,show Nat.gcd x.natAbs y.natAbs = 1 from hc,Nat.mul_one]
  rw [h5]
 unfold bU_p
 rw [gc,ab,mz n l a g ha hgw hg0 hl hn,ab,mz n l b g hb hgw hg0 hl hn,ab,e1,e2]
 simp only
 rw [eq]
 by_cases hs:y < 0
 ·rw [if_pos (by simpa [L] using hs),cg n l x xw (by omega) (by omega),ab,cg n l y yw (by omega) (by omega),ab]
  have h5:=fQ (x:=-x) (y:=-y) (by omega) (by rwa [Int.natAbs_neg,Int.natAbs_neg])
  rw [Rat.neg_divInt_neg] at h5
  unfold Rt
  rw [h5.1,h5.2]
  exact ⟨rfl,by rw [Int.natAbs_neg]; exact hxl,by have:=h5.2; omega⟩
 ·rw [if_neg (by simpa [L] using hs)]
  have h5:=fQ (x:=x) (y:=y) (by omega) hc
  unfold Rt
  rw [h5.1,h5.2]
  exact ⟨I,hxl,by have:=h5.2; omega⟩
set_option maxRecDepth 8000
abbrev T8:=Ua × Ua × Ua × Ua × Ua × Ua × Ua × Ua
def wv (t:T8):La Ua:=[t.1,t.2.1,t.2.2.1,t.2.2.2.1,t.2.2.2.2.1,t.2.2.2.2.2.1,t.2.2.2.2.2.2.1,t.2.2.2.2.2.2.2]
theorem li:∀ {xs ys:La Ua},xs.length = ys.length -> val xs = val ys -> xs = ys
 | [],[],_,_=>rfl
 | x :: xs,[],h,_=>by simp at h
 | [],y :: ys,h,_=>by simp at h
 | x :: xs,y :: ys,h,e=>by
  simp only [val] at e
  have hx:=x.toNat_lt
  have hy:=y.toNat_lt
  have e1:x = y:=UInt64.toNat_inj.1 (by omega)
  have e2:val xs = val ys:=by omega
  rw [e1,li (by simpa using h) e2]
theorem wv_inj {s t:T8} (h:val (wv s) = val (wv t)):s = t:=by
 have:=li (by rfl) h
 unfold wv at this
 obtain ⟨s1,s2,s3,s4,s5,s6,s7,s8⟩:=s
 obtain ⟨t1,t2,t3,t4,t5,t6,t7,t8⟩:=t
 simp only [List.cons.injEq,and_true] at this
 simp only [Prod.mk.injEq]
 exact this
def HB:Nat:=9223372036854775808 * 18446744073709551616 ^ 7
def FB:Nat:=18446744073709551616 ^ 8
theorem dp:FB = 2 * HB:=by unfold FB HB; rfl
theorem ca:0 < HB:=by unfold HB; decide
theorem wv_lt (t:T8):val (wv t) < FB:=cw (wv t)
def Wn (m:Nat):T8:=(UInt64.ofNat m,UInt64.ofNat (m / 18446744073709551616),UInt64.ofNat (m / 18446744073709551616 / 18446744073709551616),UInt64.ofNat (m / 18446744073709551616 / 18446744073709551616 / 18446744073709551616),UInt64.ofNat (m / 18446744073709551616 / 18446744073709551616 / 18446744073709551616 / 18446744073709551616),UInt64.ofNat (m / 18446744073709551616 / 18446744073709551616 / 18446744073709551616 / 18446744073709551616 / 18446744073709551616),UInt64.ofNat (m / 18446744073709551616 / 18446744073709551616 / 18446744073709551616 / 18446744073709551616 / 18446744073709551616 / 18446744073709551616),UInt64.ofNat (m / 18446744073709551616 / 18446744073709551616 / 18446744073709551616 / 18446744073709551616 / 18446744073709551616 / 18446744073709551616 / 18446744073709551616))
theorem cj (m:Nat) (xs:La Ua) (h:val xs = m / 18446744073709551616):val (UInt64.ofNat m :: xs) = m:=by
 simp only [val]
 rw [UInt64.toNat_ofNat', h]
 exact Nat.mod_add_div m 18446744073709551616
theorem Wn_val {m:Nat} (h:m < FB):val (wv (Wn m)) = m:=by
 unfold wv Wn
 refine cj _ _ (cj _ _ (cj _ _ (cj _ _ (cj _ _ (cj _ _ (cj _ _ ?_))))))
 simp only [val]
 rw [UInt64.toNat_ofNat', Nat.mul_zero,Nat.add_zero]
 refine Nat.mod_eq_of_lt ?_
 simp only [Nat.div_div_eq_div_mul]
 refine Nat.div_lt_of_lt_mul ?_
 exact h
def Fw (z:Int):Prop:=-(HB:Int) <= z/\z < HB
def Wg (z:Int):T8:=Wn (z % (FB:Int)).toNat
theorem dR (z:Int):(val (wv (Wg z)):Int) = z % (FB:Int):=by
 have hp:=ca
 have hf:=dp
 have h0:=Int.emod_nonneg z (b:=(FB:Int)) (by omega)
 have h1:=Int.emod_lt_of_pos z (b:=(FB:Int)) (by omega)
 unfold Wg
 rw [Wn_val (by omega)]
 omega
theorem kw {z:Int} (h:Fw z) (h0:0 <= z):val (wv (Wg z)) = z.natAbs:=by
 have hp:=ca
 have hf:=dp
 have:=dR z
 rw [Int.emod_eq_of_lt h0 (by have:=h.2; omega)] at this
 omega
theorem kc {z:Int} (h:Fw z) (h0:z < 0):val (wv (Wg z)) + z.natAbs = FB:=by
 have hp:=ca
 have hf:=dp
 have:=dR z
 have e:z % (FB:Int) = z + FB:=by
  rw [<- Int.add_emod_right]
  exact Int.emod_eq_of_lt (by have:=h.1; omega) (by omega)
 rw [e] at this
 have:=h.1
 omega
theorem bV {s b c a c1 c2 Vs Vb Va K:Nat} (h1:s + b + c = a + 18446744073709551616 * c1) (h2:Vs + Vb + c1 = Va + K * c2):(s + 18446744073709551616 * Vs) + (b + 18446744073709551616 * Vb) + c = (a + 18446744073709551616 * Va) + 18446744073709551616 * K * c2:=by
 rw [Nat.mul_assoc]
 have:=congrArg (18446744073709551616 * ·) h2
 simp only [Nat.mul_add] at this
 omega
theorem ig (n:Nat) (a b:T8):∃ s c,bF_p n a b = some (s,c)/\val (wv s) + val (wv b) = val (wv a) + FB * c.toNat/\c.toNat <= 1:=by
 obtain ⟨a1,a2,a3,a4,a5,a6,a7,a8⟩:=a
 obtain ⟨b1,b2,b3,b4,b5,b6,b7,b8⟩:=b
 obtain ⟨s1,c1,e1,f1,g1⟩:=bH a1 b1 0 (by decide)
 obtain ⟨s2,c2,e2,f2,g2⟩:=bH a2 b2 c1 g1
 obtain ⟨s3,c3,e3,f3,g3⟩:=bH a3 b3 c2 g2
 obtain ⟨s4,c4,e4,f4,g4⟩:=bH a4 b4 c3 g3
 obtain ⟨s5,c5,e5,f5,g5⟩:=bH a5 b5 c4 g4
 obtain ⟨s6,c6,e6,f6,g6⟩:=bH a6 b6 c5 g5
 obtain ⟨s7,c7,e7,f7,g7⟩:=bH a7 b7 c6 g6
 obtain ⟨s8,c8,e8,f8,g8⟩:=bH a8 b8 c7 g7
 refine ⟨(s1,s2,s3,s4,s5,s6,s7,s8),c8,?_,?_,g8⟩
 ·unfold bF_p
  simp only [e1,e2,e3,e4,e5,e6,e7,e8,ab]
 ·have hFB:FB = 18446744073709551616 * (18446744073709551616 * (18446744073709551616 * (18446744073709551616 * (18446744073709551616 * (18446744073709551616 * (18446744073709551616 * (18446744073709551616 * 1))))))):=rfl
  have:=bV f1 (bV f2 (bV f3 (bV f4 (bV f5 (bV f6 (bV f7 (bV f8 (show 0 + 0 + c8.toNat = 0 + 1 * c8.toNat by omega))))))))
  rw [<- hFB,show (0:Ua).toNat = 0 from I,Nat.add_zero] at this
  simp only [wv,val]
  exact this
theorem lI (n:Nat) (a b:T8) (hn:10 < n):∃ c,bf_p n a b = some c/\(c < 0 ↔ val (wv a) < val (wv b))/\(c = 0 ↔ val (wv a) = val (wv b)):=by
 have hh:=aw (B:=bf_l1 n a b) (fun z:Int=>(z + 1).toNat) (fun z=>-1 <= z/\z < 8/\(wv a).drop (z + 1).toNat = (wv b).drop (z + 1).toNat)
  (fun r=>(r = .inl (-1)/\val (wv a) < val (wv b)) ∨ (r = .inl 1/\val (wv b) < val (wv a)) ∨ (r = .inr ()/\wv a = wv b)) ?_ n 7 ⟨by omega,by omega,I⟩ (by omega)
 ·obtain ⟨r,hr,h1 | h1 | h1⟩:=hh
  ·unfold bf_p
   rw [hr,h1.1]; exact ⟨_,rfl,by have:=h1.2; omega,by have:=h1.2; omega⟩
  ·unfold bf_p
   rw [hr,h1.1]; exact ⟨_,rfl,by have:=h1.2; omega,by have:=h1.2; omega⟩
  ·unfold bf_p
   rw [hr,h1.1,h1.2]; exact ⟨_,rfl,by omega,by omega⟩
 ·intro z J ⟨h1,h2,h3⟩ hJ
  unfold bf_l1
  simp only
  have la:(wv a).length = 8:=rfl
  have lb:(wv b).length = 8:=rfl
  by_cases h0:0 <= z
  ·have e1:(z + 1).toNat = z.toNat + 1:=by omega
   rw [e1] at h3
   rw [if_pos h0]
   show ∃ r,((idx (wv a) z).bind fun z64=>(idx (wv b) z).bind fun z68=>if z64 = z68 then (chk (z - 1)).bind fun s73=>J s73 else if z64 < z68 then some (Sum.inl (-1:Int)) else some (Sum.inl (1:Int))) = some r/\_
   rw [aY h0 (by omega),ab,aY h0 (by omega),ab]
   split
   ·rename_i he
    rw [aN (by omega) (by omega),ab]
    refine hJ (z - 1) ⟨by omega,by omega,?_⟩ (by omega)
    rw [show (z - 1 + 1).toNat = z.toNat by omega,List.drop_eq_getElem_cons (by omega),List.drop_eq_getElem_cons (l:=wv b) (by omega),h3,he]
   ·rename_i hne
    split
    ·rename_i hlt; exact ⟨_,I,.inl ⟨I,gh (by omega) (by omega) h3 hlt⟩⟩
    ·rename_i h5
     refine ⟨_,I,.inr (.inl ⟨I,gh (by omega) (by omega) h3.symm ?_⟩)⟩
     rw [UInt64.lt_iff_toNat_lt] at h5 ⊢
     have:((wv a)[z.toNat]'(by omega)).toNat ≠ ((wv b)[z.toNat]'(by omega)).toNat:=fun e=>hne (UInt64.toNat_inj.1 e)
     omega
  ·rw [if_neg h0]
   have e1:(z + 1).toNat = 0:=by omega
   rw [e1] at h3
   exact ⟨_,rfl,.inr (.inr ⟨rfl,by simpa using h3⟩)⟩
theorem gl (t:T8):shrU t.2.2.2.2.2.2.2 63 = 1 ↔ HB <= val (wv t):=by
 obtain ⟨t1,t2,t3,t4,t5,t6,t7,t8⟩:=t
 have h1:=cw [t1,t2,t3,t4,t5,t6,t7]
 have e:val (wv (t1,t2,t3,t4,t5,t6,t7,t8)) = val [t1,t2,t3,t4,t5,t6,t7] + 18446744073709551616 ^ 7 * t8.toNat:=by
  have:=ep [t1,t2,t3,t4,t5,t6,t7] [t8]
  simp only [leC,leN] at this
  show val ([t1,t2,t3,t4,t5,t6,t7] ++ [t8]) = _
  rw [this]
  simp [val]
 rw [e]
 simp only [leC,leN] at h1
 have h8:=t8.toNat_lt
 have hs:(shrU t8 63).toNat = t8.toNat / 9223372036854775808:=bS t8 (by decide)
 have hsw:shrU t8 63 = 1 ↔ 9223372036854775808 <= t8.toNat:=by
  constructor
  ·intro h
   have:=congrArg UInt64.toNat h
   rw [hs] at this
   simp only [UInt64.toNat_one] at this
   omega
  ·intro h
   refine UInt64.toNat_inj.1 ?_
   rw [hs]
   simp only [UInt64.toNat_one]
   omega
 show shrU t8 63 = 1 ↔ _
 rw [hsw]
 unfold HB
 generalize val [t1,t2,t3,t4,t5,t6,t7] = lo at *
 generalize hP:(18446744073709551616:Nat) ^ 7 = P at *
 constructor
 ·intro h
  have:=Nat.mul_le_mul_left P h
  rw [Nat.mul_comm] at this
  omega
 ·intro h
  by_cases c:9223372036854775808 <= t8.toNat
  ·exact c
  ·exfalso
   have:=Nat.mul_le_mul_left P (show t8.toNat + 1 <= 9223372036854775808 by omega)
   rw [Nat.mul_add,Nat.mul_comm P 9223372036854775808] at this
   omega
theorem kI (n:Nat) (z:Int) (h:Fw z) (hn:10 < n):bR_p n (Wg z) = some (L z):=by
 have hp:=ca
 have hf:=dp
 have fin:∀ (b:Bool) (t:T8),val (wv t) = z.natAbs -> (b && decide (0 < z.natAbs)) = decide (z < 0) -> ((app ([]:La Ua) ([t.1,t.2.1,t.2.2.1,t.2.2.2.1,t.2.2.2.2.1,t.2.2.2.2.2.1,t.2.2.2.2.2.2.1,t.2.2.2.2.2.2.2]:La Ua)).bind fun xs=>(az_p n b xs).bind fun y=>some y) = some (L z):=fun b t hv hb=>by
  show ((app ([]:La Ua) (wv t)).bind fun xs=>(az_p n b xs).bind fun y=>some y) = some (L z)
  rw [cC [] (wv t) (by show 0 + 8 <= 1000000; decide),ab,List.nil_append,aJ n b (wv t) (by show 8 < n; omega) (by show 8 <= 4294967296; decide),ab,hv,hb]
  rfl
 unfold bR_p dB_p
 by_cases h0:z < 0
 ·have hv:=kc h h0
  have hge:HB <= val (wv (Wg z)):=by have:=h.1; omega
  obtain ⟨s,c,e,e2,e3⟩:=ig n (0,0,0,0,0,0,0,0) (Wg z)
  have hz:val (wv ((0,0,0,0,0,0,0,0):T8)) = 0:=rfl
  rw [hz] at e2
  have hs:=wv_lt s
  have hc:c.toNat = 1:=by
   by_cases hc0:c.toNat = 0
   ·rw [hc0] at e2; omega
   ·omega
  rw [hc] at e2
  rw [if_pos ((gl _).2 hge),e,ab,ab]
  exact fin _ s (by omega) (by rw [decide_eq_true ((gl _).2 hge),decide_eq_true (by omega:0 < z.natAbs),decide_eq_true h0]; rfl)
 ·have hv:=kw h (by omega)
  have hlt:¬ shrU (Wg z).2.2.2.2.2.2.2 63 = 1:=fun e=>by have:=(gl _).1 e; have:=h.2; omega
  rw [if_neg hlt,ab]
  exact fin _ (Wg z) hv (by rw [decide_eq_false hlt,decide_eq_false h0]; rfl)
theorem ii {z:Int} {t:T8} (h:(val (wv t):Int) = z % (FB:Int)):t = Wg z:=wv_inj (by have:=dR z; omega)
theorem mS {ws:La Ua} (h:ws.length <= 8):val (wv (aQ ws 0 0,aQ ws 1 0,aQ ws 2 0,aQ ws 3 0,aQ ws 4 0,aQ ws 5 0,aQ ws 6 0,aQ ws 7 0)) = val ws:=by
 unfold wv aQ
 rcases ws with _ | ⟨a,_ | ⟨b,_ | ⟨c,_ | ⟨d,_ | ⟨e,_ | ⟨f,_ | ⟨g,_ | ⟨i,_ | ⟨j,xs⟩⟩⟩⟩⟩⟩⟩⟩⟩
 any_goals simp [val]
 simp only [leC] at h
 omega
open Classical in
theorem toldG (n:Nat) (z:Int) (hn:10 < n):bZ_p n (L z) = some (if Fw z then (Wg z,0) else ((0,0,0,0,0,0,0,0),6)):=by
 have hp:=ca
 have hf:=dp
 have hdg:=aF z.natAbs
 unfold bZ_p
 by_cases hl:8 < (dg z.natAbs).length
 ·have h1:=iH (gH z.natAbs) (by intro e; rw [e] at hl; simp at hl)
  have h2:18446744073709551616 ^ 8 <= 18446744073709551616 ^ ((dg z.natAbs).length - 1):=Nat.pow_le_pow_right (by decide) (by omega)
  have hbig:FB <= z.natAbs:=by unfold FB; omega
  rw [if_pos (show 8 < (L z).fu.length from hl),if_neg fun h:Fw z=>by have:=h.1; have:=h.2; omega]
 ·have hv:=mS (ws:=dg z.natAbs) (by omega)
  rw [if_neg (show ¬ 8 < (L z).fu.length from hl)]
  show ((cr_p n ⟨decide (z < 0),(aQ (dg z.natAbs) 0 0,aQ (dg z.natAbs) 1 0,aQ (dg z.natAbs) 2 0,aQ (dg z.natAbs) 3 0,aQ (dg z.natAbs) 4 0,aQ (dg z.natAbs) 5 0,aQ (dg z.natAbs) 6 0,aQ (dg z.natAbs) 7 0)⟩).bind _) = _
  generalize hT:((aQ (dg z.natAbs) 0 0,aQ (dg z.natAbs) 1 0,aQ (dg z.natAbs) 2 0,aQ (dg z.natAbs) 3 0,aQ (dg z.natAbs) 4 0,aQ (dg z.natAbs) 5 0,aQ (dg z.natAbs) 6 0,aQ (dg z.natAbs) 7 0):T8) = t at *
  rw [hdg] at hv
  unfold cr_p
  obtain ⟨c,ec,c1,c2⟩:=lI n t (0,0,0,0,0,0,0,9223372036854775808) hn
  have hlim:val (wv ((0,0,0,0,0,0,0,9223372036854775808):T8)) = HB:=by decide
  rw [hlim,hv] at c1 c2
  simp only
  rw [ec,ab]
  obtain ⟨s,cc,e,e2,e3⟩:=ig n (0,0,0,0,0,0,0,0) t
  have hz:val (wv ((0,0,0,0,0,0,0,0):T8)) = 0:=rfl
  rw [hz,hv] at e2
  have hs:=wv_lt s
  have neg:z < 0 -> Fw z -> s = Wg z:=fun h0 hw=>by
   refine ii ?_
   have hc:cc.toNat = 1:=by
    by_cases hc0:cc.toNat = 0
    ·rw [hc0] at e2; omega
    ·omega
   rw [hc] at e2
   have e5:z % (FB:Int) = z + FB:=by
    rw [<- Int.add_emod_right]
    exact Int.emod_eq_of_lt (by have:=hw.1; omega) (by omega)
   rw [e5]; omega
  by_cases g1:0 < c
  ·rw [if_pos g1,ab,if_neg fun h:Fw z=>by have:=h.1; have:=h.2; omega]
  ·rw [if_neg g1]
   by_cases g2:c = 0
   ·rw [if_pos g2]
    by_cases h0:z < 0
    ·have hw:Fw z:=⟨by omega,by omega⟩
     rw [if_pos (decide_eq_true h0),e,ab,ab,if_pos hw,neg h0 hw]
    ·rw [if_neg (by simpa using h0),ab,if_neg fun h:Fw z=>by have:=h.2; omega]
   ·rw [if_neg g2]
    by_cases h0:z < 0
    ·have hw:Fw z:=⟨by omega,by omega⟩
     rw [if_pos (decide_eq_true h0),e,ab,ab,if_pos hw,neg h0 hw]
    ·have hw:Fw z:=⟨by omega,by omega⟩
     rw [if_neg (by simpa using h0),ab,if_pos hw]
     rw [show t = Wg z from ii (by rw [Int.emod_eq_of_lt (by omega) (by have:=hw.2; omega)]; omega)]
set_option maxRecDepth 8000
def Sg (q:Rat):Ta:=⟨Wg q.num,Wg q.den⟩
def FQ (q:Rat):Prop:=Fw q.num/\Fw (q.den:Int)
def noS:Ta:=⟨(0,0,0,0,0,0,0,0),(0,0,0,0,0,0,0,0)⟩
theorem Fw.fit {z:Int} (h:Fw z):Fit 8 z:=by
 have h1:=dp
 have h2:=ca
 unfold Fit
 show z.natAbs < FB
 have:=h.1
 have:=h.2
 omega
theorem FQ.n {q:Rat} (h:FQ q):Fit 8 q.num:=h.1.fit
theorem FQ.d {q:Rat} (h:FQ q):Fit 8 (q.den:Int):=h.2.fit
theorem FQ.ndnz {q:Rat}:(q.den:Int) ≠ 0:=by have:=q.den_pos; omega
theorem gB {z:Int} (h:Sm z):Fw z:=by
 have:9223372036854775808 <= HB:=by unfold HB; decide
 unfold Sm at h
 exact ⟨by omega,by omega⟩
theorem W8_Wg {z:Int} (h:Sm z):W8 z = Wg z:=by
 have hp:9223372036854775808 <= HB:=by unfold HB; decide
 have hf:=dp
 refine ii ?_
 unfold W8
 by_cases h0:z < 0
 ·have e5:z % (FB:Int) = z + FB:=by
   rw [<- Int.add_emod_right]
   exact Int.emod_eq_of_lt (by unfold Sm at h; omega) (by omega)
  rw [if_pos h0,e5]
  have hv:val (wv ((ah z,18446744073709551615,18446744073709551615,18446744073709551615,18446744073709551615,18446744073709551615,18446744073709551615,18446744073709551615):T8)) = (ah z).toNat + 18446744073709551616 * val [18446744073709551615,18446744073709551615,18446744073709551615,18446744073709551615,18446744073709551615,18446744073709551615,18446744073709551615]:=rfl
  have hc:18446744073709551616 * val [18446744073709551615,18446744073709551615,18446744073709551615,18446744073709551615,18446744073709551615,18446744073709551615,18446744073709551615] + 18446744073709551616 = FB:=by decide
  rw [hv,eA h h0]
  unfold Sm at h
  omega
 ·rw [if_neg h0,Int.emod_eq_of_lt (by omega) (by unfold Sm at h; omega)]
  have hv:val (wv ((ah z,0,0,0,0,0,0,0):T8)) = (ah z).toNat:=by unfold wv; simp [val]
  rw [hv,eL h h0,bW h.w]
  omega
theorem Sh_Sg {q:Rat} (h1:Sm q.num) (h2:Sm (q.den:Int)):Sh q = Sg q:=by unfold Sh Sg; rw [W8_Wg h1,W8_Wg h2]
theorem Wg_inj {x y:Int} (hx:Fw x) (hy:Fw y) (e:Wg x = Wg y):x = y:=by
 have h1:=dR x
 have h2:=dR y
 rw [e,h2] at h1
 have hf:=dp
 have hp:=ca
 have a:=hx.1; have b:=hx.2; have c:=hy.1; have d:=hy.2
 have e3:=Int.emod_eq_emod_iff_emod_sub_eq_zero.1 h1
 obtain ⟨k,hk⟩:=Int.dvd_of_emod_eq_zero e3
 by_cases k0:k = 0
 ·rw [k0,Int.mul_zero] at hk; omega
 ·by_cases kp:1 <= k
  ·have:(FB:Int) * 1 <= FB * k:=Int.mul_le_mul_of_nonneg_left kp (by omega)
   omega
  ·have:(FB:Int) * k <= FB * (-1):=Int.mul_le_mul_of_nonneg_left (show k <= -1 by omega) (by omega)
   omega
theorem cQ (n:Nat) (q:Rat) (h:FQ q) (hn:10 < n):aM_p n (Sg q) = some (Rt q):=by
 unfold aM_p
 rw [show (Sg q).fN = Wg q.num from I,show (Sg q).fD = Wg q.den from I,kI n _ h.1 hn,ab,kI n _ h.2 hn,ab]
 rfl
open Classical in
theorem rtoldG (n:Nat) (q:Rat) (hn:10 < n):bN_p n (Rt q) = some (if FQ q then (Sg q,0) else (noS,6)):=by
 unfold bN_p
 rw [show (Rt q).fC = L q.num from I,show (Rt q).fA = L q.den from I,toldG n _ hn,ab,toldG n _ hn,ab]
 by_cases h1:Fw q.num
 ·by_cases h2:Fw (q.den:Int)
  ·rw [if_pos h1,if_pos h2,if_pos (show FQ q from ⟨h1,h2⟩)]
   rfl
  ·rw [if_pos h1,if_neg h2,if_neg fun h:FQ q=>h2 h.2]
   rfl
 ·rw [if_neg h1,if_neg fun h:FQ q=>h1 h.1]
  rfl
theorem checkG (n:Nat) (q:Rat) (h:FQ q) (hn:18446744073709551616 < n):dj_p n (Sg q) = some 0:=by
 have hd:=q.den_pos
 unfold dj_p
 rw [from_ok n 1 (by unfold Sm; decide) (by omega),ab,cQ n q h (by omega),ab,show (Rt q).fC = L q.num from I,show (Rt q).fA = L q.den from I,kP,ab,Int.sign_eq_one_of_pos (by omega),if_neg (by decide)]
 rw [ll n 8 _ _ h.n h.d (by decide) hn,ab,show Nat.gcd q.num.natAbs (q.den:Int).natAbs = 1 from q.reduced]
 unfold cX_p
 rw [mZ n 1 _ _ (by unfold Fit; decide) (by unfold Fit; decide) (by omega) (by omega),ab,kP]
 rfl
theorem valid1G (n:Nat) (q:Rat) (h:FQ q) (hn:18446744073709551616 < n):dm_p n (Sg q) = some true:=by
 unfold dm_p; rw [checkG n q h hn]; rfl
theorem validG (n:Nat) (l:La Rat) (h:∀ q ∈ l,FQ q) (hl:l.length < n) (hn:18446744073709551616 < n):aV_p n (l.map Sg) = some true:=by
 have hh:=aw (B:=aV_l1 n (l.map Sg)) (fun i:Nat=>l.length - i) (fun i=>i <= l.length) (fun r=>r = .inr ()) ?_ n 0 (Nat.zero_le _) (by simpa using hl)
 ·obtain ⟨r,e,rfl⟩:=hh
  unfold aV_p
  rw [e]; rfl
 ·intro i J hi hJ
  unfold aV_l1
  simp only
  by_cases h0:i < l.length
  ·rw [if_pos (by simpa using h0),geE (by simpa using h0),ab,List.getElem_map]
   rw [valid1G n _ (h l[i] (List.getElem_mem _)) hn,ab,if_pos I]
   exact hJ (i + 1) h0 (by omega)
  ·rw [if_neg (by simpa using h0)]
   exact ⟨_,I,I⟩
theorem ei (n:Nat) (a b:Rat) (ha:FQ a) (hb:FQ b) (hn:18446744073709551616 < n):aV_p n [Sg a,Sg b] = some true:=
 validG n [a,b] (fun q hq=>by
  rcases List.mem_cons.1 hq with rfl | hq
  ·exact ha
  ·rw [List.mem_singleton.1 hq]; exact hb) (by simp only [leC,leN]; omega) hn
theorem Fit.mul {l m:Nat} {a b:Int} (ha:Fit l a) (hb:Fit m b):Fit (l + m) (a * b):=by
 unfold Fit at *
 rw [Int.natAbs_mul,Nat.pow_add]
 exact Nat.mul_lt_mul'' ha hb
theorem Fit.add {l:Nat} {a b:Int} (ha:Fit l a) (hb:Fit l b):Fit (l + 1) (a + b):=by
 unfold Fit at *
 have:2 * 18446744073709551616 ^ l <= 18446744073709551616 ^ (l + 1):=by rw [Nat.pow_succ,Nat.mul_comm]; exact Nat.mul_le_mul_left _ (by decide)
 omega
theorem Fit.mono {l m:Nat} {a:Int} (ha:Fit l a) (h:l <= m):Fit m a:=Nat.lt_of_lt_of_le ha (Nat.pow_le_pow_right (by decide) h)
structure RF (l:Nat) (q:Rat):Prop where
 n:Fit l q.num
 d:Fit l (q.den:Int)
theorem FQ.rf {q:Rat} (h:FQ q):RF 8 q:=⟨h.n,h.d⟩
theorem RF.of {l:Nat} {a b:Int} (ha:Fit l a) (hb:Fit l b) (h1:(Rat.divInt a b).num.natAbs <= a.natAbs) (h2:(Rat.divInt a b).den <= b.natAbs):RF l (Rat.divInt a b):=
 ⟨Nat.lt_of_le_of_lt h1 ha,by unfold Fit; rw [Int.natAbs_natCast]; exact Nat.lt_of_le_of_lt h2 hb⟩
theorem plusG (n l:Nat) (a b:Rat) (ha:RF l a) (hb:RF l b) (hl:l < 1000) (hn:18446744073709551616 < n):cb_p n (Rt a) (Rt b) = some (Rt (a + b))/\RF (l + l + 1) (a + b):=by
 have d0:(a.den:Int) * b.den ≠ 0:=Int.mul_ne_zero FQ.ndnz FQ.ndnz
 have e:a + b = Rat.divInt (a.num * b.den + b.num * a.den) (a.den * b.den):=by
  conv=>lhs; rw [<- Rat.num_divInt_den a,<- Rat.num_divInt_den b]
  exact Rat.divInt_add_divInt _ _ FQ.ndnz FQ.ndnz
 have f1:=(ha.n.mul hb.d).add (hb.n.mul ha.d)
 have f2:=(ha.d.mul hb.d).mono (show l + l <= l + l + 1 by omega)
 obtain ⟨e1,e2,e3⟩:=iB n (l + l + 1) _ _ f1 f2 d0 (by omega) hn
 rw [<- e] at e1 e2 e3
 refine ⟨?_,?_⟩
 ·unfold cb_p Rt
  rw [cn n l l _ _ ha.n hb.d (by omega) (by omega),ab,cn n l l _ _ hb.n ha.d (by omega) (by omega),ab,dw n (l + l) _ _ (ha.n.mul hb.d) (hb.n.mul ha.d) (by omega) (by omega),ab,cn n l l _ _ ha.d hb.d (by omega) (by omega),ab,e1]
  rfl
 ·rw [e]; rw [e] at e2 e3; exact RF.of f1 f2 e2 e3
theorem timesG (n l:Nat) (a b:Rat) (ha:RF l a) (hb:RF l b) (hl:l < 1000) (hn:18446744073709551616 < n):cv_p n (Rt a) (Rt b) = some (Rt (a * b))/\RF (l + l) (a * b):=by
 have d0:(a.den:Int) * b.den ≠ 0:=Int.mul_ne_zero FQ.ndnz FQ.ndnz
 have e:a * b = Rat.divInt (a.num * b.num) (a.den * b.den):=by
  conv=>lhs; rw [<- Rat.num_divInt_den a,<- Rat.num_divInt_den b]
  exact Rat.divInt_mul_divInt _ _
 have f1:=ha.n.mul hb.n
 have f2:=ha.d.mul hb.d
 obtain ⟨e1,e2,e3⟩:=iB n (l + l) _ _ f1 f2 d0 (by omega) hn
 rw [<- e] at e1 e2 e3
 refine ⟨?_,?_⟩
 ·unfold cv_p Rt
  rw [cn n l l _ _ ha.n hb.n (by omega) (by omega),ab,cn n l l _ _ ha.d hb.d (by omega) (by omega),ab,e1]
  rfl
 ·rw [e]; rw [e] at e2 e3; exact RF.of f1 f2 e2 e3
theorem overG (n l:Nat) (a b:Rat) (ha:RF l a) (hb:RF l b) (h0:b ≠ 0) (hl:l < 1000) (hn:18446744073709551616 < n):cd_p n (Rt a) (Rt b) = some (Rt (a / b))/\RF (l + l) (a / b):=by
 have b0:b.num ≠ 0:=fun e=>h0 (Rat.num_eq_zero.1 e)
 have d0:(a.den:Int) * b.num ≠ 0:=Int.mul_ne_zero FQ.ndnz b0
 have e:a / b = Rat.divInt (a.num * b.den) (a.den * b.num):=by
  conv=>lhs; rw [Rat.div_def,<- Rat.num_divInt_den a,<- Rat.num_divInt_den b,Rat.inv_divInt]
  exact Rat.divInt_mul_divInt _ _
 have f1:=ha.n.mul hb.d
 have f2:=ha.d.mul hb.n
 obtain ⟨e1,e2,e3⟩:=iB n (l + l) _ _ f1 f2 d0 (by omega) hn
 rw [<- e] at e1 e2 e3
 refine ⟨?_,?_⟩
 ·unfold cd_p Rt
  rw [cn n l l _ _ ha.n hb.d (by omega) (by omega),ab,cn n l l _ _ ha.d hb.n (by omega) (by omega),ab,e1]
  rfl
 ·rw [e]; rw [e] at e2 e3; exact RF.of f1 f2 e2 e3
theorem RF.neg {l:Nat} {q:Rat} (h:RF l q):RF l (-q):=⟨by rw [Rat.neg_num]; exact h.n.neg,by rw [Rat.neg_den]; exact h.d⟩
theorem turnedG (n l:Nat) (a:Rat) (ha:RF l a) (hl:l < 1000) (hn:18446744073709551616 < n):aU_p n (Rt a) = some (Rt (-a)):=by
 unfold aU_p Rt
 rw [cg n l _ ha.n (by omega) (by omega),ab,Rat.neg_num,Rat.neg_den]
open Classical in
theorem iP (n:Nat) (q:Rat) (hn:10 < n):aY_p n (Rt q) 0 = some (if FQ q then (Sg q,0) else (noS,6)):=by
 unfold aY_p
 rw [if_pos I,rtoldG n q hn]
 rfl
open Classical in
theorem addG (n:Nat) (a b:Rat) (ha:FQ a) (hb:FQ b) (hn:18446744073709551616 < n):dG_p n (Sg a) (Sg b) = some (if FQ (a + b) then (Sg (a + b),0) else (noS,6)):=by
 obtain ⟨e1,_⟩:=plusG n 8 a b ha.rf hb.rf (by decide) hn
 unfold dG_p
 rw [ei n a b ha hb hn,ab,if_pos I,cQ n a ha (by omega),ab,cQ n b hb (by omega),ab,e1,ab,iP n _ (by omega)]
 rfl
open Classical in
theorem subG (n:Nat) (a b:Rat) (ha:FQ a) (hb:FQ b) (hn:18446744073709551616 < n):dH_p n (Sg a) (Sg b) = some (if FQ (a - b) then (Sg (a - b),0) else (noS,6)):=by
 obtain ⟨e1,_⟩:=plusG n 8 a (-b) ha.rf hb.rf.neg (by decide) hn
 rw [<- Rat.sub_eq_add_neg] at e1
 unfold dH_p
 rw [ei n a b ha hb hn,ab,if_pos I,cQ n a ha (by omega),ab,cQ n b hb (by omega),ab]
 unfold cK_p
 rw [turnedG n 8 b hb.rf (by decide) hn,ab,e1,ab,ab,iP n _ (by omega)]
 rfl
open Classical in
theorem mulG (n:Nat) (a b:Rat) (ha:FQ a) (hb:FQ b) (hn:18446744073709551616 < n):dE_p n (Sg a) (Sg b) = some (if FQ (a * b) then (Sg (a * b),0) else (noS,6)):=by
 obtain ⟨e1,_⟩:=timesG n 8 a b ha.rf hb.rf (by decide) hn
 unfold dE_p
 rw [ei n a b ha hb hn,ab,if_pos I,cQ n a ha (by omega),ab,cQ n b hb (by omega),ab,e1,ab,iP n _ (by omega)]
 rfl
theorem Wg_zero:Wg 0 = (0,0,0,0,0,0,0,0):=(ii (by decide)).symm
open Classical in
theorem divG (n:Nat) (a b:Rat) (ha:FQ a) (hb:FQ b) (h0:b ≠ 0) (hn:18446744073709551616 < n):dC_p n (Sg a) (Sg b) = some (if FQ (a / b) then (Sg (a / b),0) else (noS,6)):=by
 obtain ⟨e1,_⟩:=overG n 8 a b ha.rf hb.rf h0 (by decide) hn
 have hz:Fw 0:=⟨by have:=ca; omega,by have:=ca; omega⟩
 unfold dC_p
 rw [ei n a b ha hb hn,ab,if_pos I,if_neg (show ¬ (Sg b).fN = (0,0,0,0,0,0,0,0) from fun e=>h0 (Rat.num_eq_zero.1 (Wg_inj hb.1 hz (e.trans Wg_zero.symm)))),ab,if_pos I,cQ n a ha (by omega),ab,cQ n b hb (by omega),ab,e1,ab,iP n _ (by omega)]
 rfl
set_option maxRecDepth 8000
theorem quoI_ok {x y:Int} (h:y ≠ 0) (h1:-9223372036854775808 <= x.tdiv y) (h2:x.tdiv y <= 9223372036854775807):cL x y = some (x.tdiv y):=by
 unfold cL; rw [if_neg h,aN h1 h2]
theorem mG (n:Nat) (a b:La Int) (hda:Dig a) (hdb:Dig b) (hn:a.length + 1 < n/\b.length + 1 < n) (hl:a.length < 100000/\b.length < 100000):∃ xs,bq_p n a b = some xs/\Dig xs/\xs.length <= max a.length b.length + 1/\dv xs = dv a + dv b:=by
 have h:=aw (B:=bq_l1 n a b) (fun s:Int × Int × La Int=>max a.length b.length + 1 - s.2.2.length)
  (fun s=>s.2.1 = (s.2.2.length:Int)/\s.2.2.length <= max a.length b.length + 1/\(0 <= s.1/\s.1 <= 1)/\Dig s.2.2/\dv s.2.2 + 4294967296 ^ s.2.2.length * s.1.toNat = dv (a.take s.2.2.length) + dv (b.take s.2.2.length)/\(s.2.2.length = max a.length b.length + 1 -> s.1 = 0))
  (fun xs:La Int=>Dig xs/\xs.length <= max a.length b.length + 1/\dv xs = dv a + dv b) ?_ n (0,0,[]) ⟨rfl,by simp,by simp,eB,by simp [dv],fun _=>rfl⟩ (by simp only [leN]; omega)
 ·obtain ⟨xs,e,h⟩:=h
  unfold bq_p
  rw [e,ab]
  exact ⟨xs,I,h⟩
 ·rintro ⟨c,z,xs⟩ J ⟨h1,h2,h3,h4,h5,h6⟩ hJ
  simp only at h1 h2 h3 h4 h5 h6 hJ
  subst h1
  unfold bq_l1 jn
  simp only
  have step:∀ v:Int,0 <= v -> v < 8589934592 -> v.toNat = c.toNat + (a[xs.length]?.getD 0).toNat + (b[xs.length]?.getD 0).toNat -> xs.length <= max a.length b.length -> (xs.length = max a.length b.length -> v <= 1) -> ∃ r,J (v / 4294967296,((xs.length:Nat):Int) + 1,xs ++ [v % 4294967296]) = some r/\Dig r/\r.length <= max a.length b.length + 1/\dv r = dv a + dv b:=fun v v0 v1 hv hk hc=>by
   refine hJ _ ⟨by simp,by simp only [List.length_append,leC,leN]; omega,by simp only; omega,dh h4 (by omega),?_,fun e=>?_⟩ (by simp only [List.length_append,leC,leN]; omega)
   ·simp only [List.length_append,leC,leN,Nat.zero_add]
    rw [ek,eF a,eF b,Nat.pow_succ]
    have e1:(v % 4294967296).toNat + 4294967296 * (v / 4294967296).toNat = c.toNat + (a[xs.length]?.getD 0).toNat + (b[xs.length]?.getD 0).toNat:=by omega
    have e2:=congrArg (4294967296 ^ xs.length * ·) e1
    simp only [Nat.mul_add] at e2
    rw [Nat.mul_assoc]
    omega
   ·simp only [List.length_append,leC,leN] at e
    have:=hc (by omega)
    simp only; omega
  have q0:∀ v:Int,0 <= v -> v < 8589934592 -> cL v 4294967296 = some (v / 4294967296):=fun v v0 v1=>by
   have e:v.tdiv 4294967296 = v / 4294967296:=Int.tdiv_eq_ediv_of_nonneg v0
   rw [quoI_ok (by decide) (by rw [e]; omega) (by rw [e]; omega),e]
  have m0:∀ v:Int,0 <= v -> ci v 4294967296 = some (v % 4294967296):=fun v v0=>by
   rw [ce (by decide),Int.tmod_eq_emod_of_nonneg v0]
  have hlen:xs.length + 1 <= 1000000:=by omega
  by_cases ha:xs.length < a.length
  ·have da:=hda a[xs.length] (List.getElem_mem _)
   rw [if_pos (by omega),aY (by omega) (by simpa using ha),ab]
   simp only [Int.toNat_natCast]
   rw [aN (by omega) (by omega),ab]
   by_cases hb:xs.length < b.length
   ·have db:=hdb b[xs.length] (List.getElem_mem _)
    rw [if_pos (by omega),aY (by omega) (by simpa using hb),ab]
    simp only [Int.toNat_natCast]
    rw [aN (by omega) (by omega),ab,m0 _ (by omega),ab,cC _ _ (by simpa using hlen),ab,q0 _ (by omega) (by omega),ab,aN (by omega) (by omega),ab]
    exact step _ (by omega) (by omega) (by rw [geE ha,geE hb]; simp only [Option.getD_some]; omega) (by omega) (by omega)
   ·rw [if_neg (by omega),m0 _ (by omega),ab,cC _ _ (by simpa using hlen),ab,q0 _ (by omega) (by omega),ab,aN (by omega) (by omega),ab]
    exact step _ (by omega) (by omega) (by rw [geE ha,List.getElem?_eq_none (by omega)]; simp only [Option.getD_some,Option.getD_none]; omega) (by omega) (by omega)
  ·rw [if_neg (by omega)]
   by_cases hb:xs.length < b.length
   ·have db:=hdb b[xs.length] (List.getElem_mem _)
    rw [if_pos (by omega),aY (by omega) (by simpa using hb),ab]
    simp only [Int.toNat_natCast]
    rw [aN (by omega) (by omega),ab,m0 _ (by omega),ab,cC _ _ (by simpa using hlen),ab,q0 _ (by omega) (by omega),ab]
    exact step _ (by omega) (by omega) (by rw [List.getElem?_eq_none (by omega),geE hb]; simp only [Option.getD_some,Option.getD_none]; omega) (by omega) (by omega)
   ·rw [if_neg (by omega)]
    by_cases hc:0 < c
    ·rw [if_pos hc,m0 _ (by omega),ab,cC _ _ (by simpa using hlen),ab,q0 _ (by omega) (by omega),ab,aN (by omega) (by omega),ab]
     exact step _ (by omega) (by omega) (by rw [List.getElem?_eq_none (by omega),List.getElem?_eq_none (by omega)]; simp only [Option.getD_none]; omega) (by omega) (by omega)
    ·rw [if_neg hc]
     have c0:c = 0:=by omega
     rw [c0,List.take_of_length_le (by omega),List.take_of_length_le (by omega)] at h5
     exact ⟨_,rfl,h4,h2,by simpa using h5⟩
def FtR (l:Nat) (z:Int):Prop:=z.natAbs < 4294967296 ^ l
theorem FtR.len {l:Nat} {z:Int} (h:FtR l z):(rd z.natAbs).length <= l:=cy h
theorem FtR.neg {l:Nat} {z:Int} (h:FtR l z):FtR l (-z):=by unfold FtR at *; rwa [Int.natAbs_neg]
theorem FtR.mono {l m:Nat} {z:Int} (h:FtR l z) (hm:l <= m):FtR m z:=Nat.lt_of_lt_of_le h (Nat.pow_le_pow_right (by decide) hm)
theorem FtR.mul {l m:Nat} {a b:Int} (ha:FtR l a) (hb:FtR m b):FtR (l + m) (a * b):=by
 unfold FtR at *
 rw [Int.natAbs_mul,Nat.pow_add]
 exact Nat.mul_lt_mul'' ha hb
theorem FtR.add {l:Nat} {a b:Int} (ha:FtR l a) (hb:FtR l b):FtR (l + 1) (a + b):=by
 unfold FtR at *
 rw [Nat.pow_succ]
 omega
theorem jp (n l a b:Nat) (s:Bool) (h:a <= b) (hl:(rd b).length <= l) (hn:l < n) (hl2:l < 10000):((aq_p n (rd b) (rd a)).bind fun y67=>(ae_p n s y67).bind fun y75=>some y75) = some (R8 (sg s (b - a:Nat))):=by
 have hle:=Nat.le_trans (cP (Nat.sub_le b a)) hl
 rw [gA n (rd b) (rd a) (aE _) (aE _) (cP h) (by rw [aM,aM]; exact h) (by omega) (by omega),ab,aM,aM,cd n _ _ (aE _) (by omega) (by omega),ab,aM,nr]
theorem jg (n l:Nat) (a b:Int) (ha:FtR l a) (hb:FtR l b) (hn:l + 1 < n) (hl:l < 10000):bc_p n (R8 a) (R8 b) = some (R8 (a + b)):=by
 unfold bc_p
 have h1:=ha.len
 have h2:=hb.len
 by_cases h:((R8 a).fh == (R8 b).fh) = true
 ·rw [if_pos h]
  obtain ⟨xs,e1,e4,e2,e3⟩:=mG n (rd a.natAbs) (rd b.natAbs) (aE _) (aE _) ⟨by omega,by omega⟩ ⟨by omega,by omega⟩
  rw [show (R8 a).fD = rd a.natAbs from I,show (R8 b).fD = rd b.natAbs from I,e1,ab,cd n _ _ e4 (by omega) (by omega),ab,e3,aM,aM,nr]
  refine congrArg (fun x=>some (R8 x)) ?_
  have h3:decide (a < 0) = decide (b < 0):=eq_of_beq h
  show sg (decide (a < 0)) _ = _
  unfold sg
  by_cases h4:a < 0 <;> by_cases h5:b < 0 <;> simp [h4,h5] at h3 ⊢ <;> omega
 ·rw [if_neg h]
  obtain ⟨c,e1,e2,e3⟩:=gC n (rd a.natAbs) (rd b.natAbs) (aE _) (aE _) (fW _) (fW _) (by omega) (by omega)
  have h3:decide (a < 0) ≠ decide (b < 0):=fun e=>h (by rw [beq_iff_eq]; exact e)
  rw [aM,aM] at e2
  rw [show (R8 a).fD = rd a.natAbs from I,show (R8 b).fD = rd b.natAbs from I,e1,ab]
  by_cases hc:0 <= c
  ·rw [if_pos hc,jp n l _ _ _ (by omega) h1 (by omega) hl]
   refine congrArg (fun x=>some (R8 x)) ?_
   show sg (decide (a < 0)) _ = _
   unfold sg
   by_cases h4:a < 0 <;> by_cases h5:b < 0 <;> simp [h4,h5] at h3 ⊢ <;> omega
  ·rw [if_neg hc,jp n l _ _ _ (by omega) h2 (by omega) hl]
   refine congrArg (fun x=>some (R8 x)) ?_
   show sg (decide (b < 0)) _ = _
   unfold sg
   by_cases h4:a < 0 <;> by_cases h5:b < 0 <;> simp [h4,h5] at h3 ⊢ <;> omega
/-! ### Products -/
theorem nz {xs:La Int} {i:Nat} (s:Int) (h:i < xs.length):dv ((xs.set i s).take (i + 1)) = dv (xs.take i) + 4294967296 ^ i * s.toNat:=by
 rw [bT _ (by simpa using h),List.getElem_set_self,List.take_set_of_le (Nat.le_refl _)]
theorem iO (w:Ua):aC (w % (4294967296:Ua)) = ((w.toNat % 4294967296:Nat):Int):=by
 have:=w.toNat_lt
 unfold aC
 rw [UInt64.toNat_mod,if_pos (by simp; omega)]
 rfl
theorem kQ (w:Ua):aC (w / (4294967296:Ua)) = ((w.toNat / 4294967296:Nat):Int):=by
 have:=w.toNat_lt
 unfold aC
 rw [UInt64.toNat_div,if_pos (by simp; omega)]
 rfl
theorem gj {x:Int} (h:0 <= x/\x < 4294967296):(ah x).toNat = x.toNat:=by
 unfold ah
 rw [UInt64.toNat_ofNat']; omega
theorem prod_in (n:Nat) (a b:La Int) (hda:Dig a) (hdb:Dig b) (i:Nat) (hia:i < a.length) (xs0:La Int) (hd0:Dig xs0) (hi:i + b.length < xs0.length) (hn:b.length < n) :
  ∃ xs u,au (ay_l1 n b i a) n (0,0,xs0) = some (xs,u)/\xs.length = xs0.length/\Dig xs/\u.toNat < 4294967296/\dv (xs.take (i + b.length)) + 4294967296 ^ (i + b.length) * u.toNat = dv (xs0.take (i + b.length)) + a[i].toNat * dv b * 4294967296 ^ i:=by
 have da:=hda a[i] (List.getElem_mem _)
 have h:=aw (B:=ay_l1 n b i a) (fun s:Ua × Nat × La Int=>b.length - s.2.1) (fun s=>s.2.1 <= b.length/\s.2.2.length = xs0.length/\(∀ k,i + s.2.1 <= k -> s.2.2[k]? = xs0[k]?)/\Dig s.2.2/\s.1.toNat < 4294967296/\dv (s.2.2.take (i + s.2.1)) + 4294967296 ^ (i + s.2.1) * s.1.toNat = dv (xs0.take (i + s.2.1)) + a[i].toNat * dv (b.take s.2.1) * 4294967296 ^ i)
  (fun r:La Int × Ua=>r.1.length = xs0.length/\Dig r.1/\r.2.toNat < 4294967296/\dv (r.1.take (i + b.length)) + 4294967296 ^ (i + b.length) * r.2.toNat = dv (xs0.take (i + b.length)) + a[i].toNat * dv b * 4294967296 ^ i) ?_ n (0,0,xs0) ⟨by simp,rfl,fun _ _=>rfl,hd0,by simp,by simp [dv]⟩ (by simpa using hn)
 ·obtain ⟨⟨xs,u⟩,h1,h2⟩:=h; exact ⟨xs,u,h1,h2⟩
 ·rintro ⟨u,j,xs⟩ J ⟨h1,h2,h3,hd,hu,h4⟩ hJ
  simp only at h1 h2 h3 h4 hd hu hJ
  unfold ay_l1
  simp only
  by_cases hj:j < b.length
  ·have db:=hdb b[j] (List.getElem_mem _)
   have hx:i + j < xs.length:=by omega
   have dx:=hd (xs[i + j]'hx) (List.getElem_mem _)
   have hx0:xs[i + j]'hx = xs0[i + j]'(by omega):=by
    have:=h3 (i + j) (by omega)
    rw [geE (by omega),geE (by omega)] at this
    exact Option.some.inj this
   have bx:a[i].toNat * b[j].toNat <= 4294967295 * 4294967295:=Nat.mul_le_mul (by omega) (by omega)
   have ev:((u + ah (xs[i + j]'hx)) + (ah a[i]) * (ah b[j])).toNat = u.toNat + (xs[i + j]'hx).toNat + a[i].toNat * b[j].toNat:=by
    rw [UInt64.toNat_add,UInt64.toNat_add,UInt64.toNat_mul,gj dx,gj da,gj db]
    rw [Nat.mod_eq_of_lt (show a[i].toNat * b[j].toNat < 2 ^ 64 by omega),Nat.mod_eq_of_lt (show u.toNat + (xs[i + j]'hx).toNat < 2 ^ 64 by omega),Nat.mod_eq_of_lt (by omega)]
   rw [if_pos hj,geE hx,ab,geE hia,ab,geE hj,ab,bh _ hx,ab,iO,ev]
   have ed:(((u + ah (xs[i + j]'hx)) + (ah a[i]) * (ah b[j])) / (4294967296:Ua)).toNat = (u.toNat + (xs[i + j]'hx).toNat + a[i].toNat * b[j].toNat) / 4294967296:=by
    rw [UInt64.toNat_div,ev]; rfl
   generalize (u + ah (xs[i + j]'hx) + ah a[i] * ah b[j]) / (4294967296:Ua) = u' at *
   refine hJ (u', j + 1,_) ⟨hj,by simpa using h2,fun k hk=>?_,fun x hxm=>?_,by simp only; omega,?_⟩ (by simp only; omega)
   ·simp only at hk ⊢
    rw [List.getElem?_set_ne (by omega)]; exact h3 k (by omega)
   ·rcases List.mem_or_eq_of_mem_set hxm with hm | rfl
    ·exact hd x hm
    ·omega
   ·simp only
    rw [<- Nat.add_assoc,nz _ hx,bT xs0 (by omega),bT b hj,<- hx0,Nat.pow_succ,ed]
    rw [Nat.pow_add] at h4 ⊢
    rw [Int.toNat_natCast]
    generalize (xs[i + j]'hx).toNat = x at *
    generalize a[i].toNat = y at *
    generalize b[j].toNat = w at *
    have hv:=Nat.mod_add_div (u.toNat + x + y * w) 4294967296
    generalize (u.toNat + x + y * w) % 4294967296 = m at *
    generalize (u.toNat + x + y * w) / 4294967296 = q at *
    have e2:=congrArg (4294967296 ^ i * 4294967296 ^ j * ·) hv
    simp only [Nat.mul_add] at e2
    grind
  ·rw [if_neg hj]
   have:j = b.length:=by omega
   subst this
   refine ⟨_,I,h2,hd,hu,?_⟩
   simp only
   rw [h4,List.take_length]
theorem jR (n:Nat) (a b:La Int) (hda:Dig a) (hdb:Dig b) (hn:a.length + b.length + 1 < n) (hl:a.length + b.length <= 100000):ay_p n a b = some (rd (dv a * dv b)):=by
 have h:=aw (B:=ay_l2 n a b) (fun s:Nat × La Int=>a.length - s.1) (fun s=>s.1 <= a.length/\s.2.length = a.length + b.length/\Dig s.2/\dv (s.2.take (s.1 + b.length)) = dv (a.take s.1) * dv b)
  (fun r:La Int=>r.length = a.length + b.length/\Dig r/\dv r = dv a * dv b) ?_ n (0,List.replicate (a.length + b.length) 0) ⟨by simp,by simp,fun x hx=>(by rw [(List.mem_replicate.1 hx).2]; exact ⟨Int.le_refl _,by decide⟩),?_⟩ (by simp only; omega)
 ·obtain ⟨xs,h1,h2,h3,h4⟩:=h
  unfold ay_p
  rw [cT _ _ (by omega),ab,h1,ab,dI n xs h3 (by omega) (by omega),ab,h4]
 ·rintro ⟨i,xs⟩ J ⟨h1,h2,hd,h3⟩ hJ
  simp only at h1 h2 h3 hd hJ
  unfold ay_l2
  simp only
  by_cases hi:i < a.length
  ·obtain ⟨ys,u,e1,e2,e3,e4,e5⟩:=prod_in n a b hda hdb i hi xs hd (by omega) (by omega)
   rw [if_pos hi,e1,ab]
   simp only
   have hu:aC u = ((u.toNat:Nat):Int):=by unfold aC; rw [if_pos (by omega)]
   rw [geE (by omega),ab,bh _ (by omega),ab,hu]
   refine hJ (i + 1,ys.set (i + b.length) ((u.toNat:Nat):Int)) ⟨hi,by simp; omega,fun x hxm=>?_,?_⟩ (by simp only; omega)
   ·rcases List.mem_or_eq_of_mem_set hxm with hm | rfl
    ·exact e3 x hm
    ·omega
   ·simp only
    rw [show i + 1 + b.length = i + b.length + 1 by omega,nz _ (by omega),bT a hi,Int.toNat_natCast,e5,h3]
    grind
  ·rw [if_neg hi]
   have:i = a.length:=by omega
   subst this
   rw [List.take_length,bs (by omega)] at h3
   exact ⟨xs,I,h2,hd,h3⟩
 ·simp only [List.take_zero,dv,Nat.zero_mul]
  exact dY _ fun x hx=>(List.mem_replicate.1 (List.mem_of_mem_take hx)).2
theorem bn (n l m:Nat) (a b:Int) (ha:FtR l a) (hb:FtR m b) (hn:20000 < n) (hl:l + m < 10000):aE_p n (R8 a) (R8 b) = some (R8 (a * b)):=by
 unfold aE_p
 have h1:=ha.len
 have h2:=hb.len
 have h5:=(ha.mul hb).len
 rw [Int.natAbs_mul] at h5
 rw [show (R8 a).fD = rd a.natAbs from I,show (R8 b).fD = rd b.natAbs from I,jR n _ _ (aE _) (aE _) (by omega) (by omega),ab,aM,aM,cd n _ _ (aE _) (by omega) (by omega),ab,aM,nr]
 refine congrArg (fun x=>some (R8 x)) ?_
 show sg (!(decide (a < 0) == decide (b < 0))) _ = _
 conv=>rhs; rw [kN a,kN b]
 unfold sg
 by_cases h3:a < 0 <;> by_cases h4:b < 0 <;> simp [h3,h4,Int.neg_mul,Int.mul_neg,Int.neg_mul_neg]
set_option maxRecDepth 8000
def hvs:La Ua -> La Int
 | []=>[]
 | w :: ws=>aC (w % (4294967296:Ua)) :: aC (w / (4294967296:Ua)) :: hvs ws
theorem kJ:∀ xs ys:La Ua,hvs (xs ++ ys) = hvs xs ++ hvs ys
 | [],_=>rfl
 | x :: xs,ys=>by show _ :: _ :: hvs (xs ++ ys) = _; rw [kJ xs ys]; rfl
theorem iL:∀ ws:La Ua,Dig (hvs ws)
 | []=>eB
 | w :: ws=>fun x hx=>by
  have hw:=w.toNat_lt
  rcases List.mem_cons.1 hx with rfl | hx
  ·rw [iO]; omega
  ·rcases List.mem_cons.1 hx with rfl | hx
   ·rw [kQ]; omega
   ·exact iL ws x hx
theorem kx:∀ ws:La Ua,dv (hvs ws) = val ws
 | []=>rfl
 | w :: ws=>by
  show (aC (w % (4294967296:Ua))).toNat + 4294967296 * ((aC (w / (4294967296:Ua))).toNat + 4294967296 * dv (hvs ws)) = w.toNat + 18446744073709551616 * val ws
  rw [kx ws,iO,kQ,Int.toNat_natCast,Int.toNat_natCast]
  omega
theorem iG:∀ ws:La Ua,(hvs ws).length = 2 * ws.length
 | []=>rfl
 | w :: ws=>by show (hvs ws).length + 1 + 1 = 2 * (ws.length + 1); rw [iG ws]; omega
theorem lK (n:Nat) (t:T8) (hn:10 < n):ba_p n t = some (hvs (wv t)):=by
 have hl:(wv t).length = 8:=rfl
 have h:=aw (B:=ba_l1 n t) (fun s:Nat × La Int=>8 - s.1) (fun s=>s.1 <= 8/\s.2 = hvs ((wv t).take s.1)) (fun r=>r = hvs (wv t)) ?_ n (0,[]) ⟨Nat.zero_le _,rfl⟩ (by simp only; omega)
 ·obtain ⟨y,e,rfl⟩:=h
  unfold ba_p
  rw [e,ab]
 ·rintro ⟨i,xs⟩ J ⟨h1,h2⟩ hJ
  simp only at h1 h2 hJ
  subst h2
  unfold ba_l1
  simp only
  by_cases hi:i < 8
  ·rw [if_pos hi]
   show ∃ r,(((wv t)[i]?).bind fun z90=>(app (hvs ((wv t).take i)) ([aC (z90 % (4294967296:Ua)),aC (z90 / (4294967296:Ua))]:La Int)).bind fun xs99=>J (i + 1,xs99)) = some r/\_
   have next:=hJ (i + 1,hvs ((wv t).take (i + 1))) ⟨hi,rfl⟩ (by simp only; omega)
   rw [List.take_succ_eq_append_getElem (by omega),kJ] at next
   rw [geE (by omega),ab,cC _ _ (by rw [iG,List.length_take]; simp only [leC,leN]; omega),ab]
   exact next
  ·rw [if_neg hi]
   exact ⟨_,rfl,by rw [List.take_of_length_le (by omega)]⟩
theorem mM (t:T8):t.2.2.2.2.2.2.2 < (9223372036854775808:Ua) ↔ val (wv t) < HB:=by
 have h:=gl t
 have hs:(shrU t.2.2.2.2.2.2.2 63).toNat = t.2.2.2.2.2.2.2.toNat / 9223372036854775808:=bS _ (by decide)
 have ht:=t.2.2.2.2.2.2.2.toNat_lt
 have hsw:shrU t.2.2.2.2.2.2.2 63 = 1 ↔ 9223372036854775808 <= t.2.2.2.2.2.2.2.toNat:=by
  constructor
  ·intro h
   have:=congrArg UInt64.toNat h
   rw [hs] at this
   simp only [UInt64.toNat_one] at this
   omega
  ·intro h
   refine UInt64.toNat_inj.1 ?_
   rw [hs]
   simp only [UInt64.toNat_one]
   omega
 rw [UInt64.lt_iff_toNat_lt,show (9223372036854775808:Ua).toNat = 9223372036854775808 from I]
 rw [hsw] at h
 omega
theorem dQ:FB = 4294967296 ^ 16:=by unfold FB; decide
theorem HB_dig:HB = 4294967296 ^ 15 * 2147483648:=by unfold HB; decide
theorem mr (l j:Nat) (v:Int) (h:j < l) (hv:0 <= v/\v < 4294967296):dv ((List.replicate l (0:Int)).set j v) = 4294967296 ^ j * v.toNat/\Dig ((List.replicate l (0:Int)).set j v):=by
 have hz:dv (List.replicate l (0:Int)) = 0:=dY _ fun x hx=>(List.mem_replicate.1 hx).2
 have hp:=kn (xs:=List.replicate l (0:Int)) v (show j < (List.replicate l (0:Int)).length by simpa using h)
 rw [hz,List.getElem_replicate] at hp
 refine ⟨by simpa using hp,fun x hx=>?_⟩
 rcases List.mem_or_eq_of_mem_set hx with hm | rfl
 ·rw [(List.mem_replicate.1 hm).2]; exact ⟨Int.le_refl _,by decide⟩
 ·exact hv
theorem gI {α:Type} (f:La Int -> Oa α):((mk 17 (0:Int)).bind fun xs42=>(xs42[16]?).bind fun _=>(put xs42 ((16:Nat):Int) (1:Int)).bind f) = f ((List.replicate 17 (0:Int)).set 16 1):=rfl
theorem dO (n m:Nat) (hm:m <= FB) (h0:0 < m) (hn:20000 < n):aq_p n ((List.replicate 17 (0:Int)).set 16 1) (rd m) = some (rd (FB - m)):=by
 obtain ⟨w1,w2⟩:=mr 17 16 1 (by decide) (by decide)
 have e:dv ((List.replicate 17 (0:Int)).set 16 1) = FB:=by rw [w1,dQ]; rfl
 have hl:(rd m).length <= 17:=cy (Nat.lt_of_le_of_lt hm (by rw [dQ]; decide))
 rw [gA n _ _ w2 (aE _) (by rw [List.length_set,List.length_replicate]; exact hl) (by rw [e,aM]; exact hm) (by rw [List.length_set,List.length_replicate]; omega) (by rw [List.length_set,List.length_replicate]; omega),e,aM]
theorem je (n:Nat) (z:Int) (h:Fw z) (hn:20000 < n):ar_p n (Wg z) = some (R8 z):=by
 have hf:=dp
 have hp:=ca
 have hl:(hvs (wv (Wg z))).length = 16:=iG _
 unfold ar_p
 rw [lK n _ (by omega),ab]
 by_cases hz:z < 0
 ·have hv:=kc h hz
  have h1:=h.1
  rw [if_neg (fun hc=>by have:=(mM _).1 hc; omega)]
  have hw:=gI (fun xs61=>(aA_p n (hvs (wv (Wg z)))).bind fun y67=>(aq_p n xs61 y67).bind fun y76=>(ae_p n true y76).bind fun y90=>some y90)
  refine hw.trans ?_
  rw [dI n _ (iL _) (by omega) (by omega),ab,kx,dO n _ (by omega) (by omega) hn,ab,show FB - val (wv (Wg z)) = z.natAbs by omega,cd n _ _ (aE _) (by have:=cy (m:=z.natAbs) (l:=17) (Nat.lt_of_le_of_lt (show z.natAbs <= FB by omega) (by rw [dQ]; decide)); omega) (by have:=cy (m:=z.natAbs) (l:=17) (Nat.lt_of_le_of_lt (show z.natAbs <= FB by omega) (by rw [dQ]; decide)); omega),ab,aM]
  unfold R8
  rw [decide_eq_true hz,decide_eq_true (show 0 < z.natAbs by omega)]
  rfl
 ·have hv:=kw h (by omega)
  have h1:=h.2
  rw [if_pos ((mM _).2 (by omega)),cd n _ _ (iL _) (by omega) (by omega),ab,kx,hv]
  unfold R8
  rw [decide_eq_false hz]
  rfl
/-! ### Told -/
theorem wv_setA (t:T8) (m:Nat) (hm:m < 8) (v:Ua):wv (az m 0 v t.1,az m 1 v t.2.1,az m 2 v t.2.2.1,az m 3 v t.2.2.2.1,az m 4 v t.2.2.2.2.1,az m 5 v t.2.2.2.2.2.1,az m 6 v t.2.2.2.2.2.2.1,az m 7 v t.2.2.2.2.2.2.2) = (wv t).set m v:=by
 obtain ⟨t1,t2,t3,t4,t5,t6,t7,t8⟩:=t
 match m,hm with
 | 0,_=>rfl
 | 1,_=>rfl
 | 2,_=>rfl
 | 3,_=>rfl
 | 4,_=>rfl
 | 5,_=>rfl
 | 6,_=>rfl
 | 7,_=>rfl
theorem lj (m:Nat):4294967296 ^ (2 * m) = 18446744073709551616 ^ m:=by
 rw [Nat.pow_mul]
theorem jN (n:Nat) (ys:La Int) (hd:Dig ys) (hl:ys.length <= 16) (hn:20 < n):∃ t:T8,au (aG_l2 n ys) n (0,(0:Ua),(0:Ua),(0:Ua),(0:Ua),(0:Ua),(0:Ua),(0:Ua),(0:Ua)) = some t/\val (wv t) = dv ys:=by
 refine aw (B:=aG_l2 n ys) (fun s:Nat × T8=>ys.length - s.1) (fun s=>s.1 <= ys.length/\val (wv s.2) = dv (ys.take s.1)/\(∀ k (h:k < (wv s.2).length),(s.1 + 1) / 2 <= k -> (wv s.2)[k] = 0)/\(s.1 % 2 = 1 -> ∀ (h:s.1 / 2 < (wv s.2).length),(wv s.2)[s.1 / 2].toNat < 4294967296)) (fun t=>val (wv t) = dv ys) ?_ n (0,((0,0,0,0,0,0,0,0):T8)) ⟨Nat.zero_le _,rfl,fun k hk _=>?_,fun h=>(by cases h)⟩ (by simp only; omega)
 ·rintro ⟨i,t⟩ J ⟨h1,h2,h3,h4⟩ hJ
  simp only at h1 h2 h3 h4 hJ
  obtain ⟨t1,t2,t3,t4,t5,t6,t7,t8⟩:=t
  have e8:(wv (t1,t2,t3,t4,t5,t6,t7,t8)).length = 8:=rfl
  unfold aG_l2
  simp only
  by_cases hi:i < ys.length
  ·have hm:i / 2 < (wv (t1,t2,t3,t4,t5,t6,t7,t8)).length:=by rw [e8]; omega
   have dy:=hd ys[i] (List.getElem_mem _)
   have hu:=gj dy
   have hset:=fun v=>wv_setA (t1,t2,t3,t4,t5,t6,t7,t8) (i / 2) (by omega) v
   rw [if_pos hi]
   show ∃ r,(((wv (t1,t2,t3,t4,t5,t6,t7,t8))[i / 2]?).bind fun z340=>(ys[i]?).bind fun x342=>(chk (32 * ((i % 2:Nat):Int))).bind fun s351=>(bE s351).bind fun k352=>J (i + 1,az (i / 2) 0 (z340 + (shlU (ah x342) k352)) t1,az (i / 2) 1 (z340 + (shlU (ah x342) k352)) t2,az (i / 2) 2 (z340 + (shlU (ah x342) k352)) t3,az (i / 2) 3 (z340 + (shlU (ah x342) k352)) t4,az (i / 2) 4 (z340 + (shlU (ah x342) k352)) t5,az (i / 2) 5 (z340 + (shlU (ah x342) k352)) t6,az (i / 2) 6 (z340 + (shlU (ah x342) k352)) t7,az (i / 2) 7 (z340 + (shlU (ah x342) k352)) t8)) = some r/\_
   have key:∀ v:Ua,(wv (t1,t2,t3,t4,t5,t6,t7,t8))[i / 2].toNat <= v.toNat -> 18446744073709551616 ^ (i / 2) * (v.toNat - (wv (t1,t2,t3,t4,t5,t6,t7,t8))[i / 2].toNat) = 4294967296 ^ i * ys[i].toNat -> (i % 2 = 0 -> v.toNat < 4294967296) -> ∃ r,J (i + 1,az (i / 2) 0 v t1,az (i / 2) 1 v t2,az (i / 2) 2 v t3,az (i / 2) 3 v t4,az (i / 2) 4 v t5,az (i / 2) 5 v t6,az (i / 2) 6 v t7,az (i / 2) 7 v t8) = some r/\val (wv r) = dv ys:=fun v hv1 hv2 hv3=>by
    refine hJ (i + 1,(az (i / 2) 0 v t1,az (i / 2) 1 v t2,az (i / 2) 2 v t3,az (i / 2) 3 v t4,az (i / 2) 4 v t5,az (i / 2) 5 v t6,az (i / 2) 6 v t7,az (i / 2) 7 v t8)) ⟨hi,?_,fun k hk hk2=>?_,fun hp hk=>?_⟩ (by simp only; omega)
    ·have hput:=dH (xs:=wv (t1,t2,t3,t4,t5,t6,t7,t8)) (j:=i / 2) v (by omega)
     have hs:=hset v
     simp only at hs ⊢
     rw [hs,bT ys hi,<- h2,<- hv2]
     have:=Nat.mul_sub (18446744073709551616 ^ (i / 2)) v.toNat (wv (t1,t2,t3,t4,t5,t6,t7,t8))[i / 2].toNat
     have:=Nat.mul_le_mul_left (18446744073709551616 ^ (i / 2)) hv1
     omega
    ·have hs:=hset v
     simp only at hs hk hk2 ⊢
     simp only [hs]
     rw [List.getElem_set_ne (by omega)]
     exact h3 k (by rw [hs,List.length_set] at hk; exact hk) (by omega)
    ·have hs:=hset v
     simp only at hs hk hp ⊢
     have hq:(i + 1) / 2 = i / 2:=by omega
     simp only [hs,hq]
     rw [List.getElem_set_self]
     exact hv3 (by omega)
   rw [geE (by omega),ab,geE hi,ab]
   rcases Nat.mod_two_eq_zero_or_one i with hp | hp
   ·have hw:=h3 (i / 2) (by omega) (by omega)
    rw [hp,show chk (32 * ((0:Nat):Int)) = some 0 from I,ab,show bE 0 = some 0 from I,ab,cW]
    rw [hw] at key ⊢
    rw [UInt64.zero_add]
    refine key _ (by simp) ?_ fun _=>by rw [hu]; omega
    rw [hu,UInt64.toNat_zero,Nat.sub_zero,<- lj,show 2 * (i / 2) = i by omega]
   ·have hw:=h4 hp (by omega)
    rw [hp,show chk (32 * ((1:Nat):Int)) = some 32 from I,ab,show bE 32 = some 32 from I,ab]
    have hv:((wv (t1,t2,t3,t4,t5,t6,t7,t8))[i / 2] + shlU (ah ys[i]) 32).toNat = (wv (t1,t2,t3,t4,t5,t6,t7,t8))[i / 2].toNat + ys[i].toNat * 4294967296:=by
     rw [UInt64.toNat_add,dF _ (by decide),hu]
     omega
    refine key _ (by rw [hv]; omega) ?_ fun h=>by omega
    have hsub:(wv (t1,t2,t3,t4,t5,t6,t7,t8))[i / 2].toNat + ys[i].toNat * 4294967296 - (wv (t1,t2,t3,t4,t5,t6,t7,t8))[i / 2].toNat = ys[i].toNat * 4294967296:=Nat.add_sub_cancel_left ..
    have e:4294967296 ^ i = 18446744073709551616 ^ (i / 2) * 4294967296:=by
     conv=>lhs; rw [show i = 2 * (i / 2) + 1 by omega,Nat.pow_succ,lj]
    rw [hv,hsub,e,Nat.mul_assoc,Nat.mul_comm ys[i].toNat]
  ·rw [if_neg hi]
   refine ⟨_,I,?_⟩
   rw [h2,List.take_of_length_le (by omega)]
 ·match k,hk with
  | 0,_=>rfl
  | 1,_=>rfl
  | 2,_=>rfl
  | 3,_=>rfl
  | 4,_=>rfl
  | 5,_=>rfl
  | 6,_=>rfl
  | 7,_=>rfl
open Classical in
theorem kS (n l:Nat) (z:Int) (h:FtR l z) (hl:l < 10000) (hn:20000 < n):aG_p n (R8 z) = some (if Fw z then (Wg z,0) else ((0,0,0,0,0,0,0,0),6)):=by
 have hf:=dp
 have hp:=ca
 have hlen:=h.len
 obtain ⟨w1,w2⟩:=mr 16 15 2147483648 (by decide) (by decide)
 have hdv:dv ((List.replicate 16 (0:Int)).set 15 2147483648) = HB:=by rw [w1,HB_dig]; rfl
 have hnr:Nr ((List.replicate 16 (0:Int)).set 15 2147483648):=fun x hx=>by
  rw [show ((List.replicate 16 (0:Int)).set 15 2147483648).getLast? = some 2147483648 from I] at hx
  rw [<- Option.some.inj hx]; decide
 obtain ⟨c,e1,e2,e3⟩:=gC n (rd z.natAbs) ((List.replicate 16 (0:Int)).set 15 2147483648) (aE _) w2 (fW _) hnr (by omega) (by omega)
 rw [aM,hdv] at e2 e3
 have hlim:∀ {α:Type} (f:La Int -> Oa α),((mk 16 (0:Int)).bind fun xs21=>(xs21[15]?).bind fun _=>(put xs21 ((15:Nat):Int) (2147483648:Int)).bind f) = f ((List.replicate 16 (0:Int)).set 15 2147483648):=fun f=>rfl
 unfold aG_p
 refine (hlim _).trans ?_
 rw [show (R8 z).fD = rd z.natAbs from I,e1,ab]
 have l12:∀ ys,aG_l1 n ys = aG_l2 n ys:=fun _=>rfl
 have hneg:z < 0 -> Fw z -> ∃ t:T8,au (aG_l2 n (rd (FB - z.natAbs))) n (0,(0:Ua),(0:Ua),(0:Ua),(0:Ua),(0:Ua),(0:Ua),(0:Ua),(0:Ua)) = some t/\t = Wg z:=fun hz hw=>by
  obtain ⟨t,e,hv⟩:=jN n (rd (FB - z.natAbs)) (aE _) (cy (by rw [<- dQ]; omega)) (by omega)
  rw [aM] at hv
  refine ⟨t,e,ii ?_⟩
  have:=kc hw hz
  rw [hv,<- dR]
  omega
 by_cases c1:0 < c
 ·rw [if_pos c1,if_neg (fun hw=>by have:=hw.1; have:=hw.2; omega)]
 ·rw [if_neg c1]
  by_cases c0:c = 0
  ·rw [if_pos c0]
   have hz:=e3.1 c0
   by_cases hb:z < 0
   ·have hw:Fw z:=⟨by omega,by omega⟩
    obtain ⟨t,e,rfl⟩:=hneg hb hw
    rw [if_pos (show (R8 z).fh = true from decide_eq_true hb),if_pos hw]
    refine (gI _).trans ?_
    rw [dO n _ (by omega) (by omega) hn,ab,l12,e,ab]
   ·rw [if_neg (show ¬ (R8 z).fh = true from by simpa [R8] using hb),if_neg (fun hw=>by have:=hw.2; omega)]
  ·rw [if_neg c0]
   have hlt:z.natAbs < HB:=e2.1 (by omega)
   have hw:Fw z:=⟨by omega,by omega⟩
   unfold jn
   simp only
   rw [if_pos hw]
   by_cases hb:z < 0
   ·obtain ⟨t,e,rfl⟩:=hneg hb hw
    rw [if_pos (show (R8 z).fh = true from decide_eq_true hb)]
    refine (gI _).trans ?_
    rw [dO n _ (by omega) (by omega) hn,ab,e,ab]
   ·obtain ⟨t,e,hv⟩:=jN n (rd z.natAbs) (aE _) (cy (by rw [<- dQ]; omega)) (by omega)
    rw [aM] at hv
    have:t = Wg z:=ii (by
     have:=kw hw (by omega)
     rw [hv,<- dR,this])
    subst this
    rw [if_neg (show ¬ (R8 z).fh = true from by simpa [R8] using hb),e,ab]
section
set_option maxRecDepth 8000
theorem div_num {a b:Int} (hb:b ≠ 0):(Rat.divInt a b).num * b = a * (Rat.divInt a b).den:=by
 have h:=Rat.num_divInt_den (Rat.divInt a b)
 exact (Rat.divInt_eq_divInt_iff FQ.ndnz hb).1 h
theorem ko {a b:Int} (hb:b ≠ 0):(Rat.divInt a b).num.natAbs <= a.natAbs/\(Rat.divInt a b).den <= b.natAbs:=by
 have h:=congrArg Int.natAbs (div_num (a:=a) hb)
 rw [Int.natAbs_mul,Int.natAbs_mul,Int.natAbs_natCast] at h
 have hc:=(Rat.divInt a b).reduced
 have hd:=(Rat.divInt a b).den_pos
 generalize (Rat.divInt a b).num.natAbs = x at *
 generalize (Rat.divInt a b).den = y at *
 have hbp:0 < b.natAbs:=by omega
 constructor
 ·by_cases h0:a.natAbs = 0
  ·rw [h0,Nat.zero_mul] at h
   rcases Nat.mul_eq_zero.1 h with h1 | h1
   ·omega
   ·omega
  ·exact Nat.le_of_dvd (by omega) (hc.dvd_of_dvd_mul_right (by rw [<- h]; exact Nat.dvd_mul_right ..))
 ·exact Nat.le_of_dvd hbp (hc.symm.dvd_of_dvd_mul_left (by rw [h]; exact Nat.dvd_mul_left ..))
def Bt (i j:Nat) (q:Rat):Prop:=q.num.natAbs < 2 ^ i/\q.den < 2 ^ j
theorem hb_pow (w:Nat):9223372036854775808 * 18446744073709551616 ^ w = 2 ^ (63 + 64 * w):=by
 rw [Nat.pow_add,<- dL]
def hbl:Nat:=511
theorem hb_pow' {w l:Nat} (h:l = 63 + 64 * w):9223372036854775808 * 18446744073709551616 ^ w = 2 ^ l:=by subst h; exact hb_pow w
theorem my:HB = 2 ^ hbl:=hb_pow' (w:=7) (l:=hbl) rfl
theorem Bt.fq {i j:Nat} {q:Rat} (h:Bt i j q) (hi:i <= 500) (hj:j <= 500):FQ q:=by
 have e:hbl = 511:=rfl
 have h1:2 ^ i <= HB:=by rw [my]; exact Nat.pow_le_pow_right (by decide) (by omega)
 have h2:2 ^ j <= HB:=by rw [my]; exact Nat.pow_le_pow_right (by decide) (by omega)
 have h3:=h.1
 have h4:=h.2
 exact ⟨⟨by omega,by omega⟩,⟨by omega,by omega⟩⟩
theorem Bt.of {i j:Nat} {a b:Int} (hb:b ≠ 0) (h1:a.natAbs < 2 ^ i) (h2:b.natAbs < 2 ^ j):Bt i j (Rat.divInt a b):=by
 obtain ⟨d1,d2⟩:=ko (a:=a) hb
 exact ⟨by omega,by omega⟩
section
variable {n:Nat} {a b:Rat}
end
end
set_option maxRecDepth 8000
def RR (q:Rat):Tf:=⟨R8 q.num,R8 (q.den:Int)⟩
theorem Fw.r {z:Int} (h:Fw z):FtR 16 z:=by
 have h1:=h.1
 have h2:=h.2
 have h3:=dp
 have hp:=ca
 unfold FtR
 rw [<- dQ]
 omega
theorem FtR.of_le {l:Nat} {a b:Int} (h:FtR l b) (hl:a.natAbs <= b.natAbs):FtR l a:=Nat.lt_of_le_of_lt hl h
theorem Sm.r {z:Int} (h:Sm z):FtR 16 z:=(gB h).r
theorem bL (n:Nat) (q:Rat) (h:FQ q) (hn:20000 < n):aI_p n (Sg q) = some (RR q):=by
 unfold aI_p Sg
 simp only
 rw [je n _ h.1 hn,ab,je n _ h.2 hn,ab]
 rfl
theorem one_ok (n g:Nat):cw_p n ⟨false,rd g⟩ = some (decide (g = 1)):=by
 unfold cw_p
 simp only
 by_cases h:(rd g).length = 1
 ·have hg:=aM g
  rcases e:rd g with _ | ⟨x,_ | ⟨y,xs⟩⟩
  ·rw [e] at h; simp at h
  ·have hd:=aE g x (by rw [e]; exact List.mem_singleton_self _)
   rw [e] at hg
   simp only [dv,Nat.mul_zero,Nat.add_zero] at hg
   rw [if_pos (show ([x]:La Int).length = 1 from I),show ([x]:La Int)[0]? = some x from I,ab]
   by_cases hx:x = 1
   ·rw [if_pos hx,decide_eq_true (by omega)]; rfl
   ·rw [if_neg hx,decide_eq_false (by omega)]
  ·rw [e] at h; simp at h
 ·rw [if_neg h,decide_eq_false]
  rintro rfl
  exact h (by rw [im (by decide),show (1:Nat) / 4294967296 = 0 from I,rd0]; rfl)
theorem lB (n:Nat) (x y:Int) (hx:Fw x) (hy:Fw y) (hn:18446744073709551616 < n):au_p n ⟨Wg x,Wg y⟩ = some (decide (0 < y/\Nat.gcd x.natAbs y.natAbs = 1)):=by
 have lx:=hx.r.len
 have ly:=hy.r.len
 unfold au_p
 simp only
 rw [je n _ hx (by omega),ab,je n _ hy (by omega),ab]
 by_cases h:y < 0
 ·rw [if_pos (show (R8 y).fh = true from decide_eq_true h),decide_eq_false (fun hc=>by omega)]
 ·rw [if_neg (show ¬ (R8 y).fh = true from by simpa [R8] using h)]
  by_cases h0:y = 0
  ·subst h0
   rw [if_neg (show ¬ 0 < (R8 0).fD.length from by show ¬ 0 < (rd 0).length; rw [rd0]; decide),decide_eq_false (fun hc=>by omega)]
  ·rw [if_pos (show 0 < (R8 y).fD.length from kl.2 (by omega))]
   rw [show R8 x = ⟨decide (x < 0),rd x.natAbs⟩ from I,show R8 y = ⟨decide (y < 0),rd y.natAbs⟩ from I,gS n _ _ _ _ (by omega) (by omega) hn,ab,one_ok,ab]
   exact congrArg some (decide_eq_decide.2 ⟨fun hg=>⟨by omega,hg⟩,fun hg=>hg.2⟩)
theorem aV (n:Nat) (q:Rat) (h:FQ q) (hn:18446744073709551616 < n):au_p n (Sg q) = some true:=by
 have hd:=q.den_pos
 have e:=lB n q.num (q.den:Int) h.1 h.2 hn
 rw [decide_eq_true (show 0 < (q.den:Int)/\Nat.gcd q.num.natAbs (q.den:Int).natAbs = 1 from ⟨by omega,q.reduced⟩)] at e
 exact e
open Classical in
theorem cJ (n l:Nat) (q:Rat) (h1:FtR l q.num) (h2:FtR l (q.den:Int)) (hl:l < 10000) (hn:20000 < n):aZ_p n (RR q) = some (if FQ q then (Sg q,0) else (noS,6)):=by
 unfold aZ_p
 rw [show (RR q).fN = R8 q.num from I,show (RR q).fD = R8 (q.den:Int) from I,kS n l _ h1 hl hn,ab,kS n l _ h2 hl hn,ab]
 by_cases f1:Fw q.num
 ·by_cases f2:Fw (q.den:Int)
  ·rw [if_pos f1,if_pos f2,if_pos (show FQ q from ⟨f1,f2⟩)]; rfl
  ·rw [if_pos f1,if_neg f2,if_neg fun h:FQ q=>f2 h.2]; rfl
 ·rw [if_neg f1,if_neg fun h:FQ q=>f1 h.1]; rfl
theorem gQ (n l:Nat) (a b:Int) (h0:b ≠ 0) (ha:FtR l a) (hb:FtR l b) (hl:l < 10000) (hn:18446744073709551616 < n):aR_p n (R8 a) (R8 b) = some (RR (Rat.divInt a b))/\FtR l (Rat.divInt a b).num/\FtR l ((Rat.divInt a b).den:Int):=by
 obtain ⟨e,l1,l2⟩:=iJ n a b h0 (Nat.lt_of_le_of_lt ha.len hl) (Nat.lt_of_le_of_lt hb.len hl) hn
 exact ⟨e,ha.of_le l1,hb.of_le (by omega)⟩
theorem kj (n:Nat) (a b:Rat) (ha:FQ a) (hb:FQ b) (hn:18446744073709551616 < n):bJ_p n (RR a) (RR b) = some (RR (a + b))/\FtR 33 (a + b).num/\FtR 33 ((a + b).den:Int):=by
 have d0:(a.den:Int) * b.den ≠ 0:=Int.mul_ne_zero FQ.ndnz FQ.ndnz
 have e:a + b = Rat.divInt (a.num * b.den + b.num * a.den) (a.den * b.den):=by
  conv=>lhs; rw [<- Rat.num_divInt_den a,<- Rat.num_divInt_den b]
  exact Rat.divInt_add_divInt _ _ FQ.ndnz FQ.ndnz
 have x1:=ha.1.r.mul hb.2.r
 have x2:=hb.1.r.mul ha.2.r
 have x3:=ha.2.r.mul hb.2.r
 obtain ⟨f1,f2,f3⟩:=gQ n 33 _ _ d0 (x1.add x2) (x3.mono (by decide)) (by decide) hn
 unfold bJ_p RR
 simp only
 rw [bn n 16 16 _ _ ha.1.r hb.2.r (by omega) (by decide),ab,bn n 16 16 _ _ hb.1.r ha.2.r (by omega) (by decide),ab,jg n 32 _ _ x1 x2 (by omega) (by decide),ab,bn n 16 16 _ _ ha.2.r hb.2.r (by omega) (by decide),ab,f1,ab,e]
 exact ⟨I,f2,f3⟩
theorem jl (n:Nat) (a b:Rat) (ha:FQ a) (hb:FQ b) (hn:18446744073709551616 < n):ci_p n (RR a) (RR b) = some (RR (a * b))/\FtR 33 (a * b).num/\FtR 33 ((a * b).den:Int):=by
 have d0:(a.den:Int) * b.den ≠ 0:=Int.mul_ne_zero FQ.ndnz FQ.ndnz
 have e:a * b = Rat.divInt (a.num * b.num) (a.den * b.den):=by
  conv=>lhs; rw [<- Rat.num_divInt_den a,<- Rat.num_divInt_den b]
  exact Rat.divInt_mul_divInt _ _
 have x1:=ha.1.r.mul hb.1.r
 have x3:=ha.2.r.mul hb.2.r
 obtain ⟨f1,f2,f3⟩:=gQ n 33 _ _ d0 (x1.mono (by decide)) (x3.mono (by decide)) (by decide) hn
 unfold ci_p RR
 simp only
 rw [bn n 16 16 _ _ ha.1.r hb.1.r (by omega) (by decide),ab,bn n 16 16 _ _ ha.2.r hb.2.r (by omega) (by decide),ab,f1,ab,e]
 exact ⟨I,f2,f3⟩
theorem kk (n:Nat) (a b:Rat) (ha:FQ a) (hb:FQ b) (h0:b ≠ 0) (hn:18446744073709551616 < n):cp_p n (RR a) (RR b) = some (RR (a / b))/\FtR 33 (a / b).num/\FtR 33 ((a / b).den:Int):=by
 have b0:b.num ≠ 0:=fun e=>h0 (Rat.num_eq_zero.1 e)
 have d0:(a.den:Int) * b.num ≠ 0:=Int.mul_ne_zero FQ.ndnz b0
 have e:a / b = Rat.divInt (a.num * b.den) (a.den * b.num):=by
  conv=>lhs; rw [Rat.div_def,<- Rat.num_divInt_den a,<- Rat.num_divInt_den b,Rat.inv_divInt]
  exact Rat.divInt_mul_divInt _ _
 have x1:=ha.1.r.mul hb.2.r
 have x3:=ha.2.r.mul hb.1.r
 obtain ⟨f1,f2,f3⟩:=gQ n 33 _ _ d0 (x1.mono (by decide)) (x3.mono (by decide)) (by decide) hn
 unfold cp_p RR
 simp only
 rw [bn n 16 16 _ _ ha.1.r hb.2.r (by omega) (by decide),ab,bn n 16 16 _ _ ha.2.r hb.1.r (by omega) (by decide),ab,f1,ab,e]
 exact ⟨I,f2,f3⟩
open Classical in
theorem lm (n:Nat) (a b:Rat) (ha:FQ a) (hb:FQ b) (hn:18446744073709551616 < n):cz_p n (Sg a) (Sg b) = some (if FQ (a + b) then (Sg (a + b),0) else (noS,6)):=by
 obtain ⟨f1,f2,f3⟩:=kj n a b ha hb hn
 unfold cz_p
 rw [aV n a ha hn,ab,if_pos I,aV n b hb hn,ab,if_pos I,bL n a ha (by omega),ab,bL n b hb (by omega),ab,f1,ab,cJ n 33 _ f2 f3 (by decide) (by omega),ab]
open Classical in
theorem lQ (n:Nat) (a b:Rat) (ha:FQ a) (hb:FQ b) (hn:18446744073709551616 < n):cy_p n (Sg a) (Sg b) = some (if FQ (a * b) then (Sg (a * b),0) else (noS,6)):=by
 obtain ⟨f1,f2,f3⟩:=jl n a b ha hb hn
 unfold cy_p
 rw [aV n a ha hn,ab,if_pos I,aV n b hb hn,ab,if_pos I,bL n a ha (by omega),ab,bL n b hb (by omega),ab,f1,ab,cJ n 33 _ f2 f3 (by decide) (by omega),ab]
open Classical in
theorem lY (n:Nat) (a b:Rat) (ha:FQ a) (hb:FQ b) (h0:b ≠ 0) (hn:18446744073709551616 < n):bY_p n (Sg a) (Sg b) = some (if FQ (a / b) then (Sg (a / b),0) else (noS,6)):=by
 have b0:b.num ≠ 0:=fun e=>h0 (Rat.num_eq_zero.1 e)
 obtain ⟨f1,f2,f3⟩:=kk n a b ha hb h0 hn
 unfold bY_p co_p
 rw [aV n a ha hn,ab,if_pos I,aV n b hb hn,ab,if_pos I,bL n b hb (by omega),ab,ab,if_neg (by
  rw [decide_eq_true_eq]
  exact Nat.ne_of_gt (kl.2 (by omega))),bL n a ha (by omega),ab,f1,ab,cJ n 33 _ f2 f3 (by decide) (by omega),ab]
theorem refOfG (n:Nat) (a b:Int) (ha:Sm a) (hb:Sm b) (h0:b ≠ 0) (hn:18446744073709551616 < n):cG_p n a b = some (Sg (Rat.divInt a b)):=by
 obtain ⟨e,l1,l2⟩:=gQ n 16 a b h0 ha.r hb.r (by decide) hn
 obtain ⟨d1,d2⟩:=ko (a:=a) h0
 have hq:FQ (Rat.divInt a b):=⟨gB (by unfold Sm at *; omega),gB (by unfold Sm at *; omega)⟩
 unfold cG_p cZ_p
 rw [if_neg h0]
 unfold cC_p
 rw [jM n a ha (by omega),ab,jM n b hb (by omega),ab,e,ab,ab,cJ n 16 _ l1 l2 (by decide) (by omega),ab,if_pos hq,ab]
set_option maxRecDepth 8000
theorem bI:(18446744073709551616:Nat) < FU:=by decide
theorem of_sg {a b:Int} (ha:Sm a) (hb:Sm b) (h0:b ≠ 0):dA_p FU a b = some (Sg (Rat.divInt a b),0):=by
 have hd:=ko (a:=a) h0
 rw [jP FU a b ha hb h0 bI,Sh_Sg (by unfold Sm at *; omega) (by unfold Sm at *; omega)]
theorem fqd {a b:Int} (h0:b ≠ 0) (ha:a.natAbs < 1152921504606846976) (hb:b.natAbs < 1152921504606846976):FQ (Rat.divInt a b):=
 (Bt.of (i:=60) (j:=60) h0 ha hb).fq (by decide) (by decide)
set_option maxRecDepth 8000
open Classical in
theorem refSubG (a b:Rat) (ha:FQ a) (hb:FQ b):cx_p FU (Sg a) (Sg b) = some (if FQ (a - b) then (Sg (a - b),0) else (noS,6)):=by
 have hn:=bI
 have d0:(a.den:Int) * b.den ≠ 0:=Int.mul_ne_zero FQ.ndnz FQ.ndnz
 have e:a - b = Rat.divInt (a.num * b.den + -b.num * a.den) (a.den * b.den):=by
  conv=>lhs; rw [<- Rat.num_divInt_den a,<- Rat.num_divInt_den b,Rat.sub_eq_add_neg,Rat.neg_divInt]
  exact Rat.divInt_add_divInt _ _ FQ.ndnz FQ.ndnz
 have x1:=ha.1.r.mul hb.2.r
 have x2:=hb.1.r.neg.mul ha.2.r
 have x3:=ha.2.r.mul hb.2.r
 obtain ⟨f1,f2,f3⟩:=gQ FU 33 _ _ d0 (x1.add x2) (x3.mono (by decide)) (by decide) hn
 rw [<- e] at f1 f2 f3
 unfold cx_p cD_p cH_p
 rw [aV FU a ha hn,ab,if_pos I,aV FU b hb hn,ab,if_pos I,bL FU a ha (by omega),ab,bL FU b hb (by omega),ab]
 unfold RR at f1 ⊢
 simp only
 rw [jh FU _ (by have:=hb.1.r.len; omega) (by omega),ab,ab]
 unfold bJ_p
 simp only
 rw [bn FU 16 16 _ _ ha.1.r hb.2.r (by omega) (by decide),ab,bn FU 16 16 _ _ hb.1.r.neg ha.2.r (by omega) (by decide),ab,jg FU 32 _ _ x1 x2 (by omega) (by decide),ab,bn FU 16 16 _ _ ha.2.r hb.2.r (by omega) (by decide),ab,f1,ab,ab]
 have:=cJ FU 33 _ f2 f3 (by decide) (by omega)
 unfold RR at this
 rw [ab,this,ab]
section
set_option maxRecDepth 8000
theorem exE {ε α β:Type} (x:ε) (f:α -> Oa β) (g:ε -> Oa β):exc (.error x) f g = g x:=rfl
theorem exO {ε α β:Type} (x:α) (f:α -> Oa β) (g:ε -> Oa β):exc (.ok x) f g = f x:=rfl
theorem FQ0:FQ (Rat.divInt 0 1):=fqd (by decide) (by decide) (by decide)
theorem gY {a b:Int} (ha:Sm a) (hb:Sm b) (h0:b ≠ 0):ah_p FU a b = some (.ok (Sg (Rat.divInt a b))):=by
 unfold ah_p
 rw [of_sg ha hb h0,ab]
 rfl
theorem eS {a b:Int} (ha:Sm a) (hb:Sm b) (h0:b ≠ 0):am_p FU a b = some (Sg (Rat.divInt a b)):=by
 unfold am_p
 rw [refOfG FU _ _ ha hb h0 bI,ab]
theorem zero_p:ah_p FU 0 1 = some (.ok (Sg (Rat.divInt 0 1))):=gY (by unfold Sm; decide) (by unfold Sm; decide) (by decide)
theorem iR:am_p FU 0 1 = some (Sg (Rat.divInt 0 1)):=eS (by unfold Sm; decide) (by unfold Sm; decide) (by decide)
theorem eU:Rat.divInt 0 1 = 0:=by rw [Rat.zero_divInt]
section
variable {a b:Rat} (ha:FQ a) (hb:FQ b)
/-! ### The program's -/
include ha hb in
theorem jS:(FQ (a + b) -> bm_p FU (Sg a) (Sg b) = some (.ok (Sg (a + b))))/\(¬FQ (a + b) -> bm_p FU (Sg a) (Sg b) = some (.error ⟨6⟩)):=by
 unfold bm_p
 rw [addG FU a b ha hb bI,ab]
 exact ⟨fun h=>by rw [if_pos h]; rfl,fun h=>by rw [if_neg h]; rfl⟩
include ha hb in
theorem jF:(FQ (a - b) -> bt_p FU (Sg a) (Sg b) = some (.ok (Sg (a - b))))/\(¬FQ (a - b) -> bt_p FU (Sg a) (Sg b) = some (.error ⟨6⟩)):=by
 unfold bt_p
 rw [subG FU a b ha hb bI,ab]
 exact ⟨fun h=>by rw [if_pos h]; rfl,fun h=>by rw [if_neg h]; rfl⟩
include ha hb in
theorem bY:(FQ (a * b) -> ao_p FU (Sg a) (Sg b) = some (.ok (Sg (a * b))))/\(¬FQ (a * b) -> ao_p FU (Sg a) (Sg b) = some (.error ⟨6⟩)):=by
 unfold ao_p
 rw [mulG FU a b ha hb bI,ab]
 exact ⟨fun h=>by rw [if_pos h]; rfl,fun h=>by rw [if_neg h]; rfl⟩
include ha hb in
theorem lS (h0:b ≠ 0):(FQ (a / b) -> bp_p FU (Sg a) (Sg b) = some (.ok (Sg (a / b))))/\(¬FQ (a / b) -> bp_p FU (Sg a) (Sg b) = some (.error ⟨6⟩)):=by
 unfold bp_p
 rw [divG FU a b ha hb h0 bI,ab]
 exact ⟨fun h=>by rw [if_pos h]; rfl,fun h=>by rw [if_neg h]; rfl⟩
include ha in
theorem pDiv0:bp_p FU (Sg a) (Sg 0) = some (.error ⟨7⟩):=by
 have hz:FQ 0:=eU ▸ FQ0
 unfold bp_p dC_p
 rw [ei FU a 0 ha hz bI,ab,if_pos I,if_pos (show (Sg 0).fN = _ from Wg_zero),ab]
 rfl
/-! ### The reference's -/
variable {e:Int}
theorem keep0 (x:Ta):ax_p FU ⟨0⟩ x 0 = some (⟨0⟩,x):=rfl
theorem jw (x:Ta) {c:Int} (hc:c ≠ 0):ax_p FU ⟨0⟩ x c = some (⟨c⟩,Sg (Rat.divInt 0 1)):=by
 unfold ax_p jn
 simp only
 rw [if_pos trivial,if_neg hc,iR,ab]
theorem nv (x:Ta) (c:Int) (he:e ≠ 0):ax_p FU ⟨e⟩ x c = some (⟨e⟩,Sg (Rat.divInt 0 1)):=by
 unfold ax_p jn
 simp only
 rw [if_neg he,if_neg he,iR,ab]
include ha in
theorem refDiv0:bY_p FU (Sg a) (Sg 0) = some (noS,7):=by
 have hz:FQ 0:=eU ▸ FQ0
 have hF:=bI
 unfold bY_p co_p
 rw [aV FU a ha bI,ab,if_pos I,aV FU 0 hz bI,ab,if_pos I,bL FU 0 hz (by omega),ab,ab,if_pos (decide_eq_true (show (RR 0).fN.fD.length = 0 from by show (rd 0).length = 0; rw [rd0]; rfl))]
 rfl
include ha hb in
theorem iN:(FQ (a + b) -> aC_p FU ⟨0⟩ (Sg a) (Sg b) = some (⟨0⟩,Sg (a + b)))/\(¬FQ (a + b) -> aC_p FU ⟨0⟩ (Sg a) (Sg b) = some (⟨6⟩,Sg (Rat.divInt 0 1)))/\(e ≠ 0 -> aC_p FU ⟨e⟩ (Sg a) (Sg b) = some (⟨e⟩,Sg (Rat.divInt 0 1))):=by
 unfold aC_p
 rw [lm FU a b ha hb bI,ab,ab]
 exact ⟨fun h=>by rw [if_pos h,keep0,ab],fun h=>by rw [if_neg h,jw _ (by decide),ab],fun h=>by rw [nv _ _ h,ab]⟩
include ha hb in
theorem iM:(FQ (a - b) -> ab_p FU ⟨0⟩ (Sg a) (Sg b) = some (⟨0⟩,Sg (a - b)))/\(¬FQ (a - b) -> ab_p FU ⟨0⟩ (Sg a) (Sg b) = some (⟨6⟩,Sg (Rat.divInt 0 1)))/\(e ≠ 0 -> ab_p FU ⟨e⟩ (Sg a) (Sg b) = some (⟨e⟩,Sg (Rat.divInt 0 1))):=by
 unfold ab_p
 rw [refSubG a b ha hb,ab,ab]
 exact ⟨fun h=>by rw [if_pos h,keep0,ab],fun h=>by rw [if_neg h,jw _ (by decide),ab],fun h=>by rw [nv _ _ h,ab]⟩
include ha hb in
theorem bQ:(FQ (a * b) -> aa_p FU ⟨0⟩ (Sg a) (Sg b) = some (⟨0⟩,Sg (a * b)))/\(¬FQ (a * b) -> aa_p FU ⟨0⟩ (Sg a) (Sg b) = some (⟨6⟩,Sg (Rat.divInt 0 1)))/\(e ≠ 0 -> aa_p FU ⟨e⟩ (Sg a) (Sg b) = some (⟨e⟩,Sg (Rat.divInt 0 1))):=by
 unfold aa_p
 rw [lQ FU a b ha hb bI,ab,ab]
 exact ⟨fun h=>by rw [if_pos h,keep0,ab],fun h=>by rw [if_neg h,jw _ (by decide),ab],fun h=>by rw [nv _ _ h,ab]⟩
include ha hb in
theorem lv (h0:b ≠ 0):(FQ (a / b) -> ac_p FU ⟨0⟩ (Sg a) (Sg b) = some (⟨0⟩,Sg (a / b)))/\(¬FQ (a / b) -> ac_p FU ⟨0⟩ (Sg a) (Sg b) = some (⟨6⟩,Sg (Rat.divInt 0 1))):=by
 unfold ac_p
 rw [lY FU a b ha hb h0 bI,ab,if_pos I]
 exact ⟨fun h=>by rw [if_pos h,keep0,ab],fun h=>by rw [if_neg h,jw _ (by decide),ab]⟩
include ha in
theorem rDiv0:ac_p FU ⟨0⟩ (Sg a) (Sg 0) = some (⟨7⟩,Sg (Rat.divInt 0 1)):=by
 unfold ac_p
 rw [refDiv0 ha,ab,if_pos I,jw _ (by decide),ab]
theorem dj (x y:Ta) (he:e ≠ 0):ac_p FU ⟨e⟩ x y = some (⟨e⟩,x):=if_neg he
end
def Vd (x:Ta):Prop:=∃ q,FQ q/\x = Sg q
theorem vd {q:Rat} (h:FQ q):Vd (Sg q):=⟨q,h,rfl⟩
theorem vd0:Vd (Sg (Rat.divInt 0 1)):=vd FQ0
section
variable {e:Int} {x y:Ta}
theorem cH (hx:Vd x) (hy:Vd y) (he:e ≠ 0):aC_p FU ⟨e⟩ x y = some (⟨e⟩,Sg (Rat.divInt 0 1)):=by
 obtain ⟨a,ha,rfl⟩:=hx; obtain ⟨b,hb,rfl⟩:=hy; exact (iN ha hb).2.2 he
theorem eK (hx:Vd x) (hy:Vd y) (he:e ≠ 0):ab_p FU ⟨e⟩ x y = some (⟨e⟩,Sg (Rat.divInt 0 1)):=by
 obtain ⟨a,ha,rfl⟩:=hx; obtain ⟨b,hb,rfl⟩:=hy; exact (iM ha hb).2.2 he
theorem aX (hx:Vd x) (hy:Vd y) (he:e ≠ 0):aa_p FU ⟨e⟩ x y = some (⟨e⟩,Sg (Rat.divInt 0 1)):=by
 obtain ⟨a,ha,rfl⟩:=hx; obtain ⟨b,hb,rfl⟩:=hy; exact (bQ ha hb).2.2 he
end
end
set_option maxRecDepth 8000
theorem jd {l:La Int} (h:∀ x ∈ l,0 <= x/\x <= 1000000000):0 <= l.sum/\l.sum <= 1000000000 * l.length:=by
 induction l with
 | nil=>simp
 | cons a l ih=>
  have h1:=h a (by simp)
  have h2:=ih fun x hx=>h x (by simp [hx])
  rw [List.sum_cons,leC]; omega
def Vs (u:Tb):Prop:=u.fH.length <= 12/\∀ x ∈ u.fH,0 <= x/\x <= 1000000000
theorem sumP (u:Tb) (h:Vs u):au (av_l1 FU u) FU (0,0) = some u.fH.sum:=by
 have hF:=cD
 have hl:=h.1
 have hh:=aw (B:=av_l1 FU u) (fun s:Int × Nat=>u.fH.length - s.2) (fun s=>s.2 <= u.fH.length/\s.1 = (u.fH.take s.2).sum) (fun z=>z = u.fH.sum) ?_ FU (0,0) ⟨Nat.zero_le _,by simp⟩ (by simp only; omega)
 ·obtain ⟨z,e,rfl⟩:=hh; exact e
 ·rintro ⟨z,i⟩ J ⟨h1,h2⟩ hJ
  simp only at h1 h2 hJ
  subst h2
  unfold av_l1
  simp only
  split
  ·rename_i hi
   have hb:=jd (l:=u.fH.take i) fun x hx=>h.2 x (List.mem_of_mem_take hx)
   have hx:=h.2 u.fH[i] (List.getElem_mem _)
   have hle:(u.fH.take i).length <= 12:=by rw [List.length_take]; omega
   rw [geE hi,ab,aN (by omega) (by omega),ab]
   refine hJ _ ⟨by simp only; omega,?_⟩ (by simp only; omega)
   simp only
   rw [List.take_succ_eq_append_getElem hi,List.sum_append]; simp
  ·exact ⟨_,rfl,by rw [List.take_of_length_le (by omega)]⟩
theorem sumR (u:Tb) (h:Vs u):au (aj_l1 FU u) FU (0,0) = some u.fH.sum:=sumP u h
section
variable {r:Te} {us:La Tb} {gi pi:Int}
structure Lk (r:Te) (us:List Tb) (gi pi:Int):Prop where
 s:∀ u ∈ r.fv,Sm4 u
 v:RV r
 l:Lnd r us
 g:0 <= gi/\gi < r.fl
 p:0 <= pi/\pi < r.fj
theorem Lk.vs (h:Lk r us gi pi) {i:Nat} (hi:i < r.fv.length):Vs r.fv[i]:=by
 have h1:=h.v.u i hi
 obtain ⟨_,_,_,⟨w1,w2⟩,_⟩:=h1
 have:=h.v.p
 refine ⟨by omega,fun x hx=>?_⟩
 have:=w2 x hx
 split at this <;> omega
theorem Lk.at (h:Lk r us gi pi) {i:Nat} (hi:i < us.length):∃ h2:i < r.fv.length,r.fv[i].fp = false/\(0 <= r.fv[i].ft/\r.fv[i].ft <= 1000000000)/\∃ x v,idx r.fv[i].fl gi = some x/\idx r.fv[i].fH pi = some v/\(0 <= x/\x <= r.fv[i].ft)/\(0 <= v/\v <= 1000000000):=by
 have hle:=h.l.le
 have h2:i < r.fv.length:=by omega
 rcases h.l.at h2 with ⟨_,_,hw⟩ | ⟨hn,_⟩
 ·obtain ⟨p0,p1,⟨g1,g2⟩,⟨v1,v2⟩,_⟩:=h.v.u i h2
  have hg:=h.g; have hp:=h.p
  rw [hw] at p1 v2
  rw [if_neg (by decide)] at p1
  have e1:gi.toNat < r.fv[i].fl.length:=by omega
  have e2:pi.toNat < r.fv[i].fH.length:=by omega
  refine ⟨h2,hw,⟨p0,p1⟩,_,_,aY hg.1 e1,aY hp.1 e2,g2 _ (List.getElem_mem _),?_⟩
  have:=v2 _ (List.getElem_mem e2)
  rw [if_neg (by decide)] at this
  exact this
 ·omega
def Bd (i:Nat) (w x:Int):Prop:=0 <= w/\w <= (i:Int) * 1000000000/\0 <= x/\x <= w
theorem Bd.add {i:Nat} {w x p g:Int} (h:Bd i w x) (hp:p <= 1000000000) (hg:0 <= g/\g <= p):Bd (i + 1) (w + p) (x + g):=by
 unfold Bd at *; omega
theorem Bd.up {i:Nat} {w x:Int} (h:Bd i w x):Bd (i + 1) w x:=by unfold Bd at *; omega
theorem smI {z:Int} (h:0 <= z/\z <= 1000000000000):Sm z:=by unfold Sm; omega
theorem fqI {a b:Int} (h:0 <= a/\a <= 1000000000000) (hb:0 < b/\b <= 1000000000000):FQ (Rat.divInt a b):=fqd (by omega) (by omega) (by omega)
theorem nA (h:Lk r us gi pi) {e:Int} (he:e ≠ 0) (n i:Nat) (hi:i <= us.length) (hn:us.length - i < n) {w x z:Int} {y a b c:Ta} (hz:z = (i:Int)) (hB:Bd i w x) (hy:Vd y) (ha:Vd a) (hb:Vd b) (hc:Vd c) :
  ∃ w' x' y' a' b' c', Bd us.length w' x' /\Vd y' /\Vd a' /\Vd b' /\Vd c' /\au (aj_l2 FU r gi pi) n (w,x,z,y,a,b,c,e) = some (w', x', e,a', b', y', c'):=by
 have hl:=h.v.n
 have hle:=h.l.le
 have hh:=aw (B:=aj_l2 FU r gi pi) (fun s:Int × Int × Int × Ta × Ta × Ta × Ta × Int=>us.length - s.2.2.1.toNat)
  (fun s=>∃ i:Nat,i <= us.length/\s.2.2.1 = (i:Int)/\Bd i s.1 s.2.1/\Vd s.2.2.2.1/\Vd s.2.2.2.2.1/\Vd s.2.2.2.2.2.1/\Vd s.2.2.2.2.2.2.1/\s.2.2.2.2.2.2.2 = e)
  (fun t=>∃ w' x' y' a' b' c', Bd us.length w' x' /\Vd y' /\Vd a' /\Vd b' /\Vd c' /\t = (w', x', e,a', b', y', c')) ?_ n (w,x,z,y,a,b,c,e) ⟨i,hi,hz,hB,hy,ha,hb,hc,rfl⟩ (by simp only; omega)
 ·obtain ⟨t,e0,w', x', y', a', b', c', b1,b2,b3,b4,b5,rfl⟩:=hh
  exact ⟨w', x', y', a', b', c', b1,b2,b3,b4,b5,e0⟩
 ·rintro ⟨w,x,z,y,a,b,c,e'⟩ J ⟨i,hi,hz,hB,hy,ha,hb,hc,rfl⟩ hJ
  simp only at hz hB hy ha hb hc hJ he
  subst hz
  unfold aj_l2 jn
  simp only [if_true,decide_eq_true_eq]
  rw [iU h.s h.v h.l,ab]
  by_cases c0:i < us.length
  ·obtain ⟨h2,hw,hp,g,v,e1,e2,hg,hv⟩:=h.at c0
   have hs:=jd (h.vs h2).2
   have hs2:=(h.vs h2).1
   have hB' :=hB
   unfold Bd at hB'
   rw [if_pos (by omega),aY (by omega) (by omega),ab]
   simp only [Int.toNat_natCast]
   rw [sumR _ (h.vs h2),ab]
   by_cases c1:r.fv[i].fH.sum = 0
   ·rw [if_pos c1,aN (by omega) (by omega),ab]
    exact hJ _ ⟨i + 1,by omega,rfl,hB.up,hy,ha,hb,hc,rfl⟩ (by simp only; omega)
   rw [if_neg c1]
   by_cases c2:r.fv[i].ft = 0
   ·rw [if_pos c2,aN (by omega) (by omega),ab]
    exact hJ _ ⟨i + 1,by omega,rfl,hB.up,hy,ha,hb,hc,rfl⟩ (by simp only; omega)
   rw [if_neg c2,e1,ab,aN (by omega) (by omega),ab,aN (by omega) (by omega),ab,e2,ab,eS (smI (by omega)) (smI (by omega)) c1,ab,eS (smI (by omega)) (smI (by omega)) (by decide),ab]
   have f1:Vd (Sg (Rat.divInt v r.fv[i].fH.sum)):=vd (fqI (by omega) (by omega))
   have f2:Vd (Sg (Rat.divInt r.fv[i].ft 1)):=vd (fqI (by omega) (by omega))
   have f3:Vd (Sg (Rat.divInt g 1)):=vd (fqI (by omega) (by omega))
   have f4:Vd (Sg (Rat.divInt g r.fv[i].ft)):=vd (fqI (by omega) (by omega))
   simp only [aX f2 f1 he,cH hy vd0 he,ab,eS (smI (show 0 <= g/\g <= 1000000000000 by omega)) (smI (show (0:Int) <= 1/\(1:Int) <= 1000000000000 by omega)) (by decide),eS (smI (show 0 <= g/\g <= 1000000000000 by omega)) (smI (show 0 <= r.fv[i].ft/\r.fv[i].ft <= 1000000000000 by omega)) c2,aX f3 f4 he,cH ha vd0 he,aX f3 f1 he,cH hb vd0 he,aX vd0 f1 he,cH hc vd0 he]
   rw [aN (by omega) (by omega),ab]
   exact hJ _ ⟨i + 1,by omega,rfl,hB.add hp.2 hg,vd0,vd0,vd0,vd0,rfl⟩ (by simp only; omega)
  ·rw [if_neg (by omega)]
   have:i = us.length:=by omega
   subst this
   exact ⟨_,I,w,x,y,a,b,c,hB,hy,ha,hb,hc,I⟩
theorem ke (h:Lk r us gi pi) (n i:Nat) (hi:us.length <= i) (hn:r.fv.length - i < n) (w x:Int) (y a b c:Ta) :
  au (av_l2 FU r gi pi) n (i,w,x,y,a,b,c) = some (.inr (w,x,a,b,y,c)):=by
 have hh:=aw (B:=av_l2 FU r gi pi) (fun s:Nat × Int × Int × Ta × Ta × Ta × Ta=>r.fv.length - s.1)
  (fun s=>us.length <= s.1/\s.2 = (w,x,y,a,b,c)) (fun t=>t = .inr (w,x,a,b,y,c)) ?_ n (i,w,x,y,a,b,c) ⟨hi,I⟩ hn
 ·obtain ⟨t,e0,rfl⟩:=hh; exact e0
 ·rintro ⟨i,s⟩ J ⟨hi,hs⟩ hJ
  simp only at hi hs hJ
  subst hs
  unfold av_l2
  simp only
  by_cases c0:i < r.fv.length
  ·rw [if_pos c0,geE c0,ab,sumP _ (h.vs c0),ab]
   rcases h.l.at c0 with ⟨hx,_⟩ | ⟨_,hw⟩
   ·omega
   ·rw [if_pos hw]
    exact hJ _ ⟨by simp only; omega,rfl⟩ (by simp only; omega)
  ·rw [if_neg c0]; exact ⟨_,rfl,rfl⟩
def OutL (m:Nat) (P:Oa ((Except Tc Tline) ⊕ (Int × Int × Ta × Ta × Ta × Ta))) (R:Oa (Int × Int × Int × Ta × Ta × Ta × Ta)):Prop:=
 (∃ w x Y A B C,Bd m w x/\FQ Y/\FQ A/\FQ B/\FQ C/\P = some (.inr (w,x,Sg A,Sg B,Sg Y,Sg C))/\R = some (w,x,0,Sg A,Sg B,Sg Y,Sg C)) ∨
 (P = some (.inl (.error ⟨6⟩))/\∃ w x y a b c,Bd m w x/\Vd y/\Vd a/\Vd b/\Vd c/\R = some (w,x,6,a,b,y,c))
theorem ld (h:Lk r us gi pi):∀ (k i n m:Nat),k = us.length - i -> i <= us.length -> r.fv.length - i < n -> us.length - i < m -> ∀ (w x z:Int) (Y A B C:Rat),z = (i:Int) -> Bd i w x -> FQ Y -> FQ A -> FQ B -> FQ C ->
  OutL us.length (au (av_l2 FU r gi pi) n (i,w,x,Sg Y,Sg A,Sg B,Sg C)) (au (aj_l2 FU r gi pi) m (w,x,z,Sg Y,Sg A,Sg B,Sg C,0)):=by
 have hl:=h.v.n
 have hle:=h.l.le
 intro k
 induction k with
 | zero=>
  intro i n m hk hi hn hm w x z Y A B C hz hB hY hA hBB hC
  have:i = us.length:=by omega
  subst this hz
  obtain ⟨m,rfl⟩:∃ m', m = m' + 1:=⟨m - 1,by omega⟩
  refine .inl ⟨w,x,Y,A,B,C,hB,hY,hA,hBB,hC,ke h n _ (Nat.le_refl _) hn _ _ _ _ _ _,?_⟩
  rw [bc]
  unfold aj_l2
  simp only
  rw [iU h.s h.v h.l,ab,if_neg (by omega)]
 | succ k ih=>
  intro i n m hk hi hn hm w x z Y A B C hz hB hY hA hBB hC
  subst hz
  obtain ⟨m,rfl⟩:∃ m', m = m' + 1:=⟨m - 1,by omega⟩
  obtain ⟨n,rfl⟩:∃ n', n = n' + 1:=⟨n - 1,by omega⟩
  have c0:i < us.length:=by omega
  obtain ⟨h2,hw,hp,g,v,e1,e2,hg,hv⟩:=h.at c0
  have hs:=jd (h.vs h2).2
  have hs2:=(h.vs h2).1
  have hB' :=hB
  unfold Bd at hB'
  have ih' :=fun w x Y A B C=>ih (i + 1) n m (by omega) (by omega) (by omega) (by omega) w x ((i:Int) + 1) Y A B C I
  have er:=fun {w x y a b c}=>nA h (e:=6) (by decide) m (i + 1) (by omega) (by omega) (w:=w) (x:=x) (z:=(i:Int) + 1) (y:=y) (a:=a) (b:=b) (c:=c) I
  rw [bc,bc]
  generalize au (av_l2 FU r gi pi) n = JP at *
  generalize au (aj_l2 FU r gi pi) m = JR at *
  unfold aj_l2 av_l2 jn
  simp only [if_true,decide_eq_true_eq]
  rw [iU h.s h.v h.l,ab,if_pos (show (i:Int) < (us.length:Int) by omega),aY (by omega) (by omega),ab]
  simp only [Int.toNat_natCast]
  rw [sumR _ (h.vs h2),ab,if_pos h2,geE h2,ab,sumP _ (h.vs h2),ab,if_neg (by rw [hw]; decide)]
  by_cases c1:r.fv[i].fH.sum = 0
  ·rw [if_pos c1,if_pos c1,aN (by omega) (by omega),ab,ite_self]
   exact ih' _ _ _ _ _ _ hB.up hY hA hBB hC
  rw [if_neg c1,if_neg c1]
  by_cases c2:r.fv[i].ft = 0
  ·rw [if_pos c2,if_pos c2,aN (by omega) (by omega),ab]
   exact ih' _ _ _ _ _ _ hB.up hY hA hBB hC
  rw [if_neg c2,if_neg c2]
  generalize r.fv[i].fH.sum = S at *
  generalize r.fv[i].ft = p at *
  have b1:-9223372036854775808 <= w + p/\w + p <= 9223372036854775807:=by omega
  have b2:-9223372036854775808 <= x + g/\x + g <= 9223372036854775807:=by omega
  have b3:-9223372036854775808 <= (i:Int) + 1/\(i:Int) + 1 <= 9223372036854775807:=by omega
  have hB2:Bd (i + 1) (w + p) (x + g):=hB.add hp.2 hg
  have sg:Sm g:=smI (by omega)
  have sp:Sm p:=smI (by omega)
  have s1:Sm 1:=smI (by omega)
  have n1:(1:Int) ≠ 0:=by decide
  have sv:Sm v:=smI (by omega)
  have sS:Sm S:=smI (by omega)
  simp only [e1,e2,ct b1,ct b2,ab,eS sv sS c1,gY sv sS c1,eS sp s1 n1,gY sp s1 n1,eS sg s1 n1,gY sg s1 n1,eS sg sp c2,gY sg sp c2,exO]
  have f1:FQ (Rat.divInt v S):=fqI (by omega) (by omega)
  have f2:FQ (Rat.divInt p 1):=fqI (by omega) (by omega)
  have f3:FQ (Rat.divInt g 1):=fqI (by omega) (by omega)
  have f4:FQ (Rat.divInt g p):=fqI (by omega) (by omega)
  generalize Rat.divInt v S = q1 at *
  generalize Rat.divInt p 1 = q2 at *
  generalize Rat.divInt g 1 = q3 at *
  generalize Rat.divInt g p = q4 at *
  have v1:=vd f1; have v3:=vd f3; have v4:=vd f4
  have vY:=vd hY; have vA:=vd hA; have vB:=vd hBB; have vC:=vd hC
  have h6:(6:Int) ≠ 0:=by decide
  by_cases k1:FQ (q2 * q1)
  case neg=>
   rw [(bY f2 f1).2 k1,ab,exE]
   refine .inr ⟨I,?_⟩
   simp only [(bQ (e:=1) f2 f1).2.1 k1,ab,cH vY vd0 h6,aX v3 v4 h6,cH vA vd0 h6,aX v3 v1 h6,cH vB vd0 h6,aX vd0 v1 h6,cH vC vd0 h6,ct b3]
   exact er hB2 vd0 vd0 vd0 vd0
  rw [(bY f2 f1).1 k1,ab,exO,(bQ (e:=1) f2 f1).1 k1,ab]
  simp only
  have v5:=vd k1
  by_cases k2:FQ (Y + q2 * q1)
  case neg=>
   rw [(jS hY k1).2 k2,ab,exE]
   refine .inr ⟨I,?_⟩
   simp only [(iN (e:=1) hY k1).2.1 k2,ab,aX v3 v4 h6,cH vA vd0 h6,aX v3 v1 h6,cH vB vd0 h6,aX v5 v1 h6,cH vC vd0 h6,ct b3]
   exact er hB2 vd0 vd0 vd0 vd0
  rw [(jS hY k1).1 k2,ab,exO,(iN (e:=1) hY k1).1 k2,ab]
  simp only
  have v6:=vd k2
  by_cases k3:FQ (q3 * q4)
  case neg=>
   rw [(bY f3 f4).2 k3,ab,exE]
   refine .inr ⟨I,?_⟩
   simp only [(bQ (e:=1) f3 f4).2.1 k3,ab,cH vA vd0 h6,aX v3 v1 h6,cH vB vd0 h6,aX v5 v1 h6,cH vC vd0 h6,ct b3]
   exact er hB2 v6 vd0 vd0 vd0
  rw [(bY f3 f4).1 k3,ab,exO,(bQ (e:=1) f3 f4).1 k3,ab]
  simp only
  by_cases k4:FQ (A + q3 * q4)
  case neg=>
   rw [(jS hA k3).2 k4,ab,exE]
   refine .inr ⟨I,?_⟩
   simp only [(iN (e:=1) hA k3).2.1 k4,ab,aX v3 v1 h6,cH vB vd0 h6,aX v5 v1 h6,cH vC vd0 h6,ct b3]
   exact er hB2 v6 vd0 vd0 vd0
  rw [(jS hA k3).1 k4,ab,exO,(iN (e:=1) hA k3).1 k4,ab]
  simp only
  have v7:=vd k4
  by_cases k5:FQ (q3 * q1)
  case neg=>
   rw [(bY f3 f1).2 k5,ab,exE]
   refine .inr ⟨I,?_⟩
   simp only [(bQ (e:=1) f3 f1).2.1 k5,ab,cH vB vd0 h6,aX v5 v1 h6,cH vC vd0 h6,ct b3]
   exact er hB2 v6 v7 vd0 vd0
  rw [(bY f3 f1).1 k5,ab,exO,(bQ (e:=1) f3 f1).1 k5,ab]
  simp only
  by_cases k6:FQ (B + q3 * q1)
  case neg=>
   rw [(jS hBB k5).2 k6,ab,exE]
   refine .inr ⟨I,?_⟩
   simp only [(iN (e:=1) hBB k5).2.1 k6,ab,aX v5 v1 h6,cH vC vd0 h6,ct b3]
   exact er hB2 v6 v7 vd0 vd0
  rw [(jS hBB k5).1 k6,ab,exO,(iN (e:=1) hBB k5).1 k6,ab]
  simp only
  have v8:=vd k6
  by_cases k7:FQ (q2 * q1 * q1)
  case neg=>
   rw [(bY k1 f1).2 k7,ab,exE]
   refine .inr ⟨I,?_⟩
   simp only [(bQ (e:=1) k1 f1).2.1 k7,ab,cH vC vd0 h6,ct b3]
   exact er hB2 v6 v7 v8 vd0
  rw [(bY k1 f1).1 k7,ab,exO,(bQ (e:=1) k1 f1).1 k7,ab]
  simp only
  by_cases k8:FQ (C + q2 * q1 * q1)
  case neg=>
   rw [(jS hC k7).2 k8,ab,exE]
   refine .inr ⟨I,?_⟩
   simp only [(iN (e:=1) hC k7).2.1 k8,ab,ct b3]
   exact er hB2 v6 v7 v8 vd0
  rw [(jS hC k7).1 k8,ab,exO,(iN (e:=1) hC k7).1 k8,ab,ct b3,ab]
  exact ih' _ _ _ _ _ _ hB2 k2 k4 k6 k8
end
end Go.Proofs.YtmhnkiifknjgaaaGreatDoor
