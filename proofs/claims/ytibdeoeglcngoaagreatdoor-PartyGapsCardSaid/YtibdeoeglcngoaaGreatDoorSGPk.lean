/- Plain laws: words, their value, and integers of any length: sum, difference, product. No program in sight but the printed functions. -/
import Derived.Test.YtibdeoeglcngoaaGreatDoorSG7
namespace Go.Proofs.YtibdeoeglcngoaaGreatDoor
open Go
theorem ab {α β:Type} (x:α) (f:α -> Option β):(some x).bind f = f x:=Eq.trans (Eq.refl _) (Eq.refl _)
theorem bB {α β:Type} (B:(α -> Option β) -> α -> Option β) (n:Nat) (s:α):ap B (n + 1) s = B (ap B n) s:=rfl
theorem av {α β:Type} {B:(α -> Option β) -> α -> Option β} (m:α -> Nat) (I:α -> Prop) (Q:β -> Prop)
  (step:∀ s J,I s -> (∀ s', I s' -> m s' < m s -> ∃ r,J s' = some r/\Q r) -> ∃ r,B J s = some r/\Q r):∀ n s,I s -> m s < n -> ∃ r,ap B n s = some r/\Q r:=by
 intro n
 induction n with
 | zero=>intro s _ h; omega
 | succ n ih=>intro s hI h; exact step s (ap B n) hI fun s' h1 h2=>ih s' h1 (by omega)
theorem aL {x:Int} (h1:-9223372036854775808 <= x) (h2:x <= 9223372036854775807):chk x = some x:=if_pos ⟨h1,h2⟩
theorem bI {α:Type} {xs:List α} {i:Int} (h0:0 <= i) (h:i.toNat < xs.length):idx xs i = some xs[i.toNat]:=by unfold idx; rw [if_pos h0,geE h]
theorem cD {α:Type} {xs:List α} {i:Nat} (x:α) (h:i < xs.length):put xs (i:Int) x = some (xs.set i x):=by
 unfold put; rw [if_pos ⟨Int.natCast_nonneg _,by omega⟩]; rfl
theorem cut_ok {α:Type} {xs:List α} {z:Nat} (h:z <= xs.length):cut xs 0 (z:Int) = some (xs.take z):=by
 unfold cut; rw [if_pos ⟨Int.le_refl _,Int.natCast_nonneg _,by omega⟩]; rfl
theorem dm {α:Type} (n:Nat) (x:α) (h:n <= 4294967296):mk (n:Int) x = some (List.replicate n x):=by
 unfold mk; rw [if_pos ⟨Int.natCast_nonneg _,by omega⟩]; rfl
def val:List UInt64 -> Nat
 | []=>0
 | x :: xs=>x.toNat + 18446744073709551616 * val xs
theorem dC (xs ys:List UInt64):val (xs ++ ys) = val xs + 18446744073709551616 ^ xs.length * val ys:=by
 induction xs with
 | nil=>simp [val]
 | cons x xs ih=>simp only [List.cons_append,val,ih,leC,Nat.pow_succ]; grind
theorem ey (xs:List UInt64):val xs < 18446744073709551616 ^ xs.length:=by
 induction xs with
 | nil=>simp [val]
 | cons x xs ih=>
  have:=x.toNat_lt
  have h2:18446744073709551616 * (val xs + 1) <= 18446744073709551616 * 18446744073709551616 ^ xs.length:=Nat.mul_le_mul_left _ ih
  simp only [val,leC,Nat.pow_succ]
  rw [Nat.mul_comm (_ ^ _)]
  omega
theorem cN (a:List UInt64) {i:Nat} (h:i < a.length):val (a.take (i + 1)) = val (a.take i) + 18446744073709551616 ^ i * a[i].toNat:=by
 rw [<- List.take_append_getElem h,dC,List.length_take,Nat.min_eq_left (Nat.le_of_lt h)]
 simp [val]
theorem jH {xs:List UInt64} {i:Nat} (s:UInt64) (h:i < xs.length):(xs.set i s).take (i + 1) = xs.take i ++ [s]:=by
 rw [<- List.take_append_getElem (by simpa using h),List.take_set_of_le (Nat.le_refl _)]
 simp
theorem eR {xs:List UInt64} {i:Nat} (s:UInt64) (h:i < xs.length):val ((xs.set i s).take (i + 1)) = val (xs.take i) + 18446744073709551616 ^ i * s.toNat:=by
 rw [jH s h,dC,List.length_take,Nat.min_eq_left (Nat.le_of_lt h)]
 simp [val]
theorem fH:∀ (xs:List UInt64),(∀ x ∈ xs,x = 0) -> val xs = 0
 | [],_=>rfl
 | x :: xs,h=>by
  have h1:=h x (List.mem_cons_self ..)
  have h2:=fH xs fun y hy=>h y (List.mem_cons_of_mem _ hy)
  subst h1; simp [val,h2]
def dg (m:Nat):List UInt64:=if m = 0 then [] else UInt64.ofNat m :: dg (m / 18446744073709551616)
termination_by m
decreasing_by exact Nat.div_lt_self (by omega) (by omega)
theorem dg0:dg 0 = []:=by unfold dg; simp
theorem gd {m:Nat} (h:m ≠ 0):dg m = UInt64.ofNat m :: dg (m / 18446744073709551616):=by rw [dg]; rw [if_neg h]
theorem bc (m:Nat):val (dg m) = m:=by
 induction m using Nat.strongRecOn with
 | _ m ih=>
  by_cases h:m = 0
  ·subst h; rw [dg0]; rfl
  ·rw [gd h]; simp only [val]
   rw [ih _ (Nat.div_lt_self (by omega) (by omega)),UInt64.toNat_ofNat']
   exact Nat.mod_add_div m 18446744073709551616
def Nm (xs:List UInt64):Prop:=∀ x,xs.getLast? = some x -> x ≠ 0
theorem Nm.tail {x y:UInt64} {xs:List UInt64} (h:Nm (x :: y :: xs)):Nm (y :: xs):=fun z hz=>h z (by rw [List.getLast?_cons_cons]; exact hz)
theorem dz:∀ {xs:List UInt64},Nm xs -> xs ≠ [] -> 0 < val xs
 | [],_,h=>absurd rfl h
 | [x],h,_=>by
  have h1:=h x rfl
  have:x.toNat ≠ 0:=fun e=>h1 (UInt64.toNat_inj.1 (by simpa using e))
  simp only [val]; omega
 | x :: y :: xs,h,_=>by
  have:=dz h.tail (by simp)
  simp only [val] at this ⊢
  omega
theorem gD:∀ {xs:List UInt64},Nm xs -> xs ≠ [] -> 18446744073709551616 ^ (xs.length - 1) <= val xs
 | [],_,h=>absurd rfl h
 | [x],h,_=>by
  have h1:=dz h (by simp)
  show 18446744073709551616 ^ 0 <= _
  rw [Nat.pow_zero]; exact h1
 | x :: y :: xs,h,_=>by
  have h1:=gD h.tail (by simp)
  have h2:18446744073709551616 * 18446744073709551616 ^ xs.length <= 18446744073709551616 * val (y :: xs):=Nat.mul_le_mul_left _ (by simpa using h1)
  show 18446744073709551616 ^ (xs.length + 1) <= x.toNat + 18446744073709551616 * val (y :: xs)
  rw [Nat.pow_succ,Nat.mul_comm]; omega
theorem jg:∀ {xs:List UInt64},Nm xs -> dg (val xs) = xs
 | [],_=>dg0
 | x :: xs,h=>by
  have hp:=dz h (by simp)
  rw [gd (by omega)]
  have hx:=x.toNat_lt
  have h1:UInt64.ofNat (val (x :: xs)) = x:=UInt64.toNat_inj.1 (by rw [UInt64.toNat_ofNat']; simp only [val]; omega)
  have h2:val (x :: xs) / 18446744073709551616 = val xs:=by simp only [val]; omega
  have h3:Nm xs:=by
   cases xs with
   | nil=>intro z hz; simp at hz
   | cons y ys=>exact h.tail
  rw [h1,h2,jg h3]
theorem jv (m:Nat):Nm (dg m):=by
 induction m using Nat.strongRecOn with
 | _ m ih=>
  intro x hx
  by_cases h:m = 0
  ·subst h; rw [dg0] at hx; cases hx
  ·rw [gd h] at hx
   by_cases h2:m / 18446744073709551616 = 0
   ·rw [h2,dg0] at hx
    simp at hx
    intro e; subst e
    have:=congrArg UInt64.toNat hx
    rw [UInt64.toNat_ofNat'] at this
    simp at this; omega
   ·have h3:=ih (m / 18446744073709551616) (Nat.div_lt_self (by omega) (by omega))
    rw [gd h2] at hx h3
    rw [List.getLast?_cons_cons] at hx
    exact h3 x hx
theorem eN {m l:Nat} (h:m < 18446744073709551616 ^ l):(dg m).length <= l:=by
 by_cases h0:dg m = []
 ·rw [h0]; simp
 ·have h1:=gD (jv m) h0
  rw [bc] at h1
  have h2:=Nat.lt_of_le_of_lt h1 h
  have h3:=(Nat.pow_lt_pow_iff_right (by omega)).1 h2
  omega
theorem aO (n:Nat) (b:Bool) (ws:List UInt64) (hn:ws.length < n) (hl:ws.length <= 4294967296):aj_p n b ws = some ⟨b && decide (0 < val ws),dg (val ws)⟩:=by
 have h:=av (B:=aj_l1 n ws) (fun z:Int=>z.toNat) (fun z=>0 <= z/\z <= ws.length/\∀ i:Nat,z.toNat <= i -> ∀ h:i < ws.length,ws[i] = 0)
  (fun z=>∃ k:Nat,z = k/\k <= ws.length/\(∀ i:Nat,k <= i -> ∀ h:i < ws.length,ws[i] = 0)/\∀ h:0 < k,∀ h2:k - 1 < ws.length,ws[k - 1] ≠ 0) ?_ n (ws.length:Int) ⟨by omega,by omega,fun i h1 h2=>by omega⟩ (by simpa using hn)
 ·obtain ⟨z,hz,k,rfl,hk,hz0,hz1⟩:=h
  have e:val ws = val (ws.take k):=by
   conv=>lhs; rw [<- List.take_append_drop k ws,dC]
   rw [fH (ws.drop k) fun x hx=>?_]
   ·simp
   ·obtain ⟨i,hi,rfl⟩:=List.getElem_of_mem hx
    rw [List.getElem_drop]
    exact hz0 _ (by omega) _
  have hnm:Nm (ws.take k):=by
   intro x hx
   rw [List.getLast?_eq_getElem?,List.length_take,Nat.min_eq_left hk] at hx
   obtain ⟨h1,rfl⟩:=List.getElem?_eq_some_iff.1 hx
   have h2:k - 1 < ws.length:=by rw [List.length_take] at h1; omega
   by_cases h0:0 < k
   ·rw [List.getElem_take]; exact hz1 h0 h2
   ·rw [List.length_take] at h1; omega
  have e2:dg (val ws) = ws.take k:=by rw [e]; exact jg hnm
  have e3:decide (0 < val ws) = decide (0 < (k:Int)):=by
   rw [decide_eq_decide]
   constructor
   ·intro h0
    by_cases hk0:k = 0
    ·subst hk0; rw [e] at h0; simp [val] at h0
    ·omega
   ·intro h0; rw [e]; refine dz hnm fun h1=>?_
    have:=congrArg List.length h1
    rw [List.length_take,leN] at this; omega
  unfold aj_p jn
  simp only [hz,ab,cut_ok hk]
  cases b
  ·simp [e2]
  ·simp [e2,e3]
 ·intro z J ⟨h1,h2,h3⟩ hJ
  unfold aj_l1
  simp only
  by_cases h0:0 < z
  ·rw [if_pos h0,aL (by omega) (by omega),ab,bI (by omega) (by omega),ab]
   split
   ·rename_i hx
    rw [ab]
    refine hJ (z - 1) ⟨by omega,by omega,fun i h4 h5=>?_⟩ (by omega)
    by_cases h6:i = (z - 1).toNat
    ·subst h6; exact hx
    ·exact h3 i (by omega) h5
   ·rename_i hx
    refine ⟨z,rfl,z.toNat,by omega,by omega,h3,fun h4 h5=>?_⟩
    have:(z - 1).toNat = z.toNat - 1:=by omega
    simp only [this] at hx
    exact hx
  ·rw [if_neg h0]
   exact ⟨z,rfl,0,by omega,by omega,fun i h4 h5=>h3 i (by omega) h5,fun h4=>by omega⟩
theorem ji (x y c:UInt64) (h:c.toNat <= 1):∃ s d:UInt64,add64 x y c = some (s,d)/\s.toNat + 18446744073709551616 * d.toNat = x.toNat + y.toNat + c.toNat/\d.toNat <= 1:=by
 refine ⟨_,_,if_pos h,?_⟩
 have hx:=x.toNat_lt
 have hy:=y.toNat_lt
 rw [UInt64.toNat_ofNat', UInt64.toNat_ofNat']
 omega
theorem jq (x y c:UInt64) (h:c.toNat <= 1):∃ s d:UInt64,sub64 x y c = some (s,d)/\s.toNat + y.toNat + c.toNat = x.toNat + 18446744073709551616 * d.toNat/\d.toNat <= 1:=by
 refine ⟨_,_,if_pos h,?_⟩
 have hx:=x.toNat_lt
 have hy:=y.toNat_lt
 rw [UInt64.toNat_ofNat']
 split <;> simp <;> omega
theorem bJ {α:Type} {l:List α} {i:Nat} (h:l.length <= i):l.take i = l:=List.take_of_length_le h
theorem ew (b:List UInt64) (i:Nat):val (b.take (i + 1)) = val (b.take i) + 18446744073709551616 ^ i * (b[i]?.getD 0).toNat:=by
 by_cases h:i < b.length
 ·rw [cN b h,geE h]; rfl
 ·rw [bJ (by omega),bJ (by omega),List.getElem?_eq_none (by omega)]; simp
theorem gJ (n:Nat) (a b:List UInt64) (hb:b.length <= a.length) (hn:a.length < n):∃ xs u,ap (bs_l1 n a b) n (0,0,List.replicate (a.length + 1) 0) = some (xs,u)/\xs.length = a.length + 1/\val (xs.take a.length) + 18446744073709551616 ^ a.length * u.toNat = val a + val b:=by
 have h:=av (B:=bs_l1 n a b) (fun s:UInt64 × Nat × List UInt64=>a.length - s.2.1) (fun s=>s.2.1 <= a.length/\s.2.2.length = a.length + 1/\s.1.toNat <= 1/\val (s.2.2.take s.2.1) + 18446744073709551616 ^ s.2.1 * s.1.toNat = val (a.take s.2.1) + val (b.take s.2.1))
  (fun r:List UInt64 × UInt64=>r.1.length = a.length + 1/\val (r.1.take a.length) + 18446744073709551616 ^ a.length * r.2.toNat = val a + val b) ?_ n (0,0,List.replicate (a.length + 1) 0) ⟨by simp,by simp,by simp,by simp [val]⟩ (by simpa using hn)
 ·obtain ⟨⟨xs,u⟩,h1,h2,h3⟩:=h; exact ⟨xs,u,h1,h2,h3⟩
 ·rintro ⟨u,i,xs⟩ J ⟨h1,h2,h3,h4⟩ hJ
  simp only at h1 h2 h3 h4 hJ
  unfold bs_l1
  simp only
  by_cases hi:i < a.length
  ·rw [if_pos hi,geE hi,ab]
   have key:∀ y:UInt64,y = b[i]?.getD 0 -> ∃ r,((add64 a[i] y u).bind fun z198=>(xs[i]?).bind fun x199=>(put xs ((i:Nat):Int) z198.1).bind fun xs212=>J (z198.2,i + 1,xs212)) = some r/\r.1.length = a.length + 1/\val (r.1.take a.length) + 18446744073709551616 ^ a.length * r.2.toNat = val a + val b:=by
    intro y hy
    obtain ⟨s,d,e1,e2,e3⟩:=ji a[i] y u h3
    rw [e1,ab,geE (by omega),ab,cD _ (by omega),ab]
    refine hJ (d,i + 1,xs.set i s) ⟨by show i + 1 <= _; omega,by simpa using h2,e3,?_⟩ (by simp only; omega)
    simp only
    rw [eR s (by omega),cN a hi,ew b i,<- hy,Nat.pow_succ]
    grind
   unfold jn
   simp only
   by_cases hj:i < b.length
   ·rw [if_pos hj,geE hj,ab]; exact key _ (by rw [geE hj]; rfl)
   ·rw [if_neg hj]; exact key _ (by rw [List.getElem?_eq_none (by omega)]; rfl)
  ·rw [if_neg hi]
   have:i = a.length:=by omega
   subst this
   refine ⟨_,rfl,h2,?_⟩
   simp only
   rw [h4,List.take_length,bJ hb]
theorem jM (n:Nat) (a b:List UInt64) (hn:a.length < n/\b.length < n) (hl:a.length < 4294967296/\b.length < 4294967296):∃ xs,bs_p n a b = some xs/\xs.length <= max a.length b.length + 1/\val xs = val a + val b:=by
 have key:∀ a b:List UInt64,b.length <= a.length -> a.length < n -> a.length < 4294967296 -> ∃ xs,((mk ((a.length + 1:Nat):Int) (0:UInt64)).bind fun xs17=>Option.bind (ap (bs_l1 n a b) n ((0:UInt64),0,xs17)) (fun (xs157,u155)=>(xs157[a.length]?).bind fun x229=>(put xs157 ((a.length:Nat):Int) u155).bind fun xs241=>some xs241)) = some xs/\xs.length = a.length + 1/\val xs = val a + val b:=by
  intro a b hb h1 h2
  obtain ⟨xs,u,e1,e2,e3⟩:=gJ n a b hb h1
  rw [dm _ _ (by omega),ab,e1,ab]
  simp only
  rw [geE (by omega),ab,cD _ (by omega),ab]
  refine ⟨_,rfl,by simpa using e2,?_⟩
  rw [<- e3]
  conv=>lhs; rw [<- bJ (l:=xs.set a.length u) (i:=a.length + 1) (by simp [e2])]
  exact eR u (by omega)
 unfold bs_p jn
 simp only
 by_cases h:a.length < b.length
 ·rw [if_pos h]
  obtain ⟨xs,e1,e2,e3⟩:=key b a (by omega) hn.2 hl.2
  exact ⟨xs,e1,by omega,by omega⟩
 ·rw [if_neg h]
  obtain ⟨xs,e1,e2,e3⟩:=key a b (by omega) hn.1 hl.1
  exact ⟨xs,e1,by omega,e3⟩
theorem jF (n:Nat) (a b:List UInt64) (hb:b.length <= a.length) (hv:val b <= val a) (hn:a.length < n) (hl:a.length < 4294967296):∃ xs,bg_p n a b = some xs/\xs.length = a.length/\val xs = val a - val b:=by
 have h:=av (B:=bg_l1 n a b) (fun s:UInt64 × Nat × List UInt64=>a.length - s.2.1) (fun s=>s.2.1 <= a.length/\s.2.2.length = a.length/\s.1.toNat <= 1/\val (s.2.2.take s.2.1) + val (b.take s.2.1) = val (a.take s.2.1) + 18446744073709551616 ^ s.2.1 * s.1.toNat)
  (fun r:List UInt64=>r.length = a.length/\val r = val a - val b) ?_ n (0,0,List.replicate a.length 0) ⟨by simp,by simp,by simp,by simp [val]⟩ (by simpa using hn)
 ·obtain ⟨xs,h1,h2,h3⟩:=h
  refine ⟨xs,?_,h2,h3⟩
  unfold bg_p
  rw [dm _ _ (by omega),ab,h1,ab]
 ·rintro ⟨u,i,xs⟩ J ⟨h1,h2,h3,h4⟩ hJ
  simp only at h1 h2 h3 h4 hJ
  unfold bg_l1
  simp only
  by_cases hi:i < a.length
  ·rw [if_pos hi,geE hi,ab]
   have key:∀ y:UInt64,y = b[i]?.getD 0 -> ∃ r,((sub64 a[i] y u).bind fun z184=>(xs[i]?).bind fun x185=>(put xs ((i:Nat):Int) z184.1).bind fun xs198=>J (z184.2,i + 1,xs198)) = some r/\r.length = a.length/\val r = val a - val b:=by
    intro y hy
    obtain ⟨s,d,e1,e2,e3⟩:=jq a[i] y u h3
    rw [e1,ab,geE (by omega),ab,cD _ (by omega),ab]
    refine hJ (d,i + 1,xs.set i s) ⟨by show i + 1 <= _; omega,by simpa using h2,e3,?_⟩ (by simp only; omega)
    simp only
    rw [eR s (by omega),cN a hi,ew b i,<- hy,Nat.pow_succ]
    grind
   unfold jn
   simp only
   by_cases hj:i < b.length
   ·rw [if_pos hj,geE hj,ab]; exact key _ (by rw [geE hj]; rfl)
   ·rw [if_neg hj]; exact key _ (by rw [List.getElem?_eq_none (by omega)]; rfl)
  ·rw [if_neg hi]
   have:i = a.length:=by omega
   subst this
   rw [List.take_length,bJ hb,bJ (by omega)] at h4
   refine ⟨xs,rfl,h2,?_⟩
   have h5:=ey xs
   rw [h2] at h5
   by_cases hu:u.toNat = 0
   ·rw [hu] at h4; omega
   ·have:u.toNat = 1:=by omega
    rw [this] at h4; omega
end Go.Proofs.YtibdeoeglcngoaaGreatDoor
namespace Go.Proofs.YtibdeoeglcngoaaGreatDoor
open Go
theorem er (a:List UInt64) {i:Nat} (h:i < a.length):val a = val (a.take i) + 18446744073709551616 ^ i * a[i].toNat + 18446744073709551616 ^ (i + 1) * val (a.drop (i + 1)):=by
 conv=>lhs; rw [<- List.take_append_drop (i + 1) a,dC]
 rw [cN a h,List.length_take,Nat.min_eq_left (by omega)]
theorem iV {a b:List UInt64} (hb:Nm b) (h:a.length < b.length):val a < val b:=by
 have h1:=ey a
 have h2:=gD hb (by intro e; rw [e] at h; simp at h)
 have h3:18446744073709551616 ^ a.length <= 18446744073709551616 ^ (b.length - 1):=Nat.pow_le_pow_right (by omega) (by omega)
 omega
theorem gN {a b:List UInt64} {i:Nat} (ha:i < a.length) (hb:i < b.length) (hd:a.drop (i + 1) = b.drop (i + 1)) (h:a[i] < b[i]):val a < val b:=by
 rw [er a ha,er b hb,hd]
 have h1:=ey (a.take i)
 rw [List.length_take,Nat.min_eq_left (by omega)] at h1
 have h2:18446744073709551616 ^ i * (a[i].toNat + 1) <= 18446744073709551616 ^ i * b[i].toNat:=Nat.mul_le_mul_left _ (UInt64.lt_iff_toNat_lt.1 h)
 rw [Nat.mul_add] at h2
 omega
theorem ge (n:Nat) (a b:List UInt64) (ha:Nm a) (hb:Nm b) (hn:a.length < n) (hl:a.length < 4294967296):∃ c,aW_p n a b = some c/\(c < 0 ↔ val a < val b)/\(c = 0 ↔ val a = val b):=by
 unfold aW_p
 by_cases h:a.length = b.length
 ·rw [if_pos h]
  have hh:=av (B:=aW_l1 n a b) (fun z:Int=>(z + 1).toNat) (fun z=>-1 <= z/\z < a.length/\a.drop (z + 1).toNat = b.drop (z + 1).toNat)
   (fun r=>(r = .inl (-1)/\val a < val b) ∨ (r = .inl 1/\val b < val a) ∨ (r = .inr ()/\a = b)) ?_ n ((a.length:Int) - 1) ⟨by omega,by omega,?_⟩ (by omega)
  ·obtain ⟨r,hr,h1 | h1 | h1⟩:=hh
   ·rw [hr,h1.1]; exact ⟨_,rfl,by have:=h1.2; omega,by have:=h1.2; omega⟩
   ·rw [hr,h1.1]; exact ⟨_,rfl,by have:=h1.2; omega,by have:=h1.2; omega⟩
   ·rw [hr,h1.1,h1.2]; exact ⟨_,rfl,by omega,by omega⟩
  ·intro z J ⟨h1,h2,h3⟩ hJ
   unfold aW_l1
   simp only
   by_cases h0:0 <= z
   ·have e1:(z + 1).toNat = z.toNat + 1:=by omega
    rw [e1] at h3
    rw [if_pos h0,bI h0 (by omega),ab,bI h0 (by omega),ab]
    split
    ·rename_i hlt; exact ⟨_,rfl,.inl ⟨rfl,gN (by omega) (by omega) h3 hlt⟩⟩
    ·rename_i h4
     split
     ·rename_i hlt; exact ⟨_,rfl,.inr (.inl ⟨rfl,gN (by omega) (by omega) h3.symm hlt⟩)⟩
     ·rename_i h5
      have he:a[z.toNat]'(by omega) = b[z.toNat]'(by omega):=UInt64.toNat_inj.1 (by rw [UInt64.lt_iff_toNat_lt] at h4 h5; omega)
      rw [aL (by omega) (by omega),ab]
      refine hJ (z - 1) ⟨by omega,by omega,?_⟩ (by omega)
      rw [show (z - 1 + 1).toNat = z.toNat by omega,List.drop_eq_getElem_cons (by omega),List.drop_eq_getElem_cons (l:=b) (by omega),h3,he]
   ·rw [if_neg h0]
    have e1:(z + 1).toNat = 0:=by omega
    rw [e1] at h3
    exact ⟨_,rfl,.inr (.inr ⟨rfl,by simpa using h3⟩)⟩
  ·rw [show ((a.length:Int) - 1 + 1).toNat = a.length by omega,List.drop_length,h,List.drop_length]
 ·rw [if_neg h]
  refine ⟨_,rfl,?_⟩
  by_cases h1:a.length < b.length
  ·have:=iV hb h1; omega
  ·have:=iV (a:=b) ha (by omega); omega
def L (z:Int):Tg:=⟨decide (z < 0),dg z.natAbs⟩
def Fit (l:Nat) (z:Int):Prop:=z.natAbs < 18446744073709551616 ^ l
theorem Fit.len {l:Nat} {z:Int} (h:Fit l z):(dg z.natAbs).length <= l:=eN h
def sg (s:Bool) (m:Nat):Int:=if s = true then -(m:Int) else m
theorem L_sg (s:Bool) (m:Nat):(⟨s && decide (0 < m),dg m⟩:Tg) = L (sg s m):=by
 unfold L sg
 cases s
 ·simp
 ·simp
theorem iY (s:Bool) (m:Nat):(sg s m).natAbs = m:=by unfold sg; split <;> omega
theorem ee (n l:Nat) (z:Int) (h:Fit l z) (hn:l < n) (hl:l < 1000000):aG_p n (L z) = some (L (-z)):=by
 unfold aG_p
 have h1:=h.len
 rw [aO n _ _ (by show (dg z.natAbs).length < n; omega) (by show (dg z.natAbs).length <= _; omega),ab]
 show some (⟨!decide (z < 0) && decide (0 < val (dg z.natAbs)),dg (val (dg z.natAbs))⟩:Tg) = _
 rw [bc,L_sg]
 refine congrArg (fun x=>some (L x)) ?_
 unfold sg
 by_cases hz:z < 0 <;> simp [hz] <;> omega
theorem dg_mono {a b:Nat} (h:a <= b):(dg a).length <= (dg b).length:=eN (Nat.lt_of_le_of_lt h (by have:=ey (dg b); rwa [bc] at this))
theorem hO (n l a b:Nat) (s:Bool) (h:a <= b) (hl:(dg b).length <= l) (hn:l < n) (hl2:l < 1000000):((bg_p n (dg b) (dg a)).bind fun y67=>(aj_p n s y67).bind fun y75=>some y75) = some (L (sg s (b - a))):=by
 obtain ⟨xs,e1,e2,e3⟩:=jF n (dg b) (dg a) (dg_mono h) (by rw [bc,bc]; exact h) (by omega) (by omega)
 rw [e1,ab,aO n _ _ (by omega) (by omega),ab,e3,bc,bc,L_sg]
theorem gK (n l:Nat) (a b:Int) (ha:Fit l a) (hb:Fit l b) (hn:l + 1 < n) (hl:l < 1000000):aU_p n (L a) (L b) = some (L (a + b)):=by
 unfold aU_p
 have h1:=ha.len
 have h2:=hb.len
 by_cases h:((L a).fj == (L b).fj) = true
 ·rw [if_pos h]
  obtain ⟨xs,e1,e2,e3⟩:=jM n (L a).fo (L b).fo ⟨by show (dg a.natAbs).length < n; omega,by show (dg b.natAbs).length < n; omega⟩ ⟨by show (dg a.natAbs).length < _; omega,by show (dg b.natAbs).length < _; omega⟩
  have e4:xs.length <= max (dg a.natAbs).length (dg b.natAbs).length + 1:=e2
  rw [e1,ab,aO n _ _ (by omega) (by omega),ab,e3]
  show some (⟨decide (a < 0) && decide (0 < val (dg a.natAbs) + val (dg b.natAbs)),dg (val (dg a.natAbs) + val (dg b.natAbs))⟩:Tg) = _
  rw [bc,bc,L_sg]
  refine congrArg (fun x=>some (L x)) ?_
  have h3:decide (a < 0) = decide (b < 0):=eq_of_beq h
  unfold sg
  by_cases h4:a < 0 <;> by_cases h5:b < 0 <;> simp [h4,h5] at h3 ⊢ <;> omega
 ·rw [if_neg h]
  obtain ⟨c,e1,e2,e3⟩:=ge n (L a).fo (L b).fo (jv _) (jv _) (by show (dg a.natAbs).length < n; omega) (by show (dg a.natAbs).length < _; omega)
  have h3:decide (a < 0) ≠ decide (b < 0):=fun e=>h (by rw [beq_iff_eq]; exact e)
  rw [e1,ab]
  unfold jn
  simp only
  have e4:c < 0 ↔ a.natAbs < b.natAbs:=by rw [e2]; show val (dg a.natAbs) < val (dg b.natAbs) ↔ _; rw [bc,bc]
  by_cases hc:c < 0
  ·rw [if_pos hc]
   show ((bg_p n (dg b.natAbs) (dg a.natAbs)).bind fun y67=>(aj_p n (decide (b < 0)) y67).bind fun y75=>some y75) = _
   rw [hO n l _ _ _ (by omega) h2 (by omega) hl]
   refine congrArg (fun x=>some (L x)) ?_
   unfold sg
   by_cases h4:a < 0 <;> by_cases h5:b < 0 <;> simp [h4,h5] at h3 ⊢ <;> omega
  ·rw [if_neg hc]
   show ((bg_p n (dg a.natAbs) (dg b.natAbs)).bind fun y67=>(aj_p n (decide (a < 0)) y67).bind fun y75=>some y75) = _
   rw [hO n l _ _ _ (by omega) h1 (by omega) hl]
   refine congrArg (fun x=>some (L x)) ?_
   unfold sg
   by_cases h4:a < 0 <;> by_cases h5:b < 0 <;> simp [h4,h5] at h3 ⊢ <;> omega
end Go.Proofs.YtibdeoeglcngoaaGreatDoor
namespace Go.Proofs.YtibdeoeglcngoaaGreatDoor
open Go
theorem dg1 {m:Nat} (h0:m ≠ 0) (h:m < 18446744073709551616):dg m = [UInt64.ofNat m]:=by
 rw [gd h0,show m / 18446744073709551616 = 0 by omega,dg0]
theorem fI {m:Nat} (h0:m ≠ 0) (h:m < 18446744073709551616):UInt64.ofNat m ≠ 0:=fun e=>by
 have:=congrArg UInt64.toNat e
 rw [UInt64.toNat_ofNat'] at this
 simp at this; omega
theorem bC {m:Nat} (h:m < 18446744073709551616):(UInt64.ofNat m).toNat = m:=by rw [UInt64.toNat_ofNat']; exact Nat.mod_eq_of_lt h
theorem jL (n:Nat) (x y:UInt64) (h:y ≠ 0):aI_p n 0 x y = some (x / y,x % y):=by
 unfold aI_p
 have h1:¬ y <= 0:=fun h1=>h (UInt64.toNat_inj.1 (by rw [UInt64.le_iff_toNat_le] at h1; simpa using h1))
 rw [if_neg h,if_neg h1,if_pos rfl]
 unfold gr jI
 rw [if_neg h,ab,if_neg h,ab]
theorem dQ (n a b:Nat) (ha:a < 18446744073709551616) (hb:b < 18446744073709551616) (h0:b ≠ 0) (hn:4 < n):∃ q,aO_p n (dg a) (dg b) = some (q,dg (a % b))/\q.length <= 1/\val q = a / b:=by
 obtain ⟨k,rfl⟩:∃ k,n = k + 3:=⟨n - 3,by omega⟩
 rw [dg1 h0 hb]
 unfold aO_p
 by_cases h:a = 0
 ·subst h
  refine ⟨[],?_,by simp,by simp [val]⟩
  rw [dg0,Nat.zero_mod,dg0]
  rw [dm _ _ (by simp),ab,if_pos (show [UInt64.ofNat b].length = 1 from rfl),bB]
  unfold aO_l1
  simp only
  rw [if_neg (by decide),ab]
  simp only
  rw [aO _ _ _ (by simp) (by simp),ab]
  simp [val,dg0]
 ·have hm:a % b < 18446744073709551616:=Nat.lt_of_le_of_lt (Nat.mod_le _ _) ha
  have e2:(UInt64.ofNat a % UInt64.ofNat b).toNat = a % b:=by rw [UInt64.toNat_mod,bC ha,bC hb]
  refine ⟨[UInt64.ofNat a / UInt64.ofNat b],?_,by simp,?_⟩
  ·rw [dg1 h ha,dm _ _ (by simp),ab,if_pos (show [UInt64.ofNat b].length = 1 from rfl),bB]
   unfold aO_l1
   simp only
   rw [if_pos (show (0:Int) <= ((([UInt64.ofNat a]:List UInt64).length:Nat):Int) - 1 by simp),bI (by simp) (by simp),ab]
   simp only [leC,leN,List.getElem?_cons_zero,ab]
   show ((aI_p (k + 3) 0 (UInt64.ofNat a) (UInt64.ofNat b)).bind _).bind _ = _
   rw [jL _ _ _ (fI h0 hb),ab]
   show (((some (0:UInt64)).bind _)).bind _ = _
   rw [ab]
   show ((put [(0:UInt64)] ((0:Nat):Int) _).bind _).bind _ = _
   rw [cD _ (by decide),ab]
   show (((some (-1:Int)).bind _)).bind _ = _
   rw [ab,bB]
   simp only
   rw [if_neg (by decide),ab]
   simp only
   rw [aO _ _ _ (by simp) (by simp),ab]
   simp [val,e2]
  ·simp only [val]
   rw [UInt64.toNat_div,bC ha,bC hb]; simp
theorem dZ {a b q r:Int} (h:a = b * q + r) (h0:0 <= r) (h1:r < b.natAbs):a / b = q/\a % b = r:=by
 by_cases hb:0 < b
 ·exact (Int.ediv_emod_unique hb).2 ⟨by rw [h]; omega,h0,by omega⟩
 ·have hb2:0 < -b:=by omega
  have h3:a = (-b) * (-q) + r:=by rw [h,Int.neg_mul_neg]
  obtain ⟨e1,e2⟩:=(Int.ediv_emod_unique (a:=a) (r:=r) (q:=-q) hb2).2 ⟨by rw [h3]; omega,h0,by omega⟩
  rw [Int.ediv_neg] at e1
  rw [Int.emod_neg] at e2
  exact ⟨by omega,e2⟩
def W1 (z:Int):Prop:=z.natAbs < 18446744073709551616
theorem fL (n:Nat) (a b:Int) (ha:W1 a) (hb:W1 b) (h0:b ≠ 0) (hn:10 < n):bq_p n (L a) (L b) = some (L (a / b),L (a % b)):=by
 obtain ⟨q,e1,e2,e3⟩:=dQ n a.natAbs b.natAbs ha hb (by omega) (by omega)
 have hm:a.natAbs % b.natAbs < b.natAbs:=Nat.mod_lt _ (by omega)
 have hl:(dg (a.natAbs % b.natAbs)).length <= 1:=eN (by rw [Nat.pow_one]; unfold W1 at hb; omega)
 have hdm:=Nat.div_add_mod a.natAbs b.natAbs
 have hq:a.natAbs / b.natAbs <= a.natAbs:=Nat.div_le_self _ _
 unfold bq_p
 rw [show (L a).fo = dg a.natAbs from rfl,show (L b).fo = dg b.natAbs from rfl,e1,ab]
 simp only
 rw [aO n _ _ (by omega) (by omega),ab,aO n _ _ (by omega) (by omega),ab,e3,bc]
 generalize hx:a.natAbs / b.natAbs = x at *
 generalize hy:a.natAbs % b.natAbs = y at *
 simp only [L_sg]
 show (if (decide (a < 0) && decide (0 < y)) = true then _ else _) = _
 unfold W1 at ha hb
 have hab:(b.natAbs:Int) * x + y = a.natAbs:=by exact_mod_cast hdm
 by_cases hr:a < 0/\0 < y
 ·obtain ⟨h1,h2⟩:=hr
  rw [if_pos (by simp [h1,h2])]
  have f1:(⟨false,dg b.natAbs⟩:Tg) = L b.natAbs:=by unfold L; simp
  have f2:(⟨!(L b).fj,([(1:UInt64)]:List UInt64)⟩:Tg) = L (if b < 0 then 1 else -1):=by
   unfold L
   by_cases hb0:b < 0 <;> simp [hb0] <;> rw [dg1 (by decide) (by decide)] <;> rfl
  rw [f1,f2,gK n 1 _ _ ?_ ?_ (by omega) (by omega),ab,gK n 1 _ _ ?_ ?_ (by omega) (by omega),ab]
  ·have e:sg (!(decide (a < 0) == decide (b < 0))) x + (if b < 0 then 1 else -1) = a / b/\sg (decide (a < 0)) y + b.natAbs = a % b:=by
    have:=dZ (a:=a) (b:=b) (q:=sg (!(decide (a < 0) == decide (b < 0))) x + (if b < 0 then 1 else -1)) (r:=sg (decide (a < 0)) y + b.natAbs) ?_ ?_ ?_
    ·exact ⟨this.1.symm,this.2.symm⟩
    ·unfold sg
     by_cases hb0:b < 0
     ·have:(b.natAbs:Int) = -b:=by omega
      rw [this] at hab ⊢
      have h3:(a.natAbs:Int) = -a:=by omega
      simp [h1,hb0]
      rw [Int.mul_add]; grind
     ·have:(b.natAbs:Int) = b:=by omega
      rw [this] at hab ⊢
      have h3:(a.natAbs:Int) = -a:=by omega
      simp [h1,hb0]
      rw [Int.mul_add]; grind
    ·unfold sg; simp [h1]; omega
    ·unfold sg; simp [h1]; omega
   show some (L (sg (!(decide (a < 0) == decide (b < 0))) x + (if b < 0 then 1 else -1)),L (sg (decide (a < 0)) y + b.natAbs)) = _
   rw [e.1,e.2]
  ·unfold Fit; rw [Nat.pow_one,iY]; omega
  ·unfold Fit; rw [Nat.pow_one]; split <;> decide
  ·unfold Fit; rw [Nat.pow_one,iY]; omega
  ·unfold Fit; rw [Nat.pow_one]; omega
 ·rw [if_neg (by simpa using hr)]
  have e:=dZ (a:=a) (b:=b) (q:=sg (!(decide (a < 0) == decide (b < 0))) x) (r:=sg (decide (a < 0)) y) ?_ ?_ ?_
  ·rw [e.1,e.2]; rfl
  ·unfold sg
   by_cases h1:a < 0
   ·have hy0:y = 0:=by omega
    have h3:(a.natAbs:Int) = -a:=by omega
    by_cases hb0:b < 0
    ·have:(b.natAbs:Int) = -b:=by omega
     rw [this] at hab; simp [h1,hb0,hy0] at hab ⊢; grind
    ·have:(b.natAbs:Int) = b:=by omega
     rw [this] at hab; simp [h1,hb0,hy0] at hab ⊢; grind
   ·have h3:(a.natAbs:Int) = a:=by omega
    by_cases hb0:b < 0
    ·have:(b.natAbs:Int) = -b:=by omega
     rw [this] at hab; simp [h1,hb0] at hab ⊢; grind
    ·have:(b.natAbs:Int) = b:=by omega
     rw [this] at hab; simp [h1,hb0] at hab ⊢; grind
  ·unfold sg
   by_cases h1:a < 0
   ·have hy0:y = 0:=by omega
    simp [hy0]
   ·simp [h1]
  ·unfold sg
   by_cases h1:a < 0
   ·have hy0:y = 0:=by omega
    simp [hy0]; omega
   ·simp [h1]; omega
theorem ik (n:Nat) (a b:Int) (ha:W1 a) (hb:W1 b) (hn:18446744073709551616 < n):ax_p n (L a) (L b) = some (L (Nat.gcd a.natAbs b.natAbs:Nat)):=by
 have h:=av (B:=ax_l1 n) (fun s:List UInt64 × List UInt64=>val s.2) (fun s=>∃ x y,s = (dg x,dg y)/\x < 18446744073709551616/\y < 18446744073709551616/\Nat.gcd x y = Nat.gcd a.natAbs b.natAbs)
  (fun r=>r = dg (Nat.gcd a.natAbs b.natAbs)) ?_ n (dg a.natAbs,dg b.natAbs) ⟨_,_,rfl,ha,hb,rfl⟩ (by simp only [bc]; unfold W1 at hb; omega)
 ·obtain ⟨r,h1,rfl⟩:=h
  unfold ax_p
  rw [show (L a).fo = dg a.natAbs from rfl,show (L b).fo = dg b.natAbs from rfl,h1,ab]
  unfold L
  simp
 ·rintro _ J ⟨x,y,rfl,h1,h2,h3⟩ hJ
  unfold ax_l1
  simp only
  by_cases h0:y = 0
  ·subst h0
   rw [if_neg (by rw [dg0]; simp)]
   exact ⟨_,rfl,by rw [<- h3,Nat.gcd_zero_right]⟩
  ·obtain ⟨q,e1,_,_⟩:=dQ n x y h1 h2 h0 (by omega)
   have hm:x % y < y:=Nat.mod_lt _ (by omega)
   rw [if_pos (by rw [dg1 h0 h2]; simp),e1,ab]
   simp only
   refine hJ (dg y,dg (x % y)) ⟨_,_,rfl,h2,by omega,?_⟩ (by simp only [bc]; exact hm)
   rw [<- h3,Nat.gcd_comm x y,Nat.gcd_rec y x,Nat.gcd_comm]
end Go.Proofs.YtibdeoeglcngoaaGreatDoor
namespace Go.Proofs.YtibdeoeglcngoaaGreatDoor
open Go
def W8 (z:Int):UInt64 × UInt64 × UInt64 × UInt64 × UInt64 × UInt64 × UInt64 × UInt64:=
 if z < 0 then (ac z,18446744073709551615,18446744073709551615,18446744073709551615,18446744073709551615,18446744073709551615,18446744073709551615,18446744073709551615) else (ac z,0,0,0,0,0,0,0)
def Sm (z:Int):Prop:=z.natAbs < 9223372036854775808
theorem Sm.w {z:Int} (h:Sm z):W1 z:=by unfold Sm W1 at *; omega
theorem dy {z:Int} (h:Sm z) (h0:z < 0):(ac z).toNat = 18446744073709551616 - z.natAbs:=by
 unfold ac Sm at *; rw [UInt64.toNat_ofNat']; omega
theorem dx {z:Int} (h:Sm z) (h0:¬ z < 0):ac z = UInt64.ofNat z.natAbs:=by
 unfold ac Sm at *; congr 1; omega
theorem of_ok (n:Nat) (z:Int) (hn:10 < n):bV_p n z = some (W8 z):=by
 obtain ⟨k,rfl⟩:∃ k,n = k + 9:=⟨n - 9,by omega⟩
 unfold bV_p W8
 by_cases h:z < 0
 ·rw [if_pos h,if_pos h]
  simp [bB,bV_l1,bg]
 ·rw [if_neg h,if_neg h]
theorem sub_m1:sub64 0 18446744073709551615 1 = some (0,1):=rfl
theorem sub_01:sub64 0 0 1 = some (18446744073709551615,1):=rfl
theorem read_ok (n:Nat) (z:Int) (h:Sm z):ck_p n (W8 z) = some ⟨decide (z < 0),(UInt64.ofNat z.natAbs,0,0,0,0,0,0,0)⟩:=by
 unfold ck_p W8
 by_cases h0:z < 0
 ·rw [if_pos h0]
  have e:sub64 0 (ac z) 0 = some (UInt64.ofNat z.natAbs,1):=by
   unfold sub64
   rw [if_pos (by decide),dy h h0]
   unfold Sm at h
   rw [if_pos (by simp; omega)]
   congr 2
   simp; congr 1; omega
  rw [if_pos (show shrU 18446744073709551615 63 = 1 from rfl)]
  unfold ba_p
  simp only [e,ab,sub_m1]
  simp [h0]; rfl
 ·rw [if_neg h0]
  rw [if_neg (show ¬ shrU 0 63 = 1 from by decide),dx h h0]
  simp [h0]; decide
theorem ep (n:Nat) (z:Int) (h:Sm z) (hn:10 < n):bh_p n (W8 z) = some (L z):=by
 unfold bh_p
 rw [read_ok n z h,ab]
 simp only
 rw [show app ([]:List UInt64) [UInt64.ofNat z.natAbs,0,0,0,0,0,0,0] = some [UInt64.ofNat z.natAbs,0,0,0,0,0,0,0] from rfl,ab,aO n _ _ (by simpa using by omega) (by simp),ab]
 have e:val [UInt64.ofNat z.natAbs,0,0,0,0,0,0,0] = z.natAbs:=by
  have:=h.w; unfold W1 at this
  simp only [val,bC this]; simp
 rw [e]
 unfold L
 by_cases h0:z < 0
 ·simp [h0]; omega
 ·simp [h0]
theorem jS {m:Nat} (h:m < 18446744073709551616):bh (dg m) 0 0 = UInt64.ofNat m:=by
 by_cases h0:m = 0
 ·subst h0; rw [dg0]; rfl
 ·rw [dg1 h0 h]; rfl
theorem bv {m:Nat} (j:Nat) (h:m < 18446744073709551616):bh (dg m) (j + 1) 0 = 0:=by
 by_cases h0:m = 0
 ·subst h0; rw [dg0]; rfl
 ·rw [dg1 h0 h]; rfl
theorem gV (n:Nat) (z:Int) (h:Sm z) (hn:10 < n):bu_p n (L z) = some (W8 z,0):=by
 have hw:=h.w
 unfold W1 at hw
 have hl:¬ 8 < (L z).fo.length:=by
  have:(dg z.natAbs).length <= 1:=eN (by rw [Nat.pow_one]; exact hw)
  show ¬ 8 < (dg z.natAbs).length
  omega
 unfold bu_p
 rw [if_neg hl,show (L z).fo = dg z.natAbs from rfl,jS hw,bv 0 hw,bv 1 hw,bv 2 hw,bv 3 hw,bv 4 hw,bv 5 hw,bv 6 hw]
 unfold bI_p
 have ho:∀ x:UInt64,bj_p n (x,0,0,0,0,0,0,0) (0,0,0,0,0,0,0,9223372036854775808) = some (-1):=fun x=>by
  obtain ⟨k,rfl⟩:∃ k,n = k + 1:=⟨n - 1,by omega⟩
  unfold bj_p
  rw [bB]
  rfl
 rw [ho,ab,if_neg (by decide),if_neg (by decide)]
 unfold W8
 by_cases h0:z < 0
 ·have e:sub64 0 (UInt64.ofNat z.natAbs) 0 = some (ac z,1):=by
   unfold sub64
   rw [if_pos (by decide),bC hw]
   rw [if_pos (by simp; omega)]
   congr 2
   refine UInt64.toNat_inj.1 ?_
   rw [dy h h0,UInt64.toNat_ofNat']
   unfold Sm at h
   simp; omega
  rw [if_pos h0,if_pos (by simpa [L] using h0)]
  unfold ba_p
  simp only [e,ab,sub_01]
 ·rw [if_neg h0,if_neg (by simpa [L] using h0),ab,dx h h0]
def Rt (q:Rat):Th:=⟨L q.num,L q.den⟩
def Sh (q:Rat):Ta:=⟨W8 q.num,W8 q.den⟩
theorem iW {x y:Int} (hy:0 < y) (hc:x.natAbs.Coprime y.natAbs):(Rat.divInt x y).num = x/\((Rat.divInt x y).den:Int) = y:=by
 have e:Rat.divInt x y = { num:=x,den:=y.natAbs,den_nz:=by omega,reduced:=hc }:=by
  rw [Rat.mk_eq_divInt]; congr 1; omega
 rw [e]; exact ⟨rfl,by simp only; omega⟩
theorem ix (n:Nat) (a b:Int) (ha:W1 a) (hb:W1 b) (h0:b ≠ 0) (hn:18446744073709551616 < n) :
  bt_p n (L a) (L b) = some (Rt (Rat.divInt a b))/\(Rat.divInt a b).num.natAbs <= a.natAbs/\(Rat.divInt a b).den <= b.natAbs:=by
 have hg:0 < Nat.gcd a.natAbs b.natAbs:=Nat.gcd_pos_of_pos_right _ (by omega)
 have hgb:Nat.gcd a.natAbs b.natAbs <= b.natAbs:=Nat.gcd_le_right _ (by omega)
 have hgw:W1 ((Nat.gcd a.natAbs b.natAbs:Nat):Int):=by unfold W1 at *; omega
 obtain ⟨x,hx⟩:((Nat.gcd a.natAbs b.natAbs:Nat):Int) ∣ a:=Int.ofNat_dvd_left.2 (Nat.gcd_dvd_left _ _)
 obtain ⟨y,hy⟩:((Nat.gcd a.natAbs b.natAbs:Nat):Int) ∣ b:=Int.ofNat_dvd_left.2 (Nat.gcd_dvd_right _ _)
 have hco:=Nat.coprime_div_gcd_div_gcd hg
 generalize Nat.gcd a.natAbs b.natAbs = g at *
 have hg0:(g:Int) ≠ 0:=by omega
 have e1:a / (g:Int) = x:=by rw [hx]; exact Int.mul_ediv_cancel_left _ hg0
 have e2:b / (g:Int) = y:=by rw [hy]; exact Int.mul_ediv_cancel_left _ hg0
 have e3:a.natAbs = g * x.natAbs:=by rw [hx,Int.natAbs_mul]; rfl
 have e4:b.natAbs = g * y.natAbs:=by rw [hy,Int.natAbs_mul]; rfl
 have hc:x.natAbs.Coprime y.natAbs:=by
  rw [e3,e4,Nat.mul_div_cancel_left _ hg,Nat.mul_div_cancel_left _ hg] at hco; exact hco
 have hxl:x.natAbs <= a.natAbs:=by rw [e3]; exact Nat.le_mul_of_pos_left _ hg
 have hyl:y.natAbs <= b.natAbs:=by rw [e4]; exact Nat.le_mul_of_pos_left _ hg
 have hy0:y ≠ 0:=fun e=>h0 (by rw [hy,e,Int.mul_zero])
 have eq:Rat.divInt a b = Rat.divInt x y:=by
  conv=>lhs; rw [hx,hy]
  exact Rat.divInt_mul_left hg0
 have xw:Fit 1 x:=by unfold Fit; unfold W1 at ha; rw [Nat.pow_one]; omega
 have yw:Fit 1 y:=by unfold Fit; unfold W1 at hb; rw [Nat.pow_one]; omega
 have gc:ax_p n (L a) (L b) = some (L g):=by
  have:=ik n a b ha hb hn
  rw [this]
  have h5:Nat.gcd a.natAbs b.natAbs = g:=by
   rw [e3,e4,Nat.gcd_mul_left,show Nat.gcd x.natAbs y.natAbs = 1 from hc,Nat.mul_one]
  rw [h5]
 unfold bt_p
 rw [gc,ab,fL n a g ha hgw hg0 (by omega),ab,fL n b g hb hgw hg0 (by omega),ab,e1,e2]
 simp only
 rw [eq]
 by_cases hs:y < 0
 ·rw [if_pos (by simpa [L] using hs),ee n 1 x xw (by omega) (by omega),ab,ee n 1 y yw (by omega) (by omega),ab]
  have h5:=iW (x:=-x) (y:=-y) (by omega) (by rwa [Int.natAbs_neg,Int.natAbs_neg])
  rw [Rat.neg_divInt_neg] at h5
  unfold Rt
  rw [h5.1,h5.2]
  exact ⟨rfl,by rw [Int.natAbs_neg]; exact hxl,by have:=h5.2; omega⟩
 ·rw [if_neg (by simpa [L] using hs)]
  have h5:=iW (x:=x) (y:=y) (by omega) hc
  unfold Rt
  rw [h5.1,h5.2]
  exact ⟨rfl,hxl,by have:=h5.2; omega⟩
end Go.Proofs.YtibdeoeglcngoaaGreatDoor
namespace Go.Proofs.YtibdeoeglcngoaaGreatDoor
open Go
theorem W8_ne {z:Int} (h:Sm z) (h0:z ≠ 0):W8 z ≠ (0,0,0,0,0,0,0,0):=fun e=>by
 have e1:ac z = 0:=by
  have:=congrArg Prod.fst e
  unfold W8 at this
  split at this <;> exact this
 by_cases hz:z < 0
 ·have:=dy h hz
  rw [e1] at this; unfold Sm at h; simp at this; omega
 ·rw [dx h hz] at e1
  exact fI (by omega) h.w e1
theorem ja (n:Nat) (q:Rat) (h1:Sm q.num) (h2:Sm (q.den:Int)) (hn:10 < n):bm_p n (Rt q) = some (Sh q,0):=by
 unfold bm_p
 rw [show (Rt q).fw = L q.num from rfl,show (Rt q).fp = L q.den from rfl,gV n _ h1 hn,ab,gV n _ h2 hn,ab]
 rfl
theorem fG (n:Nat) (a b:Int) (ha:Sm a) (hb:Sm b) (h0:b ≠ 0) (hn:18446744073709551616 < n):cd_p n a b = some (Sh (Rat.divInt a b),0):=by
 obtain ⟨e1,e2,e3⟩:=ix n a b ha.w hb.w h0 hn
 unfold cd_p
 rw [of_ok n a (by omega),ab,of_ok n b (by omega),ab]
 unfold cm_p
 rw [if_neg (W8_ne hb h0),ep n a ha (by omega),ab,ep n b hb (by omega),ab,e1,ab,ja n _ (by unfold Sm at *; omega) (by unfold Sm at *; omega) (by omega)]
 rfl
end Go.Proofs.YtibdeoeglcngoaaGreatDoor
namespace Go.Proofs.YtibdeoeglcngoaaGreatDoor
open Go
theorem cT {x y:Int} (h:y ≠ 0):cV x y = some (x.tmod y):=if_neg h
theorem eU {α:Type} (xs ys:List α) (h:xs.length + ys.length <= 1000000):app xs ys = some (xs ++ ys):=if_pos (Nat.le_trans h (by decide))
theorem iM (n:Nat) (d:Tj) (i:Int) (h:0 <= i):∃ y,aK_p n d i = some y/\0 <= y/\y < 256:=by
 unfold aK_p
 split
 ·rw [bI h (by omega),ab]
  have:=(d.fLabels[i.toNat]'(by omega)).toNat_lt
  exact ⟨_,rfl,by omega,by omega⟩
 ·exact ⟨_,rfl,by omega,by omega⟩
theorem iG (n:Nat) (d:Tj) (hn:20 < n):∃ l,ap (ab_l2 n d) n (0,[]) = some l/\1 <= l.length/\l.length <= 9/\∀ x ∈ l,0 <= x/\x < 8:=by
 have hu:(d.fN % 9).toNat < 9:=by rw [UInt8.toNat_mod]; exact Nat.mod_lt _ (by decide)
 have hk:(d.fK % 8).toNat < 8:=by rw [UInt8.toNat_mod]; exact Nat.mod_lt _ (by decide)
 have h:=av (B:=ab_l2 n d) (fun s:Int × List Int=>10 - s.1.toNat) (fun s=>0 <= s.1/\s.1 <= (1 + (d.fN % 9).toNat:Nat)/\s.2.length = s.1.toNat/\∀ x ∈ s.2,0 <= x/\x < 8)
  (fun l=>1 <= l.length/\l.length <= 9/\∀ x ∈ l,0 <= x/\x < 8) ?_ n (0,[]) ⟨by simp,by omega,by simp,by simp⟩ (by simp only; omega)
 ·obtain ⟨l,e,h⟩:=h; exact ⟨l,e,h⟩
 ·rintro ⟨z,xs⟩ J ⟨h1,h2,h3,h4⟩ hJ
  simp only at h1 h2 h3 h4 hJ
  unfold ab_l2 aY_p
  simp only [ab]
  split
  ·rename_i h5
   obtain ⟨y,e,y0,y1⟩:=iM n d z h1
   rw [e,ab,cT (by omega),ab,eU _ _ (by simp only [leC,leN]; omega),ab,aL (by omega) (by omega),ab]
   refine hJ _ ⟨by simp only; omega,by simp only; omega,by simp only [List.length_append,leC,leN]; omega,fun x hx=>?_⟩ (by simp only; omega)
   rcases List.mem_append.1 hx with hx | hx
   ·exact h4 x hx
   ·rw [List.mem_singleton.1 hx,Int.tmod_eq_emod_of_nonneg y0]
    have a1:=Int.emod_nonneg y (b:=((1 + (d.fK % 8).toNat:Nat):Int)) (by omega)
    have a2:=Int.emod_lt_of_pos y (b:=((1 + (d.fK % 8).toNat:Nat):Int)) (by omega)
    omega
  ·rename_i h5
   exact ⟨_,rfl,by omega,by omega,h4⟩
theorem iI (n:Nat) (l:List Int) (h1:1 <= l.length) (h2:l.length <= 9) (h:∀ x ∈ l,0 <= x/\x < 8) (hn:20 < n):aw_p n l 8 = some true:=by
 have hh:=av (B:=aw_l1 n l 8) (fun i:Nat=>l.length - i) (fun i=>i <= l.length) (fun r=>r = .inr ()) ?_ n 0 (Nat.zero_le _) (by omega)
 ·obtain ⟨r,e,rfl⟩:=hh
  unfold aw_p
  rw [e]
  show (if 1 <= l.length then some (decide (l.length <= 64)) else some false) = _
  rw [if_pos h1,decide_eq_true (by omega)]
 ·intro i J hi hJ
  unfold aw_l1
  simp only
  split
  ·rename_i h0
   have:=h l[i] (List.getElem_mem _)
   rw [geE h0,ab,if_neg (by omega),if_neg (by omega)]
   exact hJ (i + 1) h0 (by omega)
  ·exact ⟨_,rfl,rfl⟩
def bD (p:List Int) (k:Int):Prop:=(∀ x ∈ p,0 <= x/\x < k)/\∀ d,0 <= d -> d < k -> d ∈ p
theorem ju (n:Nat) (l:List Int) (h1:1 <= l.length) (h2:l.length <= 9) (h:∀ x ∈ l,0 <= x/\x < 8) (hn:20 < n):∃ p z,az_p n l = some (p,0)/\p.length = l.length/\bD p z/\z <= 8:=by
 have hh:=av (B:=az_l1 n l) (fun s:Int × Nat × List Int × List Int=>l.length - s.2.1)
  (fun s=>s.2.1 <= l.length/\s.2.2.1.length = s.2.1/\s.2.2.2.length = 8/\0 <= s.1/\s.1 + s.2.2.2.count (-1) = 8/\(∀ v ∈ s.2.2.2,v = -1 ∨ 0 <= v/\v < s.1)/\bD s.2.2.1 s.1)
  (fun p=>∃ z,p.length = l.length/\bD p z/\z <= 8) ?_ n (0,0,[],[-1,-1,-1,-1,-1,-1,-1,-1]) ⟨by simp,rfl,rfl,by simp,by decide,by simp,by simp,fun d h3 h4=>by simp only at h4; omega⟩ (by simp only; omega)
 ·obtain ⟨p,e,z,h3,h4,h5⟩:=hh
  refine ⟨p,z,?_,h3,h4,h5⟩
  unfold az_p
  rw [iI n l h1 h2 h hn,ab,if_pos rfl,e,ab]
 ·rintro ⟨z,i,xs,m⟩ J ⟨a1,a2,a3,a4,a5,a6,a7,a8⟩ hJ
  simp only at a1 a2 a3 a4 a5 a6 a7 a8 hJ
  unfold az_l1
  simp only
  split
  ·rename_i hi
   have hx:=h l[i] (List.getElem_mem _)
   have hm:l[i].toNat < m.length:=by omega
   rw [geE hi,ab,bI hx.1 hm,ab]
   unfold jn
   simp only
   have hv:=a6 m[l[i].toNat] (List.getElem_mem _)
   by_cases hneg:m[l[i].toNat] < 0
   ·have hv1:m[l[i].toNat] = -1:=by omega
    have hc:0 < m.count (-1):=by rw [<- hv1]; exact List.count_pos_iff.2 (List.getElem_mem _)
    rw [if_pos hneg,cD _ hm,ab,aL (by omega) (by omega),ab,bI hx.1 (by simpa using hm),ab,List.getElem_set_self,eU _ _ (by simp only [leC,leN]; omega),ab]
    refine hJ _ ⟨by simp only; omega,by simp only [List.length_append,leC,leN]; omega,by simpa using a3,by simp only; omega,?_,?_,?_,?_⟩ (by simp only; omega)
    ·simp only
     rw [List.count_set hm,hv1]
     have:((z == (-1:Int)) = false):=by rw [beq_eq_false_iff_ne]; omega
     simp only [this]
     simp only [beq_self_eq_true,if_true]
     simp
     omega
    ·intro v hv2
     rcases List.mem_or_eq_of_mem_set hv2 with hv2 | rfl
     ·rcases a6 v hv2 with h5 | h5
      ·exact .inl h5
      ·exact .inr ⟨h5.1,by simp only; omega⟩
     ·exact .inr ⟨a4,by simp only; omega⟩
    ·intro x hx2
     simp only at hx2 ⊢
     rcases List.mem_append.1 hx2 with hx2 | hx2
     ·have:=a7 x hx2; omega
     ·rw [List.mem_singleton.1 hx2]; omega
    ·intro d d0 d1
     simp only at d1 ⊢
     by_cases hd:d = z
     ·subst hd; exact List.mem_append_right _ (List.mem_singleton.2 rfl)
     ·exact List.mem_append_left _ (a8 d d0 (by omega))
   ·rw [if_neg hneg,bI hx.1 hm,ab,eU _ _ (by simp only [leC,leN]; omega),ab]
    refine hJ _ ⟨by simp only; omega,by simp only [List.length_append,leC,leN]; omega,a3,a4,a5,a6,?_,?_⟩ (by simp only; omega)
    ·intro x hx2
     simp only at hx2 ⊢
     rcases List.mem_append.1 hx2 with hx2 | hx2
     ·exact a7 x hx2
     ·rw [List.mem_singleton.1 hx2]; omega
    ·intro d d0 d1
     exact List.mem_append_left _ (a8 d d0 d1)
  ·exact ⟨_,rfl,z,by omega,⟨a7,a8⟩,by omega⟩
theorem jl (n:Nat) (d:Tj) (hn:20 < n):∃ p k,ab_p n d = some (p,k)/\1 <= p.length/\p.length <= 9/\bD p k/\1 <= k/\k <= 8:=by
 obtain ⟨l,e1,l1,l2,l3⟩:=iG n d hn
 obtain ⟨p,z,e2,p1,p2,p3⟩:=ju n l l1 l2 l3 hn
 have hh:=av (B:=ab_l1 n (p,0)) (fun s:Int × Nat=>p.length - s.2) (fun s=>s.2 <= p.length/\0 <= s.1/\s.1 <= 8/\(∀ j (h:j < p.length),j < s.2 -> p[j] + 1 <= s.1)/\(s.1 = 0/\s.2 = 0 ∨ s.1 - 1 ∈ p))
  (fun k=>1 <= k/\k <= 8/\(∀ x ∈ p,x < k)/\k - 1 ∈ p) ?_ n (0,0) ⟨by simp,by simp,by simp,fun j _ h=>by simp at h,.inl ⟨rfl,rfl⟩⟩ (by simp only; omega)
 ·obtain ⟨k,e3,k1,k2,k3,k4⟩:=hh
  refine ⟨p,k,?_,by omega,by omega,⟨fun x hx=>⟨(p2.1 x hx).1,k3 x hx⟩,fun d d0 d1=>p2.2 d d0 (by have:=(p2.1 _ k4).2; omega)⟩,k1,k2⟩
  unfold ab_p
  rw [e1,ab,e2,ab,e3,ab]
 ·rintro ⟨z', i⟩ J ⟨a1,a2,a3,a4,a5⟩ hJ
  simp only at a1 a2 a3 a4 a5 hJ
  unfold ab_l1
  simp only
  split
  ·rename_i hi
   have hx:=p2.1 p[i] (List.getElem_mem _)
   rw [geE hi,ab,aL (by omega) (by omega),ab]
   refine hJ _ ⟨hi,by simp only; omega,by simp only; omega,fun j hj h4=>?_,?_⟩ (by simp only; omega)
   ·simp only at h4 ⊢
    by_cases hj2:j = i
    ·subst hj2; omega
    ·have:=a4 j hj (by omega); omega
   ·right
    simp only
    by_cases hm:z' <= p[i] + 1
    ·rw [Int.max_eq_right hm,show p[i] + 1 - 1 = p[i] by omega]; exact List.getElem_mem _
    ·rw [Int.max_eq_left (by omega)]
     rcases a5 with ⟨h5,h6⟩ | h5
     ·omega
     ·exact h5
  ·rename_i hi
   rcases a5 with ⟨h5,h6⟩ | h5
   ·omega
   ·refine ⟨_,rfl,by have:=(p2.1 _ h5).1; omega,a3,fun x hx=>?_,h5⟩
    obtain ⟨j,hj,rfl⟩:=List.getElem_of_mem hx
    have:=a4 j hj (by omega); omega
end Go.Proofs.YtibdeoeglcngoaaGreatDoor
namespace Go.Proofs.YtibdeoeglcngoaaGreatDoor
open Go
def FU:Nat:=18446744073709552000
def nm (i:Nat):ByteArray:=⟨#[117,UInt8.ofNat (97 + i),97]⟩
theorem nm_inj {i j:Nat} (hi:i < 9) (hj:j < 9) (h:nm i = nm j):i = j:=by
 have h1:=congrArg (fun b:ByteArray=>b.data[1]!) h
 have h2:UInt8.ofNat (97 + i) = UInt8.ofNat (97 + j):=h1
 have h3:=congrArg UInt8.toNat h2
 rw [UInt8.toNat_ofNat', UInt8.toNat_ofNat'] at h3
 omega
theorem nm_sea {i:Nat} (h:nm i = ⟨#[115,101,97]⟩):False:=by
 have h1:=congrArg (fun b:ByteArray=>b.data[0]!) h
 have h2:(117:UInt8) = 115:=h1
 exact absurd h2 (by decide)
theorem de {κ ν:Type} [DecidableEq κ]:∀ (D:List (κ × ν)) (k x:κ) (v:ν),cW (aQ D k v) x = if x = k then some v else cW D x
 | [],k,x,v=>by simp [aQ,cW]
 | e :: D,k,x,v=>by
  unfold aQ
  split
  ·rename_i h; subst h; simp only [cW]; split <;> rfl
  ·rename_i h
   simp only [cW]
   rw [de D k x v]
   by_cases h1:x = k
   ·subst h1; simp [h]
   ·simp [h1]
theorem bw (n:Nat) (l:List Bool) (h:∀ b ∈ l,b = true) (hn:l.length < n):aE_p n l = some true:=by
 have hh:=av (B:=al_l1 n l false) (fun i:Nat=>l.length - i) (fun i=>i <= l.length) (fun r=>r = .inr ()) ?_ n 0 (Nat.zero_le _) (by omega)
 ·obtain ⟨r,e,rfl⟩:=hh
  unfold aE_p aJ_p al_p
  rw [e]
  rfl
 ·intro i J hi hJ
  unfold al_l1
  simp only
  split
  ·rename_i h0
   rw [geE h0,ab,h l[i] (List.getElem_mem _),if_neg (by decide)]
   exact hJ (i + 1) h0 (by omega)
  ·exact ⟨_,rfl,rfl⟩
theorem br (n:Nat) (l:List Int) (a ba:Int) (hl:(l.length:Int) = a) (h:∀ x ∈ l,0 <= x/\x <= ba) (hn:l.length < n):au_p n l a ba = some true:=by
 have hh:=av (B:=au_l1 n l ba) (fun i:Nat=>l.length - i) (fun i=>i <= l.length) (fun r=>r = .inr ()) ?_ n 0 (Nat.zero_le _) (by omega)
 ·obtain ⟨r,e,rfl⟩:=hh
  unfold au_p
  rw [if_pos hl,e]
  rfl
 ·intro i J hi hJ
  unfold au_l1 bL_p
  simp only
  split
  ·rename_i h0
   have:=h l[i] (List.getElem_mem _)
   rw [geE h0,ab,if_neg (by omega),ab,decide_eq_false (by omega),if_neg (by decide)]
   exact hJ (i + 1) h0 (by omega)
  ·exact ⟨_,rfl,rfl⟩
theorem gF (n:Nat) (d:Ti) (i:Int) (h:0 <= i):∃ y,aq_p n d i = some y/\0 <= y/\y <= 255:=by
 unfold aq_p
 split
 ·exact ⟨_,rfl,by omega,by omega⟩
 ·rename_i h0
  have h1:=Int.emod_nonneg i (b:=(d.fNums.length:Int)) (by omega)
  have h2:=Int.emod_lt_of_pos i (b:=(d.fNums.length:Int)) (by omega)
  rw [cT (by omega),ab,Int.tmod_eq_emod_of_nonneg h,bI h1 (by omega),ab]
  have:=(d.fNums[(i % (d.fNums.length:Int)).toNat]'(by omega)).toNat_lt
  exact ⟨_,rfl,by omega,by omega⟩
theorem fq (n:Nat) (d:Ti) (c at_ ba:Int) (h0:0 <= c) (h1:c <= 100) (h2:0 <= at_) (h3:at_ <= 1000) (h4:0 <= ba) (hn:200 < n):∃ l,ak_p n d c at_ ba = some l/\(l.length:Int) = c/\∀ x ∈ l,0 <= x/\x <= ba/\x <= 255:=by
 have hh:=av (B:=ak_l1 n c at_ d ba) (fun s:Int × List Int=>101 - s.1.toNat) (fun s=>0 <= s.1/\s.1 <= c/\(s.2.length:Int) = s.1/\∀ x ∈ s.2,0 <= x/\x <= ba/\x <= 255)
  (fun l=>(l.length:Int) = c/\∀ x ∈ l,0 <= x/\x <= ba/\x <= 255) ?_ n (0,[]) ⟨by simp,h0,by simp,by simp⟩ (by simp only; omega)
 ·obtain ⟨l,e,h⟩:=hh
  refine ⟨l,?_,h⟩
  unfold ak_p
  rw [e,ab]
 ·rintro ⟨z,xs⟩ J ⟨a1,a2,a3,a4⟩ hJ
  simp only at a1 a2 a3 a4 hJ
  unfold ak_l1
  simp only
  split
  ·obtain ⟨y,e,y0,y1⟩:=gF n d (at_ + z) (by omega)
   rw [aL (by omega) (by omega),ab,e,ab,eU _ _ (by simp only [leC,leN]; omega),ab,aL (by omega) (by omega),ab]
   refine hJ _ ⟨by simp only; omega,by simp only; omega,by simp only [List.length_append,leC,leN]; omega,fun x hx=>?_⟩ (by simp only; omega)
   rcases List.mem_append.1 hx with hx | hx
   ·exact a4 x hx
   ·rw [List.mem_singleton.1 hx]; omega
  ·exact ⟨_,rfl,by omega,a4⟩
def eC (G P L:Int) (u:Tc):Prop:=u.fu = false/\(0 <= u.fx/\u.fx <= 255)/\((u.fh.length:Int) = G/\∀ x ∈ u.fh,0 <= x/\x <= u.fx)/\((u.fVotes.length:Int) = P/\∀ x ∈ u.fVotes,0 <= x/\x <= 255)/\((u.fB.length:Int) = L/\∀ x ∈ u.fB,0 <= x/\x <= 63)
def sea (G P L:Int):Tc:=⟨⟨#[115,101,97]⟩,0,List.replicate G.toNat 0,List.replicate P.toNat 0,List.replicate L.toNat 0,true⟩
structure RollOk (r:Tf) (us:List Tc):Prop where
 g:0 <= r.fh/\r.fh <= 2
 p:0 <= r.fc/\r.fc <= 3
 l:0 <= r.fe/\r.fe <= 2
 len:1 <= us.length/\us.length <= 9
 land:∀ i (h:i < us.length),us[i].fv = nm i/\eC r.fh r.fc r.fe us[i]
 all:r.ft = us ∨ r.ft = us ++ [sea r.fh r.fc r.fe]
theorem gH (n:Nat) (d:Ti) (z:Int) (h0:0 <= z) (h1:z <= 100) (hn:200 < n):∃ l,ap (aa_l1 n d z) n (0,[]) = some l/\l.length = (d.fe % 3).toNat/\∀ x ∈ l,0 <= x/\x <= 63:=by
 have hk:(d.fe % 3).toNat < 3:=by rw [UInt8.toNat_mod]; exact Nat.mod_lt _ (by decide)
 refine av (B:=aa_l1 n d z) (fun s:Nat × List Int=>3 - s.1) (fun s=>s.1 <= (d.fe % 3).toNat/\s.2.length = s.1/\∀ x ∈ s.2,0 <= x/\x <= 63) _ ?_ n (0,[]) ⟨by simp,rfl,by simp⟩ (by simp only; omega)
 rintro ⟨i,xs⟩ J ⟨a1,a2,a3⟩ hJ
 simp only at a1 a2 a3 hJ
 unfold aa_l1
 simp only
 split
 ·rename_i hi
  obtain ⟨y,e,y0,y1⟩:=gF n d (9 * z + 7 + i) (by omega)
  rw [aL (by omega) (by omega),ab,aL (by omega) (by omega),ab,aL (by omega) (by omega),ab,e,ab,cT (by decide),ab,eU _ _ (by simp only [leC,leN]; omega),ab]
  refine hJ _ ⟨by simp only; omega,by simp only [List.length_append,leC,leN]; omega,fun x hx=>?_⟩ (by simp only; omega)
  rcases List.mem_append.1 hx with hx | hx
  ·exact a3 x hx
  ·rw [List.mem_singleton.1 hx,Int.tmod_eq_emod_of_nonneg y0]
   have a1:=Int.emod_nonneg y (b:=(3:Int)) (by omega)
   have a2:=Int.emod_lt_of_pos y (b:=(3:Int)) (by omega)
   omega
 ·exact ⟨_,rfl,by omega,a3⟩
theorem name_ok (i:Nat) (h:i < 9):(jp ⟨#[117]⟩ (bstr ([aC (97 + (i:Int)),aC (97 + 0)]:List UInt8))) = some (nm i):=by
 have:aC (97 + (i:Int)) = UInt8.ofNat (97 + i):=by unfold aC; congr 1; omega
 rw [this]; rfl
theorem jX (n:Nat) (d:Ti) (m:Nat) (h1:1 <= m) (h2:m <= 9) (hn:200 < n):∃ r us,aa_p n d m = some r/\us.length = m/\RollOk r us/\r.fh = ((d.fh % 3).toNat:Int)/\r.fc = ((d.fc % 4).toNat:Int)/\r.fe = ((d.fe % 3).toNat:Int):=by
 have hG:(d.fh % 3).toNat < 3:=by rw [UInt8.toNat_mod]; exact Nat.mod_lt _ (by decide)
 have hP:(d.fc % 4).toNat < 4:=by rw [UInt8.toNat_mod]; exact Nat.mod_lt _ (by decide)
 have hL:(d.fe % 3).toNat < 3:=by rw [UInt8.toNat_mod]; exact Nat.mod_lt _ (by decide)
 have hW:(d.fu % 2).toNat < 2:=by rw [UInt8.toNat_mod]; exact Nat.mod_lt _ (by decide)
 have hh:=av (B:=aa_l3 n (m:Int) d) (fun s:Int × List Tc=>10 - s.1.toNat) (fun s=>0 <= s.1/\s.1 <= m/\(s.2.length:Int) = s.1/\∀ i (h:i < s.2.length),s.2[i].fv = nm i/\eC ((d.fh % 3).toNat:Int) ((d.fc % 4).toNat:Int) ((d.fe % 3).toNat:Int) s.2[i])
  (fun us=>us.length = m/\∀ i (h:i < us.length),us[i].fv = nm i/\eC ((d.fh % 3).toNat:Int) ((d.fc % 4).toNat:Int) ((d.fe % 3).toNat:Int) us[i]) ?_ n (0,[]) ⟨by simp,by simp,by simp,fun i h=>by simp at h⟩ (by simp only; omega)
 ·obtain ⟨us,e,u1,u2⟩:=hh
  have hs:=av (B:=aa_l2 n d) (fun s:Nat × List Tc=>2 - s.1) (fun s=>s.1 <= (d.fu % 2).toNat/\(s.1 = 0/\s.2 = us ∨ s.1 = 1/\s.2 = us ++ [sea (d.fh % 3).toNat (d.fc % 4).toNat (d.fe % 3).toNat]))
   (fun all=>all = us ∨ all = us ++ [sea (d.fh % 3).toNat (d.fc % 4).toNat (d.fe % 3).toNat]) ?_ n (0,us) ⟨by simp,.inl ⟨rfl,rfl⟩⟩ (by simp only; omega)
  ·obtain ⟨all,e2,ha⟩:=hs
   refine ⟨⟨(d.fh % 3).toNat,(d.fc % 4).toNat,(d.fe % 3).toNat,all⟩,us,?_,u1,⟨by simp only; omega,by simp only; omega,by simp only; omega,by omega,u2,ha⟩,rfl,rfl,rfl⟩
   unfold aa_p
   rw [e,ab,e2,ab]
  ·rintro ⟨i,xs⟩ J ⟨a1,a2⟩ hJ
   simp only at a1 a2 hJ
   unfold aa_l2
   simp only
   split
   ·rename_i hi
    have hi0:i = 0/\xs = us:=by
     rcases a2 with a2 | a2
     ·exact a2
     ·omega
    obtain ⟨rfl,rfl⟩:=hi0
    rw [dm _ _ (by omega),ab,dm _ _ (by omega),ab,dm _ _ (by omega),ab,eU _ _ (by simp only [leC,leN]; omega),ab]
    exact hJ _ ⟨by simp only; omega,.inr ⟨rfl,rfl⟩⟩ (by simp only; omega)
   ·exact ⟨_,rfl,a2.elim (fun h=>.inl h.2) (fun h=>.inr h.2)⟩
 ·rintro ⟨z,xs⟩ J ⟨a1,a2,a3,a4⟩ hJ
  simp only at a1 a2 a3 a4 hJ
  unfold aa_l3
  simp only
  split
  ·rename_i hz
   obtain ⟨i,rfl⟩:∃ i:Nat,z = i:=⟨z.toNat,by omega⟩
   have t1:Int.tmod (i:Int) 26 = i:=by rw [Int.tmod_eq_emod_of_nonneg (by omega)]; omega
   have t2:Int.tdiv (i:Int) 26 = 0:=by rw [Int.tdiv_eq_ediv_of_nonneg (by omega)]; omega
   obtain ⟨y,e,y0,y1⟩:=gF n d (9 * (i:Int)) (by omega)
   obtain ⟨g,eg,g1,g2⟩:=fq n d ((d.fh % 3).toNat:Nat) (9 * (i:Int) + 1) y (by omega) (by omega) (by omega) (by omega) y0 hn
   obtain ⟨v,ev,v1,v2⟩:=fq n d ((d.fc % 4).toNat:Nat) (9 * (i:Int) + 3) 255 (by omega) (by omega) (by omega) (by omega) (by omega) hn
   obtain ⟨q,eq,q1,q2⟩:=gH n d (i:Int) (by omega) (by omega) hn
   rw [cT (by decide),ab,t1,aL (by omega) (by omega),ab]
   unfold dN
   rw [if_neg (by decide),t2,aL (by omega) (by omega),ab,cT (by decide),ab,show Int.tmod 0 26 = 0 from rfl,aL (by omega) (by omega),ab,aL (by omega) (by omega),ab,e,ab,name_ok i (by omega)]
   simp only [ab]
   rw [aL (by omega) (by omega)]
   simp only [ab,eg]
   rw [aL (by omega) (by omega)]
   simp only [ab,ev,eq]
   rw [eU _ _ (by simp only [leC,leN]; omega)]
   simp only [ab]
   try rw [aL (by omega) (by omega),ab]
   refine hJ _ ⟨by simp only; omega,by simp only; omega,by simp only [List.length_append,leC,leN]; omega,fun j hj=>?_⟩ (by simp only; omega)
   simp only at hj ⊢
   by_cases hji:j < xs.length
   ·rw [List.getElem_append_left hji]; exact a4 j hji
   ·have:j = i:=by simp only [List.length_append,leC,leN] at hj; omega
    subst this
    rw [List.getElem_append_right (by omega)]
    simp only [List.getElem_singleton]
    exact ⟨trivial,rfl,⟨y0,y1⟩,⟨g1,fun x hx=>⟨(g2 x hx).1,(g2 x hx).2.1⟩⟩,⟨v1,fun x hx=>⟨(v2 x hx).1,(v2 x hx).2.2⟩⟩,⟨by rw [q1],q2⟩⟩
  ·exact ⟨_,rfl,by omega,a4⟩
end Go.Proofs.YtibdeoeglcngoaaGreatDoor
namespace Go.Proofs.YtibdeoeglcngoaaGreatDoor
open Go
theorem jr:(List.range 9).all (fun i=>decide (am_p FU (nm i) ⟨#[65,66,67,68,69,70,71,72,73,74,75,76,77,78,79,80,81,82,83,84,85,86,87,88,89,90,97,98,99,100,101,102,103,104,105,106,107,108,109,110,111,112,113,114,115,116,117,118,119,120,121,122,48,49,50,51,52,53,54,55,56,57,45,95]⟩ = some ⟨#[]⟩)) = true:=by kernel_rfl
theorem trim_nm {i:Nat} (h:i < 9):am_p FU (nm i) ⟨#[65,66,67,68,69,70,71,72,73,74,75,76,77,78,79,80,81,82,83,84,85,86,87,88,89,90,97,98,99,100,101,102,103,104,105,106,107,108,109,110,111,112,113,114,115,116,117,118,119,120,121,122,48,49,50,51,52,53,54,55,56,57,45,95]⟩ = some ⟨#[]⟩:=of_decide_eq_true (List.all_eq_true.1 jr i (List.mem_range.2 h))
theorem jz:am_p FU ⟨#[115,101,97]⟩ ⟨#[65,66,67,68,69,70,71,72,73,74,75,76,77,78,79,80,81,82,83,84,85,86,87,88,89,90,97,98,99,100,101,102,103,104,105,106,107,108,109,110,111,112,113,114,115,116,117,118,119,120,121,122,48,49,50,51,52,53,54,55,56,57,45,95]⟩ = some ⟨#[]⟩:=by kernel_rfl
theorem bj:(1000000:Nat) < FU:=by decide
theorem gl (r:Tf) (u:Tc) {i:Nat} (hi:i < 9) (hG:r.fh <= 6) (hP:r.fc <= 12) (hL:r.fe <= 3) (hn:u.fv = nm i) (h:eC r.fh r.fc r.fe u):br_p FU r u = some true:=by
 obtain ⟨w,pp,g,v,q⟩:=h
 have hF:=bj
 unfold br_p jn
 simp only
 rw [if_neg (by rw [w]; decide),hn,trim_nm hi,ab,br FU _ _ _ g.1 g.2 (by omega),ab,br FU _ _ _ v.1 (fun x hx=>⟨(v.2 x hx).1,by have:=(v.2 x hx).2; omega⟩) (by omega),ab,br FU _ _ _ q.1 (fun x hx=>⟨(q.2 x hx).1,by have:=(q.2 x hx).2; omega⟩) (by omega),ab]
 rw [bw FU _ ?_ (by simp only [leC,leN]; omega),ab]
 have e1:¬ nm i = ⟨#[]⟩:=fun e=>by have:=congrArg ByteArray.size e; exact absurd this (by show ¬ (3:Nat) = 0; decide)
 have e2:(nm i).size <= 12:=by show (3:Nat) <= 12; decide
 simp [e1,e2,pp.1]
 omega
theorem iB (r:Tf) (hG:0 <= r.fh/\r.fh <= 6) (hP:0 <= r.fc/\r.fc <= 12) (hL:0 <= r.fe/\r.fe <= 3):br_p FU r (sea r.fh r.fc r.fe) = some true:=by
 have hF:=bj
 have z:∀ (n:Nat) (x:Int),x ∈ List.replicate n (0:Int) -> 0 <= x/\x <= 0:=fun n x hx=>by rw [(List.mem_replicate.1 hx).2]; omega
 unfold br_p jn sea
 simp only
 rw [if_pos trivial,jz,ab,br FU _ _ _ (by rw [List.length_replicate]; omega) (z _) (by rw [List.length_replicate]; omega),ab,br FU _ _ ((0:Nat):Int) (by rw [List.length_replicate]; omega) (z _) (by rw [List.length_replicate]; omega),ab,br FU _ _ ((0:Nat):Int) (by rw [List.length_replicate]; omega) (z _) (by rw [List.length_replicate]; omega),ab]
 rw [bw FU _ ?_ (by simp only [leC,leN]; omega),ab]
 have e1:¬ (⟨#[115,101,97]⟩:ByteArray) = ⟨#[]⟩:=fun e=>by have:=congrArg ByteArray.size e; exact absurd this (by show ¬ (3:Nat) = 0; decide)
 have e2:(⟨#[115,101,97]⟩:ByteArray).size <= 12:=by show (3:Nat) <= 12; decide
 simp [e1,e2]
theorem RollOk.unit {r:Tf} {us:List Tc} (h:RollOk r us) {j:Nat} (hj:j < r.ft.length):(∃ h2:j < us.length,r.ft[j] = us[j]) ∨ (j = us.length/\r.ft[j] = sea r.fh r.fc r.fe):=by
 obtain ⟨G,P,L,U⟩:=r
 rcases h.all with e | e
 ·simp only at e hj ⊢
  subst e; exact .inl ⟨hj,rfl⟩
 ·simp only at e hj ⊢
  subst e
  by_cases h2:j < us.length
  ·exact .inl ⟨h2,List.getElem_append_left h2⟩
  ·have h3:j = us.length:=by simp only [List.length_append,leC,leN] at hj; omega
   subst h3
   exact .inr ⟨rfl,by rw [List.getElem_append_right (by omega)]; simp⟩
theorem RollOk.size {r:Tf} {us:List Tc} (h:RollOk r us):us.length <= r.ft.length/\r.ft.length <= us.length + 1:=by
 rcases h.all with e | e <;> rw [e] <;> simp
theorem eW (r:Tf) (us:List Tc) (h:RollOk r us):ay_p FU r = some 0:=by
 have hF:=bj
 have hs:=h.size
 have hl:=h.len
 have hg:=h.g
 have hp:=h.p
 have hv:=h.l
 unfold ay_p
 rw [bw FU _ ?_ (by simp only [leC,leN]; omega),ab,if_pos rfl]
 ·have hh:=av (B:=ay_l1 FU r) (fun s:Bool × Nat × List (ByteArray × Bool)=>r.ft.length - s.2.1)
   (fun s=>s.2.1 <= r.ft.length/\(s.2.1 <= us.length -> s.1 = false)/\∀ x,cW s.2.2 x ≠ none -> ∃ j,∃ hj:j < r.ft.length,j < s.2.1/\r.ft[j].fv = x) (fun r=>r = .inr ()) ?_ FU (false,0,[]) ⟨by simp,fun _=>rfl,fun x hx=>absurd rfl hx⟩ (by simp only; omega)
  ·obtain ⟨x,e,rfl⟩:=hh
   rw [e]; rfl
  ·rintro ⟨q,i,D⟩ J ⟨a1,a2,a3⟩ hJ
   simp only at a1 a2 a3 hJ
   unfold ay_l1
   simp only
   split
   ·rename_i hi
    have hnone:cW D r.ft[i].fv = none:=by
     rcases hm:cW D r.ft[i].fv with _ | b
     ·rfl
     ·exfalso
      obtain ⟨j,hj,hji,he⟩:=a3 r.ft[i].fv (by rw [hm]; simp)
      rcases h.unit hi with ⟨h2,e2⟩ | ⟨h2,e2⟩ <;> rcases h.unit hj with ⟨h3,e3⟩ | ⟨h3,e3⟩
      ·rw [e2,e3,(h.land i h2).1,(h.land j h3).1] at he
       have:=nm_inj (by omega) (by omega) he; omega
      ·omega
      ·rw [e2,e3,(h.land j h3).1] at he
       exact nm_sea he
      ·omega
    have hmD:ay D r.ft[i].fv false = false:=by unfold ay; rw [hnone]; rfl
    have next:∀ b,(i + 1 <= us.length -> b = false) -> ∃ x,J (b,i + 1,aQ D r.ft[i].fv true) = some x/\x = .inr ():=fun b hb=>by
     refine hJ (b,i + 1,aQ D r.ft[i].fv true) ⟨hi,hb,fun x hx=>?_⟩ (by simp only; omega)
     simp only at hx ⊢
     rw [de] at hx
     by_cases hx2:x = r.ft[i].fv
     ·exact ⟨i,hi,by omega,hx2.symm⟩
     ·rw [if_neg hx2] at hx
      obtain ⟨j,hj,hji,he⟩:=a3 x hx
      exact ⟨j,hj,by omega,he⟩
    rw [geE hi,ab]
    rcases h.unit hi with ⟨h2,e2⟩ | ⟨h2,e2⟩
    ·have hu:=h.land i h2
     have hw:r.ft[i].fu = false:=by rw [e2]; exact hu.2.1
     have hq:q = false:=a2 (by omega)
     have hr:br_p FU r r.ft[i] = some true:=by rw [e2]; exact gl r us[i] (by omega) (by omega) (by omega) (by omega) hu.1 hu.2
     rw [hr,ab,hw,if_neg (by decide),hmD,hq]
     by_cases h0:0 < i
     ·rw [if_pos h0,bw FU _ (by simp) (by simp only [leC,leN]; omega),ab,if_pos rfl]
      exact next false fun _=>rfl
     ·rw [if_neg h0,bw FU _ (by simp) (by simp only [leC,leN]; omega),ab,if_pos rfl]
      exact next false fun _=>rfl
    ·have hw:r.ft[i].fu = true:=by rw [e2]; rfl
     have hr:br_p FU r r.ft[i] = some true:=by rw [e2]; exact iB r ⟨hg.1,by omega⟩ ⟨hp.1,by omega⟩ ⟨hv.1,by omega⟩
     rw [hr,ab,hw,if_pos rfl,hmD,if_pos (by omega),bw FU _ (by simp) (by simp only [leC,leN]; omega),ab,if_pos rfl]
     exact next true fun h5=>by omega
   ·exact ⟨_,rfl,rfl⟩
 ·simp; omega
def tot (us:List Tc):Int:=(us.map (·.fx)).sum
end Go.Proofs.YtibdeoeglcngoaaGreatDoor
namespace Go.Proofs.YtibdeoeglcngoaaGreatDoor
open Go
set_option maxRecDepth 8000
theorem dU (l:List Bool) (hn:l.length <= 1000):aE_p FU l = some (decide (∀ b ∈ l,b = true)):=by
 have hF:=bj
 by_cases h:∀ b ∈ l,b = true
 ·rw [decide_eq_true h]; exact bw FU l h (by omega)
 ·rw [decide_eq_false h]
  have hh:=av (B:=al_l1 FU l false) (fun i:Nat=>l.length - i) (fun i=>i <= l.length/\∀ b ∈ l.take i,b = true) (fun r=>∃ j:Nat,r = .inl (j:Int)) ?_ FU 0 ⟨Nat.zero_le _,by simp⟩ (by omega)
  ·obtain ⟨r,e,j,rfl⟩:=hh
   unfold aE_p aJ_p al_p
   rw [e]
   show (((some (j:Int)).bind fun y1=>some (decide (0 <= y1))).bind fun y1=>some (!y1)) = some false
   rw [ab,ab,decide_eq_true (by omega)]; rfl
  ·rintro i J ⟨hi,h2⟩ hJ
   unfold al_l1
   simp only
   split
   ·rename_i h0
    rw [geE h0,ab]
    rcases hb:l[i] with _ | _
    ·rw [if_pos (by decide)]; exact ⟨_,rfl,i,rfl⟩
    ·rw [if_neg (by decide)]
     refine hJ (i + 1) ⟨h0,fun b hb2=>?_⟩ (by omega)
     rw [List.take_succ_eq_append_getElem h0,List.mem_append,List.mem_singleton,hb] at hb2
     exact hb2.elim (h2 b) id
   ·rw [List.take_of_length_le (by omega)] at h2
    exact absurd h2 h
def Wi (l:List Int) (a ba:Int):Prop:=(l.length:Int) = a/\∀ x ∈ l,0 <= x/\x <= ba
instance (l:List Int) (a ba:Int):Decidable (Wi l a ba):=by unfold Wi; infer_instance
theorem cY (l:List Int) (a ba:Int) (hn:l.length <= 1000):au_p FU l a ba = some (decide (Wi l a ba)):=by
 have hF:=bj
 unfold au_p
 by_cases hl:(l.length:Int) = a
 ·rw [if_pos hl]
  have hh:=av (B:=au_l1 FU l ba) (fun i:Nat=>l.length - i) (fun i=>i <= l.length/\∀ x ∈ l.take i,0 <= x/\x <= ba) (fun r=>r = .inr ()/\Wi l a ba ∨ r = .inl false/\¬ Wi l a ba) ?_ FU 0 ⟨Nat.zero_le _,by simp⟩ (by omega)
  ·obtain ⟨r,e,hr⟩:=hh
   rw [e]
   rcases hr with ⟨rfl,hr⟩ | ⟨rfl,hr⟩
   ·rw [decide_eq_true hr]; rfl
   ·rw [decide_eq_false hr]; rfl
  ·rintro i J ⟨hi,h2⟩ hJ
   unfold au_l1 bL_p
   simp only
   split
   ·rename_i h0
    rw [geE h0,ab]
    by_cases h3:0 <= l[i]/\l[i] <= ba
    ·rw [if_neg (by omega),ab,decide_eq_false (by omega),if_neg (by decide)]
     refine hJ (i + 1) ⟨h0,fun x hx=>?_⟩ (by omega)
     rw [List.take_succ_eq_append_getElem h0,List.mem_append,List.mem_singleton] at hx
     rcases hx with hx | rfl
     ·exact h2 x hx
     ·exact h3
    ·have hbad:¬ Wi l a ba:=fun h=>h3 (h.2 _ (List.getElem_mem _))
     by_cases h4:l[i] < 0
     ·rw [if_pos h4,ab,if_pos rfl,decide_eq_true (Nat.zero_le _)]
      exact ⟨_,rfl,.inr ⟨rfl,hbad⟩⟩
     ·rw [if_neg h4,ab,decide_eq_true (by omega),if_pos rfl,decide_eq_true (Nat.zero_le _)]
      exact ⟨_,rfl,.inr ⟨rfl,hbad⟩⟩
   ·rw [List.take_of_length_le (by omega)] at h2
    exact ⟨_,rfl,.inl ⟨rfl,hl,h2⟩⟩
 ·rw [if_neg hl,decide_eq_false fun h=>hl h.1]
def NS:List ByteArray:=⟨#[115,101,97]⟩ :: (List.range 13).map nm
@[reducible] def ltrs:ByteArray:=⟨#[65,66,67,68,69,70,71,72,73,74,75,76,77,78,79,80,81,82,83,84,85,86,87,88,89,90,97,98,99,100,101,102,103,104,105,106,107,108,109,110,111,112,113,114,115,116,117,118,119,120,121,122,48,49,50,51,52,53,54,55,56,57,45,95]⟩
theorem ns_all:NS.all (fun b=>decide (am_p FU b ltrs = some ⟨#[]⟩) && !decide (b = ⟨#[]⟩) && decide (b.size <= 12)) = true:=by kernel_rfl
theorem ns_ok {b:ByteArray} (h:b ∈ NS):am_p FU b ltrs = some ⟨#[]⟩/\¬ b = ⟨#[]⟩/\b.size <= 12:=by
 have:=List.all_eq_true.1 ns_all b h
 simpa [Bool.and_eq_true,and_assoc] using this
def UV (r:Tf) (u:Tc):Prop:=0 <= u.fx/\u.fx <= (if u.fu = true then 0 else 1000000000)/\Wi u.fh r.fh u.fx/\Wi u.fVotes r.fc (if u.fu = true then 0 else 1000000000)/\Wi u.fB r.fe (if u.fu = true then 0 else 63)
instance (r:Tf) (u:Tc):Decidable (UV r u):=by unfold UV; infer_instance
structure Sm4 (u:Tc):Prop where
 n:u.fv ∈ NS
 g:u.fh.length <= 1000
 v:u.fVotes.length <= 1000
 q:u.fB.length <= 1000
theorem jh (r:Tf) (u:Tc) (h:Sm4 u):br_p FU r u = some (decide (UV r u)):=by
 obtain ⟨n1,n3,n4⟩:=ns_ok h.n
 have key:∀ (V P:Nat),V = (if u.fu = true then 0 else 1000000000) -> P = (if u.fu = true then 0 else 63) -> ((am_p FU u.fv ltrs).bind fun y30=>(au_p FU u.fh r.fh u.fx).bind fun y31=>(au_p FU u.fVotes r.fc ((V:Nat):Int)).bind fun y32=>(au_p FU u.fB r.fe ((P:Nat):Int)).bind fun y33=>(aE_p FU ([(!(decide (u.fv = ⟨#[]⟩))),(decide (u.fv.size <= 12)),(decide (y30 = ⟨#[]⟩)),(decide (0 <= u.fx)),(decide (u.fx <= ((V:Nat):Int))),y31,y32,y33]:List Bool)).bind fun y40=>some y40) = some (decide (UV r u)):=by
  intro V P hV hP
  rw [n1,ab,cY _ _ _ h.g,ab,cY _ _ _ h.v,ab,cY _ _ _ h.q,ab,dU _ (by simp),ab]
  refine congrArg some (decide_eq_decide.2 ?_)
  have eV:((V:Nat):Int) = (if u.fu = true then 0 else 1000000000):=by rw [hV]; split <;> rfl
  have eP:((P:Nat):Int) = (if u.fu = true then 0 else 63):=by rw [hP]; split <;> rfl
  rw [eV,eP]
  unfold UV
  simp only [List.mem_cons,List.not_mem_nil,or_false,forall_eq_or_imp,forall_eq,Bool.not_eq_true', decide_eq_false_iff_not,decide_eq_true_eq]
  constructor
  ·rintro ⟨_,_,_,a,b,c,d,e⟩; exact ⟨a,b,c,d,e⟩
  ·rintro ⟨a,b,c,d,e⟩; exact ⟨n3,n4,trivial,a,b,c,d,e⟩
 unfold br_p jn
 simp only
 by_cases hw:u.fu = true
 ·rw [if_pos hw]; exact key 0 0 (by rw [if_pos hw]) (by rw [if_pos hw])
 ·rw [if_neg hw]; exact key 1000000000 63 (by rw [if_neg hw]) (by rw [if_neg hw])
structure RV (r:Tf):Prop where
 g:0 <= r.fh/\r.fh <= 6
 p:0 <= r.fc/\r.fc <= 12
 l:0 <= r.fe/\r.fe <= 3
 n:1 <= r.ft.length/\r.ft.length <= 64
 u:∀ i (h:i < r.ft.length),UV r r.ft[i]
 nm:∀ i (h:i < r.ft.length) j (h' : j < i),r.ft[j].fv ≠ r.ft[i].fv
 w:∀ i (h:i < r.ft.length) j (h' : j < i),r.ft[j].fu = true -> r.ft[i].fu = true
 z:∀ h:0 < r.ft.length,r.ft[0].fu = false
open Classical in
theorem cH (r:Tf) (h:∀ u ∈ r.ft,Sm4 u):ay_p FU r = some (if RV r then 0 else 161):=by
 have hF:=bj
 unfold ay_p
 rw [dU _ (by simp),ab]
 by_cases h0:((0 <= r.fh/\r.fh <= 6)/\(0 <= r.fc/\r.fc <= 12)/\(0 <= r.fe/\r.fe <= 3)/\1 <= r.ft.length/\r.ft.length <= 64)
 ·rw [if_pos]
  ·have hh:=av (B:=ay_l1 FU r) (fun s:Bool × Nat × List (ByteArray × Bool)=>r.ft.length - s.2.1)
    (fun s=>s.2.1 <= r.ft.length/\(s.2.1 = 0 -> s.1 = false)/\(∀ h:0 < s.2.1,∀ h' : s.2.1 - 1 < r.ft.length,s.1 = r.ft[s.2.1 - 1].fu)/\(∀ x,ay s.2.2 x false = true ↔ ∃ j,∃ hj:j < r.ft.length,j < s.2.1/\r.ft[j].fv = x)/\
     (∀ i (h:i < r.ft.length),i < s.2.1 -> UV r r.ft[i])/\(∀ i (h:i < r.ft.length) j (h' : j < i),i < s.2.1 -> r.ft[j].fv ≠ r.ft[i].fv)/\(∀ i (h:i < r.ft.length) j (h' : j < i),i < s.2.1 -> r.ft[j].fu = true -> r.ft[i].fu = true)/\(∀ h:0 < r.ft.length,0 < s.2.1 -> r.ft[0].fu = false))
    (fun y=>y = .inr ()/\RV r ∨ y = .inl 161/\¬ RV r) ?_ FU (false,0,[]) ⟨Nat.zero_le _,fun _=>rfl,fun h=>absurd h (by simp),fun x=>⟨fun hx=>by simp [ay,cW] at hx,fun ⟨j,_,hj,_⟩=>by simp at hj⟩,fun i _ hi=>by simp at hi,fun i _ j _ hi=>by simp at hi,fun i _ j _ hi=>by simp at hi,fun _ hi=>by simp at hi⟩ (by simp only; omega)
   ·obtain ⟨y,e,hy⟩:=hh
    rw [e]
    rcases hy with ⟨rfl,hv⟩ | ⟨rfl,hv⟩
    ·rw [if_pos hv]; rfl
    ·rw [if_neg hv]; rfl
   ·rintro ⟨q,i,D⟩ J ⟨a1,a2,a3,a4,a5,a6,a7,a8⟩ hJ
    simp only at a1 a2 a3 a4 a5 a6 a7 a8 hJ
    unfold ay_l1
    simp only
    by_cases hi:i < r.ft.length
    ·rw [if_pos hi,geE hi,ab,jh r _ (h _ (List.getElem_mem _)),ab]
     -- what has to hold of this unit
     have good:UV r r.ft[i] -> ay D r.ft[i].fv false = false -> (q = true -> r.ft[i].fu = true) -> (i = 0 -> r.ft[i].fu = false) -> ∃ y,J (r.ft[i].fu,i + 1,aQ D r.ft[i].fv true) = some y/\(y = .inr ()/\RV r ∨ y = .inl 161/\¬ RV r):=by
      intro g1 g2 g3 g4
      have gn:∀ j (hj:j < i),r.ft[j].fv ≠ r.ft[i].fv:=fun j hj e=>by
       have:=(a4 r.ft[i].fv).2 ⟨j,by omega,hj,e⟩
       rw [g2] at this; cases this
      have gw:∀ j (hj:j < i),r.ft[j].fu = true -> r.ft[i].fu = true:=fun j hj hw=>by
       refine g3 ?_
       rw [a3 (by omega) (by omega)]
       by_cases e:j = i - 1
       ·subst e; exact hw
       ·exact a7 (i - 1) (by omega) j (by omega) (by omega) hw
      refine hJ _ ⟨hi,fun e=>absurd e (by simp),fun _ h' =>rfl,fun x=>?_,fun k hk hki=>?_,fun k hk j hj hki=>?_,fun k hk j hj hki=>?_,fun hk _=>?_⟩ (by simp only; omega)
      ·simp only
       unfold ay
       rw [de]
       have:=a4 x
       unfold ay at this
       by_cases e:x = r.ft[i].fv
       ·rw [if_pos e]
        exact ⟨fun _=>⟨i,hi,by omega,e.symm⟩,fun _=>rfl⟩
       ·rw [if_neg e,this]
        constructor
        ·rintro ⟨j,hj,hji,ej⟩; exact ⟨j,hj,by omega,ej⟩
        ·rintro ⟨j,hj,hji,ej⟩
         by_cases e2:j = i
         ·subst e2; exact absurd ej.symm e
         ·exact ⟨j,hj,by omega,ej⟩
      ·by_cases e:k = i
       ·subst e; exact g1
       ·exact a5 k hk (by simp only at hki; omega)
      ·by_cases e:k = i
       ·subst e; exact gn j hj
       ·exact a6 k hk j hj (by simp only at hki; omega)
      ·by_cases e:k = i
       ·subst e; exact gw j hj
       ·exact a7 k hk j hj (by simp only at hki; omega)
      ·by_cases e:i = 0
       ·subst e; exact g4 rfl
       ·exact a8 hk (by omega)
     have bad:(¬ UV r r.ft[i] ∨ ay D r.ft[i].fv false = true ∨ (q = true/\r.ft[i].fu = false) ∨ (i = 0/\r.ft[i].fu = true)) -> ¬ RV r:=by
      rintro hb hv
      rcases hb with hb | hb | ⟨hb,hb2⟩ | ⟨hb,hb2⟩
      ·exact hb (hv.u i hi)
      ·obtain ⟨j,hj,hji,e⟩:=(a4 _).1 hb
       exact hv.nm i hi j hji e
      ·by_cases e:i = 0
       ·rw [a2 e] at hb; cases hb
       ·have:=hv.w i hi (i - 1) (by omega) (by rw [<- a3 (by omega) (by omega)]; exact hb)
        rw [hb2] at this; cases this
      ·subst hb
       have:=hv.z hi
       rw [hb2] at this; cases this
     have fin:∀ l:List Bool,l.length <= 1000 -> ((∀ b ∈ l,b = true) ↔ (UV r r.ft[i]/\ay D r.ft[i].fv false = false/\(q = true -> r.ft[i].fu = true)/\(i = 0 -> r.ft[i].fu = false))) -> ∃ y,((aE_p FU l).bind fun y=>(if y = true then J (r.ft[i].fu,i + 1,aQ D r.ft[i].fv true) else some (.inl (161:Int)))) = some y/\(y = .inr ()/\RV r ∨ y = .inl 161/\¬ RV r):=by
      intro l hl hiff
      rw [dU l hl,ab]
      by_cases hq:∀ b ∈ l,b = true
      ·rw [if_pos (decide_eq_true hq)]
       obtain ⟨g1,g2,g3,g4⟩:=hiff.1 hq
       exact good g1 g2 g3 g4
      ·rw [if_neg (by simpa using hq)]
       refine ⟨_,rfl,.inr ⟨rfl,bad ?_⟩⟩
       refine Classical.byContradiction fun hc=>hq (hiff.2 ?_)
       simp only [not_or,not_and,Bool.not_eq_true,Classical.not_not] at hc
       obtain ⟨c1,c2,c3,c4⟩:=hc
       refine ⟨c1,c2,fun e=>?_,fun e=>?_⟩
       ·rcases hww:r.ft[i].fu with _ | _
        ·exact absurd hww (by simpa using c3 e)
        ·rfl
       ·simpa using c4 e
     rcases hw:r.ft[i].fu with _ | _
     ·rw [if_neg (by decide)]
      by_cases hp:0 < i
      ·rw [if_pos hp]
       have:=fin [decide (UV r r.ft[i]),!(ay D r.ft[i].fv false),!q,true] (by simp) (by
        rw [hw]
        simp only [List.mem_cons,List.not_mem_nil,or_false,forall_eq_or_imp,forall_eq,Bool.not_eq_true', decide_eq_true_eq]
        constructor
        ·rintro ⟨b1,b2,b3,_⟩; exact ⟨b1,b2,fun e=>(by rw [e] at b3; cases b3),fun _=>trivial⟩
        ·rintro ⟨b1,b2,b3,_⟩; exact ⟨b1,b2,by rcases q with _ | _; rfl; exact absurd (b3 rfl) (by decide),trivial⟩)
       rw [hw] at this
       exact this
      ·rw [if_neg hp]
       have:=fin [decide (UV r r.ft[i]),!(ay D r.ft[i].fv false),!q,!r.ft[i].fu] (by simp) (by
        rw [hw]
        simp only [List.mem_cons,List.not_mem_nil,or_false,forall_eq_or_imp,forall_eq,Bool.not_eq_true', decide_eq_true_eq]
        constructor
        ·rintro ⟨b1,b2,b3,_⟩; exact ⟨b1,b2,fun e=>(by rw [e] at b3; cases b3),fun _=>trivial⟩
        ·rintro ⟨b1,b2,b3,_⟩; exact ⟨b1,b2,by rcases q with _ | _; rfl; exact absurd (b3 rfl) (by decide),trivial⟩)
       rw [hw] at this
       exact this
     ·rw [if_pos rfl]
      by_cases hp:0 < i
      ·rw [if_pos hp]
       have:=fin [decide (UV r r.ft[i]),!(ay D r.ft[i].fv false),true,true] (by simp) (by
        rw [hw]
        simp only [List.mem_cons,List.not_mem_nil,or_false,forall_eq_or_imp,forall_eq,Bool.not_eq_true', decide_eq_true_eq]
        constructor
        ·rintro ⟨b1,b2,_,_⟩; exact ⟨b1,b2,fun _=>trivial,fun e=>by omega⟩
        ·rintro ⟨b1,b2,_,_⟩; exact ⟨b1,b2,trivial,trivial⟩)
       rw [hw] at this
       exact this
      ·rw [if_neg hp]
       have:=fin [decide (UV r r.ft[i]),!(ay D r.ft[i].fv false),true,!r.ft[i].fu] (by simp) (by
        rw [hw]
        simp only [List.mem_cons,List.not_mem_nil,or_false,forall_eq_or_imp,forall_eq,Bool.not_eq_true', decide_eq_true_eq]
        constructor
        ·rintro ⟨_,_,_,b4⟩; cases b4
        ·rintro ⟨_,_,_,b4⟩; exact absurd (b4 (by omega)) (by decide))
       rw [hw] at this
       exact this
    ·rw [if_neg hi]
     refine ⟨_,rfl,.inl ⟨rfl,h0.1,h0.2.1,h0.2.2.1,h0.2.2.2,fun i hi2=>a5 i hi2 (by omega),fun i hi2 j hj=>a6 i hi2 j hj (by omega),fun i hi2 j hj=>a7 i hi2 j hj (by omega),fun hi2=>a8 hi2 (by omega)⟩⟩
  ·simp only [List.mem_cons,List.not_mem_nil,or_false,forall_eq_or_imp,forall_eq,decide_eq_true_eq]
   omega
 ·rw [if_neg,if_neg fun hv:RV r=>h0 ⟨hv.g,hv.p,hv.l,hv.n⟩]
  simp only [List.mem_cons,List.not_mem_nil,or_false,forall_eq_or_imp,forall_eq,decide_eq_true_eq]
  omega
end Go.Proofs.YtibdeoeglcngoaaGreatDoor
namespace Go.Proofs.YtibdeoeglcngoaaGreatDoor
open Go
theorem dc {κ ν:Type} [DecidableEq κ]:∀ (D:List (κ × ν)) (k:κ) (v:ν),(aQ D k v).map Prod.fst = if k ∈ D.map Prod.fst then D.map Prod.fst else D.map Prod.fst ++ [k]
 | [],k,v=>by simp [aQ]
 | e :: D,k,v=>by
  unfold aQ
  by_cases h:k = e.1
  ·rw [if_pos h]; simp [h]
  ·rw [if_neg h]
   simp only [List.map_cons,dc D k v,List.mem_cons]
   by_cases h2:k ∈ D.map Prod.fst
   ·simp [h2]
   ·rw [if_neg h2,if_neg (by rintro (h3 | h3); exact h h3; exact h2 h3)]; rfl
theorem il {l:List Int} {k:Int} (hk:0 <= k) (hn:l.Nodup) (h:∀ x,x ∈ l ↔ 0 <= x/\x < k):(l.length:Int) = k:=by
 have h2:((List.range k.toNat).map fun i:Nat=>(i:Int)).Nodup:=by
  unfold List.Nodup
  exact List.Pairwise.map _ (fun a b hab=>by omega) List.nodup_range
 have h3:l.length <= ((List.range k.toNat).map fun i:Nat=>(i:Int)).length:=hn.length_le_of_subset fun x hx=>List.mem_map.2 ⟨x.toNat,List.mem_range.2 (by have:=(h x).1 hx; omega),by have:=(h x).1 hx; omega⟩
 have h4:((List.range k.toNat).map fun i:Nat=>(i:Int)).length <= l.length:=h2.length_le_of_subset fun x hx=>by
  obtain ⟨i,hi,rfl⟩:=List.mem_map.1 hx
  have:=List.mem_range.1 hi
  exact (h _).2 ⟨by omega,by omega⟩
 rw [List.length_map,List.length_range] at h3 h4
 omega
end Go.Proofs.YtibdeoeglcngoaaGreatDoor
namespace Go.Proofs.YtibdeoeglcngoaaGreatDoor
open Go
set_option maxRecDepth 8000
structure Lnd (r:Tf) (us:List Tc):Prop where
 all:∃ ws,r.ft = us ++ ws/\∀ u ∈ ws,u.fu = true
 w:∀ u ∈ us,u.fu = false
theorem Lnd.at {r:Tf} {us:List Tc} (h:Lnd r us) {i:Nat} (hi:i < r.ft.length):(∃ h2:i < us.length,r.ft[i] = us[i]/\r.ft[i].fu = false) ∨ us.length <= i/\r.ft[i].fu = true:=by
 obtain ⟨ws,e,hw⟩:=h.all
 have hz:r.ft.length = us.length + ws.length:=by rw [e,List.length_append]
 by_cases h2:i < us.length
 ·have e0:r.ft[i] = us[i]:=by simp only [e]; exact List.getElem_append_left h2
  exact .inl ⟨h2,e0,by rw [e0]; exact h.w _ (List.getElem_mem _)⟩
 ·refine .inr ⟨by omega,hw _ ?_⟩
  have:r.ft[i] = ws[i - us.length]'(by omega):=by simp only [e]; exact List.getElem_append_right (by omega)
  rw [this]; exact List.getElem_mem _
theorem Lnd.le {r:Tf} {us:List Tc} (h:Lnd r us):us.length <= r.ft.length:=by
 obtain ⟨ws,e,_⟩:=h.all
 rw [e,List.length_append]; omega
def eK (p:List Int) (n:Nat) (k:Int):Prop:=p.length = n/\bD p k
theorem dH (e:Int):ai_p FU false e = some (.ok ()):=rfl
theorem fP:ai_p FU true 220 = some (.error ⟨220⟩):=rfl
theorem eZ {l:List Int} {k:Int} (hk:0 <= k) (hn:l.Nodup) (h:∀ x ∈ l,0 <= x/\x < k) (hl:(l.length:Int) = k):∀ d,0 <= d -> d < k -> d ∈ l:=fun d d0 d1=>by
 refine Classical.byContradiction fun hd=>?_
 have h2:((List.range k.toNat).map fun i:Nat=>(i:Int)).Nodup:=by
  unfold List.Nodup
  exact List.Pairwise.map _ (fun a b hab=>by omega) List.nodup_range
 have h3:(d :: l).length <= ((List.range k.toNat).map fun i:Nat=>(i:Int)).length:=(List.nodup_cons.2 ⟨hd,hn⟩).length_le_of_subset fun x hx=>by
  have hx2:0 <= x/\x < k:=by
   rcases List.mem_cons.1 hx with rfl | hx
   ·exact ⟨d0,d1⟩
   ·exact h x hx
  exact List.mem_map.2 ⟨x.toNat,List.mem_range.2 (by omega),by omega⟩
 rw [leC,List.length_map,List.length_range] at h3
 omega
theorem used_eq (r:Tf) (p:List Int) (k:Int) (hl:p.length <= 1000):∃ y,ap (ac_l1 FU p ⟨r,k⟩) FU (0,[]) = some y/\((∃ D:List (Int × Bool),y = .inr D/\(∀ x ∈ p,0 <= x/\x < k)/\(D.map Prod.fst).Nodup/\∀ x,x ∈ D.map Prod.fst ↔ x ∈ p) ∨ y = .inl (.error ⟨220⟩)/\¬ ∀ x ∈ p,0 <= x/\x < k):=by
 have hF:=bj
 refine av (B:=ac_l1 FU p ⟨r,k⟩) (fun s:Nat × List (Int × Bool)=>p.length - s.1) (fun s=>s.1 <= p.length/\(∀ x ∈ p.take s.1,0 <= x/\x < k)/\(s.2.map Prod.fst).Nodup/\∀ x,x ∈ s.2.map Prod.fst ↔ x ∈ p.take s.1) _ ?_ FU (0,[]) ⟨by simp,by simp,by simp,by simp⟩ (by simp only; omega)
 rintro ⟨i,D⟩ J ⟨a1,a0,a2,a3⟩ hJ
 simp only at a0 a1 a2 a3 hJ
 unfold ac_l1
 simp only
 by_cases hi:i < p.length
 ·rw [if_pos hi,geE hi,ab]
  by_cases hx:0 <= p[i]/\p[i] < k
  ·rw [if_neg (by omega),decide_eq_false (by omega),dH, ab]
   unfold exc
   simp only
   refine hJ _ ⟨hi,fun x hx2=>?_,?_,fun x=>?_⟩ (by simp only; omega)
   ·simp only at hx2
    rw [List.take_succ_eq_append_getElem hi,List.mem_append,List.mem_singleton] at hx2
    rcases hx2 with hx2 | rfl
    ·exact a0 x hx2
    ·exact hx
   ·simp only
    rw [dc]
    split
    ·exact a2
    ·rename_i h5
     rw [List.nodup_append]
     exact ⟨a2,by simp,fun a ha b hb=>by rw [List.mem_singleton.1 hb]; exact fun e=>h5 (e ▸ ha)⟩
   ·simp only
    rw [dc,<- List.take_append_getElem hi,List.mem_append,<- a3 x,List.mem_singleton]
    split
    ·rename_i h5
     constructor
     ·exact .inl
     ·rintro (h6 | rfl)
      ·exact h6
      ·exact h5
    ·rw [List.mem_append,List.mem_singleton]
  ·have hbad:¬ ∀ x ∈ p,0 <= x/\x < k:=fun h=>hx (h _ (List.getElem_mem _))
   by_cases h1:p[i] < 0
   ·rw [if_pos h1,fP,ab]
    exact ⟨_,rfl,.inr ⟨rfl,hbad⟩⟩
   ·rw [if_neg h1,decide_eq_true (by omega),fP,ab]
    exact ⟨_,rfl,.inr ⟨rfl,hbad⟩⟩
 ·rw [if_neg hi]
  rw [List.take_of_length_le (by omega)] at a0 a3
  exact ⟨_,rfl,.inl ⟨D,rfl,a0,a2,a3⟩⟩
open Classical in
theorem iA (r:Tf) (p:List Int) (k:Int) (hk:1 <= k) (hl:p.length <= 1000):(thn (ap (ac_l1 FU p ⟨r,k⟩) FU (0,[])) (fun D443=>(ai_p FU (!(decide (((D443.length:Nat):Int) = k))) (220:Int)).bind fun y497=>exc y497 (fun _=>some (Except.ok ())) (fun e498=>some (.error e498)))) = some (if bD p k then .ok () else .error ⟨220⟩):=by
 obtain ⟨y,e,hy⟩:=used_eq r p k hl
 rw [e]
 rcases hy with ⟨D,rfl,h1,h2,h3⟩ | ⟨rfl,h1⟩
 ·unfold thn
  simp only
  by_cases hD:(D.length:Int) = k
  ·rw [decide_eq_true hD]
   have hp:bD p k:=⟨h1,fun d d0 d1=>(h3 d).1 (eZ (by omega) h2 (fun x hx=>h1 x ((h3 x).1 hx)) (by rw [List.length_map]; exact hD) d d0 d1)⟩
   rw [if_pos hp]; rfl
  ·rw [decide_eq_false hD]
   have hp:¬ bD p k:=fun hp=>hD (by
    have:=il (l:=D.map Prod.fst) (k:=k) (by omega) h2 fun x=>by
     rw [h3 x]; exact ⟨fun hx=>hp.1 x hx,fun hx=>hp.2 x hx.1 hx.2⟩
    rwa [List.length_map] at this)
   rw [if_neg hp]; rfl
 ·have hp:¬ bD p k:=fun hp=>h1 hp.1
  rw [if_neg hp]; rfl
open Classical in
theorem jP {r:Tf} {us:List Tc} (h:Lnd r us) (hn:r.ft.length <= 1000) (p:List Int) (k:Int) (hk:1 <= k) (hl:p.length <= 1000):ac_p FU ⟨r,k⟩ p = some (if eK p us.length k then .ok () else .error ⟨220⟩):=by
 have hF:=bj
 have hle:=h.le
 have lab:=iA r p k hk hl
 have tailOk:∀ z:Int,z = us.length -> ((ai_p FU (!(decide (((p.length:Nat):Int) = z))) (220:Int)).bind fun y182=>exc y182 (fun _=>thn (ap (ac_l1 FU p ⟨r,k⟩) FU (0,([]:List (Int × Bool)))) (fun D265=>(ai_p FU (!(decide (((D265.length:Nat):Int) = k))) (220:Int)).bind fun y319=>exc y319 (fun _=>some (Except.ok ())) (fun e320=>some (.error e320)))) (fun e183=>some (.error e183))) = some (if eK p us.length k then .ok () else .error ⟨220⟩):=by
  rintro z rfl
  by_cases hz:((p.length:Nat):Int) = us.length
  ·rw [decide_eq_true hz]
   simp only [Bool.not_true]
   rw [dH, ab]
   unfold exc
   simp only
   refine lab.trans ?_
   by_cases hp:bD p k
   ·rw [if_pos hp,if_pos ⟨by omega,hp⟩]
   ·rw [if_neg hp,if_neg fun hf:eK p us.length k=>hp hf.2]
  ·rw [decide_eq_false hz,if_neg fun hf:eK p us.length k=>hz (by rw [hf.1])]
   rfl
 have hh:=av (B:=ac_l3 FU ⟨r,k⟩ p) (fun s:Nat × Int=>r.ft.length - s.1) (fun s=>s.1 <= us.length/\s.2 = s.1) (fun y=>y = .inl (if eK p us.length k then .ok () else .error ⟨220⟩) ∨ y = .inr (us.length:Int)) ?_ FU (0,0) ⟨by simp,by simp⟩ (by simp only; omega)
 ·obtain ⟨y,e,hy⟩:=hh
  unfold ac_p
  rw [e]
  rcases hy with rfl | rfl
  ·rfl
  ·exact tailOk _ rfl
 ·rintro ⟨i,z⟩ J ⟨a1,a2⟩ hJ
  simp only at a1 a2 hJ
  subst a2
  unfold ac_l3
  simp only
  by_cases hi:i < r.ft.length
  ·rw [if_pos hi,geE hi,ab]
   rcases h.at hi with ⟨h2,_,hw⟩ | ⟨h2,hw⟩
   ·rw [if_neg (by rw [hw]; decide),aL (by omega) (by omega),ab]
    exact hJ _ ⟨by simp only; omega,by simp only; omega⟩ (by simp only; omega)
   ·rw [if_pos hw]
    refine ⟨.inl (if eK p us.length k then .ok () else .error ⟨220⟩),?_,.inl rfl⟩
    exact congrArg (Option.map _) (tailOk (i:Int) (by omega))
  ·rw [if_neg hi]
   exact ⟨_,rfl,.inr (by rw [show i = us.length by omega])⟩
open Classical in
theorem fM {r:Tf} (hS:∀ u ∈ r.ft,Sm4 u) (p:List Int) (k:Int) (hk:1 <= k) (hk8:k <= 8) (hl:p.length <= 1000) (us:List Tc) (hL:RV r -> Lnd r us):bP_p FU r p k = some (if RV r then if eK p us.length k then 0 else 220 else 161):=by
 unfold bP_p bF_p bE_p
 rw [cH r hS,ab]
 by_cases hv:RV r
 ·have hn:=hv.n
  rw [if_pos hv,if_pos hv]
  unfold bC_p
  rw [if_pos rfl,ab]
  unfold exc
  simp only
  rw [if_neg (by omega),decide_eq_false (by omega),dH, ab]
  simp only
  rw [ab]
  simp only
  rw [jP (hL hv) (by omega) p k hk hl]
  by_cases hf:eK p us.length k
  ·rw [if_pos hf,if_pos hf]; rfl
  ·rw [if_neg hf,if_neg hf]; rfl
 ·rw [if_neg hv,if_neg hv]
  rfl
end Go.Proofs.YtibdeoeglcngoaaGreatDoor
namespace Go.Proofs.YtibdeoeglcngoaaGreatDoor
open Go
set_option maxRecDepth 8000
structure D0 (r:Tf):Prop where
 n:r.ft.length <= 13
 s:∀ u ∈ r.ft,Sm4 u
 k:∀ u ∈ r.ft,u.fVotes.length <= 100/\u.fh.length <= 100
 q:∀ u ∈ r.ft,∀ x ∈ u.fB,0 <= x/\x <= 2
theorem nm_ns {i:Nat} (h:i < 13):nm i ∈ NS:=List.mem_cons_of_mem _ (List.mem_map.2 ⟨i,List.mem_range.2 h,rfl⟩)
theorem idxK {α:Type} {xs:List α} {j:Nat} (h:j < xs.length):idx xs (j:Int) = some xs[j]:=bI (i:=(j:Int)) (by omega) h
structure Dn (r:Tf):Prop where
 n:r.ft.length <= 13
 s:∀ u ∈ r.ft,Sm4 u
end Go.Proofs.YtibdeoeglcngoaaGreatDoor
namespace Go.Proofs.YtibdeoeglcngoaaGreatDoor
open Go
set_option maxRecDepth 8000
theorem exE {ε α β:Type} (x:ε) (f:α -> Option β) (g:ε -> Option β):exc (.error x) f g = g x:=rfl
theorem exO {ε α β:Type} (x:α) (f:α -> Option β) (g:ε -> Option β):exc (.ok x) f g = f x:=rfl
theorem ii {r:Tf} {us:List Tc} (hv:RV r) (h:Lnd r us) {i:Nat} (hi:i < us.length):∃ h2:i < r.ft.length,r.ft[i] = us[i]/\UV r us[i]:=by
 obtain ⟨ws,e,_⟩:=h.all
 have hi2:i < r.ft.length:=by rw [e,List.length_append]; omega
 have h1:=hv.u i hi2
 have e0:r.ft[i] = us[i]:=by simp only [e]; exact List.getElem_append_left hi
 rw [e0] at h1
 exact ⟨hi2,e0,h1⟩
theorem jt {α:Type} {l:List α} {i:Nat} {x:α} (h:l[i]? = some x):l.take (i + 1) = l.take i ++ [x]:=by
 obtain ⟨hi,rfl⟩:=List.getElem?_eq_some_iff.1 h
 exact List.take_succ_eq_append_getElem hi
def Vu (P:Nat) (u:Tc):Prop:=u.fVotes.length = P/\∀ x ∈ u.fVotes,0 <= x/\x <= 1000000000
theorem vu_of {r:Tf} {u:Tc} {P:Nat} (hP:r.fc = P) (h:UV r u):Vu P u:=by
 obtain ⟨w1,w2⟩:=h.2.2.2.1
 exact ⟨by omega,fun x hx=>by have:=w2 x hx; split at this <;> omega⟩
def dq (a b:List Int):List Int:=List.zipWith (· + ·) a b
theorem jN {a b:List Int} {P:Nat} (h1:a.length = P) (h2:b.length = P):(dq a b).length = P:=by unfold dq; rw [List.length_zipWith]; omega
def vd (us:List Tc) (p:List Int) (P:Nat) (d:Int):Nat -> List Int
 | 0=>List.replicate P 0
 | i + 1=>if p[i]? = some d then dq (vd us p P d i) ((us[i]?.map (·.fVotes)).getD []) else vd us p P d i
theorem iN {us:List Tc} {p:List Int} {P i:Nat} {d:Int} (h1:i < us.length) (h:p[i]? = some d):vd us p P d (i + 1) = dq (vd us p P d i) us[i].fVotes:=by
 show (if p[i]? = some d then dq (vd us p P d i) ((us[i]?.map (·.fVotes)).getD []) else vd us p P d i) = _
 rw [if_pos h,geE h1]; rfl
theorem vd_no {us:List Tc} {p:List Int} {P i:Nat} {d:Int} (h:p[i]? ≠ some d):vd us p P d (i + 1) = vd us p P d i:=by
 show (if p[i]? = some d then dq (vd us p P d i) ((us[i]?.map (·.fVotes)).getD []) else vd us p P d i) = _
 rw [if_neg h]
theorem ic {us:List Tc} {P:Nat} (hU:∀ u ∈ us,Vu P u) (p:List Int) (d:Int):∀ i ≤ us.length,(vd us p P d i).length = P/\∀ x ∈ vd us p P d i,0 <= x/\x <= (i:Int) * 1000000000
 | 0,_=>⟨by simp [vd],fun x hx=>by rw [List.eq_of_mem_replicate hx]; omega⟩
 | i + 1,hi=>by
  obtain ⟨l1,l2⟩:=ic hU p d i (by omega)
  have hu:=hU us[i] (List.getElem_mem _)
  by_cases h:p[i]? = some d
  ·rw [iN (by omega) h]
   refine ⟨jN l1 hu.1,fun x hx=>?_⟩
   obtain ⟨j,hj,rfl⟩:=List.getElem_of_mem hx
   unfold dq at hj ⊢
   rw [List.length_zipWith] at hj
   rw [List.getElem_zipWith]
   have h1:=l2 _ (List.getElem_mem (show j < (vd us p P d i).length by omega))
   have h2:=hu.2 _ (List.getElem_mem (show j < us[i].fVotes.length by omega))
   omega
  ·rw [vd_no h]
   exact ⟨l1,fun x hx=>by have:=l2 x hx; omega⟩
def vts (us:List Tc) (p:List Int) (P k i:Nat):List (List Int):=(List.range k).map fun d:Nat=>vd us p P (d:Int) i
theorem co (us:List Tc) (p:List Int) (P k i:Nat):(vts us p P k i).length = k:=by unfold vts; simp
theorem dR (us:List Tc) (p:List Int) (P:Nat) {k d:Nat} (i:Nat) (h:d < k):(vts us p P k i)[d]? = some (vd us p P (d:Int) i):=by
 unfold vts
 rw [List.getElem?_map,List.getElem?_range h]; rfl
def Part (a b row:List Int) (j:Nat):Prop:=row.length = a.length/\∀ c:Nat,c < a.length -> row[c]? = some ((a[c]?.getD 0) + if c < j then b[c]?.getD 0 else 0)
theorem Part.done {a b row:List Int} (h:Part a b row b.length) (hl:a.length = b.length):row = dq a b:=by
 apply List.ext_getElem?
 intro c
 unfold dq
 rw [List.getElem?_zipWith]
 by_cases hc:c < a.length
 ·rw [h.2 c hc,if_pos (by omega),geE hc,geE (show c < b.length by omega)]; rfl
 ·rw [List.getElem?_eq_none (by rw [h.1]; omega),List.getElem?_eq_none (show a.length <= c by omega)]
theorem Part.zero (a b:List Int):Part a b a 0:=⟨rfl,fun c hc=>by rw [if_neg (by omega),geE hc]; simp⟩
theorem Part.step {a b row:List Int} {j:Nat} (h:Part a b row j) (hj:j < a.length) (hb:j < b.length):Part a b (row.set j (a[j] + b[j])) (j + 1):=by
 refine ⟨by rw [List.length_set]; exact h.1,fun c hc=>?_⟩
 rw [List.getElem?_set]
 by_cases hjc:j = c
 ·subst hjc
  rw [if_pos rfl,if_pos (by rw [h.1]; exact hj),if_pos (by omega),geE hj,geE hb]; rfl
 ·rw [if_neg hjc,h.2 c hc]
  by_cases hlt:c < j
  ·rw [if_pos hlt,if_pos (by omega)]
  ·rw [if_neg hlt,if_neg (by omega)]
theorem Part.at {a b row:List Int} {j:Nat} (h:Part a b row j) (hj:j < a.length):row[j]? = some a[j]:=by
 rw [h.2 j hj,if_neg (by omega),geE hj]; simp
structure Cn (r:Tf) (us:List Tc) (p:List Int) (k P:Nat):Prop where
 v:RV r
 l:Lnd r us
 f:eK p us.length (k:Int)
 k1:1 <= k
 k8:k <= 8
 P:r.fc = P
theorem Cn.vu {r:Tf} {us:List Tc} {p:List Int} {k P:Nat} (h:Cn r us p k P):∀ u ∈ us,Vu P u:=fun u hu=>by
 obtain ⟨i,hi,rfl⟩:=List.getElem_of_mem hu
 obtain ⟨_,_,h1⟩:=ii h.v h.l hi
 exact vu_of h.P h1
theorem Cn.m {r:Tf} {us:List Tc} {p:List Int} {k P:Nat} (h:Cn r us p k P):us.length <= 64:=Nat.le_trans h.l.le h.v.n.2
theorem Cn.p12 {r:Tf} {us:List Tc} {p:List Int} {k P:Nat} (h:Cn r us p k P):P <= 12:=by have:=h.v.p; have:=h.P; omega
theorem Cn.at {r:Tf} {us:List Tc} {p:List Int} {k P:Nat} (h:Cn r us p k P) {i:Nat} (hi:i < p.length):∃ d:Nat,p[i] = (d:Int)/\d < k/\i < us.length:=by
 have hx:=h.f.2.1 p[i] (List.getElem_mem hi)
 have:=h.f.1
 exact ⟨p[i].toNat,by omega,by omega,by omega⟩
theorem row_ok {r:Tf} {us:List Tc} {p:List Int} {k P:Nat} (h:Cn r us p k P) {i d:Nat} (hi:i < us.length) (hd:d < k) (xs:List (List Int)) (hx:xs.length = k) (hrow:xs[d]? = some (vd us p P (d:Int) i)) :
  ap (ah_l1 FU us[i] (d:Int)) FU (0,xs) = some (xs.set d (dq (vd us p P (d:Int) i) us[i].fVotes)):=by
 have hF:=bj
 have hu:=h.vu us[i] (List.getElem_mem hi)
 have hm:=h.m; have hp:=h.p12
 obtain ⟨v1,v2⟩:=ic h.vu p (d:Int) i (by omega)
 have hh:=av (B:=ah_l1 FU us[i] (d:Int)) (fun s:Nat × List (List Int)=>P - s.1) (fun s=>s.1 <= P/\∃ row,s.2 = xs.set d row/\Part (vd us p P (d:Int) i) us[i].fVotes row s.1) (fun y=>y = xs.set d (dq (vd us p P (d:Int) i) us[i].fVotes)) ?_ FU (0,xs) ⟨Nat.zero_le _,vd us p P (d:Int) i,?_,.zero _ _⟩ (by simp only; omega)
 ·obtain ⟨y,e,rfl⟩:=hh; exact e
 ·rintro ⟨j,ys⟩ J ⟨a1,row,a2,a3⟩ hJ
  simp only at a1 a2 a3 hJ
  subst a2
  unfold ah_l1
  simp only
  by_cases hj:j < P
  ·have j1:j < us[i].fVotes.length:=by rw [hu.1]; exact hj
   have j2:j < (vd us p P (d:Int) i).length:=by omega
   have b1:=hu.2 _ (List.getElem_mem j1)
   have b2:=v2 _ (List.getElem_mem j2)
   have hr:=a3.at j2
   have hrl:=a3.1
   rw [if_pos j1,geE j1,ab,idx_nat,List.getElem?_set,if_pos rfl,if_pos (by omega),ab,hr,ab,aL (by omega) (by omega),ab,cD _ (by omega),ab,Int.toNat_natCast,List.set_set]
   exact hJ _ ⟨hj,_,rfl,a3.step j2 j1⟩ (by simp only; omega)
  ·rw [if_neg (by rw [hu.1]; exact hj)]
   have:j = us[i].fVotes.length:=by have:=hu.1; omega
   subst this
   exact ⟨_,rfl,by rw [a3.done (by rw [v1,hu.1])]⟩
 ·apply List.ext_getElem?
  intro c
  rw [List.getElem?_set]
  by_cases hc:d = c
  ·subst hc; rw [if_pos rfl,if_pos (by omega),hrow]
  ·rw [if_neg hc]
theorem iZ {r:Tf} {us:List Tc} {p:List Int} {k P:Nat} (h:Cn r us p k P) {i d:Nat} (hip:i < p.length) (hi:i < us.length) (hd:d < k) (e:p[i] = (d:Int)):vts us p P k (i + 1) = (vts us p P k i).set d (dq (vd us p P (d:Int) i) us[i].fVotes):=by
 apply List.ext_getElem?
 intro c
 rw [List.getElem?_set]
 have hpi:p[i]? = some (d:Int):=by rw [geE hip,e]
 by_cases hc:d = c
 ·subst hc
  rw [if_pos rfl,if_pos (by rw [co]; exact hd),dR _ _ _ _ hd,iN hi hpi]
 ·rw [if_neg hc]
  by_cases hck:c < k
  ·rw [dR _ _ _ _ hck,dR _ _ _ _ hck,vd_no (by rw [hpi]; intro hx; have:=Option.some.inj hx; omega)]
  ·rw [List.getElem?_eq_none (by rw [co]; omega),List.getElem?_eq_none (by rw [co]; omega)]
theorem dD {r:Tf} {us:List Tc} {p:List Int} {k P:Nat} (h:Cn r us p k P):ah_p FU ⟨r,p,(k:Int)⟩ = some (vts us p P k us.length):=by
 have hF:=bj
 have h8:=h.k8; have hm:=h.m; have hp:=h.p12; have hpl:=h.f.1
 unfold ah_p
 rw [show mk (k:Int) ([]:List Int) = some (List.replicate k []) from if_pos ⟨by omega,by omega⟩,ab]
 have hh:=av (B:=ah_l3 FU (List.replicate k []) ⟨r,p,(k:Int)⟩) (fun s:Nat × List (List Int)=>k - s.1) (fun s=>s.1 <= k/\s.2.length = k/\∀ d:Nat,d < s.1 -> s.2[d]? = some (List.replicate P 0)) (fun y=>y = vts us p P k 0) ?_ FU (0,List.replicate k []) ⟨Nat.zero_le _,by simp,fun d hd=>by omega⟩ (by simp only; omega)
 ·obtain ⟨y,e,rfl⟩:=hh
  rw [e,ab]
  have hh:=av (B:=ah_l2 FU ⟨r,p,(k:Int)⟩) (fun s:Nat × List (List Int)=>p.length - s.1) (fun s=>s.1 <= p.length/\s.2 = vts us p P k s.1) (fun y=>y = vts us p P k us.length) ?_ FU (0,vts us p P k 0) ⟨Nat.zero_le _,rfl⟩ (by simp only; omega)
  ·obtain ⟨y,e,rfl⟩:=hh
   rw [e]; rfl
  ·rintro ⟨i,xs⟩ J ⟨a1,a2⟩ hJ
   simp only at a1 a2 hJ
   subst a2
   unfold ah_l2
   simp only
   by_cases hip:i < p.length
   ·obtain ⟨d,e,hd,hi⟩:=h.at hip
    obtain ⟨u1,u2,_⟩:=ii h.v h.l hi
    rw [if_pos hip,geE hip,ab,geE u1,ab,u2,e,row_ok h hi hd _ (co ..) (dR _ _ _ _ hd),ab,<- iZ h hip hi hd e]
    exact hJ _ ⟨hip,rfl⟩ (by simp only; omega)
   ·rw [if_neg hip]
    exact ⟨_,rfl,by rw [show i = us.length by omega]⟩
 ·rintro ⟨i,xs⟩ J ⟨a1,a2,a3⟩ hJ
  simp only at a1 a2 a3 hJ
  unfold ah_l3
  simp only
  by_cases hi:i < k
  ·rw [if_pos (by simpa using hi),h.P,dm _ _ (by omega),ab,geE (by omega),ab]
   refine hJ _ ⟨hi,by simp only [List.length_set]; exact a2,fun d hd=>?_⟩ (by simp only; omega)
   simp only at hd ⊢
   rw [List.getElem?_set]
   by_cases hid:i = d
   ·subst hid; rw [if_pos rfl,if_pos (by omega)]
   ·rw [if_neg hid]; exact a3 d (by omega)
  ·rw [if_neg (by simpa using hi)]
   refine ⟨xs,rfl,?_⟩
   apply List.ext_getElem?
   intro d
   by_cases hd:d < k
   ·rw [a3 d (by omega),dR _ _ _ _ hd]; rfl
   ·rw [List.getElem?_eq_none (by omega),List.getElem?_eq_none (by rw [co]; omega)]
def at0 (l:List Int) (x:Nat):Int:=l[x]?.getD 0
theorem cu {l:List Int} {x:Nat} (h:x < l.length):at0 l x = l[x]:=by unfold at0; rw [geE h]; rfl
def Tb (k P:Nat) (vs:List (List Int)):Prop:=vs.length = k/\∀ v ∈ vs,v.length = P
theorem Cn.tb {r:Tf} {us:List Tc} {p:List Int} {k P:Nat} (h:Cn r us p k P):Tb k P (vts us p P k us.length):=by
 refine ⟨co ..,fun v hv=>?_⟩
 unfold vts at hv
 obtain ⟨d,_,rfl⟩:=List.mem_map.1 hv
 exact (ic h.vu p (d:Int) us.length (Nat.le_refl _)).1
end Go.Proofs.YtibdeoeglcngoaaGreatDoor
namespace Go.Proofs.YtibdeoeglcngoaaGreatDoor
open Go
set_option maxRecDepth 8000
def Uq (l:List Int) (x:Nat):Prop:=x < l.length/\∀ y < l.length,y ≠ x -> at0 l y < at0 l x
def WinR (l:List Int) (w:Int):Prop:=(∃ x:Nat,Uq l x/\w = (x:Int)) ∨ (∀ x,¬ Uq l x)/\w = -1
theorem max_ok (l:List Int) (h0:0 < l.length) (hl:l.length <= 1000):∃ m,aC_p FU l = some m/\(∀ x < l.length,at0 l x <= m)/\∃ x < l.length,at0 l x = m:=by
 have hF:=bj
 unfold aC_p
 rw [if_neg (by omega),geE h0,ab]
 have hh:=av (B:=aC_l1 FU l) (fun s:Int × Nat=>l.length - s.2) (fun s=>s.2 <= l.length/\(∀ x < s.2,at0 l x <= s.1)/\∃ x < l.length,at0 l x = s.1) (fun m=>(∀ x < l.length,at0 l x <= m)/\∃ x < l.length,at0 l x = m) ?_ FU (l[0],1) ⟨h0,fun x hx=>by
  obtain rfl:x = 0:=by simpa using hx
  rw [cu h0]; omega,0,h0,cu h0⟩ (by simp only; omega)
 ·obtain ⟨m,e,h1,h2⟩:=hh
  rw [e,ab]; exact ⟨m,rfl,h1,h2⟩
 ·rintro ⟨z,i⟩ J ⟨a1,a2,a3⟩ hJ
  simp only at a1 a2 a3 hJ
  unfold aC_l1
  simp only
  by_cases hi:i < l.length
  ·rw [if_pos hi,geE hi,ab]
   have hg:=cu hi
   refine hJ _ ⟨hi,fun x hx=>?_,?_⟩ (by simp only; omega)
   ·simp only at hx ⊢
    by_cases hxi:x = i
    ·subst hxi; omega
    ·have:=a2 x (by omega); omega
   ·simp only
    rcases Int.le_total z l[i] with h | h
    ·exact ⟨i,hi,by omega⟩
    ·obtain ⟨x,x1,x2⟩:=a3
     exact ⟨x,x1,by omega⟩
  ·rw [if_neg hi]
   exact ⟨z,rfl,fun x hx=>a2 x (by omega),a3⟩
theorem winnerP (l:List Int) (hl:l.length <= 1000):∃ w,bf_p FU l = some w/\WinR l w:=by
 have hF:=bj
 unfold bf_p
 by_cases h0:l.length = 0
 ·rw [if_pos h0]; exact ⟨-1,rfl,.inr ⟨fun x hx=>by have:=hx.1; omega,rfl⟩⟩
 rw [if_neg h0]
 obtain ⟨m,m1,m2,m3⟩:=max_ok l (by omega) hl
 rw [m1,ab]
 have hh:=av (B:=bf_l1 FU l m) (fun s:Int × Nat=>l.length - s.2) (fun s=>s.2 <= l.length/\(s.1 = -1/\(∀ j < s.2,at0 l j ≠ m) ∨ ∃ x:Nat,x < s.2/\s.1 = (x:Int)/\at0 l x = m/\∀ j < s.2,j ≠ x -> at0 l j ≠ m)) (fun r=>∃ w,(r = .inl w ∨ r = .inr w)/\WinR l w) ?_ FU (-1,0) ⟨Nat.zero_le _,.inl ⟨rfl,fun j hj=>by omega⟩⟩ (by simp only; omega)
 ·obtain ⟨r,e,w,hr,hw⟩:=hh
  rw [e]
  rcases hr with rfl | rfl <;> exact ⟨w,rfl,hw⟩
 ·rintro ⟨z,i⟩ J ⟨a1,a2⟩ hJ
  simp only at a1 a2 hJ
  unfold bf_l1
  simp only
  by_cases hi:i < l.length
  ·rw [if_pos hi,geE hi,ab]
   have hg:=cu hi
   by_cases hx:l[i] = m
   ·rw [if_pos hx]
    rcases a2 with ⟨rfl,a2⟩ | ⟨x,x1,rfl,x2,x3⟩
    ·rw [if_pos (by decide)]
     refine hJ _ ⟨hi,.inr ⟨i,by simp,rfl,by omega,fun j hj hji=>?_⟩⟩ (by simp only; omega)
     simp only at hj
     exact a2 j (by omega)
    ·rw [if_neg (by omega)]
     refine ⟨_,rfl,-1,.inl rfl,.inr ⟨fun u hu=>?_,rfl⟩⟩
     have hux:∀ y < l.length,at0 l y = m -> y = u:=fun y hy e=>Classical.byContradiction fun hne=>by
      have h1:=hu.2 y hy hne
      have h2:=m2 u hu.1
      omega
     have e1:=hux x (by omega) x2
     have e2:=hux i hi (by omega)
     omega
   ·rw [if_neg hx]
    refine hJ _ ⟨hi,?_⟩ (by simp only; omega)
    rcases a2 with ⟨rfl,a2⟩ | ⟨x,x1,rfl,x2,x3⟩
    ·refine .inl ⟨rfl,fun j hj=>?_⟩
     simp only at hj
     by_cases hji:j = i
     ·subst hji; omega
     ·exact a2 j (by omega)
    ·refine .inr ⟨x,by simp only; omega,rfl,x2,fun j hj hjx=>?_⟩
     simp only at hj
     by_cases hji:j = i
     ·subst hji; omega
     ·exact x3 j (by omega) hjx
  ·rw [if_neg hi]
   have:i = l.length:=by omega
   subst this
   refine ⟨_,rfl,z,.inr rfl,?_⟩
   rcases a2 with ⟨rfl,a2⟩ | ⟨x,x1,rfl,x2,x3⟩
   ·obtain ⟨y,y1,y2⟩:=m3
    exact absurd y2 (a2 y y1)
   ·refine .inl ⟨x,⟨x1,fun y hy hne=>?_⟩,rfl⟩
    have h1:=m2 y hy
    have h2:=x3 y hy hne
    omega
def win (l:List Int):Int:=(bf_p FU l).getD 0
theorem ib (l:List Int) (hl:l.length <= 1000):bf_p FU l = some (win l)/\WinR l (win l):=by
 obtain ⟨w,w1,w2⟩:=winnerP l hl
 have e:win l = w:=by unfold win; rw [w1]; rfl
 rw [e]; exact ⟨w1,w2⟩
theorem ie (vs:List (List Int)) {i:Nat} (h:i < vs.length):(vs.map win)[i]? = some (win vs[i]):=by rw [List.getElem?_map,geE h]; rfl
theorem iU {k P:Nat} {vs:List (List Int)} (h:Tb k P vs) (hk:k <= 8) (hP:P <= 12):ap (aL_l1 FU vs) FU (0,[]) = some (vs.map win):=by
 have hF:=bj
 have hl:=h.1
 have hh:=av (B:=aL_l1 FU vs) (fun s:Nat × List Int=>vs.length - s.1) (fun s=>s.1 <= vs.length/\s.2 = (vs.map win).take s.1) (fun y=>y = vs.map win) ?_ FU (0,[]) ⟨Nat.zero_le _,by simp⟩ (by simp only; omega)
 ·obtain ⟨y,e,rfl⟩:=hh; exact e
 ·rintro ⟨i,xs⟩ J ⟨a1,a2⟩ hJ
  simp only at a1 a2 hJ
  subst a2
  unfold aL_l1
  simp only
  by_cases hi:i < vs.length
  ·obtain ⟨w1,_⟩:=ib vs[i] (by rw [h.2 _ (List.getElem_mem hi)]; omega)
   rw [if_pos hi,geE hi,ab,w1,ab,eU _ _ (by simp only [List.length_take,List.length_map,leC,leN]; omega),ab,<- jt (ie vs hi)]
   exact hJ _ ⟨hi,rfl⟩ (by simp only; omega)
  ·rw [if_neg hi,List.take_of_length_le (by rw [List.length_map]; omega)]
   exact ⟨_,rfl,rfl⟩
theorem votes_p {r:Tf} {us:List Tc} {p:List Int} {k P:Nat} (h:Cn r us p k P) (ho:aM_p FU r p (k:Int) = some (.ok ⟨r,p,(k:Int)⟩)):ca_p FU r p (k:Int) = some (vts us p P k us.length,0):=by
 unfold ca_p bR_p
 rw [ho,ab,exO,dD h,ab,ab,exO]
theorem winners_p {r:Tf} {us:List Tc} {p:List Int} {k P:Nat} (h:Cn r us p k P) (ho:aM_p FU r p (k:Int) = some (.ok ⟨r,p,(k:Int)⟩)):bp_p FU r p (k:Int) = some ((vts us p P k us.length).map win,0):=by
 unfold bp_p aL_p
 rw [ho,ab,exO,dD h,ab,iU h.tb h.k8 h.p12,ab,ab,exO]
end Go.Proofs.YtibdeoeglcngoaaGreatDoor
namespace Go.Proofs.YtibdeoeglcngoaaGreatDoor
open Go
end Go.Proofs.YtibdeoeglcngoaaGreatDoor
namespace Go.Proofs.YtibdeoeglcngoaaGreatDoor
open Go
end Go.Proofs.YtibdeoeglcngoaaGreatDoor
namespace Go.Proofs.YtibdeoeglcngoaaGreatDoor
open Go
set_option maxRecDepth 8000
end Go.Proofs.YtibdeoeglcngoaaGreatDoor
namespace Go.Proofs.YtibdeoeglcngoaaGreatDoor
open Go
set_option maxRecDepth 8000
end Go.Proofs.YtibdeoeglcngoaaGreatDoor
namespace Go.Proofs.YtibdeoeglcngoaaGreatDoor
open Go
set_option maxRecDepth 8000
abbrev T8:=UInt64 × UInt64 × UInt64 × UInt64 × UInt64 × UInt64 × UInt64 × UInt64
def wv (t:T8):List UInt64:=[t.1,t.2.1,t.2.2.1,t.2.2.2.1,t.2.2.2.2.1,t.2.2.2.2.2.1,t.2.2.2.2.2.2.1,t.2.2.2.2.2.2.2]
theorem hN:∀ {xs ys:List UInt64},xs.length = ys.length -> val xs = val ys -> xs = ys
 | [],[],_,_=>rfl
 | x :: xs,[],h,_=>by simp at h
 | [],y :: ys,h,_=>by simp at h
 | x :: xs,y :: ys,h,e=>by
  simp only [val] at e
  have hx:=x.toNat_lt
  have hy:=y.toNat_lt
  have e1:x = y:=UInt64.toNat_inj.1 (by omega)
  have e2:val xs = val ys:=by omega
  rw [e1,hN (by simpa using h) e2]
theorem wv_inj {s t:T8} (h:val (wv s) = val (wv t)):s = t:=by
 have:=hN (by rfl) h
 unfold wv at this
 obtain ⟨s1,s2,s3,s4,s5,s6,s7,s8⟩:=s
 obtain ⟨t1,t2,t3,t4,t5,t6,t7,t8⟩:=t
 simp only [List.cons.injEq,and_true] at this
 simp only [Prod.mk.injEq]
 exact this
def HB:Nat:=9223372036854775808 * 18446744073709551616 ^ 7
def FB:Nat:=18446744073709551616 ^ 8
theorem FB_HB:FB = 2 * HB:=by unfold FB HB; rfl
theorem HB_pos:0 < HB:=by unfold HB; decide
def Wn (m:Nat):T8:=(UInt64.ofNat m,UInt64.ofNat (m / 18446744073709551616),UInt64.ofNat (m / 18446744073709551616 / 18446744073709551616),UInt64.ofNat (m / 18446744073709551616 / 18446744073709551616 / 18446744073709551616),UInt64.ofNat (m / 18446744073709551616 / 18446744073709551616 / 18446744073709551616 / 18446744073709551616),UInt64.ofNat (m / 18446744073709551616 / 18446744073709551616 / 18446744073709551616 / 18446744073709551616 / 18446744073709551616),UInt64.ofNat (m / 18446744073709551616 / 18446744073709551616 / 18446744073709551616 / 18446744073709551616 / 18446744073709551616 / 18446744073709551616),UInt64.ofNat (m / 18446744073709551616 / 18446744073709551616 / 18446744073709551616 / 18446744073709551616 / 18446744073709551616 / 18446744073709551616 / 18446744073709551616))
theorem bG (m:Nat) (xs:List UInt64) (h:val xs = m / 18446744073709551616):val (UInt64.ofNat m :: xs) = m:=by
 simp only [val]
 rw [UInt64.toNat_ofNat', h]
 exact Nat.mod_add_div m 18446744073709551616
theorem Wn_val {m:Nat} (h:m < FB):val (wv (Wn m)) = m:=by
 unfold wv Wn
 refine bG _ _ (bG _ _ (bG _ _ (bG _ _ (bG _ _ (bG _ _ (bG _ _ ?_))))))
 simp only [val]
 rw [UInt64.toNat_ofNat', Nat.mul_zero,Nat.add_zero]
 refine Nat.mod_eq_of_lt ?_
 simp only [Nat.div_div_eq_div_mul]
 refine Nat.div_lt_of_lt_mul ?_
 exact h
def Fw (z:Int):Prop:=-(HB:Int) <= z/\z < HB
def Wg (z:Int):T8:=Wn (z % (FB:Int)).toNat
theorem Wg_val (z:Int):(val (wv (Wg z)):Int) = z % (FB:Int):=by
 have hp:=HB_pos
 have hf:=FB_HB
 have h0:=Int.emod_nonneg z (b:=(FB:Int)) (by omega)
 have h1:=Int.emod_lt_of_pos z (b:=(FB:Int)) (by omega)
 unfold Wg
 rw [Wn_val (by omega)]
 omega
theorem Wg_of {z:Int} {t:T8} (h:(val (wv t):Int) = z % (FB:Int)):t = Wg z:=wv_inj (by have:=Wg_val z; omega)
end Go.Proofs.YtibdeoeglcngoaaGreatDoor
namespace Go.Proofs.YtibdeoeglcngoaaGreatDoor
open Go
set_option maxRecDepth 8000
def Sg (q:Rat):Ta:=⟨Wg q.num,Wg q.den⟩
def FQ (q:Rat):Prop:=Fw q.num/\Fw (q.den:Int)
theorem FQ.ndnz {q:Rat}:(q.den:Int) ≠ 0:=by have:=q.den_pos; omega
theorem W8_Wg {z:Int} (h:Sm z):W8 z = Wg z:=by
 have hp:9223372036854775808 <= HB:=by unfold HB; decide
 have hf:=FB_HB
 refine Wg_of ?_
 unfold W8
 by_cases h0:z < 0
 ·have e5:z % (FB:Int) = z + FB:=by
   rw [<- Int.add_emod_right]
   exact Int.emod_eq_of_lt (by unfold Sm at h; omega) (by omega)
  rw [if_pos h0,e5]
  have hv:val (wv ((ac z,18446744073709551615,18446744073709551615,18446744073709551615,18446744073709551615,18446744073709551615,18446744073709551615,18446744073709551615):T8)) = (ac z).toNat + 18446744073709551616 * val [18446744073709551615,18446744073709551615,18446744073709551615,18446744073709551615,18446744073709551615,18446744073709551615,18446744073709551615]:=rfl
  have hc:18446744073709551616 * val [18446744073709551615,18446744073709551615,18446744073709551615,18446744073709551615,18446744073709551615,18446744073709551615,18446744073709551615] + 18446744073709551616 = FB:=by decide
  rw [hv,dy h h0]
  unfold Sm at h
  omega
 ·rw [if_neg h0,Int.emod_eq_of_lt (by omega) (by unfold Sm at h; omega)]
  have hv:val (wv ((ac z,0,0,0,0,0,0,0):T8)) = (ac z).toNat:=by unfold wv; simp [val]
  rw [hv,dx h h0,bC h.w]
  omega
theorem Sh_Sg {q:Rat} (h1:Sm q.num) (h2:Sm (q.den:Int)):Sh q = Sg q:=by unfold Sh Sg; rw [W8_Wg h1,W8_Wg h2]
structure RF (l:Nat) (q:Rat):Prop where
 n:Fit l q.num
 d:Fit l (q.den:Int)
end Go.Proofs.YtibdeoeglcngoaaGreatDoor
namespace Go.Proofs.YtibdeoeglcngoaaGreatDoor
open Go
set_option maxRecDepth 8000
theorem div_num {a b:Int} (hb:b ≠ 0):(Rat.divInt a b).num * b = a * (Rat.divInt a b).den:=by
 have h:=Rat.num_divInt_den (Rat.divInt a b)
 exact (Rat.divInt_eq_divInt_iff FQ.ndnz hb).1 h
theorem div_le {a b:Int} (hb:b ≠ 0):(Rat.divInt a b).num.natAbs <= a.natAbs/\(Rat.divInt a b).den <= b.natAbs:=by
 have h:=congrArg Int.natAbs (div_num (a:=a) hb)
 rw [Int.natAbs_mul,Int.natAbs_mul,Int.natAbs_natCast] at h
 have hc:=(Rat.divInt a b).reduced
 have hd:=(Rat.divInt a b).den_pos
 generalize (Rat.divInt a b).num.natAbs = x at *
 generalize (Rat.divInt a b).den = y at *
 have hbp:0 < b.natAbs:=by omega
 constructor
 ·by_cases h0:a.natAbs = 0
  ·rw [h0,Nat.zero_mul] at h
   rcases Nat.mul_eq_zero.1 h with h1 | h1
   ·omega
   ·omega
  ·exact Nat.le_of_dvd (by omega) (hc.dvd_of_dvd_mul_right (by rw [<- h]; exact Nat.dvd_mul_right ..))
 ·exact Nat.le_of_dvd hbp (hc.symm.dvd_of_dvd_mul_left (by rw [h]; exact Nat.dvd_mul_left ..))
section
variable {n:Nat} {a b:Rat}
end
end Go.Proofs.YtibdeoeglcngoaaGreatDoor
namespace Go.Proofs.YtibdeoeglcngoaaGreatDoor
open Go
set_option maxRecDepth 8000
theorem FU_big:(18446744073709551616:Nat) < FU:=by decide
theorem of_sg {a b:Int} (ha:Sm a) (hb:Sm b) (h0:b ≠ 0):cd_p FU a b = some (Sg (Rat.divInt a b),0):=by
 have hd:=div_le (a:=a) h0
 rw [fG FU a b ha hb h0 FU_big,Sh_Sg (by unfold Sm at *; omega) (by unfold Sm at *; omega)]
end Go.Proofs.YtibdeoeglcngoaaGreatDoor
namespace Go.Proofs.YtibdeoeglcngoaaGreatDoor
open Go
set_option maxRecDepth 8000
theorem pofs {a b:Int} (ha:Sm a) (hb:Sm b) (h0:b ≠ 0):aV_p FU a b = some (.ok (Sg (Rat.divInt a b))):=by
 unfold aV_p
 rw [of_sg ha hb h0,ab]
 rfl
structure Vs (k P:Nat) (vs:List (List Int)):Prop where
 t:Tb k P vs
 k8:k <= 8
 p12:P <= 12
 b:∀ v ∈ vs,∀ x ∈ v,0 <= x/\x <= 64000000000
theorem Cn.vs {r:Tf} {us:List Tc} {p:List Int} {k P:Nat} (h:Cn r us p k P):Vs k P (vts us p P k us.length):=by
 refine ⟨h.tb,h.k8,h.p12,fun v hv x hx=>?_⟩
 unfold vts at hv
 obtain ⟨d,_,rfl⟩:=List.mem_map.1 hv
 have h1:=(ic h.vu p (d:Int) us.length (Nat.le_refl _)).2 x hx
 have h2:=h.m
 omega
theorem Vs.at {k P:Nat} {vs:List (List Int)} (h:Vs k P vs) {i a:Nat} (hi:i < vs.length) (ha:a < P):∃ h2:a < vs[i].length,vs[i][a] = at0 vs[i] a/\0 <= at0 vs[i] a/\at0 vs[i] a <= 64000000000:=by
 have h1:=h.t.2 _ (List.getElem_mem hi)
 have h2:a < vs[i].length:=by omega
 have h3:=h.b _ (List.getElem_mem hi) _ (List.getElem_mem h2)
 exact ⟨h2,(cu h2).symm,by rw [cu h2]; exact h3⟩
def dl (a b:Nat) (vs:List (List Int)):List (Int × Int):=(vs.map fun v=>(at0 v a,at0 v b)).filter fun e=>!(decide (e.1 = 0/\e.2 = 0))
theorem iO (a b:Nat) (vs:List (List Int)):(dl a b vs).length <= vs.length:=by
 unfold dl
 exact Nat.le_trans (List.length_filter_le _ _) (by simp)
theorem gX (a b:Nat) (vs:List (List Int)) {i:Nat} (hi:i < vs.length):dl a b (vs.take (i + 1)) = if at0 vs[i] a = 0/\at0 vs[i] b = 0 then dl a b (vs.take i) else dl a b (vs.take i) ++ [(at0 vs[i] a,at0 vs[i] b)]:=by
 unfold dl
 rw [List.take_succ_eq_append_getElem hi,List.map_append,List.filter_append]
 by_cases h:at0 vs[i] a = 0/\at0 vs[i] b = 0
 ·rw [if_pos h,List.map_cons,List.filter_cons_of_neg (by simp [h])]; simp
 ·rw [if_neg h,List.map_cons,List.filter_cons_of_pos (by rw [Bool.not_eq_true']; exact decide_eq_false h)]; simp
structure Dl (D:List (Int × Int)):Prop where
 n:D.length <= 8
 b:∀ e ∈ D,(0 <= e.1/\e.1 <= 64000000000)/\(0 <= e.2/\e.2 <= 64000000000)/\0 < e.1 + e.2
theorem dl_in {k P:Nat} {vs:List (List Int)} (h:Vs k P vs) {a b:Nat} (ha:a < P) (hb:b < P):Dl (dl a b vs):=by
 refine ⟨Nat.le_trans (iO a b vs) (by rw [h.t.1]; exact h.k8),fun e he=>?_⟩
 unfold dl at he
 obtain ⟨h1,h2⟩:=List.mem_filter.1 he
 obtain ⟨v,hv,rfl⟩:=List.mem_map.1 h1
 obtain ⟨i,hi,rfl⟩:=List.getElem_of_mem hv
 obtain ⟨_,_,a1,a2⟩:=h.at hi ha
 obtain ⟨_,_,b1,b2⟩:=h.at hi hb
 simp only [Bool.not_eq_true', decide_eq_false_iff_not] at h2
 simp only
 omega
theorem duelsP {k P:Nat} {vs:List (List Int)} (h:Vs k P vs) {a b:Nat} (ha:a < P) (hb:b < P):ap (aN_l1 FU vs (a:Int) (b:Int)) FU (0,[]) = some (dl a b vs):=by
 have hF:=bj
 have hl:=h.t.1; have h8:=h.k8
 have hh:=av (B:=aN_l1 FU vs (a:Int) (b:Int)) (fun s:Nat × List (Int × Int)=>vs.length - s.1) (fun s=>s.1 <= vs.length/\s.2 = dl a b (vs.take s.1)) (fun y=>y = dl a b vs) ?_ FU (0,[]) ⟨Nat.zero_le _,by simp [dl]⟩ (by simp only; omega)
 ·obtain ⟨y,e,rfl⟩:=hh; exact e
 ·rintro ⟨i,xs⟩ J ⟨a1,a2⟩ hJ
  simp only at a1 a2 hJ
  subst a2
  unfold aN_l1 jn
  simp only
  by_cases hi:i < vs.length
  ·obtain ⟨u1,u2,_,_⟩:=h.at hi ha
   obtain ⟨v1,v2,_,_⟩:=h.at hi hb
   have hn:=gX a b vs hi
   have hdl:=iO a b (vs.take i)
   rw [List.length_take] at hdl
   rw [if_pos hi,geE hi,ab,idxK u1,ab,idxK v1,ab,u2,v2]
   by_cases hc:at0 vs[i] a = 0/\at0 vs[i] b = 0
   ·rw [if_pos hc] at hn ⊢
    exact hJ _ ⟨hi,hn.symm⟩ (by simp only; omega)
   ·rw [if_neg hc] at hn ⊢
    rw [eU _ _ (by simp only [leC,leN]; omega),ab]
    exact hJ _ ⟨hi,hn.symm⟩ (by simp only; omega)
  ·rw [if_neg hi,List.take_of_length_le (by omega)]
   exact ⟨_,rfl,rfl⟩
theorem pfail (e:Int) (he:e ≠ 0):aA_p FU true e = some (.error ⟨e⟩):=by
 unfold aA_p bK_p
 rw [if_pos rfl,if_neg he,ab,exE]
theorem jQ (e:Int):aA_p FU false e = some (.ok ()):=by
 unfold aA_p
 rw [if_neg (by decide)]
theorem duels_p {r:Tf} {us:List Tc} {p:List Int} {k P:Nat} (h:Cn r us p k P) (ho:aM_p FU r p (k:Int) = some (.ok ⟨r,p,(k:Int)⟩)) {a b:Nat} (ha:a < P) (hb:b < P) (hab:a ≠ b) :
  aN_p FU r p (k:Int) (a:Int) (b:Int) = some (if (dl a b (vts us p P k us.length)).length = 0 then .error ⟨7⟩ else .ok (dl a b (vts us p P k us.length))):=by
 unfold aN_p jn
 rw [ho,ab,exO]
 simp only
 rw [if_neg (by omega),h.P,if_neg (by omega),if_neg (by omega),if_neg (by omega),decide_eq_false (by omega),jQ,ab,exO,dD h,ab,duelsP h.vs ha hb,ab]
 by_cases h0:(dl a b (vts us p P k us.length)).length = 0
 ·rw [decide_eq_true h0,pfail 7 (by decide),ab,exE,if_pos h0]
 ·rw [decide_eq_false h0,jQ,ab,exO,if_neg h0]
def gn (D:List (Int × Int)):Nat -> Int × Int
 | 0=>(0,0)
 | i + 1=>match D[i]? with
  | some e=>((gn D i).1 + 2 * (e.1 - e.2) - (if e.2 < e.1 then e.1 + e.2 else if e.1 < e.2 then -(e.1 + e.2) else 0),(gn D i).2 + (e.1 + e.2))
  | none=>gn D i
theorem cI {D:List (Int × Int)} {i:Nat} (h:i < D.length):gn D (i + 1) = ((gn D i).1 + 2 * (D[i].1 - D[i].2) - (if D[i].2 < D[i].1 then D[i].1 + D[i].2 else if D[i].1 < D[i].2 then -(D[i].1 + D[i].2) else 0),(gn D i).2 + (D[i].1 + D[i].2)):=by
 show (match D[i]? with
  | some e=>((gn D i).1 + 2 * (e.1 - e.2) - (if e.2 < e.1 then e.1 + e.2 else if e.1 < e.2 then -(e.1 + e.2) else 0),(gn D i).2 + (e.1 + e.2))
  | none=>gn D i) = _
 rw [geE h]
theorem gW {D:List (Int × Int)} (h:Dl D):∀ i ≤ D.length,(-(i:Int) * 400000000000 <= (gn D i).1/\(gn D i).1 <= (i:Int) * 400000000000)/\((i:Int) <= (gn D i).2/\(gn D i).2 <= (i:Int) * 128000000000)
 | 0,_=>by simp [gn]
 | i + 1,hi=>by
  have ih:=gW h i (by omega)
  have hb:=h.b D[i] (List.getElem_mem _)
  rw [cI (by omega)]
  simp only
  split
  ·omega
  ·split <;> omega
theorem gapP {D:List (Int × Int)} (h:Dl D):ap (bo_l1 FU D) FU (0,0,0) = some ((gn D D.length).2,(gn D D.length).1):=by
 have hF:=bj
 have h8:=h.n
 have hh:=av (B:=bo_l1 FU D) (fun s:Int × Int × Nat=>D.length - s.2.2) (fun s=>s.2.2 <= D.length/\s.1 = (gn D s.2.2).1/\s.2.1 = (gn D s.2.2).2) (fun y=>y = ((gn D D.length).2,(gn D D.length).1)) ?_ FU (0,0,0) ⟨Nat.zero_le _,rfl,rfl⟩ (by simp only; omega)
 ·obtain ⟨y,e,rfl⟩:=hh; exact e
 ·rintro ⟨z,y,i⟩ J ⟨a1,a2,a3⟩ hJ
  simp only at a1 a2 a3 hJ
  subst a2 a3
  unfold bo_l1 jn a9_p
  simp only
  by_cases hi:i < D.length
  ·have hb:=h.b _ (List.getElem_mem hi)
   have hg:=gW h i a1
   have hn:=cI hi
   rw [if_pos hi,geE hi,ab,aL (by omega) (by omega),ab,aL (by omega) (by omega),ab,aL (by omega) (by omega),ab,aL (x:=D[i].1 + D[i].2) (by omega) (by omega),ab]
   simp only [ab]
   by_cases c1:D[i].2 < D[i].1
   ·rw [if_pos c1] at hn ⊢
    rw [aL (by omega) (by omega),ab,aL (by omega) (by omega),ab]
    exact hJ _ ⟨hi,by simp only; rw [hn],by simp only; rw [hn]⟩ (by simp only; omega)
   ·rw [if_neg c1] at hn ⊢
    by_cases c2:D[i].1 < D[i].2
    ·rw [if_pos c2] at hn ⊢
     rw [aL (by omega) (by omega),ab,aL (by omega) (by omega),ab]
     exact hJ _ ⟨hi,by simp only; rw [hn]; simp only; omega,by simp only; rw [hn]⟩ (by simp only; omega)
    ·rw [if_neg c2] at hn ⊢
     rw [aL (by omega) (by omega),ab]
     exact hJ _ ⟨hi,by simp only; rw [hn]; simp only; omega,by simp only; rw [hn]⟩ (by simp only; omega)
  ·rw [if_neg hi]
   exact ⟨_,rfl,by rw [show i = D.length by omega]⟩
theorem gap_of {r:Tf} {p:List Int} {k:Nat} {a b:Int} {D:List (Int × Int)} (hD:Dl D) (h0:0 < D.length) (e:aN_p FU r p (k:Int) a b = some (.ok D)):bD_p FU r p (k:Int) a b = some (Sg (Rat.divInt (gn D D.length).1 (2 * (gn D D.length).2)),0):=by
 have hg:=gW hD D.length (Nat.le_refl _)
 have h8:=hD.n
 unfold bD_p bo_p
 rw [e,ab,exO,gapP hD,ab]
 simp only
 rw [aL (by omega) (by omega),ab,pofs (by unfold Sm; omega) (by unfold Sm; omega) (by omega),ab,exO,ab,exO]
end Go.Proofs.YtibdeoeglcngoaaGreatDoor
namespace Go.Proofs.YtibdeoeglcngoaaGreatDoor
open Go
set_option maxRecDepth 8000
theorem js {r:Tf} {us:List Tc} (h:RollOk r us):∀ u ∈ r.ft,Sm4 u:=by
 have hg:=h.g; have hp:=h.p; have hl:=h.l; have hn:=h.len
 have land:∀ u ∈ us,Sm4 u:=fun u hu=>by
  obtain ⟨i,hi,rfl⟩:=List.getElem_of_mem hu
  obtain ⟨e,_,_,g,v,q⟩:=h.land i hi
  exact ⟨by rw [e]; exact nm_ns (by omega),by have:=g.1; omega,by have:=v.1; omega,by have:=q.1; omega⟩
 intro u hu
 rcases h.all with e | e
 ·rw [e] at hu; exact land u hu
 ·rw [e] at hu
  rcases List.mem_append.1 hu with hu | hu
  ·exact land u hu
  ·rw [List.mem_singleton.1 hu]
   refine ⟨List.mem_cons_self ..,?_,?_,?_⟩
   ·show (List.replicate _ (0:Int)).length <= _; rw [List.length_replicate]; omega
   ·show (List.replicate _ (0:Int)).length <= _; rw [List.length_replicate]; omega
   ·show (List.replicate _ (0:Int)).length <= _; rw [List.length_replicate]; omega
theorem rv_of {r:Tf} {us:List Tc} (h:RollOk r us):RV r:=by
 classical
 refine Classical.byContradiction fun hc=>?_
 have e:=cH r (js h)
 rw [eW r us h,if_neg hc] at e
 cases e
theorem lnd_ok {r:Tf} {us:List Tc} (h:RollOk r us):Lnd r us:=by
 refine ⟨?_,fun u hu=>?_⟩
 ·rcases h.all with e | e
  ·exact ⟨[],by rw [e,List.append_nil],fun u hu=>by cases hu⟩
  ·exact ⟨_,e,fun u hu=>by rw [List.mem_singleton.1 hu]; rfl⟩
 ·obtain ⟨i,hi,rfl⟩:=List.getElem_of_mem hu
  exact (h.land i hi).2.1
theorem cn_of {r:Tf} {us:List Tc} {p:List Int} {k P:Nat} (h:RollOk r us) (hl:p.length = us.length) (hp:bD p (k:Int)) (h1:1 <= k) (h8:k <= 8) (hP:r.fc = P):Cn r us p k P:=
 ⟨rv_of h,lnd_ok h,⟨hl,hp⟩,h1,h8,hP⟩
theorem iE {r:Tf} {us:List Tc} {p:List Int} {k P:Nat} (h:RollOk r us) (hc:Cn r us p k P):aM_p FU r p (k:Int) = some (.ok ⟨r,p,(k:Int)⟩):=by
 classical
 have h1:=hc.k1; have h8:=hc.k8; have hpl:=hc.f.1; have hm:=hc.m
 have b1:=fM (js h) p k (by omega) (by omega) (by omega) us fun _=>hc.l
 rw [if_pos hc.v,if_pos hc.f] at b1
 unfold aM_p bK_p
 rw [b1,ab,if_pos rfl,ab,exO]
end Go.Proofs.YtibdeoeglcngoaaGreatDoor
namespace Go.Proofs.YtibdeoeglcngoaaGreatDoor
open Go
set_option maxRecDepth 8000
def cX (u:Tc):Tc:=⟨u.fv,u.fx,u.fh,u.fVotes.take 2,u.fB,u.fu⟩
theorem cut2 {l:List Int} (h:2 <= l.length):cut l 0 2 = some (l.take 2):=by
 unfold cut
 rw [if_pos (by omega)]
 simp
theorem je (r:Tf) (h:∀ u ∈ r.ft,2 <= u.fVotes.length) (hl:r.ft.length <= 100):ap (ae_l2 FU r) FU (0,r.ft) = some (r.ft.map cX):=by
 have hF:=bj
 have hh:=av (B:=ae_l2 FU r) (fun s:Nat × List Tc=>r.ft.length - s.1) (fun s=>s.1 <= r.ft.length/\s.2 = (r.ft.take s.1).map cX ++ r.ft.drop s.1) (fun y=>y = r.ft.map cX) ?_ FU (0,r.ft) ⟨Nat.zero_le _,by simp⟩ (by simp only; omega)
 ·obtain ⟨y,e,rfl⟩:=hh; exact e
 ·rintro ⟨i,xs⟩ J ⟨h1,h2⟩ hJ
  simp only at h1 h2 hJ
  subst h2
  unfold ae_l2
  simp only
  split
  ·rename_i hi
   have ht:((r.ft.take i).map cX).length = i:=by rw [List.length_map,List.length_take]; omega
   have hg:((r.ft.take i).map cX ++ r.ft.drop i)[i]? = some r.ft[i]:=by
    rw [List.getElem?_append_right (by omega),ht,Nat.sub_self,List.getElem?_drop,Nat.add_zero,geE hi]
   have hlen:((r.ft.take i).map cX ++ r.ft.drop i).length = r.ft.length:=by rw [List.length_append,ht,List.length_drop]; omega
   rw [hg,ab,cut2 (h _ (List.getElem_mem _)),ab,cD _ (by rw [hlen]; simpa using hi),ab]
   refine hJ _ ⟨by simp only; omega,?_⟩ (by simp only; omega)
   simp only [Int.toNat_natCast]
   rw [List.set_append_right _ _ (by omega),ht,Nat.sub_self,List.drop_eq_getElem_cons hi,List.set_cons_zero,List.take_succ_eq_append_getElem hi,List.map_append,List.append_assoc]
   rfl
  ·exact ⟨_,rfl,by rw [List.take_of_length_le (by omega),List.drop_of_length_le (by omega),List.append_nil]⟩
theorem full_ok (n:Nat) (d:Ti) (m:Nat) (h1:1 <= m) (h2:m <= 9) (hn:200 < n):∃ r us,aQ_p n d m = some r/\us.length = m/\RollOk r us/\r.fh = 2/\r.fc = 3/\r.fe = 2:=by
 obtain ⟨r,us,e,h,h', a,b,c⟩:=jX n ⟨2,3,2,d.fu,d.fNums⟩ m h1 h2 hn
 refine ⟨r,us,?_,h,h', a,b,c⟩
 unfold aQ_p
 rw [e,ab]
theorem fF {r:Tf} {us:List Tc} (h:RollOk r us) (hG:r.fh = 2) (hP:r.fc = 3) (hL:r.fe = 2):RollOk ⟨r.fh,2,r.fe,r.ft.map cX⟩ (us.map cX):=by
 refine ⟨h.g,by show (0:Int) <= 2/\(2:Int) <= 3; decide,h.l,by rw [List.length_map]; exact h.len,fun i hi=>?_,?_⟩
 ·simp only [List.length_map] at hi
  obtain ⟨a,b,c,d,e,f⟩:=h.land i hi
  rw [List.getElem_map]
  refine ⟨a,b,c,d,⟨?_,fun x hx=>e.2 x (List.mem_of_mem_take hx)⟩,f⟩
  show (((us[i].fVotes.take 2).length:Nat):Int) = 2
  rw [List.length_take]; omega
 ·rcases h.all with e | e
  ·left; simp only [e]
  ·right
   simp only [e,List.map_append,List.map_cons,List.map_nil]
   rw [hG,hP,hL]
   rfl
theorem jJ:bw_p FU = some true:=by kernel_rfl
theorem thnR {α β:Type} (x:α) (K:α -> Option β):thn (some (.inr x:β ⊕ α)) K = K x:=rfl
theorem lof28 {a b:Int} (ha:Sm a) (hb:Sm b) (h0:b ≠ 0):aH_p FU a b = some (Sg (Rat.divInt a b)):=by
 unfold aH_p
 rw [of_sg ha hb h0,ab]
theorem iR (D:List (Int × Int)) (e:Int × Int):∀ i ≤ D.length,gn (D ++ [e]) i = gn D i
 | 0,_=>rfl
 | i + 1,hi=>by
  rw [cI (by rw [List.length_append]; omega),cI (by omega),iR D e i (by omega),List.getElem_append_left (by omega)]
theorem gn_add (D:List (Int × Int)) (e:Int × Int):gn (D ++ [e]) (D ++ [e]).length = ((gn D D.length).1 + 2 * (e.1 - e.2) - (if e.2 < e.1 then e.1 + e.2 else if e.1 < e.2 then -(e.1 + e.2) else 0),(gn D D.length).2 + (e.1 + e.2)):=by
 have hl:(D ++ [e]).length = D.length + 1:=by simp
 rw [hl,cI (by omega),iR D e _ (Nat.le_refl _)]
 have:(D ++ [e])[D.length]'(by omega) = e:=by simp
 simp only [this]
def gt (vs:List (List Int)) (i:Nat):Int × Int:=gn (dl 0 1 (vs.take i)) (dl 0 1 (vs.take i)).length
theorem gt_next (vs:List (List Int)) {i:Nat} (hi:i < vs.length):gt vs (i + 1) = ((gt vs i).1 + 2 * (at0 vs[i] 0 - at0 vs[i] 1) - (if at0 vs[i] 1 < at0 vs[i] 0 then at0 vs[i] 0 + at0 vs[i] 1 else if at0 vs[i] 0 < at0 vs[i] 1 then -(at0 vs[i] 0 + at0 vs[i] 1) else 0),(gt vs i).2 + (at0 vs[i] 0 + at0 vs[i] 1)):=by
 unfold gt
 rw [gX 0 1 vs hi]
 by_cases h:at0 vs[i] 0 = 0/\at0 vs[i] 1 = 0
 ·rw [if_pos h,h.1,h.2]; simp
 ·rw [if_neg h,gn_add]
theorem win2 (v:List Int) (h:v.length = 2):win v = if at0 v 1 < at0 v 0 then 0 else if at0 v 0 < at0 v 1 then 1 else -1:=by
 obtain ⟨_,hw⟩:=ib v (by omega)
 have u0:Uq v 0 ↔ at0 v 1 < at0 v 0:=⟨fun hu=>hu.2 1 (by omega) (by decide),fun hl=>⟨by omega,fun y hy hne=>(by rw [show y = 1 by omega]; exact hl)⟩⟩
 have u1:Uq v 1 ↔ at0 v 0 < at0 v 1:=⟨fun hu=>hu.2 0 (by omega) (by decide),fun hl=>⟨by omega,fun y hy hne=>(by rw [show y = 0 by omega]; exact hl)⟩⟩
 rcases hw with ⟨x,hx,ex⟩ | ⟨hx,ex⟩
 ·have hxl:=hx.1
  rcases (show x = 0 ∨ x = 1 by omega) with rfl | rfl
  ·rw [ex,if_pos (u0.1 hx)]; rfl
  ·have:=u1.1 hx
   rw [ex,if_neg (by omega),if_pos this]; rfl
 ·rw [ex,if_neg fun h=>hx 0 (u0.2 h),if_neg fun h=>hx 1 (u1.2 h)]
def Su (vs:List (List Int)) (i:Nat) (a m c:Int):Prop:=
 a = (gt vs i).2/\2 * m - c = (gt vs i).1/\(0 <= a/\a <= (i:Int) * 128000000000)/\(-((i:Int) * 128000000000) <= m/\m <= (i:Int) * 128000000000)/\(-((i:Int) * 128000000000) <= c/\c <= (i:Int) * 128000000000)
theorem iy {vs:List (List Int)} {k:Nat} (hV:Vs k 2 vs):∃ a m c,ap (ae_l1 FU (vs,0) (vs.map win,0)) FU (0,0,0,0) = some (.inr (a,m,c))/\Su vs vs.length a m c:=by
 have hF:=bj
 have hl:=hV.t.1
 have h8:=hV.k8
 have hh:=av (B:=ae_l1 FU (vs,0) (vs.map win,0)) (fun s:Int × Int × Int × Nat=>vs.length - s.2.2.2) (fun s=>s.2.2.2 <= vs.length/\Su vs s.2.2.2 s.1 s.2.1 s.2.2.1) (fun y=>∃ a m c,y = .inr (a,m,c)/\Su vs vs.length a m c) ?_ FU (0,0,0,0) ⟨Nat.zero_le _,rfl,rfl,by simp,by simp,by simp⟩ (by simp only; omega)
 ·obtain ⟨y,e,a,m,c,rfl,h⟩:=hh
  exact ⟨a,m,c,e,h⟩
 ·rintro ⟨a,m,c,i⟩ J ⟨a1,a2,a3,a4,a5,a6⟩ hJ
  simp only at a1 a2 a3 a4 a5 a6 hJ
  unfold ae_l1 jn
  simp only
  by_cases hi:i < vs.length
  ·have hv2:=hV.t.2 _ (List.getElem_mem hi)
   obtain ⟨h0,x0,x1⟩:=hV.at hi (show 0 < 2 by decide)
   obtain ⟨h1,y0,y1⟩:=hV.at hi (show 1 < 2 by decide)
   have hn:=gt_next vs hi
   rw [if_pos hi,geE hi,ab,if_pos hv2,geE h0,ab,geE h1,ab,x0,y0,ie vs hi,win2 _ hv2]
   generalize at0 vs[i] 0 = x at *
   generalize at0 vs[i] 1 = y at *
   rw [aL (x:=x + y) (by omega) (by omega),ab,aL (by omega) (by omega),ab,aL (by omega) (by omega),ab,aL (by omega) (by omega),ab,ab]
   have nx:∀ c', c' = c + (if y < x then x + y else if x < y then -(x + y) else 0) -> ∃ r,J (a + (x + y),m + (x - y),c', i + 1) = some r/\∃ a m c,r = .inr (a,m,c)/\Su vs vs.length a m c:=fun c' e=>by
    refine hJ (a + (x + y),m + (x - y),c', i + 1) ⟨hi,?_,?_,?_,?_,?_⟩ (by simp only; omega)
    ·rw [hn]; simp only; omega
    ·rw [hn]; simp only; omega
    ·simp only; omega
    ·simp only; omega
    ·simp only
     subst e
     split
     ·omega
     ·split <;> omega
   by_cases c1:y < x
   ·rw [if_pos c1] at nx ⊢
    rw [if_pos rfl,ab,aL (by omega) (by omega),ab]
    exact nx _ rfl
   ·rw [if_neg c1] at nx ⊢
    by_cases c2:x < y
    ·rw [if_pos c2] at nx ⊢
     rw [if_neg (by decide),if_pos rfl,ab,aL (by omega) (by omega),ab]
     exact nx _ (by omega)
    ·rw [if_neg c2] at nx ⊢
     rw [if_neg (by decide),if_neg (by decide)]
     exact nx _ (by omega)
  ·rw [if_neg hi]
   have:i = vs.length:=by omega
   subst this
   exact ⟨_,rfl,a,m,c,rfl,a2,a3,a4,a5,a6⟩
theorem eQ (a0:Tj) (a1:Ti):ae_p FU a0 a1 = some true:=by
 have hF:=bj
 obtain ⟨p,k,e0,p1,p2,hp,k1,k2⟩:=jl FU a0 (by omega)
 obtain ⟨r,us,e1,hus,hr,hG,hP,hL⟩:=full_ok FU a1 p.length p1 p2 (by omega)
 obtain ⟨k,rfl⟩:∃ j:Nat,k = (j:Int):=⟨k.toNat,by omega⟩
 have hv:∀ u ∈ r.ft,2 <= u.fVotes.length:=fun u hu=>by
  obtain ⟨i,hi,rfl⟩:=List.getElem_of_mem hu
  rcases hr.unit hi with ⟨h2,e3⟩ | ⟨h2,e3⟩
  ·rw [e3]; have:=(hr.land i h2).2.2.2.2.1.1; omega
  ·rw [e3]; show 2 <= (List.replicate r.fc.toNat (0:Int)).length; rw [List.length_replicate,hP]; decide
 have hs:=hr.size
 have hr2:=fF hr hG hP hL
 have h:Cn ⟨r.fh,2,r.fe,r.ft.map cX⟩ (us.map cX) p k 2:=cn_of hr2 (by rw [List.length_map]; exact hus.symm) hp (by omega) (by omega) rfl
 have ho:=iE hr2 h
 have q1:=votes_p h ho
 have q2:=winners_p h ho
 have q3:aN_p FU ⟨r.fh,2,r.fe,r.ft.map cX⟩ p (k:Int) 0 1 = _:=duels_p h ho (a:=0) (b:=1) (by decide) (by decide) (by decide)
 have hV:=h.vs
 generalize vts (us.map cX) p 2 k (us.map cX).length = vs at *
 have hl:=hV.t.1
 have h8:=hV.k8
 have hD:=dl_in hV (a:=0) (b:=1) (by decide) (by decide)
 obtain ⟨a,m,c,e2,g1,g2,g3,g4,g5⟩:=iy hV
 unfold gt at g1 g2
 rw [List.take_length] at g1 g2
 unfold ae_p
 rw [jJ,ab,if_pos rfl,e0,ab]
 simp only
 rw [e1,ab,je r hv (by omega),ab,q1,ab,q2,ab]
 simp only [if_true]
 rw [if_pos (by omega),if_pos (by rw [List.length_map]; omega),e2,thnR]
 simp only
 by_cases h0:(dl 0 1 vs).length = 0
 ·rw [if_pos h0] at q3
  rw [h0] at g1
  have ha:a = 0:=g1
  unfold bD_p bo_p
  rw [q3,ab,exE,ab,exE,ab,if_pos ha]
  rfl
 ·rw [if_neg h0] at q3
  have hg:=gW hD (dl 0 1 vs).length (Nat.le_refl _)
  have hd8:=hD.n
  rw [gap_of hD (by omega) q3,ab,if_neg (by omega),aL (by omega) (by omega),ab,aL (by omega) (by omega),ab,aL (by omega) (by omega),ab]
  unfold aD_p
  rw [lof28 (by unfold Sm; omega) (by unfold Sm; omega) (by omega),ab,<- g1,<- g2,if_pos rfl]
  rfl
theorem eG (a0:Tj) (a1:Ti):∃ n,ae_p n a0 a1 = some true:=⟨FU,eQ a0 a1⟩
end Go.Proofs.YtibdeoeglcngoaaGreatDoor
