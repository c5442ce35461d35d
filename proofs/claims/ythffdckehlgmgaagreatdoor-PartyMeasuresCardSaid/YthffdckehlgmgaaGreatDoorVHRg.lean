/- Plain laws: words, their value, and integers of any length: sum, difference, product. No program in sight but the printed functions. -/
import Derived.Test.YthffdckehlgmgaaGreatDoorVH10
namespace Go.Proofs.YthffdckehlgmgaaGreatDoor
open Go
theorem aa {α β:Type} (x:α) (f:α -> Oa β):(some x).bind f = f x:=Eq.trans (Eq.refl _) (Eq.refl _)
theorem bD {α β:Type} (B:(α -> Oa β) -> α -> Oa β) (n:Nat) (s:α):aj B (n + 1) s = B (aj B n) s:=rfl
theorem ap {α β:Type} {B:(α -> Oa β) -> α -> Oa β} (m:α -> Nat) (I:α -> Prop) (Q:β -> Prop)
  (step:∀ s J,I s -> (∀ s', I s' -> m s' < m s -> ∃ r,J s' = some r/\Q r) -> ∃ r,B J s = some r/\Q r):∀ n s,I s -> m s < n -> ∃ r,aj B n s = some r/\Q r:=by
 intro n
 induction n with
 | zero=>intro s _ h; omega
 | succ n ih=>intro s hI h; exact step s (aj B n) hI fun s' h1 h2=>ih s' h1 (by omega)
theorem az {x:Int} (h1:-9223372036854775808 <= x) (h2:x <= 9223372036854775807):chk x = some x:=if_pos ⟨h1,h2⟩
theorem aS {α:Type} {xs:List α} {i:Int} (h0:0 <= i) (h:i.toNat < xs.length):idx xs i = some xs[i.toNat]:=by unfold idx; rw [if_pos h0,geE h]
theorem aP {α:Type} {xs:List α} {i:Nat} (x:α) (h:i < xs.length):put xs (i:Int) x = some (xs.set i x):=by
 unfold put; rw [if_pos ⟨Int.natCast_nonneg _,by omega⟩]; rfl
theorem jt {α:Type} {xs:List α} {z:Nat} (h:z <= xs.length):cut xs 0 (z:Int) = some (xs.take z):=by
 unfold cut; rw [if_pos ⟨Int.le_refl _,Int.natCast_nonneg _,by omega⟩]; rfl
theorem cu {α:Type} (n:Nat) (x:α) (h:n <= 4294967296):mk (n:Int) x = some (List.replicate n x):=by
 unfold mk; rw [if_pos ⟨Int.natCast_nonneg _,by omega⟩]; rfl
def val:List Ua -> Nat
 | []=>0
 | x :: xs=>x.toNat + 18446744073709551616 * val xs
theorem eB (xs ys:List Ua):val (xs ++ ys) = val xs + 18446744073709551616 ^ xs.length * val ys:=by
 induction xs with
 | nil=>simp [val]
 | cons x xs ih=>simp only [List.cons_append,val,ih,leC,Nat.pow_succ]; grind
theorem cw (xs:List Ua):val xs < 18446744073709551616 ^ xs.length:=by
 induction xs with
 | nil=>simp [val]
 | cons x xs ih=>
  have:=x.toNat_lt
  have h2:18446744073709551616 * (val xs + 1) <= 18446744073709551616 * 18446744073709551616 ^ xs.length:=Nat.mul_le_mul_left _ ih
  simp only [val,leC,Nat.pow_succ]
  rw [Nat.mul_comm (_ ^ _)]
  omega
theorem bR (a:List Ua) {i:Nat} (h:i < a.length):val (a.take (i + 1)) = val (a.take i) + 18446744073709551616 ^ i * a[i].toNat:=by
 rw [<- List.take_append_getElem h,eB,List.length_take,Nat.min_eq_left (Nat.le_of_lt h)]
 simp [val]
theorem nR {xs:List Ua} {i:Nat} (s:Ua) (h:i < xs.length):(xs.set i s).take (i + 1) = xs.take i ++ [s]:=by
 rw [<- List.take_append_getElem (by simpa using h),List.take_set_of_le (Nat.le_refl _)]
 simp
theorem eQ {xs:List Ua} {i:Nat} (s:Ua) (h:i < xs.length):val ((xs.set i s).take (i + 1)) = val (xs.take i) + 18446744073709551616 ^ i * s.toNat:=by
 rw [nR s h,eB,List.length_take,Nat.min_eq_left (Nat.le_of_lt h)]
 simp [val]
theorem ci:∀ (xs:List Ua),(∀ x ∈ xs,x = 0) -> val xs = 0
 | [],_=>rfl
 | x :: xs,h=>by
  have h1:=h x (List.mem_cons_self ..)
  have h2:=ci xs fun y hy=>h y (List.mem_cons_of_mem _ hy)
  subst h1; simp [val,h2]
def dg (m:Nat):List Ua:=if m = 0 then [] else UInt64.ofNat m :: dg (m / 18446744073709551616)
termination_by m
decreasing_by exact Nat.div_lt_self (by omega) (by omega)
theorem dg0:dg 0 = []:=by unfold dg; simp
theorem iw {m:Nat} (h:m ≠ 0):dg m = UInt64.ofNat m :: dg (m / 18446744073709551616):=by rw [dg]; rw [if_neg h]
theorem aG (m:Nat):val (dg m) = m:=by
 induction m using Nat.strongRecOn with
 | _ m ih=>
  by_cases h:m = 0
  ·subst h; rw [dg0]; rfl
  ·rw [iw h]; simp only [val]
   rw [ih _ (Nat.div_lt_self (by omega) (by omega)),UInt64.toNat_ofNat']
   exact Nat.mod_add_div m 18446744073709551616
def Nm (xs:List Ua):Prop:=∀ x,xs.getLast? = some x -> x ≠ 0
theorem Nm.tail {x y:Ua} {xs:List Ua} (h:Nm (x :: y :: xs)):Nm (y :: xs):=fun z hz=>h z (by rw [List.getLast?_cons_cons]; exact hz)
theorem gh:∀ {xs:List Ua},Nm xs -> xs ≠ [] -> 0 < val xs
 | [],_,h=>absurd I h
 | [x],h,_=>by
  have h1:=h x I
  have:x.toNat ≠ 0:=fun e=>h1 (UInt64.toNat_inj.1 (by simpa using e))
  simp only [val]; omega
 | x :: y :: xs,h,_=>by
  have:=gh h.tail (by simp)
  simp only [val] at this ⊢
  omega
theorem iY:∀ {xs:List Ua},Nm xs -> xs ≠ [] -> 18446744073709551616 ^ (xs.length - 1) <= val xs
 | [],_,h=>absurd I h
 | [x],h,_=>by
  have h1:=gh h (by simp)
  show 18446744073709551616 ^ 0 <= _
  rw [Nat.pow_zero]; exact h1
 | x :: y :: xs,h,_=>by
  have h1:=iY h.tail (by simp)
  have h2:18446744073709551616 * 18446744073709551616 ^ xs.length <= 18446744073709551616 * val (y :: xs):=Nat.mul_le_mul_left _ (by simpa using h1)
  show 18446744073709551616 ^ (xs.length + 1) <= x.toNat + 18446744073709551616 * val (y :: xs)
  rw [Nat.pow_succ,Nat.mul_comm]; omega
theorem oA:∀ {xs:List Ua},Nm xs -> dg (val xs) = xs
 | [],_=>dg0
 | x :: xs,h=>by
  have hp:=gh h (by simp)
  rw [iw (by omega)]
  have hx:=x.toNat_lt
  have h1:UInt64.ofNat (val (x :: xs)) = x:=UInt64.toNat_inj.1 (by rw [UInt64.toNat_ofNat']; simp only [val]; omega)
  have h2:val (x :: xs) / 18446744073709551616 = val xs:=by simp only [val]; omega
  have h3:Nm xs:=by
   cases xs with
   | nil=>intro z hz; simp at hz
   | cons y ys=>exact h.tail
  rw [h1,h2,oA h3]
theorem gX (m:Nat):Nm (dg m):=by
 induction m using Nat.strongRecOn with
 | _ m ih=>
  intro x hx
  by_cases h:m = 0
  ·subst h; rw [dg0] at hx; cases hx
  ·rw [iw h] at hx
   by_cases h2:m / 18446744073709551616 = 0
   ·rw [h2,dg0] at hx
    simp at hx
    intro e; subst e
    have:=congrArg UInt64.toNat hx
    rw [UInt64.toNat_ofNat'] at this
    simp at this; omega
   ·have h3:=ih (m / 18446744073709551616) (Nat.div_lt_self (by omega) (by omega))
    rw [iw h2] at hx h3
    rw [List.getLast?_cons_cons] at hx
    exact h3 x hx
theorem gF {m l:Nat} (h:m < 18446744073709551616 ^ l):(dg m).length <= l:=by
 by_cases h0:dg m = []
 ·rw [h0]; simp
 ·have h1:=iY (gX m) h0
  rw [aG] at h1
  have h2:=Nat.lt_of_le_of_lt h1 h
  have h3:=(Nat.pow_lt_pow_iff_right (by omega)).1 h2
  omega
theorem aJ (n:Nat) (b:Bool) (ws:List Ua) (hn:ws.length < n) (hl:ws.length <= 4294967296):ay_p n b ws = some ⟨b && decide (0 < val ws),dg (val ws)⟩:=by
 have h:=ap (B:=ay_l1 n ws) (fun z:Int=>z.toNat) (fun z=>0 <= z/\z <= ws.length/\∀ i:Nat,z.toNat <= i -> ∀ h:i < ws.length,ws[i] = 0)
  (fun z=>∃ k:Nat,z = k/\k <= ws.length/\(∀ i:Nat,k <= i -> ∀ h:i < ws.length,ws[i] = 0)/\∀ h:0 < k,∀ h2:k - 1 < ws.length,ws[k - 1] ≠ 0) ?_ n (ws.length:Int) ⟨by omega,by omega,fun i h1 h2=>by omega⟩ (by simpa using hn)
 ·obtain ⟨z,hz,k,rfl,hk,hz0,hz1⟩:=h
  have e:val ws = val (ws.take k):=by
   conv=>lhs; rw [<- List.take_append_drop k ws,eB]
   rw [ci (ws.drop k) fun x hx=>?_]
   ·simp
   ·obtain ⟨i,hi,rfl⟩:=List.getElem_of_mem hx
    rw [List.getElem_drop]
    exact hz0 _ (by omega) _
  have hnm:Nm (ws.take k):=by
   intro x hx
   rw [List.getLast?_eq_getElem?,List.length_take,Nat.min_eq_left hk] at hx
   obtain ⟨h1,rfl⟩:=List.getElem?_eq_some_iff.1 hx
   have h2:k - 1 < ws.length:=by rw [List.length_take] at h1; omega
   by_cases h0:0 < k
   ·rw [List.getElem_take]; exact hz1 h0 h2
   ·rw [List.length_take] at h1; omega
  have e2:dg (val ws) = ws.take k:=by rw [e]; exact oA hnm
  have e3:decide (0 < val ws) = decide (0 < (k:Int)):=by
   rw [decide_eq_decide]
   constructor
   ·intro h0
    by_cases hk0:k = 0
    ·subst hk0; rw [e] at h0; simp [val] at h0
    ·omega
   ·intro h0; rw [e]; refine gh hnm fun h1=>?_
    have:=congrArg List.length h1
    rw [List.length_take,leN] at this; omega
  unfold ay_p jn
  simp only [hz,aa,jt hk]
  cases b
  ·simp [e2]
  ·simp [e2,e3]
 ·intro z J ⟨h1,h2,h3⟩ hJ
  unfold ay_l1
  simp only
  by_cases h0:0 < z
  ·rw [if_pos h0,az (by omega) (by omega),aa,aS (by omega) (by omega),aa]
   split
   ·rename_i hx
    rw [aa]
    refine hJ (z - 1) ⟨by omega,by omega,fun i h4 h5=>?_⟩ (by omega)
    by_cases h6:i = (z - 1).toNat
    ·subst h6; exact hx
    ·exact h3 i (by omega) h5
   ·rename_i hx
    refine ⟨z,I,z.toNat,by omega,by omega,h3,fun h4 h5=>?_⟩
    have:(z - 1).toNat = z.toNat - 1:=by omega
    simp only [this] at hx
    exact hx
  ·rw [if_neg h0]
   exact ⟨z,I,0,by omega,by omega,fun i h4 h5=>h3 i (by omega) h5,fun h4=>by omega⟩
theorem gy (x y c:Ua) (h:c.toNat <= 1):∃ s d:Ua,add64 x y c = some (s,d)/\s.toNat + 18446744073709551616 * d.toNat = x.toNat + y.toNat + c.toNat/\d.toNat <= 1:=by
 refine ⟨_,_,if_pos h,?_⟩
 have hx:=x.toNat_lt
 have hy:=y.toNat_lt
 rw [UInt64.toNat_ofNat', UInt64.toNat_ofNat']
 omega
theorem bH (x y c:Ua) (h:c.toNat <= 1):∃ s d:Ua,sub64 x y c = some (s,d)/\s.toNat + y.toNat + c.toNat = x.toNat + 18446744073709551616 * d.toNat/\d.toNat <= 1:=by
 refine ⟨_,_,if_pos h,?_⟩
 have hx:=x.toNat_lt
 have hy:=y.toNat_lt
 rw [UInt64.toNat_ofNat']
 split <;> simp <;> omega
theorem bn {α:Type} {l:List α} {i:Nat} (h:l.length <= i):l.take i = l:=List.take_of_length_le h
theorem ik (b:List Ua) (i:Nat):val (b.take (i + 1)) = val (b.take i) + 18446744073709551616 ^ i * (b[i]?.getD 0).toNat:=by
 by_cases h:i < b.length
 ·rw [bR b h,geE h]; rfl
 ·rw [bn (by omega),bn (by omega),List.getElem?_eq_none (by omega)]; simp
theorem kX (n:Nat) (a b:List Ua) (hb:b.length <= a.length) (hn:a.length < n):∃ xs u,aj (cH_l1 n a b) n (0,0,List.replicate (a.length + 1) 0) = some (xs,u)/\xs.length = a.length + 1/\val (xs.take a.length) + 18446744073709551616 ^ a.length * u.toNat = val a + val b:=by
 have h:=ap (B:=cH_l1 n a b) (fun s:Ua × Nat × List Ua=>a.length - s.2.1) (fun s=>s.2.1 <= a.length/\s.2.2.length = a.length + 1/\s.1.toNat <= 1/\val (s.2.2.take s.2.1) + 18446744073709551616 ^ s.2.1 * s.1.toNat = val (a.take s.2.1) + val (b.take s.2.1))
  (fun r:List Ua × Ua=>r.1.length = a.length + 1/\val (r.1.take a.length) + 18446744073709551616 ^ a.length * r.2.toNat = val a + val b) ?_ n (0,0,List.replicate (a.length + 1) 0) ⟨by simp,by simp,by simp,by simp [val]⟩ (by simpa using hn)
 ·obtain ⟨⟨xs,u⟩,h1,h2,h3⟩:=h; exact ⟨xs,u,h1,h2,h3⟩
 ·rintro ⟨u,i,xs⟩ J ⟨h1,h2,h3,h4⟩ hJ
  simp only at h1 h2 h3 h4 hJ
  unfold cH_l1
  simp only
  by_cases hi:i < a.length
  ·rw [if_pos hi,geE hi,aa]
   have key:∀ y:Ua,y = b[i]?.getD 0 -> ∃ r,((add64 a[i] y u).bind fun z198=>(xs[i]?).bind fun x199=>(put xs ((i:Nat):Int) z198.1).bind fun xs212=>J (z198.2,i + 1,xs212)) = some r/\r.1.length = a.length + 1/\val (r.1.take a.length) + 18446744073709551616 ^ a.length * r.2.toNat = val a + val b:=by
    intro y hy
    obtain ⟨s,d,e1,e2,e3⟩:=gy a[i] y u h3
    rw [e1,aa,geE (by omega),aa,aP _ (by omega),aa]
    refine hJ (d,i + 1,xs.set i s) ⟨by show i + 1 <= _; omega,by simpa using h2,e3,?_⟩ (by simp only; omega)
    simp only
    rw [eQ s (by omega),bR a hi,ik b i,<- hy,Nat.pow_succ]
    grind
   unfold jn
   simp only
   by_cases hj:i < b.length
   ·rw [if_pos hj,geE hj,aa]; exact key _ (by rw [geE hj]; rfl)
   ·rw [if_neg hj]; exact key _ (by rw [List.getElem?_eq_none (by omega)]; rfl)
  ·rw [if_neg hi]
   have:i = a.length:=by omega
   subst this
   refine ⟨_,I,h2,?_⟩
   simp only
   rw [h4,List.take_length,bn hb]
theorem od (n:Nat) (a b:List Ua) (hn:a.length < n/\b.length < n) (hl:a.length < 4294967296/\b.length < 4294967296):∃ xs,cH_p n a b = some xs/\xs.length <= max a.length b.length + 1/\val xs = val a + val b:=by
 have key:∀ a b:List Ua,b.length <= a.length -> a.length < n -> a.length < 4294967296 -> ∃ xs,((mk ((a.length + 1:Nat):Int) (0:Ua)).bind fun xs17=>Option.bind (aj (cH_l1 n a b) n ((0:Ua),0,xs17)) (fun (xs157,u155)=>(xs157[a.length]?).bind fun x229=>(put xs157 ((a.length:Nat):Int) u155).bind fun xs241=>some xs241)) = some xs/\xs.length = a.length + 1/\val xs = val a + val b:=by
  intro a b hb h1 h2
  obtain ⟨xs,u,e1,e2,e3⟩:=kX n a b hb h1
  rw [cu _ _ (by omega),aa,e1,aa]
  simp only
  rw [geE (by omega),aa,aP _ (by omega),aa]
  refine ⟨_,rfl,by simpa using e2,?_⟩
  rw [<- e3]
  conv=>lhs; rw [<- bn (l:=xs.set a.length u) (i:=a.length + 1) (by simp [e2])]
  exact eQ u (by omega)
 unfold cH_p jn
 simp only
 by_cases h:a.length < b.length
 ·rw [if_pos h]
  obtain ⟨xs,e1,e2,e3⟩:=key b a (by omega) hn.2 hl.2
  exact ⟨xs,e1,by omega,by omega⟩
 ·rw [if_neg h]
  obtain ⟨xs,e1,e2,e3⟩:=key a b (by omega) hn.1 hl.1
  exact ⟨xs,e1,by omega,e3⟩
theorem jW (n:Nat) (a b:List Ua) (hb:b.length <= a.length) (hv:val b <= val a) (hn:a.length < n) (hl:a.length < 4294967296):∃ xs,cp_p n a b = some xs/\xs.length = a.length/\val xs = val a - val b:=by
 have h:=ap (B:=cp_l1 n a b) (fun s:Ua × Nat × List Ua=>a.length - s.2.1) (fun s=>s.2.1 <= a.length/\s.2.2.length = a.length/\s.1.toNat <= 1/\val (s.2.2.take s.2.1) + val (b.take s.2.1) = val (a.take s.2.1) + 18446744073709551616 ^ s.2.1 * s.1.toNat)
  (fun r:List Ua=>r.length = a.length/\val r = val a - val b) ?_ n (0,0,List.replicate a.length 0) ⟨by simp,by simp,by simp,by simp [val]⟩ (by simpa using hn)
 ·obtain ⟨xs,h1,h2,h3⟩:=h
  refine ⟨xs,?_,h2,h3⟩
  unfold cp_p
  rw [cu _ _ (by omega),aa,h1,aa]
 ·rintro ⟨u,i,xs⟩ J ⟨h1,h2,h3,h4⟩ hJ
  simp only at h1 h2 h3 h4 hJ
  unfold cp_l1
  simp only
  by_cases hi:i < a.length
  ·rw [if_pos hi,geE hi,aa]
   have key:∀ y:Ua,y = b[i]?.getD 0 -> ∃ r,((sub64 a[i] y u).bind fun z184=>(xs[i]?).bind fun x185=>(put xs ((i:Nat):Int) z184.1).bind fun xs198=>J (z184.2,i + 1,xs198)) = some r/\r.length = a.length/\val r = val a - val b:=by
    intro y hy
    obtain ⟨s,d,e1,e2,e3⟩:=bH a[i] y u h3
    rw [e1,aa,geE (by omega),aa,aP _ (by omega),aa]
    refine hJ (d,i + 1,xs.set i s) ⟨by show i + 1 <= _; omega,by simpa using h2,e3,?_⟩ (by simp only; omega)
    simp only
    rw [eQ s (by omega),bR a hi,ik b i,<- hy,Nat.pow_succ]
    grind
   unfold jn
   simp only
   by_cases hj:i < b.length
   ·rw [if_pos hj,geE hj,aa]; exact key _ (by rw [geE hj]; rfl)
   ·rw [if_neg hj]; exact key _ (by rw [List.getElem?_eq_none (by omega)]; rfl)
  ·rw [if_neg hi]
   have:i = a.length:=by omega
   subst this
   rw [List.take_length,bn hb,bn (by omega)] at h4
   refine ⟨xs,I,h2,?_⟩
   have h5:=cw xs
   rw [h2] at h5
   by_cases hu:u.toNat = 0
   ·rw [hu] at h4; omega
   ·have:u.toNat = 1:=by omega
    rw [this] at h4; omega
theorem dq (a:List Ua) {i:Nat} (h:i < a.length):val a = val (a.take i) + 18446744073709551616 ^ i * a[i].toNat + 18446744073709551616 ^ (i + 1) * val (a.drop (i + 1)):=by
 conv=>lhs; rw [<- List.take_append_drop (i + 1) a,eB]
 rw [bR a h,List.length_take,Nat.min_eq_left (by omega)]
theorem ov {a b:List Ua} (hb:Nm b) (h:a.length < b.length):val a < val b:=by
 have h1:=cw a
 have h2:=iY hb (by intro e; rw [e] at h; simp at h)
 have h3:18446744073709551616 ^ a.length <= 18446744073709551616 ^ (b.length - 1):=Nat.pow_le_pow_right (by omega) (by omega)
 omega
theorem gg {a b:List Ua} {i:Nat} (ha:i < a.length) (hb:i < b.length) (hd:a.drop (i + 1) = b.drop (i + 1)) (h:a[i] < b[i]):val a < val b:=by
 rw [dq a ha,dq b hb,hd]
 have h1:=cw (a.take i)
 rw [List.length_take,Nat.min_eq_left (by omega)] at h1
 have h2:18446744073709551616 ^ i * (a[i].toNat + 1) <= 18446744073709551616 ^ i * b[i].toNat:=Nat.mul_le_mul_left _ (UInt64.lt_iff_toNat_lt.1 h)
 rw [Nat.mul_add] at h2
 omega
theorem fX (n:Nat) (a b:List Ua) (ha:Nm a) (hb:Nm b) (hn:a.length < n) (hl:a.length < 4294967296):∃ c,bW_p n a b = some c/\(c < 0 ↔ val a < val b)/\(c = 0 ↔ val a = val b):=by
 unfold bW_p
 by_cases h:a.length = b.length
 ·rw [if_pos h]
  have hh:=ap (B:=bW_l1 n a b) (fun z:Int=>(z + 1).toNat) (fun z=>-1 <= z/\z < a.length/\a.drop (z + 1).toNat = b.drop (z + 1).toNat)
   (fun r=>(r = .inl (-1)/\val a < val b) ∨ (r = .inl 1/\val b < val a) ∨ (r = .inr ()/\a = b)) ?_ n ((a.length:Int) - 1) ⟨by omega,by omega,?_⟩ (by omega)
  ·obtain ⟨r,hr,h1 | h1 | h1⟩:=hh
   ·rw [hr,h1.1]; exact ⟨_,rfl,by have:=h1.2; omega,by have:=h1.2; omega⟩
   ·rw [hr,h1.1]; exact ⟨_,rfl,by have:=h1.2; omega,by have:=h1.2; omega⟩
   ·rw [hr,h1.1,h1.2]; exact ⟨_,rfl,by omega,by omega⟩
  ·intro z J ⟨h1,h2,h3⟩ hJ
   unfold bW_l1
   simp only
   by_cases h0:0 <= z
   ·have e1:(z + 1).toNat = z.toNat + 1:=by omega
    rw [e1] at h3
    rw [if_pos h0,aS h0 (by omega),aa,aS h0 (by omega),aa]
    split
    ·rename_i hlt; exact ⟨_,I,.inl ⟨I,gg (by omega) (by omega) h3 hlt⟩⟩
    ·rename_i h4
     split
     ·rename_i hlt; exact ⟨_,I,.inr (.inl ⟨I,gg (by omega) (by omega) h3.symm hlt⟩)⟩
     ·rename_i h5
      have he:a[z.toNat]'(by omega) = b[z.toNat]'(by omega):=UInt64.toNat_inj.1 (by rw [UInt64.lt_iff_toNat_lt] at h4 h5; omega)
      rw [az (by omega) (by omega),aa]
      refine hJ (z - 1) ⟨by omega,by omega,?_⟩ (by omega)
      rw [show (z - 1 + 1).toNat = z.toNat by omega,List.drop_eq_getElem_cons (by omega),List.drop_eq_getElem_cons (l:=b) (by omega),h3,he]
   ·rw [if_neg h0]
    have e1:(z + 1).toNat = 0:=by omega
    rw [e1] at h3
    exact ⟨_,rfl,.inr (.inr ⟨rfl,by simpa using h3⟩)⟩
  ·rw [show ((a.length:Int) - 1 + 1).toNat = a.length by omega,List.drop_length,h,List.drop_length]
 ·rw [if_neg h]
  refine ⟨_,I,?_⟩
  by_cases h1:a.length < b.length
  ·have:=ov hb h1; omega
  ·have:=ov (a:=b) ha (by omega); omega
theorem ld (a:Ua):(shrU a 32).toNat = a.toNat / 4294967296:=by
 unfold shrU; rw [if_pos (by decide),UInt64.toNat_ofNat']
 have:=a.toNat_lt
 omega
theorem ot (a:Ua):(a &&& (4294967295:Ua)).toNat = a.toNat % 4294967296:=by
 rw [UInt64.toNat_and]; exact Nat.and_two_pow_sub_one_eq_mod a.toNat 32
theorem mg (x1 x0 y1 y0:Nat) (h1:x1 < 4294967296) (h2:x0 < 4294967296) (h3:y1 < 4294967296) (h4:y0 < 4294967296) :
  ((x1 * y0 + x0 * y0 / 4294967296) < 18446744073709551616)/\((x1 * y0 + x0 * y0 / 4294967296) % 4294967296 + x0 * y1 < 18446744073709551616)/\
  x1 * y1 + (x1 * y0 + x0 * y0 / 4294967296) / 4294967296 + ((x1 * y0 + x0 * y0 / 4294967296) % 4294967296 + x0 * y1) / 4294967296 < 18446744073709551616/\
  (((x1 * 4294967296 + x0) * (y1 * 4294967296 + y0)) % 18446744073709551616) + 18446744073709551616 * (x1 * y1 + (x1 * y0 + x0 * y0 / 4294967296) / 4294967296 + ((x1 * y0 + x0 * y0 / 4294967296) % 4294967296 + x0 * y1) / 4294967296) = (x1 * 4294967296 + x0) * (y1 * 4294967296 + y0):=by
 have e:(x1 * 4294967296 + x0) * (y1 * 4294967296 + y0) = 18446744073709551616 * (x1 * y1) + 4294967296 * (x1 * y0 + x0 * y1) + x0 * y0:=by grind
 have b1:x1 * y1 <= 4294967295 * 4294967295:=Nat.mul_le_mul (by omega) (by omega)
 have b2:x1 * y0 <= 4294967295 * 4294967295:=Nat.mul_le_mul (by omega) (by omega)
 have b3:x0 * y1 <= 4294967295 * 4294967295:=Nat.mul_le_mul (by omega) (by omega)
 have b4:x0 * y0 <= 4294967295 * 4294967295:=Nat.mul_le_mul (by omega) (by omega)
 rw [e]
 generalize x1 * y1 = s at *
 generalize x1 * y0 = q at *
 generalize x0 * y1 = r at *
 generalize x0 * y0 = p at *
 clear e h1 h2 h3 h4
 refine ⟨by omega,by omega,by omega,by omega⟩
theorem nq (n:Nat) (x y:Ua):∃ hi lo,dB_p n x y = some (hi,lo)/\lo.toNat + 18446744073709551616 * hi.toNat = x.toNat * y.toNat:=by
 refine ⟨_,_,I,?_⟩
 have hx:=x.toNat_lt
 have hy:=y.toNat_lt
 have ex:x.toNat = x.toNat / 4294967296 * 4294967296 + x.toNat % 4294967296:=by omega
 have ey:y.toNat = y.toNat / 4294967296 * 4294967296 + y.toNat % 4294967296:=by omega
 obtain ⟨h1,h2,h3,h4⟩:=mg (x.toNat / 4294967296) (x.toNat % 4294967296) (y.toNat / 4294967296) (y.toNat % 4294967296) (by omega) (by omega) (by omega) (by omega)
 rw [<- ex,<- ey] at h4
 have b1:x.toNat / 4294967296 * (y.toNat / 4294967296) < 18446744073709551616:=by omega
 have b2:x.toNat / 4294967296 * (y.toNat % 4294967296) < 18446744073709551616:=by omega
 have b3:x.toNat % 4294967296 * (y.toNat / 4294967296) < 18446744073709551616:=by omega
 have b4:x.toNat % 4294967296 * (y.toNat % 4294967296) < 18446744073709551616:=by
  have:x.toNat % 4294967296 * (y.toNat % 4294967296) <= 4294967295 * 4294967295:=Nat.mul_le_mul (by omega) (by omega)
  omega
 simp only [UInt64.toNat_add,UInt64.toNat_mul,ld,ot,show (2:Nat) ^ 64 = 18446744073709551616 from rfl]
 rw [Nat.mod_eq_of_lt b1,Nat.mod_eq_of_lt b2,Nat.mod_eq_of_lt b3,Nat.mod_eq_of_lt b4,Nat.mod_eq_of_lt h1,Nat.mod_eq_of_lt h2]
 rw [Nat.mod_eq_of_lt (a:=x.toNat / 4294967296 * (y.toNat / 4294967296) + _) (by omega),Nat.mod_eq_of_lt h3]
 exact h4
theorem mult_in (n:Nat) (b:List Ua) (x:Ua) (i:Nat) (xs0:List Ua) (hi:i + b.length < xs0.length) (hn:b.length < n) :
  ∃ xs u,aj (aU_l1 n b x i) n (0,0,xs0) = some (xs,u)/\xs.length = xs0.length/\val (xs.take (i + b.length)) + 18446744073709551616 ^ (i + b.length) * u.toNat = val (xs0.take (i + b.length)) + x.toNat * val b * 18446744073709551616 ^ i:=by
 have h:=ap (B:=aU_l1 n b x i) (fun s:Ua × Nat × List Ua=>b.length - s.2.1) (fun s=>s.2.1 <= b.length/\s.2.2.length = xs0.length/\(∀ k,i + s.2.1 <= k -> s.2.2[k]? = xs0[k]?)/\val (s.2.2.take (i + s.2.1)) + 18446744073709551616 ^ (i + s.2.1) * s.1.toNat = val (xs0.take (i + s.2.1)) + x.toNat * val (b.take s.2.1) * 18446744073709551616 ^ i)
  (fun r:List Ua × Ua=>r.1.length = xs0.length/\val (r.1.take (i + b.length)) + 18446744073709551616 ^ (i + b.length) * r.2.toNat = val (xs0.take (i + b.length)) + x.toNat * val b * 18446744073709551616 ^ i) ?_ n (0,0,xs0) ⟨by simp,rfl,fun _ _=>rfl,by simp [val]⟩ (by simpa using hn)
 ·obtain ⟨⟨xs,u⟩,h1,h2,h3⟩:=h; exact ⟨xs,u,h1,h2,h3⟩
 ·rintro ⟨u,j,xs⟩ J ⟨h1,h2,h3,h4⟩ hJ
  simp only at h1 h2 h3 h4 hJ
  unfold aU_l1
  simp only
  by_cases hj:j < b.length
  ·obtain ⟨hi', lo,e1,e2⟩:=nq n x b[j]
   have hx0:xs[i + j]'(by omega) = xs0[i + j]'(by omega):=by
    have:=h3 (i + j) (by omega)
    rw [geE (by omega),geE (by omega)] at this
    exact Option.some.inj this
   rw [if_pos hj,geE hj,aa,e1,aa,geE (by omega),aa]
   obtain ⟨s,c,f1,f2,f3⟩:=gy (xs[i + j]'(by omega)) lo 0 (by simp)
   obtain ⟨s', c', g1,g2,g3⟩:=gy s u 0 (by simp)
   simp only [f1,aa,g1]
   rw [aP _ (by omega),aa]
   simp only [UInt64.toNat_zero,Nat.add_zero] at f2 g2
   have bx:x.toNat * b[j].toNat <= 18446744073709551615 * 18446744073709551615:=Nat.mul_le_mul (by have:=x.toNat_lt; omega) (by have:=b[j].toNat_lt; omega)
   have bo:=(xs[i + j]'(by omega)).toNat_lt
   have bu:=u.toNat_lt
   have e3:(hi' + c + c').toNat = hi'.toNat + c.toNat + c'.toNat:=by
    rw [UInt64.toNat_add,UInt64.toNat_add]; omega
   have e4:s'.toNat + 18446744073709551616 * (hi' + c + c').toNat = (xs[i + j]'(by omega)).toNat + x.toNat * b[j].toNat + u.toNat:=by rw [e3]; omega
   refine hJ (hi' + c + c', j + 1,xs.set (i + j) s') ⟨hj,by simpa using h2,fun k hk=>?_,?_⟩ (by simp only; omega)
   ·simp only at hk ⊢
    rw [List.getElem?_set_ne (by omega)]; exact h3 k (by omega)
   ·simp only
    rw [<- Nat.add_assoc,eQ s' (by omega),bR xs0 (by omega),bR b hj,<- hx0,Nat.pow_succ]
    rw [Nat.pow_add] at h4 ⊢
    grind
  ·rw [if_neg hj]
   have:j = b.length:=by omega
   subst this
   refine ⟨_,I,h2,?_⟩
   simp only
   rw [h4,List.take_length]
theorem ig (n:Nat) (a b:List Ua) (hn:a.length < n/\b.length < n) (hl:a.length + b.length <= 4294967296):∃ xs,aU_p n a b = some xs/\xs.length = a.length + b.length/\val xs = val a * val b:=by
 have h:=ap (B:=aU_l2 n a b) (fun s:Nat × List Ua=>a.length - s.1) (fun s=>s.1 <= a.length/\s.2.length = a.length + b.length/\val (s.2.take (s.1 + b.length)) = val (a.take s.1) * val b)
  (fun r:List Ua=>r.length = a.length + b.length/\val r = val a * val b) ?_ n (0,List.replicate (a.length + b.length) 0) ⟨by simp,by simp,?_⟩ (by simpa using hn.1)
 ·obtain ⟨xs,h1,h2,h3⟩:=h
  refine ⟨xs,?_,h2,h3⟩
  unfold aU_p
  rw [cu _ _ hl,aa,h1,aa]
 ·rintro ⟨i,xs⟩ J ⟨h1,h2,h3⟩ hJ
  simp only at h1 h2 h3 hJ
  unfold aU_l2
  simp only
  by_cases hi:i < a.length
  ·obtain ⟨ys,u,e1,e2,e3⟩:=mult_in n b a[i] i xs (by omega) hn.2
   rw [if_pos hi,geE hi,aa,e1,aa]
   simp only
   rw [geE (by omega),aa,aP _ (by omega),aa]
   refine hJ (i + 1,ys.set (i + b.length) u) ⟨hi,by simp; omega,?_⟩ (by simp only; omega)
   simp only
   rw [show i + 1 + b.length = i + b.length + 1 by omega,eQ u (by omega),bR a hi,e3,h3]
   grind
  ·rw [if_neg hi]
   have:i = a.length:=by omega
   subst this
   rw [List.take_length,bn (by omega)] at h3
   exact ⟨xs,I,h2,h3⟩
 ·simp only [List.take_zero,val,Nat.zero_mul]
  exact ci _ fun x hx=>(List.mem_replicate.1 (List.mem_of_mem_take hx)).2
def L (z:Int):Ti:=⟨decide (z < 0),dg z.natAbs⟩
def Fit (l:Nat) (z:Int):Prop:=z.natAbs < 18446744073709551616 ^ l
theorem Fit.len {l:Nat} {z:Int} (h:Fit l z):(dg z.natAbs).length <= l:=gF h
def sg (s:Bool) (m:Nat):Int:=if s = true then -(m:Int) else m
theorem mt (s:Bool) (m:Nat):(⟨s && decide (0 < m),dg m⟩:Ti) = L (sg s m):=by
 unfold L sg
 cases s
 ·simp
 ·simp
theorem lG (z:Int):z = sg (decide (z < 0)) z.natAbs:=by
 unfold sg; split <;> rename_i h <;> simp at h <;> omega
theorem gG (s:Bool) (m:Nat):(sg s m).natAbs = m:=by unfold sg; split <;> omega
theorem cb (n l:Nat) (z:Int) (h:Fit l z) (hn:l < n) (hl:l < 1000000):bC_p n (L z) = some (L (-z)):=by
 unfold bC_p
 have h1:=h.len
 rw [aJ n _ _ (by show (dg z.natAbs).length < n; omega) (by show (dg z.natAbs).length <= _; omega),aa]
 show some (⟨!decide (z < 0) && decide (0 < val (dg z.natAbs)),dg (val (dg z.natAbs))⟩:Ti) = _
 rw [aG,mt]
 refine congrArg (fun x=>some (L x)) ?_
 unfold sg
 by_cases hz:z < 0 <;> simp [hz] <;> omega
theorem cm (n l m:Nat) (a b:Int) (ha:Fit l a) (hb:Fit m b) (hn:l + m < n) (hl:l + m < 1000000):aQ_p n (L a) (L b) = some (L (a * b)):=by
 unfold aQ_p
 have h1:=ha.len
 have h2:=hb.len
 obtain ⟨xs,e1,e2,e3⟩:=ig n (L a).fo (L b).fo ⟨by show (dg a.natAbs).length < n; omega,by show (dg b.natAbs).length < n; omega⟩ (by show (dg a.natAbs).length + (dg b.natAbs).length <= _; omega)
 have e4:xs.length = (dg a.natAbs).length + (dg b.natAbs).length:=e2
 rw [e1,aa,aJ n _ _ (by omega) (by omega),aa,e3]
 show some (⟨!(decide (a < 0) == decide (b < 0)) && decide (0 < val (dg a.natAbs) * val (dg b.natAbs)),dg (val (dg a.natAbs) * val (dg b.natAbs))⟩:Ti) = _
 rw [aG,aG,mt]
 refine congrArg (fun x=>some (L x)) ?_
 conv=>rhs; rw [lG a,lG b]
 unfold sg
 by_cases h3:a < 0 <;> by_cases h4:b < 0 <;> simp [h3,h4,Int.neg_mul,Int.mul_neg]
theorem gj {a b:Nat} (h:a <= b):(dg a).length <= (dg b).length:=gF (Nat.lt_of_le_of_lt h (by have:=cw (dg b); rwa [aG] at this))
theorem lX (n l a b:Nat) (s:Bool) (h:a <= b) (hl:(dg b).length <= l) (hn:l < n) (hl2:l < 1000000):((cp_p n (dg b) (dg a)).bind fun y67=>(ay_p n s y67).bind fun y75=>some y75) = some (L (sg s (b - a))):=by
 obtain ⟨xs,e1,e2,e3⟩:=jW n (dg b) (dg a) (gj h) (by rw [aG,aG]; exact h) (by omega) (by omega)
 rw [e1,aa,aJ n _ _ (by omega) (by omega),aa,e3,aG,aG,mt]
theorem dm (n l:Nat) (a b:Int) (ha:Fit l a) (hb:Fit l b) (hn:l + 1 < n) (hl:l < 1000000):bR_p n (L a) (L b) = some (L (a + b)):=by
 unfold bR_p
 have h1:=ha.len
 have h2:=hb.len
 by_cases h:((L a).fe == (L b).fe) = true
 ·rw [if_pos h]
  obtain ⟨xs,e1,e2,e3⟩:=od n (L a).fo (L b).fo ⟨by show (dg a.natAbs).length < n; omega,by show (dg b.natAbs).length < n; omega⟩ ⟨by show (dg a.natAbs).length < _; omega,by show (dg b.natAbs).length < _; omega⟩
  have e4:xs.length <= max (dg a.natAbs).length (dg b.natAbs).length + 1:=e2
  rw [e1,aa,aJ n _ _ (by omega) (by omega),aa,e3]
  show some (⟨decide (a < 0) && decide (0 < val (dg a.natAbs) + val (dg b.natAbs)),dg (val (dg a.natAbs) + val (dg b.natAbs))⟩:Ti) = _
  rw [aG,aG,mt]
  refine congrArg (fun x=>some (L x)) ?_
  have h3:decide (a < 0) = decide (b < 0):=eq_of_beq h
  unfold sg
  by_cases h4:a < 0 <;> by_cases h5:b < 0 <;> simp [h4,h5] at h3 ⊢ <;> omega
 ·rw [if_neg h]
  obtain ⟨c,e1,e2,e3⟩:=fX n (L a).fo (L b).fo (gX _) (gX _) (by show (dg a.natAbs).length < n; omega) (by show (dg a.natAbs).length < _; omega)
  have h3:decide (a < 0) ≠ decide (b < 0):=fun e=>h (by rw [beq_iff_eq]; exact e)
  rw [e1,aa]
  unfold jn
  simp only
  have e4:c < 0 ↔ a.natAbs < b.natAbs:=by rw [e2]; show val (dg a.natAbs) < val (dg b.natAbs) ↔ _; rw [aG,aG]
  by_cases hc:c < 0
  ·rw [if_pos hc]
   show ((cp_p n (dg b.natAbs) (dg a.natAbs)).bind fun y67=>(ay_p n (decide (b < 0)) y67).bind fun y75=>some y75) = _
   rw [lX n l _ _ _ (by omega) h2 (by omega) hl]
   refine congrArg (fun x=>some (L x)) ?_
   unfold sg
   by_cases h4:a < 0 <;> by_cases h5:b < 0 <;> simp [h4,h5] at h3 ⊢ <;> omega
  ·rw [if_neg hc]
   show ((cp_p n (dg a.natAbs) (dg b.natAbs)).bind fun y67=>(ay_p n (decide (a < 0)) y67).bind fun y75=>some y75) = _
   rw [lX n l _ _ _ (by omega) h1 (by omega) hl]
   refine congrArg (fun x=>some (L x)) ?_
   unfold sg
   by_cases h4:a < 0 <;> by_cases h5:b < 0 <;> simp [h4,h5] at h3 ⊢ <;> omega
theorem Fit.neg {l:Nat} {z:Int} (h:Fit l z):Fit l (-z):=by unfold Fit at *; rwa [Int.natAbs_neg]
theorem jx (n l:Nat) (a b:Int) (ha:Fit l a) (hb:Fit l b) (hn:l + 1 < n) (hl:l < 1000000):dr_p n (L a) (L b) = some (L (a - b)):=by
 unfold dr_p
 rw [cb n l b hb (by omega) hl,aa,dm n l a (-b) ha hb.neg hn hl,aa,Int.sub_eq_add_neg]
theorem iJ (n:Nat) (a:Int):cI_p n (L a) = some a.sign:=by
 unfold cI_p
 by_cases h:a < 0
 ·rw [if_pos (by simpa [L] using h),Int.sign_eq_neg_one_of_neg h]
 ·rw [if_neg (by simpa [L] using h)]
  by_cases h0:a = 0
  ·subst h0; rw [if_pos (by simp [L,dg0])]; rfl
  ·rw [if_neg,Int.sign_eq_one_of_pos (by omega)]
   show ¬ (dg a.natAbs).length = 0
   rw [iw (by omega)]; simp
theorem dg1 {m:Nat} (h0:m ≠ 0) (h:m < 18446744073709551616):dg m = [UInt64.ofNat m]:=by
 rw [iw h0,show m / 18446744073709551616 = 0 by omega,dg0]
theorem jU {m:Nat} (h0:m ≠ 0) (h:m < 18446744073709551616):UInt64.ofNat m ≠ 0:=fun e=>by
 have:=congrArg UInt64.toNat e
 rw [UInt64.toNat_ofNat'] at this
 simp at this; omega
theorem bS {m:Nat} (h:m < 18446744073709551616):(UInt64.ofNat m).toNat = m:=by rw [UInt64.toNat_ofNat']; exact Nat.mod_eq_of_lt h
theorem nZ (n:Nat) (x y:Ua) (h:y ≠ 0):aN_p n 0 x y = some (x / y,x % y):=by
 unfold aN_p
 have h1:¬ y <= 0:=fun h1=>h (UInt64.toNat_inj.1 (by rw [UInt64.le_iff_toNat_le] at h1; simpa using h1))
 rw [if_neg h,if_neg h1,if_pos I]
 unfold jr mT
 rw [if_neg h,aa,if_neg h,aa]
theorem gN (n a b:Nat) (ha:a < 18446744073709551616) (hb:b < 18446744073709551616) (h0:b ≠ 0) (hn:4 < n):∃ q,aP_p n (dg a) (dg b) = some (q,dg (a % b))/\q.length <= 1/\val q = a / b:=by
 obtain ⟨k,rfl⟩:∃ k,n = k + 3:=⟨n - 3,by omega⟩
 rw [dg1 h0 hb]
 unfold aP_p
 by_cases h:a = 0
 ·subst h
  refine ⟨[],?_,by simp,by simp [val]⟩
  rw [dg0,Nat.zero_mod,dg0]
  rw [cu _ _ (by simp),aa,if_pos (show [UInt64.ofNat b].length = 1 from rfl),bD]
  unfold aP_l1
  simp only
  rw [if_neg (by decide),aa]
  simp only
  rw [aJ _ _ _ (by simp) (by simp),aa]
  simp [val,dg0]
 ·have hm:a % b < 18446744073709551616:=Nat.lt_of_le_of_lt (Nat.mod_le _ _) ha
  have e2:(UInt64.ofNat a % UInt64.ofNat b).toNat = a % b:=by rw [UInt64.toNat_mod,bS ha,bS hb]
  refine ⟨[UInt64.ofNat a / UInt64.ofNat b],?_,by simp,?_⟩
  ·rw [dg1 h ha,cu _ _ (by simp),aa,if_pos (show [UInt64.ofNat b].length = 1 from rfl),bD]
   unfold aP_l1
   simp only
   rw [if_pos (show (0:Int) <= ((([UInt64.ofNat a]:List Ua).length:Nat):Int) - 1 by simp),aS (by simp) (by simp),aa]
   simp only [leC,leN,List.getElem?_cons_zero,aa]
   show ((aN_p (k + 3) 0 (UInt64.ofNat a) (UInt64.ofNat b)).bind _).bind _ = _
   rw [nZ _ _ _ (jU h0 hb),aa]
   show (((some (0:Ua)).bind _)).bind _ = _
   rw [aa]
   show ((put [(0:Ua)] ((0:Nat):Int) _).bind _).bind _ = _
   rw [aP _ (by decide),aa]
   show (((some (-1:Int)).bind _)).bind _ = _
   rw [aa,bD]
   simp only
   rw [if_neg (by decide),aa]
   simp only
   rw [aJ _ _ _ (by simp) (by simp),aa]
   simp [val,e2]
  ·simp only [val]
   rw [UInt64.toNat_div,bS ha,bS hb]; simp
theorem dJ {a b q r:Int} (h:a = b * q + r) (h0:0 <= r) (h1:r < b.natAbs):a / b = q/\a % b = r:=by
 by_cases hb:0 < b
 ·exact (Int.ediv_emod_unique hb).2 ⟨by rw [h]; omega,h0,by omega⟩
 ·have hb2:0 < -b:=by omega
  have h3:a = (-b) * (-q) + r:=by rw [h,Int.neg_mul_neg]
  obtain ⟨e1,e2⟩:=(Int.ediv_emod_unique (a:=a) (r:=r) (q:=-q) hb2).2 ⟨by rw [h3]; omega,h0,by omega⟩
  rw [Int.ediv_neg] at e1
  rw [Int.emod_neg] at e2
  exact ⟨by omega,e2⟩
def W1 (z:Int):Prop:=z.natAbs < 18446744073709551616
theorem jH (n:Nat) (a b:Int) (ha:W1 a) (hb:W1 b) (h0:b ≠ 0) (hn:10 < n):cd_p n (L a) (L b) = some (L (a / b),L (a % b)):=by
 obtain ⟨q,e1,e2,e3⟩:=gN n a.natAbs b.natAbs ha hb (by omega) (by omega)
 have hm:a.natAbs % b.natAbs < b.natAbs:=Nat.mod_lt _ (by omega)
 have hl:(dg (a.natAbs % b.natAbs)).length <= 1:=gF (by rw [Nat.pow_one]; unfold W1 at hb; omega)
 have hdm:=Nat.div_add_mod a.natAbs b.natAbs
 have hq:a.natAbs / b.natAbs <= a.natAbs:=Nat.div_le_self _ _
 unfold cd_p
 rw [show (L a).fo = dg a.natAbs from I,show (L b).fo = dg b.natAbs from I,e1,aa]
 simp only
 rw [aJ n _ _ (by omega) (by omega),aa,aJ n _ _ (by omega) (by omega),aa,e3,aG]
 generalize hx:a.natAbs / b.natAbs = x at *
 generalize hy:a.natAbs % b.natAbs = y at *
 simp only [mt]
 show (if (decide (a < 0) && decide (0 < y)) = true then _ else _) = _
 unfold W1 at ha hb
 have hab:(b.natAbs:Int) * x + y = a.natAbs:=by exact_mod_cast hdm
 by_cases hr:a < 0/\0 < y
 ·obtain ⟨h1,h2⟩:=hr
  rw [if_pos (by simp [h1,h2])]
  have f1:(⟨false,dg b.natAbs⟩:Ti) = L b.natAbs:=by unfold L; simp
  have f2:(⟨!(L b).fe,([(1:Ua)]:List Ua)⟩:Ti) = L (if b < 0 then 1 else -1):=by
   unfold L
   by_cases hb0:b < 0 <;> simp [hb0] <;> rw [dg1 (by decide) (by decide)] <;> rfl
  rw [f1,f2,dm n 1 _ _ ?_ ?_ (by omega) (by omega),aa,dm n 1 _ _ ?_ ?_ (by omega) (by omega),aa]
  ·have e:sg (!(decide (a < 0) == decide (b < 0))) x + (if b < 0 then 1 else -1) = a / b/\sg (decide (a < 0)) y + b.natAbs = a % b:=by
    have:=dJ (a:=a) (b:=b) (q:=sg (!(decide (a < 0) == decide (b < 0))) x + (if b < 0 then 1 else -1)) (r:=sg (decide (a < 0)) y + b.natAbs) ?_ ?_ ?_
    ·exact ⟨this.1.symm,this.2.symm⟩
    ·unfold sg
     by_cases hb0:b < 0
     ·have:(b.natAbs:Int) = -b:=by omega
      rw [this] at hab ⊢
      have h3:(a.natAbs:Int) = -a:=by omega
      simp [h1,hb0]
      rw [Int.mul_add]; grind
     ·have:(b.natAbs:Int) = b:=by omega
      rw [this] at hab ⊢
      have h3:(a.natAbs:Int) = -a:=by omega
      simp [h1,hb0]
      rw [Int.mul_add]; grind
    ·unfold sg; simp [h1]; omega
    ·unfold sg; simp [h1]; omega
   show some (L (sg (!(decide (a < 0) == decide (b < 0))) x + (if b < 0 then 1 else -1)),L (sg (decide (a < 0)) y + b.natAbs)) = _
   rw [e.1,e.2]
  ·unfold Fit; rw [Nat.pow_one,gG]; omega
  ·unfold Fit; rw [Nat.pow_one]; split <;> decide
  ·unfold Fit; rw [Nat.pow_one,gG]; omega
  ·unfold Fit; rw [Nat.pow_one]; omega
 ·rw [if_neg (by simpa using hr)]
  have e:=dJ (a:=a) (b:=b) (q:=sg (!(decide (a < 0) == decide (b < 0))) x) (r:=sg (decide (a < 0)) y) ?_ ?_ ?_
  ·rw [e.1,e.2]; rfl
  ·unfold sg
   by_cases h1:a < 0
   ·have hy0:y = 0:=by omega
    have h3:(a.natAbs:Int) = -a:=by omega
    by_cases hb0:b < 0
    ·have:(b.natAbs:Int) = -b:=by omega
     rw [this] at hab; simp [h1,hb0,hy0] at hab ⊢; grind
    ·have:(b.natAbs:Int) = b:=by omega
     rw [this] at hab; simp [h1,hb0,hy0] at hab ⊢; grind
   ·have h3:(a.natAbs:Int) = a:=by omega
    by_cases hb0:b < 0
    ·have:(b.natAbs:Int) = -b:=by omega
     rw [this] at hab; simp [h1,hb0] at hab ⊢; grind
    ·have:(b.natAbs:Int) = b:=by omega
     rw [this] at hab; simp [h1,hb0] at hab ⊢; grind
  ·unfold sg
   by_cases h1:a < 0
   ·have hy0:y = 0:=by omega
    simp [hy0]
   ·simp [h1]
  ·unfold sg
   by_cases h1:a < 0
   ·have hy0:y = 0:=by omega
    simp [hy0]; omega
   ·simp [h1]; omega
theorem mD (n:Nat) (a b:Int) (ha:W1 a) (hb:W1 b) (hn:18446744073709551616 < n):aH_p n (L a) (L b) = some (L (Nat.gcd a.natAbs b.natAbs:Nat)):=by
 have h:=ap (B:=aH_l1 n) (fun s:List Ua × List Ua=>val s.2) (fun s=>∃ x y,s = (dg x,dg y)/\x < 18446744073709551616/\y < 18446744073709551616/\Nat.gcd x y = Nat.gcd a.natAbs b.natAbs)
  (fun r=>r = dg (Nat.gcd a.natAbs b.natAbs)) ?_ n (dg a.natAbs,dg b.natAbs) ⟨_,_,rfl,ha,hb,rfl⟩ (by simp only [aG]; unfold W1 at hb; omega)
 ·obtain ⟨r,h1,rfl⟩:=h
  unfold aH_p
  rw [show (L a).fo = dg a.natAbs from I,show (L b).fo = dg b.natAbs from I,h1,aa]
  unfold L
  simp
 ·rintro _ J ⟨x,y,rfl,h1,h2,h3⟩ hJ
  unfold aH_l1
  simp only
  by_cases h0:y = 0
  ·subst h0
   rw [if_neg (by rw [dg0]; simp)]
   exact ⟨_,rfl,by rw [<- h3,Nat.gcd_zero_right]⟩
  ·obtain ⟨q,e1,_,_⟩:=gN n x y h1 h2 h0 (by omega)
   have hm:x % y < y:=Nat.mod_lt _ (by omega)
   rw [if_pos (by rw [dg1 h0 h2]; simp),e1,aa]
   simp only
   refine hJ (dg y,dg (x % y)) ⟨_,_,rfl,h2,by omega,?_⟩ (by simp only [aG]; exact hm)
   rw [<- h3,Nat.gcd_comm x y,Nat.gcd_rec y x,Nat.gcd_comm]
def W8 (z:Int):Ua × Ua × Ua × Ua × Ua × Ua × Ua × Ua:=
 if z < 0 then (ac z,18446744073709551615,18446744073709551615,18446744073709551615,18446744073709551615,18446744073709551615,18446744073709551615,18446744073709551615) else (ac z,0,0,0,0,0,0,0)
def Sm (z:Int):Prop:=z.natAbs < 9223372036854775808
theorem Sm.w {z:Int} (h:Sm z):W1 z:=by unfold Sm W1 at *; omega
theorem eK {z:Int} (h:Sm z) (h0:z < 0):(ac z).toNat = 18446744073709551616 - z.natAbs:=by
 unfold ac Sm at *; rw [UInt64.toNat_ofNat']; omega
theorem em {z:Int} (h:Sm z) (h0:¬ z < 0):ac z = UInt64.ofNat z.natAbs:=by
 unfold ac Sm at *; congr 1; omega
theorem ng (n:Nat) (z:Int) (hn:10 < n):dK_p n z = some (W8 z):=by
 obtain ⟨k,rfl⟩:∃ k,n = k + 9:=⟨n - 9,by omega⟩
 unfold dK_p W8
 by_cases h:z < 0
 ·rw [if_pos h,if_pos h]
  simp [bD,dK_l1,ax]
 ·rw [if_neg h,if_neg h]
theorem sub_m1:sub64 0 18446744073709551615 1 = some (0,1):=rfl
theorem sub_01:sub64 0 0 1 = some (18446744073709551615,1):=rfl
theorem read_ok (n:Nat) (z:Int) (h:Sm z):dQ_p n (W8 z) = some ⟨decide (z < 0),(UInt64.ofNat z.natAbs,0,0,0,0,0,0,0)⟩:=by
 unfold dQ_p W8
 by_cases h0:z < 0
 ·rw [if_pos h0]
  have e:sub64 0 (ac z) 0 = some (UInt64.ofNat z.natAbs,1):=by
   unfold sub64
   rw [if_pos (by decide),eK h h0]
   unfold Sm at h
   rw [if_pos (by simp; omega)]
   congr 2
   simp; congr 1; omega
  rw [if_pos (show shrU 18446744073709551615 63 = 1 from I)]
  unfold bH_p
  simp only [e,aa,sub_m1]
  simp [h0]; rfl
 ·rw [if_neg h0]
  rw [if_neg (show ¬ shrU 0 63 = 1 from by decide),em h h0]
  simp [h0]; decide
theorem ff (n:Nat) (z:Int) (h:Sm z) (hn:10 < n):bY_p n (W8 z) = some (L z):=by
 unfold bY_p
 rw [read_ok n z h,aa]
 simp only
 rw [show app ([]:List Ua) [UInt64.ofNat z.natAbs,0,0,0,0,0,0,0] = some [UInt64.ofNat z.natAbs,0,0,0,0,0,0,0] from rfl,aa,aJ n _ _ (by simpa using by omega) (by simp),aa]
 have e:val [UInt64.ofNat z.natAbs,0,0,0,0,0,0,0] = z.natAbs:=by
  have:=h.w; unfold W1 at this
  simp only [val,bS this]; simp
 rw [e]
 unfold L
 by_cases h0:z < 0
 ·simp [h0]; omega
 ·simp [h0]
theorem from_ok (n:Nat) (z:Int) (h:Sm z) (hn:10 < n):dV_p n z = some (L z):=by
 unfold dV_p; rw [ng n z hn,aa,ff n z h hn,aa]
theorem ns {m:Nat} (h:m < 18446744073709551616):aQ (dg m) 0 0 = UInt64.ofNat m:=by
 by_cases h0:m = 0
 ·subst h0; rw [dg0]; rfl
 ·rw [dg1 h0 h]; rfl
theorem co {m:Nat} (j:Nat) (h:m < 18446744073709551616):aQ (dg m) (j + 1) 0 = 0:=by
 by_cases h0:m = 0
 ·subst h0; rw [dg0]; rfl
 ·rw [dg1 h0 h]; rfl
theorem lM (n:Nat) (z:Int) (h:Sm z) (hn:10 < n):cq_p n (L z) = some (W8 z,0):=by
 have hw:=h.w
 unfold W1 at hw
 have hl:¬ 8 < (L z).fo.length:=by
  have:(dg z.natAbs).length <= 1:=gF (by rw [Nat.pow_one]; exact hw)
  show ¬ 8 < (dg z.natAbs).length
  omega
 unfold cq_p
 rw [if_neg hl,show (L z).fo = dg z.natAbs from I,ns hw,co 0 hw,co 1 hw,co 2 hw,co 3 hw,co 4 hw,co 5 hw,co 6 hw]
 unfold cG_p
 have ho:∀ x:Ua,bf_p n (x,0,0,0,0,0,0,0) (0,0,0,0,0,0,0,9223372036854775808) = some (-1):=fun x=>by
  obtain ⟨k,rfl⟩:∃ k,n = k + 1:=⟨n - 1,by omega⟩
  unfold bf_p
  rw [bD]
  rfl
 rw [ho,aa,if_neg (by decide),if_neg (by decide)]
 unfold W8
 by_cases h0:z < 0
 ·have e:sub64 0 (UInt64.ofNat z.natAbs) 0 = some (ac z,1):=by
   unfold sub64
   rw [if_pos (by decide),bS hw]
   rw [if_pos (by simp; omega)]
   congr 2
   refine UInt64.toNat_inj.1 ?_
   rw [eK h h0,UInt64.toNat_ofNat']
   unfold Sm at h
   simp; omega
  rw [if_pos h0,if_pos (by simpa [L] using h0)]
  unfold bH_p
  simp only [e,aa,sub_01]
 ·rw [if_neg h0,if_neg (by simpa [L] using h0),aa,em h h0]
def Rt (q:Rat):Tj:=⟨L q.num,L q.den⟩
def Sh (q:Rat):Ta:=⟨W8 q.num,W8 q.den⟩
theorem eT {x y:Int} (hy:0 < y) (hc:x.natAbs.Coprime y.natAbs):(Rat.divInt x y).num = x/\((Rat.divInt x y).den:Int) = y:=by
 have e:Rat.divInt x y = { num:=x,den:=y.natAbs,den_nz:=by omega,reduced:=hc }:=by
  rw [Rat.mk_eq_divInt]; congr 1; omega
 rw [e]; exact ⟨rfl,by simp only; omega⟩
theorem mw (n:Nat) (a b:Int) (ha:W1 a) (hb:W1 b) (h0:b ≠ 0) (hn:18446744073709551616 < n) :
  cu_p n (L a) (L b) = some (Rt (Rat.divInt a b))/\(Rat.divInt a b).num.natAbs <= a.natAbs/\(Rat.divInt a b).den <= b.natAbs:=by
 have hg:0 < Nat.gcd a.natAbs b.natAbs:=Nat.gcd_pos_of_pos_right _ (by omega)
 have hgb:Nat.gcd a.natAbs b.natAbs <= b.natAbs:=Nat.gcd_le_right _ (by omega)
 have hgw:W1 ((Nat.gcd a.natAbs b.natAbs:Nat):Int):=by unfold W1 at *; omega
 obtain ⟨x,hx⟩:((Nat.gcd a.natAbs b.natAbs:Nat):Int) ∣ a:=Int.ofNat_dvd_left.2 (Nat.gcd_dvd_left _ _)
 obtain ⟨y,hy⟩:((Nat.gcd a.natAbs b.natAbs:Nat):Int) ∣ b:=Int.ofNat_dvd_left.2 (Nat.gcd_dvd_right _ _)
 have hco:=Nat.coprime_div_gcd_div_gcd hg
 generalize Nat.gcd a.natAbs b.natAbs = g at *
 have hg0:(g:Int) ≠ 0:=by omega
 have e1:a / (g:Int) = x:=by rw [hx]; exact Int.mul_ediv_cancel_left _ hg0
 have e2:b / (g:Int) = y:=by rw [hy]; exact Int.mul_ediv_cancel_left _ hg0
 have e3:a.natAbs = g * x.natAbs:=by rw [hx,Int.natAbs_mul]; rfl
 have e4:b.natAbs = g * y.natAbs:=by rw [hy,Int.natAbs_mul]; rfl
 have hc:x.natAbs.Coprime y.natAbs:=by
  rw [e3,e4,Nat.mul_div_cancel_left _ hg,Nat.mul_div_cancel_left _ hg] at hco; exact hco
 have hxl:x.natAbs <= a.natAbs:=by rw [e3]; exact Nat.le_mul_of_pos_left _ hg
 have hyl:y.natAbs <= b.natAbs:=by rw [e4]; exact Nat.le_mul_of_pos_left _ hg
 have hy0:y ≠ 0:=fun e=>h0 (by rw [hy,e,Int.mul_zero])
 have eq:Rat.divInt a b = Rat.divInt x y:=by
  conv=>lhs; rw [hx,hy]
  exact Rat.divInt_mul_left hg0
 have xw:Fit 1 x:=by unfold Fit; unfold W1 at ha; rw [Nat.pow_one]; omega
 have yw:Fit 1 y:=by unfold Fit; unfold W1 at hb; rw [Nat.pow_one]; omega
 have gc:aH_p n (L a) (L b) = some (L g):=by
  have:=mD n a b ha hb hn
  rw [this]
  have h5:Nat.gcd a.natAbs b.natAbs = g:=by
   rw [e3,e4,Nat.gcd_mul_left,show Nat.gcd x.natAbs y.natAbs = 1 from hc,Nat.mul_one]
  rw [h5]
 unfold cu_p
 rw [gc,aa,jH n a g ha hgw hg0 (by omega),aa,jH n b g hb hgw hg0 (by omega),aa,e1,e2]
 simp only
 rw [eq]
 by_cases hs:y < 0
 ·rw [if_pos (by simpa [L] using hs),cb n 1 x xw (by omega) (by omega),aa,cb n 1 y yw (by omega) (by omega),aa]
  have h5:=eT (x:=-x) (y:=-y) (by omega) (by rwa [Int.natAbs_neg,Int.natAbs_neg])
  rw [Rat.neg_divInt_neg] at h5
  unfold Rt
  rw [h5.1,h5.2]
  exact ⟨rfl,by rw [Int.natAbs_neg]; exact hxl,by have:=h5.2; omega⟩
 ·rw [if_neg (by simpa [L] using hs)]
  have h5:=eT (x:=x) (y:=y) (by omega) hc
  unfold Rt
  rw [h5.1,h5.2]
  exact ⟨I,hxl,by have:=h5.2; omega⟩
theorem W8_ne {z:Int} (h:Sm z) (h0:z ≠ 0):W8 z ≠ (0,0,0,0,0,0,0,0):=fun e=>by
 have e1:ac z = 0:=by
  have:=congrArg Prod.fst e
  unfold W8 at this
  split at this <;> exact this
 by_cases hz:z < 0
 ·have:=eK h hz
  rw [e1] at this; unfold Sm at h; simp at this; omega
 ·rw [em h hz] at e1
  exact jU (by omega) h.w e1
theorem ni (n:Nat) (q:Rat) (h1:Sm q.num) (h2:Sm (q.den:Int)) (hn:10 < n):bS_p n (Rt q) = some (Sh q,0):=by
 unfold bS_p
 rw [show (Rt q).fy = L q.num from I,show (Rt q).fv = L q.den from I,lM n _ h1 hn,aa,lM n _ h2 hn,aa]
 rfl
theorem kh (n:Nat) (a b:Int) (ha:Sm a) (hb:Sm b) (h0:b ≠ 0) (hn:18446744073709551616 < n):dO_p n a b = some (Sh (Rat.divInt a b),0):=by
 obtain ⟨e1,e2,e3⟩:=mw n a b ha.w hb.w h0 hn
 unfold dO_p
 rw [ng n a (by omega),aa,ng n b (by omega),aa]
 unfold dU_p
 rw [if_neg (W8_ne hb h0),ff n a ha (by omega),aa,ff n b hb (by omega),aa,e1,aa,ni n _ (by unfold Sm at *; omega) (by unfold Sm at *; omega) (by omega)]
 rfl
theorem bM {x y:Int} (h:y ≠ 0):ca x y = some (x.tmod y):=if_neg h
theorem bg {α:Type} (xs ys:List α) (h:xs.length + ys.length <= 1000000):app xs ys = some (xs ++ ys):=if_pos (Nat.le_trans h (by decide))
theorem nS (n:Nat) (d:Tm) (i:Int) (h:0 <= i):∃ y,bG_p n d i = some y/\0 <= y/\y < 256:=by
 unfold bG_p
 split
 ·rw [aS h (by omega),aa]
  have:=(d.fLabels[i.toNat]'(by omega)).toNat_lt
  exact ⟨_,I,by omega,by omega⟩
 ·exact ⟨_,I,by omega,by omega⟩
theorem mK (n:Nat) (d:Tm) (hn:20 < n):∃ l,aj (ak_l2 n d) n (0,[]) = some l/\1 <= l.length/\l.length <= 9/\∀ x ∈ l,0 <= x/\x < 8:=by
 have hu:(d.fN % 9).toNat < 9:=by rw [UInt8.toNat_mod]; exact Nat.mod_lt _ (by decide)
 have hk:(d.fK % 8).toNat < 8:=by rw [UInt8.toNat_mod]; exact Nat.mod_lt _ (by decide)
 have h:=ap (B:=ak_l2 n d) (fun s:Int × List Int=>10 - s.1.toNat) (fun s=>0 <= s.1/\s.1 <= (1 + (d.fN % 9).toNat:Nat)/\s.2.length = s.1.toNat/\∀ x ∈ s.2,0 <= x/\x < 8)
  (fun l=>1 <= l.length/\l.length <= 9/\∀ x ∈ l,0 <= x/\x < 8) ?_ n (0,[]) ⟨by simp,by omega,by simp,by simp⟩ (by simp only; omega)
 ·obtain ⟨l,e,h⟩:=h; exact ⟨l,e,h⟩
 ·rintro ⟨z,xs⟩ J ⟨h1,h2,h3,h4⟩ hJ
  simp only at h1 h2 h3 h4 hJ
  unfold ak_l2 bZ_p
  simp only [aa]
  split
  ·rename_i h5
   obtain ⟨y,e,y0,y1⟩:=nS n d z h1
   rw [e,aa,bM (by omega),aa,bg _ _ (by simp only [leC,leN]; omega),aa,az (by omega) (by omega),aa]
   refine hJ _ ⟨by simp only; omega,by simp only; omega,by simp only [List.length_append,leC,leN]; omega,fun x hx=>?_⟩ (by simp only; omega)
   rcases List.mem_append.1 hx with hx | hx
   ·exact h4 x hx
   ·rw [List.mem_singleton.1 hx,Int.tmod_eq_emod_of_nonneg y0]
    have a1:=Int.emod_nonneg y (b:=((1 + (d.fK % 8).toNat:Nat):Int)) (by omega)
    have a2:=Int.emod_lt_of_pos y (b:=((1 + (d.fK % 8).toNat:Nat):Int)) (by omega)
    omega
  ·rename_i h5
   exact ⟨_,I,by omega,by omega,h4⟩
theorem mE (n:Nat) (l:List Int) (h1:1 <= l.length) (h2:l.length <= 9) (h:∀ x ∈ l,0 <= x/\x < 8) (hn:20 < n):aY_p n l 8 = some true:=by
 have hh:=ap (B:=aY_l1 n l 8) (fun i:Nat=>l.length - i) (fun i=>i <= l.length) (fun r=>r = .inr ()) ?_ n 0 (Nat.zero_le _) (by omega)
 ·obtain ⟨r,e,rfl⟩:=hh
  unfold aY_p
  rw [e]
  show (if 1 <= l.length then some (decide (l.length <= 64)) else some false) = _
  rw [if_pos h1,decide_eq_true (by omega)]
 ·intro i J hi hJ
  unfold aY_l1
  simp only
  split
  ·rename_i h0
   have:=h l[i] (List.getElem_mem _)
   rw [geE h0,aa,if_neg (by omega),if_neg (by omega)]
   exact hJ (i + 1) h0 (by omega)
  ·exact ⟨_,I,I⟩
def bW (p:List Int) (k:Int):Prop:=(∀ x ∈ p,0 <= x/\x < k)/\∀ d,0 <= d -> d < k -> d ∈ p
theorem oy (n:Nat) (l:List Int) (h1:1 <= l.length) (h2:l.length <= 9) (h:∀ x ∈ l,0 <= x/\x < 8) (hn:20 < n):∃ p z,bg_p n l = some (p,0)/\p.length = l.length/\bW p z/\z <= 8:=by
 have hh:=ap (B:=bg_l1 n l) (fun s:Int × Nat × List Int × List Int=>l.length - s.2.1)
  (fun s=>s.2.1 <= l.length/\s.2.2.1.length = s.2.1/\s.2.2.2.length = 8/\0 <= s.1/\s.1 + s.2.2.2.count (-1) = 8/\(∀ v ∈ s.2.2.2,v = -1 ∨ 0 <= v/\v < s.1)/\bW s.2.2.1 s.1)
  (fun p=>∃ z,p.length = l.length/\bW p z/\z <= 8) ?_ n (0,0,[],[-1,-1,-1,-1,-1,-1,-1,-1]) ⟨by simp,rfl,rfl,by simp,by decide,by simp,by simp,fun d h3 h4=>by simp only at h4; omega⟩ (by simp only; omega)
 ·obtain ⟨p,e,z,h3,h4,h5⟩:=hh
  refine ⟨p,z,?_,h3,h4,h5⟩
  unfold bg_p
  rw [mE n l h1 h2 h hn,aa,if_pos I,e,aa]
 ·rintro ⟨z,i,xs,m⟩ J ⟨a1,a2,a3,a4,a5,a6,a7,a8⟩ hJ
  simp only at a1 a2 a3 a4 a5 a6 a7 a8 hJ
  unfold bg_l1
  simp only
  split
  ·rename_i hi
   have hx:=h l[i] (List.getElem_mem _)
   have hm:l[i].toNat < m.length:=by omega
   rw [geE hi,aa,aS hx.1 hm,aa]
   unfold jn
   simp only
   have hv:=a6 m[l[i].toNat] (List.getElem_mem _)
   by_cases hneg:m[l[i].toNat] < 0
   ·have hv1:m[l[i].toNat] = -1:=by omega
    have hc:0 < m.count (-1):=by rw [<- hv1]; exact List.count_pos_iff.2 (List.getElem_mem _)
    rw [if_pos hneg,aP _ hm,aa,az (by omega) (by omega),aa,aS hx.1 (by simpa using hm),aa,List.getElem_set_self,bg _ _ (by simp only [leC,leN]; omega),aa]
    refine hJ _ ⟨by simp only; omega,by simp only [List.length_append,leC,leN]; omega,by simpa using a3,by simp only; omega,?_,?_,?_,?_⟩ (by simp only; omega)
    ·simp only
     rw [List.count_set hm,hv1]
     have:((z == (-1:Int)) = false):=by rw [beq_eq_false_iff_ne]; omega
     simp only [this]
     simp only [beq_self_eq_true,if_true]
     simp
     omega
    ·intro v hv2
     rcases List.mem_or_eq_of_mem_set hv2 with hv2 | rfl
     ·rcases a6 v hv2 with h5 | h5
      ·exact .inl h5
      ·exact .inr ⟨h5.1,by simp only; omega⟩
     ·exact .inr ⟨a4,by simp only; omega⟩
    ·intro x hx2
     simp only at hx2 ⊢
     rcases List.mem_append.1 hx2 with hx2 | hx2
     ·have:=a7 x hx2; omega
     ·rw [List.mem_singleton.1 hx2]; omega
    ·intro d d0 d1
     simp only at d1 ⊢
     by_cases hd:d = z
     ·subst hd; exact List.mem_append_right _ (List.mem_singleton.2 rfl)
     ·exact List.mem_append_left _ (a8 d d0 (by omega))
   ·rw [if_neg hneg,aS hx.1 hm,aa,bg _ _ (by simp only [leC,leN]; omega),aa]
    refine hJ _ ⟨by simp only; omega,by simp only [List.length_append,leC,leN]; omega,a3,a4,a5,a6,?_,?_⟩ (by simp only; omega)
    ·intro x hx2
     simp only at hx2 ⊢
     rcases List.mem_append.1 hx2 with hx2 | hx2
     ·exact a7 x hx2
     ·rw [List.mem_singleton.1 hx2]; omega
    ·intro d d0 d1
     exact List.mem_append_left _ (a8 d d0 d1)
  ·exact ⟨_,I,z,by omega,⟨a7,a8⟩,by omega⟩
theorem nk (n:Nat) (d:Tm) (hn:20 < n):∃ p k,ak_p n d = some (p,k)/\1 <= p.length/\p.length <= 9/\bW p k/\1 <= k/\k <= 8:=by
 obtain ⟨l,e1,l1,l2,l3⟩:=mK n d hn
 obtain ⟨p,z,e2,p1,p2,p3⟩:=oy n l l1 l2 l3 hn
 have hh:=ap (B:=ak_l1 n (p,0)) (fun s:Int × Nat=>p.length - s.2) (fun s=>s.2 <= p.length/\0 <= s.1/\s.1 <= 8/\(∀ j (h:j < p.length),j < s.2 -> p[j] + 1 <= s.1)/\(s.1 = 0/\s.2 = 0 ∨ s.1 - 1 ∈ p))
  (fun k=>1 <= k/\k <= 8/\(∀ x ∈ p,x < k)/\k - 1 ∈ p) ?_ n (0,0) ⟨by simp,by simp,by simp,fun j _ h=>by simp at h,.inl ⟨rfl,rfl⟩⟩ (by simp only; omega)
 ·obtain ⟨k,e3,k1,k2,k3,k4⟩:=hh
  refine ⟨p,k,?_,by omega,by omega,⟨fun x hx=>⟨(p2.1 x hx).1,k3 x hx⟩,fun d d0 d1=>p2.2 d d0 (by have:=(p2.1 _ k4).2; omega)⟩,k1,k2⟩
  unfold ak_p
  rw [e1,aa,e2,aa,e3,aa]
 ·rintro ⟨z', i⟩ J ⟨a1,a2,a3,a4,a5⟩ hJ
  simp only at a1 a2 a3 a4 a5 hJ
  unfold ak_l1
  simp only
  split
  ·rename_i hi
   have hx:=p2.1 p[i] (List.getElem_mem _)
   rw [geE hi,aa,az (by omega) (by omega),aa]
   refine hJ _ ⟨hi,by simp only; omega,by simp only; omega,fun j hj h4=>?_,?_⟩ (by simp only; omega)
   ·simp only at h4 ⊢
    by_cases hj2:j = i
    ·subst hj2; omega
    ·have:=a4 j hj (by omega); omega
   ·right
    simp only
    by_cases hm:z' <= p[i] + 1
    ·rw [Int.max_eq_right hm,show p[i] + 1 - 1 = p[i] by omega]; exact List.getElem_mem _
    ·rw [Int.max_eq_left (by omega)]
     rcases a5 with ⟨h5,h6⟩ | h5
     ·omega
     ·exact h5
  ·rename_i hi
   rcases a5 with ⟨h5,h6⟩ | h5
   ·omega
   ·refine ⟨_,I,by have:=(p2.1 _ h5).1; omega,a3,fun x hx=>?_,h5⟩
    obtain ⟨j,hj,rfl⟩:=List.getElem_of_mem hx
    have:=a4 j hj (by omega); omega
def FU:Nat:=18446744073709552000
def nm (i:Nat):ByteArray:=⟨#[117,UInt8.ofNat (97 + i),97]⟩
theorem iF {κ ν:Type} [DecidableEq κ]:∀ (D:List (κ × ν)) (k x:κ) (v:ν),ic (bz D k v) x = if x = k then some v else ic D x
 | [],k,x,v=>by simp [bz,ic]
 | e :: D,k,x,v=>by
  unfold bz
  split
  ·rename_i h; subst h; simp only [ic]; split <;> rfl
  ·rename_i h
   simp only [ic]
   rw [iF D k x v]
   by_cases h1:x = k
   ·subst h1; simp [h]
   ·simp [h1]
theorem oe (n:Nat) (l:List Bool) (h:∀ b ∈ l,b = true) (hn:l.length < n):bA_p n l = some true:=by
 have hh:=ap (B:=aG_l1 n l false) (fun i:Nat=>l.length - i) (fun i=>i <= l.length) (fun r=>r = .inr ()) ?_ n 0 (Nat.zero_le _) (by omega)
 ·obtain ⟨r,e,rfl⟩:=hh
  unfold bA_p bF_p aG_p
  rw [e]
  rfl
 ·intro i J hi hJ
  unfold aG_l1
  simp only
  split
  ·rename_i h0
   rw [geE h0,aa,h l[i] (List.getElem_mem _),if_neg (by decide)]
   exact hJ (i + 1) h0 (by omega)
  ·exact ⟨_,I,I⟩
theorem kU (n:Nat) (d:Tl) (i:Int) (h:0 <= i):∃ y,aT_p n d i = some y/\0 <= y/\y <= 255:=by
 unfold aT_p
 split
 ·exact ⟨_,I,by omega,by omega⟩
 ·rename_i h0
  have h1:=Int.emod_nonneg i (b:=(d.fNums.length:Int)) (by omega)
  have h2:=Int.emod_lt_of_pos i (b:=(d.fNums.length:Int)) (by omega)
  rw [bM (by omega),aa,Int.tmod_eq_emod_of_nonneg h,aS h1 (by omega),aa]
  have:=(d.fNums[(i % (d.fNums.length:Int)).toNat]'(by omega)).toNat_lt
  exact ⟨_,I,by omega,by omega⟩
theorem jI (n:Nat) (d:Tl) (c at_ bc:Int) (h0:0 <= c) (h1:c <= 100) (h2:0 <= at_) (h3:at_ <= 1000) (h4:0 <= bc) (hn:200 < n):∃ l,aD_p n d c at_ bc = some l/\(l.length:Int) = c/\∀ x ∈ l,0 <= x/\x <= bc/\x <= 255:=by
 have hh:=ap (B:=aD_l1 n c at_ d bc) (fun s:Int × List Int=>101 - s.1.toNat) (fun s=>0 <= s.1/\s.1 <= c/\(s.2.length:Int) = s.1/\∀ x ∈ s.2,0 <= x/\x <= bc/\x <= 255)
  (fun l=>(l.length:Int) = c/\∀ x ∈ l,0 <= x/\x <= bc/\x <= 255) ?_ n (0,[]) ⟨by simp,h0,by simp,by simp⟩ (by simp only; omega)
 ·obtain ⟨l,e,h⟩:=hh
  refine ⟨l,?_,h⟩
  unfold aD_p
  rw [e,aa]
 ·rintro ⟨z,xs⟩ J ⟨a1,a2,a3,a4⟩ hJ
  simp only at a1 a2 a3 a4 hJ
  unfold aD_l1
  simp only
  split
  ·obtain ⟨y,e,y0,y1⟩:=kU n d (at_ + z) (by omega)
   rw [az (by omega) (by omega),aa,e,aa,bg _ _ (by simp only [leC,leN]; omega),aa,az (by omega) (by omega),aa]
   refine hJ _ ⟨by simp only; omega,by simp only; omega,by simp only [List.length_append,leC,leN]; omega,fun x hx=>?_⟩ (by simp only; omega)
   rcases List.mem_append.1 hx with hx | hx
   ·exact a4 x hx
   ·rw [List.mem_singleton.1 hx]; omega
  ·exact ⟨_,I,by omega,a4⟩
def UnitOk (G P L:Int) (u:Tc):Prop:=u.fu = false/\(0 <= u.fw/\u.fw <= 255)/\((u.fh.length:Int) = G/\∀ x ∈ u.fh,0 <= x/\x <= u.fw)/\((u.fE.length:Int) = P/\∀ x ∈ u.fE,0 <= x/\x <= 255)/\((u.fC.length:Int) = L/\∀ x ∈ u.fC,0 <= x/\x <= 63)
def sea (G P L:Int):Tc:=⟨⟨#[115,101,97]⟩,0,List.replicate G.toNat 0,List.replicate P.toNat 0,List.replicate L.toNat 0,true⟩
structure RollOk (r:Te) (us:List Tc):Prop where
 g:0 <= r.fh/\r.fh <= 2
 p:0 <= r.fc/\r.fc <= 3
 l:0 <= r.fj/\r.fj <= 2
 len:1 <= us.length/\us.length <= 9
 land:∀ i (h:i < us.length),us[i].fx = nm i/\UnitOk r.fh r.fc r.fj us[i]
 all:r.ft = us ∨ r.ft = us ++ [sea r.fh r.fc r.fj]
theorem aR:(1000000:Nat) < FU:=by decide
def tot (us:List Tc):Int:=(us.map (·.fw)).sum
set_option maxRecDepth 8000
theorem gY (l:List Bool) (hn:l.length <= 1000):bA_p FU l = some (decide (∀ b ∈ l,b = true)):=by
 have hF:=aR
 by_cases h:∀ b ∈ l,b = true
 ·rw [decide_eq_true h]; exact oe FU l h (by omega)
 ·rw [decide_eq_false h]
  have hh:=ap (B:=aG_l1 FU l false) (fun i:Nat=>l.length - i) (fun i=>i <= l.length/\∀ b ∈ l.take i,b = true) (fun r=>∃ j:Nat,r = .inl (j:Int)) ?_ FU 0 ⟨Nat.zero_le _,by simp⟩ (by omega)
  ·obtain ⟨r,e,j,rfl⟩:=hh
   unfold bA_p bF_p aG_p
   rw [e]
   show (((some (j:Int)).bind fun y1=>some (decide (0 <= y1))).bind fun y1=>some (!y1)) = some false
   rw [aa,aa,decide_eq_true (by omega)]; rfl
  ·rintro i J ⟨hi,h2⟩ hJ
   unfold aG_l1
   simp only
   split
   ·rename_i h0
    rw [geE h0,aa]
    rcases hb:l[i] with _ | _
    ·rw [if_pos (by decide)]; exact ⟨_,rfl,i,rfl⟩
    ·rw [if_neg (by decide)]
     refine hJ (i + 1) ⟨h0,fun b hb2=>?_⟩ (by omega)
     rw [List.take_succ_eq_append_getElem h0,List.mem_append,List.mem_singleton,hb] at hb2
     exact hb2.elim (h2 b) id
   ·rw [List.take_of_length_le (by omega)] at h2
    exact absurd h2 h
def Wi (l:List Int) (a bc:Int):Prop:=(l.length:Int) = a/\∀ x ∈ l,0 <= x/\x <= bc
instance (l:List Int) (a bc:Int):Decidable (Wi l a bc):=by unfold Wi; infer_instance
theorem fQ (l:List Int) (a bc:Int) (hn:l.length <= 1000):bz_p FU l a bc = some (decide (Wi l a bc)):=by
 have hF:=aR
 unfold bz_p
 by_cases hl:(l.length:Int) = a
 ·rw [if_pos hl]
  have hh:=ap (B:=bz_l1 FU l bc) (fun i:Nat=>l.length - i) (fun i=>i <= l.length/\∀ x ∈ l.take i,0 <= x/\x <= bc) (fun r=>r = .inr ()/\Wi l a bc ∨ r = .inl false/\¬ Wi l a bc) ?_ FU 0 ⟨Nat.zero_le _,by simp⟩ (by omega)
  ·obtain ⟨r,e,hr⟩:=hh
   rw [e]
   rcases hr with ⟨rfl,hr⟩ | ⟨rfl,hr⟩
   ·rw [decide_eq_true hr]; rfl
   ·rw [decide_eq_false hr]; rfl
  ·rintro i J ⟨hi,h2⟩ hJ
   unfold bz_l1 dI_p
   simp only
   split
   ·rename_i h0
    rw [geE h0,aa]
    by_cases h3:0 <= l[i]/\l[i] <= bc
    ·rw [if_neg (by omega),aa,decide_eq_false (by omega),if_neg (by decide)]
     refine hJ (i + 1) ⟨h0,fun x hx=>?_⟩ (by omega)
     rw [List.take_succ_eq_append_getElem h0,List.mem_append,List.mem_singleton] at hx
     rcases hx with hx | rfl
     ·exact h2 x hx
     ·exact h3
    ·have hbad:¬ Wi l a bc:=fun h=>h3 (h.2 _ (List.getElem_mem _))
     by_cases h4:l[i] < 0
     ·rw [if_pos h4,aa,if_pos I,decide_eq_true (Nat.zero_le _)]
      exact ⟨_,I,.inr ⟨I,hbad⟩⟩
     ·rw [if_neg h4,aa,decide_eq_true (by omega),if_pos I,decide_eq_true (Nat.zero_le _)]
      exact ⟨_,I,.inr ⟨I,hbad⟩⟩
   ·rw [List.take_of_length_le (by omega)] at h2
    exact ⟨_,I,.inl ⟨I,hl,h2⟩⟩
 ·rw [if_neg hl,decide_eq_false fun h=>hl h.1]
theorem cn (l:List Int) (a bc:Int) (hn:l.length <= 1000):av_p FU l a bc = some (decide (Wi l a bc)):=by
 have hF:=aR
 have hh:=ap (B:=av_l1 FU l bc) (fun i:Nat=>l.length - i) (fun i=>i <= l.length/\∀ x ∈ l.take i,0 <= x/\x <= bc) (fun r=>r = .inr ()/\(∀ x ∈ l,0 <= x/\x <= bc) ∨ r = .inl false/\¬ ∀ x ∈ l,0 <= x/\x <= bc) ?_ FU 0 ⟨Nat.zero_le _,by simp⟩ (by omega)
 ·obtain ⟨r,e,hr⟩:=hh
  unfold av_p
  rw [e]
  rcases hr with ⟨rfl,hr⟩ | ⟨rfl,hr⟩
  ·exact congrArg some (decide_eq_decide.2 ⟨fun h=>⟨h,hr⟩,fun h=>h.1⟩)
  ·rw [decide_eq_false fun h:Wi l a bc=>hr h.2]; rfl
 ·rintro i J ⟨hi,h2⟩ hJ
  unfold av_l1
  simp only
  split
  ·rename_i h0
   rw [geE h0,aa]
   by_cases h3:0 <= l[i]/\l[i] <= bc
   ·rw [if_neg (by omega),if_neg (by omega)]
    refine hJ (i + 1) ⟨h0,fun x hx=>?_⟩ (by omega)
    rw [List.take_succ_eq_append_getElem h0,List.mem_append,List.mem_singleton] at hx
    rcases hx with hx | rfl
    ·exact h2 x hx
    ·exact h3
   ·have hbad:¬ ∀ x ∈ l,0 <= x/\x <= bc:=fun h=>h3 (h _ (List.getElem_mem _))
    by_cases h4:l[i] < 0
    ·rw [if_pos h4]; exact ⟨_,rfl,.inr ⟨rfl,hbad⟩⟩
    ·rw [if_neg h4,if_pos (by omega)]; exact ⟨_,rfl,.inr ⟨rfl,hbad⟩⟩
  ·rw [List.take_of_length_le (by omega)] at h2
   exact ⟨_,I,.inl ⟨I,h2⟩⟩
def NS:List ByteArray:=⟨#[115,101,97]⟩ :: (List.range 13).map nm
@[reducible] def ltrs:ByteArray:=⟨#[65,66,67,68,69,70,71,72,73,74,75,76,77,78,79,80,81,82,83,84,85,86,87,88,89,90,97,98,99,100,101,102,103,104,105,106,107,108,109,110,111,112,113,114,115,116,117,118,119,120,121,122,48,49,50,51,52,53,54,55,56,57,45,95]⟩
theorem ns_all:NS.all (fun b=>decide (aO_p FU b ltrs = some ⟨#[]⟩) && !decide (b = ⟨#[]⟩) && decide (b.size <= 12)) = true:=by kernel_rfl
theorem ns_ok {b:ByteArray} (h:b ∈ NS):aO_p FU b ltrs = some ⟨#[]⟩/\¬ b = ⟨#[]⟩/\b.size <= 12:=by
 have:=List.all_eq_true.1 ns_all b h
 simpa [Bool.and_eq_true,and_assoc] using this
theorem nsR_all:NS.all (fun b=>decide (bE_p FU b = some true)) = true:=by kernel_rfl
theorem nsR_ok {b:ByteArray} (h:b ∈ NS):bE_p FU b = some true:=by simpa using List.all_eq_true.1 nsR_all b h
def UV (r:Te) (u:Tc):Prop:=0 <= u.fw/\u.fw <= (if u.fu = true then 0 else 1000000000)/\Wi u.fh r.fh u.fw/\Wi u.fE r.fc (if u.fu = true then 0 else 1000000000)/\Wi u.fC r.fj (if u.fu = true then 0 else 63)
instance (r:Te) (u:Tc):Decidable (UV r u):=by unfold UV; infer_instance
structure Sm4 (u:Tc):Prop where
 n:u.fx ∈ NS
 g:u.fh.length <= 1000
 v:u.fE.length <= 1000
 q:u.fC.length <= 1000
theorem om (r:Te) (u:Tc) (h:Sm4 u):dM_p FU r u = some (decide (UV r u)):=by
 obtain ⟨n1,n3,n4⟩:=ns_ok h.n
 have key:∀ (V P:Nat),V = (if u.fu = true then 0 else 1000000000) -> P = (if u.fu = true then 0 else 63) -> ((aO_p FU u.fx ltrs).bind fun y30=>(bz_p FU u.fh r.fh u.fw).bind fun y31=>(bz_p FU u.fE r.fc ((V:Nat):Int)).bind fun y32=>(bz_p FU u.fC r.fj ((P:Nat):Int)).bind fun y33=>(bA_p FU ([(!(decide (u.fx = ⟨#[]⟩))),(decide (u.fx.size <= 12)),(decide (y30 = ⟨#[]⟩)),(decide (0 <= u.fw)),(decide (u.fw <= ((V:Nat):Int))),y31,y32,y33]:List Bool)).bind fun y40=>some y40) = some (decide (UV r u)):=by
  intro V P hV hP
  rw [n1,aa,fQ _ _ _ h.g,aa,fQ _ _ _ h.v,aa,fQ _ _ _ h.q,aa,gY _ (by simp),aa]
  refine congrArg some (decide_eq_decide.2 ?_)
  have eV:((V:Nat):Int) = (if u.fu = true then 0 else 1000000000):=by rw [hV]; split <;> rfl
  have eP:((P:Nat):Int) = (if u.fu = true then 0 else 63):=by rw [hP]; split <;> rfl
  rw [eV,eP]
  unfold UV
  simp only [List.mem_cons,List.not_mem_nil,or_false,forall_eq_or_imp,forall_eq,Bool.not_eq_true', decide_eq_false_iff_not,decide_eq_true_eq]
  constructor
  ·rintro ⟨_,_,_,a,b,c,d,e⟩; exact ⟨a,b,c,d,e⟩
  ·rintro ⟨a,b,c,d,e⟩; exact ⟨n3,n4,trivial,a,b,c,d,e⟩
 unfold dM_p jn
 simp only
 by_cases hw:u.fu = true
 ·rw [if_pos hw]; exact key 0 0 (by rw [if_pos hw]) (by rw [if_pos hw])
 ·rw [if_neg hw]; exact key 1000000000 63 (by rw [if_neg hw]) (by rw [if_neg hw])
theorem mS (r:Te) (u:Tc) (h:Sm4 u):cx_p FU r u = some (decide (UV r u)):=by
 have n2:=nsR_ok h.n
 unfold cx_p
 rw [n2,aa,if_pos I]
 by_cases h1:u.fw < 0
 ·rw [if_pos h1,decide_eq_false fun h=>absurd h.1 (by omega)]
 ·rw [if_neg h1]
  by_cases h2:1000000000 < u.fw
  ·rw [if_pos h2,decide_eq_false fun h=>by have:=h.2.1; split at this <;> omega]
  ·rw [if_neg h2,cn _ _ _ h.g,aa]
   by_cases h3:Wi u.fh r.fh u.fw
   ·rw [if_pos (decide_eq_true h3),cn _ _ _ h.v,aa]
    by_cases h4:Wi u.fE r.fc 1000000000
    ·rw [if_pos (decide_eq_true h4),cn _ _ _ h.q,aa]
     by_cases h5:Wi u.fC r.fj 63
     ·rw [if_pos (decide_eq_true h5)]
      by_cases hw:u.fu = true
      ·rw [if_pos hw]
       by_cases h6:u.fw = 0
       ·rw [if_pos h6,cn _ _ _ h.v,aa]
        by_cases h7:Wi u.fE r.fc 0
        ·rw [if_pos (decide_eq_true h7),cn _ _ _ h.q,aa]
         refine congrArg some (decide_eq_decide.2 ?_)
         unfold UV
         simp only [if_pos hw]
         exact ⟨fun h8=>⟨by omega,by omega,h3,h7,h8⟩,fun h=>h.2.2.2.2⟩
        ·rw [if_neg (by simpa using h7),decide_eq_false fun h=>h7 (by have:=h.2.2.2.1; rwa [if_pos hw] at this)]
       ·rw [if_neg h6,decide_eq_false fun h=>h6 (by have h8:=h.2.1; have:=h.1; rw [if_pos hw] at h8; omega)]
      ·rw [if_neg hw,decide_eq_true ⟨by omega,by rw [if_neg hw]; omega,h3,by rw [if_neg hw]; exact h4,by rw [if_neg hw]; exact h5⟩]
     ·rw [if_neg (by simpa using h5),decide_eq_false fun h=>h5 ⟨h.2.2.2.2.1,fun x hx=>by have:=h.2.2.2.2.2 x hx; split at this <;> omega⟩]
    ·rw [if_neg (by simpa using h4),decide_eq_false fun h=>h4 ⟨h.2.2.2.1.1,fun x hx=>by have:=h.2.2.2.1.2 x hx; split at this <;> omega⟩]
   ·rw [if_neg (by simpa using h3),decide_eq_false fun h=>h3 h.2.2.1]
structure RV (r:Te):Prop where
 g:0 <= r.fh/\r.fh <= 6
 p:0 <= r.fc/\r.fc <= 12
 l:0 <= r.fj/\r.fj <= 3
 n:1 <= r.ft.length/\r.ft.length <= 64
 u:∀ i (h:i < r.ft.length),UV r r.ft[i]
 nm:∀ i (h:i < r.ft.length) j (h' : j < i),r.ft[j].fx ≠ r.ft[i].fx
 w:∀ i (h:i < r.ft.length) j (h' : j < i),r.ft[j].fu = true -> r.ft[i].fu = true
 z:∀ h:0 < r.ft.length,r.ft[0].fu = false
open Classical in
theorem jc (r:Te) (h:∀ u ∈ r.ft,Sm4 u):bP_p FU r = some (if RV r then 0 else 161):=by
 have hF:=aR
 unfold bP_p
 rw [gY _ (by simp),aa]
 by_cases h0:((0 <= r.fh/\r.fh <= 6)/\(0 <= r.fc/\r.fc <= 12)/\(0 <= r.fj/\r.fj <= 3)/\1 <= r.ft.length/\r.ft.length <= 64)
 ·rw [if_pos]
  ·have hh:=ap (B:=bP_l1 FU r) (fun s:Bool × Nat × List (ByteArray × Bool)=>r.ft.length - s.2.1)
    (fun s=>s.2.1 <= r.ft.length/\(s.2.1 = 0 -> s.1 = false)/\(∀ h:0 < s.2.1,∀ h' : s.2.1 - 1 < r.ft.length,s.1 = r.ft[s.2.1 - 1].fu)/\(∀ x,aH s.2.2 x false = true ↔ ∃ j,∃ hj:j < r.ft.length,j < s.2.1/\r.ft[j].fx = x)/\
     (∀ i (h:i < r.ft.length),i < s.2.1 -> UV r r.ft[i])/\(∀ i (h:i < r.ft.length) j (h' : j < i),i < s.2.1 -> r.ft[j].fx ≠ r.ft[i].fx)/\(∀ i (h:i < r.ft.length) j (h' : j < i),i < s.2.1 -> r.ft[j].fu = true -> r.ft[i].fu = true)/\(∀ h:0 < r.ft.length,0 < s.2.1 -> r.ft[0].fu = false))
    (fun y=>y = .inr ()/\RV r ∨ y = .inl 161/\¬ RV r) ?_ FU (false,0,[]) ⟨Nat.zero_le _,fun _=>rfl,fun h=>absurd h (by simp),fun x=>⟨fun hx=>by simp [aH,ic] at hx,fun ⟨j,_,hj,_⟩=>by simp at hj⟩,fun i _ hi=>by simp at hi,fun i _ j _ hi=>by simp at hi,fun i _ j _ hi=>by simp at hi,fun _ hi=>by simp at hi⟩ (by simp only; omega)
   ·obtain ⟨y,e,hy⟩:=hh
    rw [e]
    rcases hy with ⟨rfl,hv⟩ | ⟨rfl,hv⟩
    ·rw [if_pos hv]; rfl
    ·rw [if_neg hv]; rfl
   ·rintro ⟨q,i,D⟩ J ⟨a1,a2,a3,a4,a5,a6,a7,a8⟩ hJ
    simp only at a1 a2 a3 a4 a5 a6 a7 a8 hJ
    unfold bP_l1
    simp only
    by_cases hi:i < r.ft.length
    ·rw [if_pos hi,geE hi,aa,om r _ (h _ (List.getElem_mem _)),aa]
     -- what has to hold of this unit
     have good:UV r r.ft[i] -> aH D r.ft[i].fx false = false -> (q = true -> r.ft[i].fu = true) -> (i = 0 -> r.ft[i].fu = false) -> ∃ y,J (r.ft[i].fu,i + 1,bz D r.ft[i].fx true) = some y/\(y = .inr ()/\RV r ∨ y = .inl 161/\¬ RV r):=by
      intro g1 g2 g3 g4
      have gn:∀ j (hj:j < i),r.ft[j].fx ≠ r.ft[i].fx:=fun j hj e=>by
       have:=(a4 r.ft[i].fx).2 ⟨j,by omega,hj,e⟩
       rw [g2] at this; cases this
      have gw:∀ j (hj:j < i),r.ft[j].fu = true -> r.ft[i].fu = true:=fun j hj hw=>by
       refine g3 ?_
       rw [a3 (by omega) (by omega)]
       by_cases e:j = i - 1
       ·subst e; exact hw
       ·exact a7 (i - 1) (by omega) j (by omega) (by omega) hw
      refine hJ _ ⟨hi,fun e=>absurd e (by simp),fun _ h' =>rfl,fun x=>?_,fun k hk hki=>?_,fun k hk j hj hki=>?_,fun k hk j hj hki=>?_,fun hk _=>?_⟩ (by simp only; omega)
      ·simp only
       unfold aH
       rw [iF]
       have:=a4 x
       unfold aH at this
       by_cases e:x = r.ft[i].fx
       ·rw [if_pos e]
        exact ⟨fun _=>⟨i,hi,by omega,e.symm⟩,fun _=>rfl⟩
       ·rw [if_neg e,this]
        constructor
        ·rintro ⟨j,hj,hji,ej⟩; exact ⟨j,hj,by omega,ej⟩
        ·rintro ⟨j,hj,hji,ej⟩
         by_cases e2:j = i
         ·subst e2; exact absurd ej.symm e
         ·exact ⟨j,hj,by omega,ej⟩
      ·by_cases e:k = i
       ·subst e; exact g1
       ·exact a5 k hk (by simp only at hki; omega)
      ·by_cases e:k = i
       ·subst e; exact gn j hj
       ·exact a6 k hk j hj (by simp only at hki; omega)
      ·by_cases e:k = i
       ·subst e; exact gw j hj
       ·exact a7 k hk j hj (by simp only at hki; omega)
      ·by_cases e:i = 0
       ·subst e; exact g4 rfl
       ·exact a8 hk (by omega)
     have bad:(¬ UV r r.ft[i] ∨ aH D r.ft[i].fx false = true ∨ (q = true/\r.ft[i].fu = false) ∨ (i = 0/\r.ft[i].fu = true)) -> ¬ RV r:=by
      rintro hb hv
      rcases hb with hb | hb | ⟨hb,hb2⟩ | ⟨hb,hb2⟩
      ·exact hb (hv.u i hi)
      ·obtain ⟨j,hj,hji,e⟩:=(a4 _).1 hb
       exact hv.nm i hi j hji e
      ·by_cases e:i = 0
       ·rw [a2 e] at hb; cases hb
       ·have:=hv.w i hi (i - 1) (by omega) (by rw [<- a3 (by omega) (by omega)]; exact hb)
        rw [hb2] at this; cases this
      ·subst hb
       have:=hv.z hi
       rw [hb2] at this; cases this
     have fin:∀ l:List Bool,l.length <= 1000 -> ((∀ b ∈ l,b = true) ↔ (UV r r.ft[i]/\aH D r.ft[i].fx false = false/\(q = true -> r.ft[i].fu = true)/\(i = 0 -> r.ft[i].fu = false))) -> ∃ y,((bA_p FU l).bind fun y=>(if y = true then J (r.ft[i].fu,i + 1,bz D r.ft[i].fx true) else some (.inl (161:Int)))) = some y/\(y = .inr ()/\RV r ∨ y = .inl 161/\¬ RV r):=by
      intro l hl hiff
      rw [gY l hl,aa]
      by_cases hq:∀ b ∈ l,b = true
      ·rw [if_pos (decide_eq_true hq)]
       obtain ⟨g1,g2,g3,g4⟩:=hiff.1 hq
       exact good g1 g2 g3 g4
      ·rw [if_neg (by simpa using hq)]
       refine ⟨_,I,.inr ⟨I,bad ?_⟩⟩
       refine Classical.byContradiction fun hc=>hq (hiff.2 ?_)
       simp only [not_or,not_and,Bool.not_eq_true,Classical.not_not] at hc
       obtain ⟨c1,c2,c3,c4⟩:=hc
       refine ⟨c1,c2,fun e=>?_,fun e=>?_⟩
       ·rcases hww:r.ft[i].fu with _ | _
        ·exact absurd hww (by simpa using c3 e)
        ·rfl
       ·simpa using c4 e
     rcases hw:r.ft[i].fu with _ | _
     ·rw [if_neg (by decide)]
      by_cases hp:0 < i
      ·rw [if_pos hp]
       have:=fin [decide (UV r r.ft[i]),!(aH D r.ft[i].fx false),!q,true] (by simp) (by
        rw [hw]
        simp only [List.mem_cons,List.not_mem_nil,or_false,forall_eq_or_imp,forall_eq,Bool.not_eq_true', decide_eq_true_eq]
        constructor
        ·rintro ⟨b1,b2,b3,_⟩; exact ⟨b1,b2,fun e=>(by rw [e] at b3; cases b3),fun _=>trivial⟩
        ·rintro ⟨b1,b2,b3,_⟩; exact ⟨b1,b2,by rcases q with _ | _; rfl; exact absurd (b3 rfl) (by decide),trivial⟩)
       rw [hw] at this
       exact this
      ·rw [if_neg hp]
       have:=fin [decide (UV r r.ft[i]),!(aH D r.ft[i].fx false),!q,!r.ft[i].fu] (by simp) (by
        rw [hw]
        simp only [List.mem_cons,List.not_mem_nil,or_false,forall_eq_or_imp,forall_eq,Bool.not_eq_true', decide_eq_true_eq]
        constructor
        ·rintro ⟨b1,b2,b3,_⟩; exact ⟨b1,b2,fun e=>(by rw [e] at b3; cases b3),fun _=>trivial⟩
        ·rintro ⟨b1,b2,b3,_⟩; exact ⟨b1,b2,by rcases q with _ | _; rfl; exact absurd (b3 rfl) (by decide),trivial⟩)
       rw [hw] at this
       exact this
     ·rw [if_pos I]
      by_cases hp:0 < i
      ·rw [if_pos hp]
       have:=fin [decide (UV r r.ft[i]),!(aH D r.ft[i].fx false),true,true] (by simp) (by
        rw [hw]
        simp only [List.mem_cons,List.not_mem_nil,or_false,forall_eq_or_imp,forall_eq,Bool.not_eq_true', decide_eq_true_eq]
        constructor
        ·rintro ⟨b1,b2,_,_⟩; exact ⟨b1,b2,fun _=>trivial,fun e=>by omega⟩
        ·rintro ⟨b1,b2,_,_⟩; exact ⟨b1,b2,trivial,trivial⟩)
       rw [hw] at this
       exact this
      ·rw [if_neg hp]
       have:=fin [decide (UV r r.ft[i]),!(aH D r.ft[i].fx false),true,!r.ft[i].fu] (by simp) (by
        rw [hw]
        simp only [List.mem_cons,List.not_mem_nil,or_false,forall_eq_or_imp,forall_eq,Bool.not_eq_true', decide_eq_true_eq]
        constructor
        ·rintro ⟨_,_,_,b4⟩; cases b4
        ·rintro ⟨_,_,_,b4⟩; exact absurd (b4 (by omega)) (by decide))
       rw [hw] at this
       exact this
    ·rw [if_neg hi]
     refine ⟨_,I,.inl ⟨I,h0.1,h0.2.1,h0.2.2.1,h0.2.2.2,fun i hi2=>a5 i hi2 (by omega),fun i hi2 j hj=>a6 i hi2 j hj (by omega),fun i hi2 j hj=>a7 i hi2 j hj (by omega),fun hi2=>a8 hi2 (by omega)⟩⟩
  ·simp only [List.mem_cons,List.not_mem_nil,or_false,forall_eq_or_imp,forall_eq,decide_eq_true_eq]
   omega
 ·rw [if_neg,if_neg fun hv:RV r=>h0 ⟨hv.g,hv.p,hv.l,hv.n⟩]
  simp only [List.mem_cons,List.not_mem_nil,or_false,forall_eq_or_imp,forall_eq,decide_eq_true_eq]
  omega
open Classical in
theorem dR (r:Te) (h:∀ u ∈ r.ft,Sm4 u):am_p FU r = some (if RV r then 0 else 161):=by
 have hF:=aR
 unfold am_p jn
 simp only [if_true]
 by_cases g1:r.fh < 0
 ·rw [if_pos g1,if_neg fun hv:RV r=>by have:=hv.g; omega]
 rw [if_neg g1]
 by_cases g2:6 < r.fh
 ·rw [if_pos g2,if_neg fun hv:RV r=>by have:=hv.g; omega]
 rw [if_neg g2]
 by_cases g3:r.fc < 0
 ·rw [if_pos g3,if_neg fun hv:RV r=>by have:=hv.p; omega]
 rw [if_neg g3]
 by_cases g4:12 < r.fc
 ·rw [if_pos g4,if_neg fun hv:RV r=>by have:=hv.p; omega]
 rw [if_neg g4]
 by_cases g5:r.fj < 0
 ·rw [if_pos g5,if_neg fun hv:RV r=>by have:=hv.l; omega]
 rw [if_neg g5]
 by_cases g6:3 < r.fj
 ·rw [if_pos (decide_eq_true g6),if_neg fun hv:RV r=>by have:=hv.l; omega]
 rw [if_neg (by simpa using g6)]
 by_cases g7:r.ft.length < 1
 ·rw [if_pos g7,if_neg fun hv:RV r=>by have:=hv.n; omega]
 rw [if_neg g7]
 by_cases g8:64 < r.ft.length
 ·rw [if_pos g8,if_neg fun hv:RV r=>by have:=hv.n; omega]
 rw [if_neg g8,geE (by omega),aa]
 by_cases g9:r.ft[0].fu = true
 ·rw [if_pos g9,if_neg fun hv:RV r=>by have:=hv.z (by omega); rw [g9] at this; cases this]
 rw [if_neg g9]
 have hh:=ap (B:=am_l2 FU r) (fun i:Nat=>r.ft.length - i)
  (fun s=>s <= r.ft.length/\(∀ i (h:i < r.ft.length),i < s -> UV r r.ft[i])/\(∀ i (h:i < r.ft.length) j (h' : j < i),i < s -> r.ft[j].fx ≠ r.ft[i].fx)/\(∀ i (h:i < r.ft.length) j (h' : j < i),i < s -> r.ft[j].fu = true -> r.ft[i].fu = true))
  (fun y=>y = .inr ()/\RV r ∨ y = .inl 161/\¬ RV r) ?_ FU 0 ⟨Nat.zero_le _,fun i _ hi=>by omega,fun i _ j _ hi=>by omega,fun i _ j _ hi=>by omega⟩ (by omega)
 ·obtain ⟨y,e,hy⟩:=hh
  rw [e]
  rcases hy with ⟨rfl,hv⟩ | ⟨rfl,hv⟩
  ·rw [if_pos hv]; rfl
  ·rw [if_neg hv]; rfl
 ·rintro i J ⟨a1,a5,a6,a7⟩ hJ
  unfold am_l2
  simp only
  by_cases hi:i < r.ft.length
  ·rw [if_pos hi,geE hi,aa,mS r _ (h _ (List.getElem_mem _)),aa]
   by_cases hu:UV r r.ft[i]
   ·rw [if_pos (decide_eq_true hu)]
    have hin:=ap (B:=am_l1 FU i r r.ft[i]) (fun j:Nat=>i - j) (fun s=>s <= i/\∀ j (hj:j < r.ft.length),j < s -> r.ft[j].fx ≠ r.ft[i].fx/\(r.ft[j].fu = true -> r.ft[i].fu = true))
     (fun y=>y = .inr ()/\(∀ j (hj:j < r.ft.length),j < i -> r.ft[j].fx ≠ r.ft[i].fx/\(r.ft[j].fu = true -> r.ft[i].fu = true)) ∨ y = .inl (.inl 161)/\¬ RV r) ?_ FU 0 ⟨Nat.zero_le _,fun j _ hj=>by omega⟩ (by omega)
    ·obtain ⟨y,e,hy⟩:=hin
     rw [e]
     rcases hy with ⟨rfl,hy⟩ | ⟨rfl,hy⟩
     ·refine hJ (i + 1) ⟨hi,fun k hk hki=>?_,fun k hk j hj hki=>?_,fun k hk j hj hki=>?_⟩ (by omega)
      ·by_cases e:k = i
       ·subst e; exact hu
       ·exact a5 k hk (by omega)
      ·by_cases e:k = i
       ·subst e; exact (hy j (by omega) hj).1
       ·exact a6 k hk j hj (by omega)
      ·by_cases e:k = i
       ·subst e; exact (hy j (by omega) hj).2
       ·exact a7 k hk j hj (by omega)
     ·exact ⟨_,I,.inr ⟨I,hy⟩⟩
    ·rintro j J' ⟨b1,b2⟩ hJ'
     unfold am_l1
     simp only
     by_cases hj:j < i
     ·have next:r.ft[j].fx ≠ r.ft[i].fx -> (r.ft[j].fu = true -> r.ft[i].fu = true) -> _:=fun c1 c2=>hJ' (j + 1) ⟨hj,fun k hk hkj=>by
       by_cases e:k = j
       ·subst e; exact ⟨c1,c2⟩
       ·exact b2 k hk (by omega)⟩ (by omega)
      rw [if_pos hj,geE (by omega),aa]
      by_cases c1:r.ft[j].fx = r.ft[i].fx
      ·rw [if_pos c1]
       exact ⟨_,I,.inr ⟨I,fun hv=>hv.nm i hi j hj c1⟩⟩
      ·rw [if_neg c1]
       by_cases c2:r.ft[j].fu = true
       ·rw [if_pos c2]
        by_cases c3:r.ft[i].fu = true
        ·rw [if_pos c3]; exact next c1 fun _=>c3
        ·rw [if_neg c3]; exact ⟨_,rfl,.inr ⟨rfl,fun hv=>c3 (hv.w i hi j hj c2)⟩⟩
       ·rw [if_neg c2]; exact next c1 fun e=>absurd e c2
     ·rw [if_neg hj]
      exact ⟨_,I,.inl ⟨I,fun k hk hki=>b2 k hk (by omega)⟩⟩
   ·rw [if_neg (by simpa using hu)]
    exact ⟨_,I,.inr ⟨I,fun hv=>hu (hv.u i hi)⟩⟩
  ·rw [if_neg hi]
   exact ⟨_,rfl,.inl ⟨rfl,by omega,by omega,by omega,by omega,fun i hi2=>a5 i hi2 (by omega),fun i hi2 j hj=>a6 i hi2 j hj (by omega),fun i hi2 j hj=>a7 i hi2 j hj (by omega),fun hi2=>by simpa using g9⟩⟩
theorem eS {κ ν:Type} [DecidableEq κ]:∀ (D:List (κ × ν)) (k:κ) (v:ν),(bz D k v).map Prod.fst = if k ∈ D.map Prod.fst then D.map Prod.fst else D.map Prod.fst ++ [k]
 | [],k,v=>by simp [bz]
 | e :: D,k,v=>by
  unfold bz
  by_cases h:k = e.1
  ·rw [if_pos h]; simp [h]
  ·rw [if_neg h]
   simp only [List.map_cons,eS D k v,List.mem_cons]
   by_cases h2:k ∈ D.map Prod.fst
   ·simp [h2]
   ·rw [if_neg h2,if_neg (by rintro (h3 | h3); exact h h3; exact h2 h3)]; rfl
theorem mP {l:List Int} {k:Int} (hk:0 <= k) (hn:l.Nodup) (h:∀ x,x ∈ l ↔ 0 <= x/\x < k):(l.length:Int) = k:=by
 have h2:((List.range k.toNat).map fun i:Nat=>(i:Int)).Nodup:=by
  unfold List.Nodup
  exact List.Pairwise.map _ (fun a b hab=>by omega) List.nodup_range
 have h3:l.length <= ((List.range k.toNat).map fun i:Nat=>(i:Int)).length:=hn.length_le_of_subset fun x hx=>List.mem_map.2 ⟨x.toNat,List.mem_range.2 (by have:=(h x).1 hx; omega),by have:=(h x).1 hx; omega⟩
 have h4:((List.range k.toNat).map fun i:Nat=>(i:Int)).length <= l.length:=h2.length_le_of_subset fun x hx=>by
  obtain ⟨i,hi,rfl⟩:=List.mem_map.1 hx
  have:=List.mem_range.1 hi
  exact (h _).2 ⟨by omega,by omega⟩
 rw [List.length_map,List.length_range] at h3 h4
 omega
set_option maxRecDepth 8000
structure Lnd (r:Te) (us:List Tc):Prop where
 all:∃ ws,r.ft = us ++ ws/\∀ u ∈ ws,u.fu = true
 w:∀ u ∈ us,u.fu = false
theorem lnd_of {r:Te} (h:RV r):∃ us,Lnd r us/\1 <= us.length:=by
 have key:∀ (l:List Tc),(∀ i (h:i < l.length) j (h' : j < i),l[j].fu = true -> l[i].fu = true) -> ∃ us ws,l = us ++ ws/\(∀ u ∈ us,u.fu = false)/\(∀ u ∈ ws,u.fu = true)/\((∀ h:0 < l.length,l[0].fu = false) -> 0 < l.length -> 1 <= us.length):=by
  intro l
  induction l with
  | nil=>intro _; exact ⟨[],[],rfl,by simp,by simp,fun _ h=>by simp at h⟩
  | cons u l ih=>
   intro hl
   rcases hu:u.fu with _ | _
   ·obtain ⟨us,ws,e,h1,h2,_⟩:=ih fun i hi j hj=>hl (i + 1) (by simpa using hi) (j + 1) (by omega)
    refine ⟨u :: us,ws,by rw [e]; rfl,fun v hv=>?_,h2,fun _ _=>by simp⟩
    rcases List.mem_cons.1 hv with rfl | hv
    ·exact hu
    ·exact h1 v hv
   ·refine ⟨[],u :: l,rfl,by simp,fun v hv=>?_,fun h0 _=>?_⟩
    ·obtain ⟨i,hi,rfl⟩:=List.getElem_of_mem hv
     cases i with
     | zero=>exact hu
     | succ i=>exact hl (i + 1) hi 0 (by omega) hu
    ·have:=h0 (by simp)
     simp only [List.getElem_cons_zero] at this
     rw [hu] at this; cases this
 obtain ⟨us,ws,e,h1,h2,h3⟩:=key r.ft h.w
 exact ⟨us,⟨⟨ws,e,h2⟩,h1⟩,h3 h.z h.n.1⟩
theorem Lnd.at {r:Te} {us:List Tc} (h:Lnd r us) {i:Nat} (hi:i < r.ft.length):(∃ h2:i < us.length,r.ft[i] = us[i]/\r.ft[i].fu = false) ∨ us.length <= i/\r.ft[i].fu = true:=by
 obtain ⟨ws,e,hw⟩:=h.all
 have hz:r.ft.length = us.length + ws.length:=by rw [e,List.length_append]
 by_cases h2:i < us.length
 ·have e0:r.ft[i] = us[i]:=by simp only [e]; exact List.getElem_append_left h2
  exact .inl ⟨h2,e0,by rw [e0]; exact h.w _ (List.getElem_mem _)⟩
 ·refine .inr ⟨by omega,hw _ ?_⟩
  have:r.ft[i] = ws[i - us.length]'(by omega):=by simp only [e]; exact List.getElem_append_right (by omega)
  rw [this]; exact List.getElem_mem _
theorem Lnd.le {r:Te} {us:List Tc} (h:Lnd r us):us.length <= r.ft.length:=by
 obtain ⟨ws,e,_⟩:=h.all
 rw [e,List.length_append]; omega
theorem nU {r:Te} {us:List Tc} (h:Lnd r us) (hn:r.ft.length <= 1000):bh_p FU r = some (us.length:Int):=by
 have hF:=aR
 have hle:=h.le
 have hh:=ap (B:=bh_l1 FU r) (fun i:Nat=>r.ft.length - i) (fun i=>i <= us.length) (fun y=>y = us.length) ?_ FU 0 (Nat.zero_le _) (by omega)
 ·obtain ⟨y,e,rfl⟩:=hh
  unfold bh_p jn
  simp only
  rw [e,aa]
 ·intro i J hi hJ
  unfold bh_l1
  simp only
  by_cases h0:i < r.ft.length
  ·rw [if_pos h0,geE h0,aa]
   rcases h.at h0 with ⟨h2,_,hw⟩ | ⟨h2,hw⟩
   ·rw [if_neg (by rw [hw]; decide)]
    exact hJ (i + 1) h2 (by omega)
   ·rw [if_pos hw]
    exact ⟨_,I,by omega⟩
  ·rw [if_neg h0]
   exact ⟨_,I,by omega⟩
def dh (p:List Int) (n:Nat) (k:Int):Prop:=p.length = n/\bW p k
theorem gm (e:Int):au_p FU false e = some (.ok ()):=rfl
theorem jX:au_p FU true 220 = some (.error ⟨220⟩):=rfl
theorem jN {l:List Int} {k:Int} (hk:0 <= k) (hn:l.Nodup) (h:∀ x ∈ l,0 <= x/\x < k) (hl:(l.length:Int) = k):∀ d,0 <= d -> d < k -> d ∈ l:=fun d d0 d1=>by
 refine Classical.byContradiction fun hd=>?_
 have h2:((List.range k.toNat).map fun i:Nat=>(i:Int)).Nodup:=by
  unfold List.Nodup
  exact List.Pairwise.map _ (fun a b hab=>by omega) List.nodup_range
 have h3:(d :: l).length <= ((List.range k.toNat).map fun i:Nat=>(i:Int)).length:=(List.nodup_cons.2 ⟨hd,hn⟩).length_le_of_subset fun x hx=>by
  have hx2:0 <= x/\x < k:=by
   rcases List.mem_cons.1 hx with rfl | hx
   ·exact ⟨d0,d1⟩
   ·exact h x hx
  exact List.mem_map.2 ⟨x.toNat,List.mem_range.2 (by omega),by omega⟩
 rw [leC,List.length_map,List.length_range] at h3
 omega
theorem used_eq (r:Te) (p:List Int) (k:Int) (hl:p.length <= 1000):∃ y,aj (al_l1 FU p ⟨r,k⟩) FU (0,[]) = some y/\((∃ D:List (Int × Bool),y = .inr D/\(∀ x ∈ p,0 <= x/\x < k)/\(D.map Prod.fst).Nodup/\∀ x,x ∈ D.map Prod.fst ↔ x ∈ p) ∨ y = .inl (.error ⟨220⟩)/\¬ ∀ x ∈ p,0 <= x/\x < k):=by
 have hF:=aR
 refine ap (B:=al_l1 FU p ⟨r,k⟩) (fun s:Nat × List (Int × Bool)=>p.length - s.1) (fun s=>s.1 <= p.length/\(∀ x ∈ p.take s.1,0 <= x/\x < k)/\(s.2.map Prod.fst).Nodup/\∀ x,x ∈ s.2.map Prod.fst ↔ x ∈ p.take s.1) _ ?_ FU (0,[]) ⟨by simp,by simp,by simp,by simp⟩ (by simp only; omega)
 rintro ⟨i,D⟩ J ⟨a1,a0,a2,a3⟩ hJ
 simp only at a0 a1 a2 a3 hJ
 unfold al_l1
 simp only
 by_cases hi:i < p.length
 ·rw [if_pos hi,geE hi,aa]
  by_cases hx:0 <= p[i]/\p[i] < k
  ·rw [if_neg (by omega),decide_eq_false (by omega),gm, aa]
   unfold exc
   simp only
   refine hJ _ ⟨hi,fun x hx2=>?_,?_,fun x=>?_⟩ (by simp only; omega)
   ·simp only at hx2
    rw [List.take_succ_eq_append_getElem hi,List.mem_append,List.mem_singleton] at hx2
    rcases hx2 with hx2 | rfl
    ·exact a0 x hx2
    ·exact hx
   ·simp only
    rw [eS]
    split
    ·exact a2
    ·rename_i h5
     rw [List.nodup_append]
     exact ⟨a2,by simp,fun a ha b hb=>by rw [List.mem_singleton.1 hb]; exact fun e=>h5 (e ▸ ha)⟩
   ·simp only
    rw [eS,<- List.take_append_getElem hi,List.mem_append,<- a3 x,List.mem_singleton]
    split
    ·rename_i h5
     constructor
     ·exact .inl
     ·rintro (h6 | rfl)
      ·exact h6
      ·exact h5
    ·rw [List.mem_append,List.mem_singleton]
  ·have hbad:¬ ∀ x ∈ p,0 <= x/\x < k:=fun h=>hx (h _ (List.getElem_mem _))
   by_cases h1:p[i] < 0
   ·rw [if_pos h1,jX,aa]
    exact ⟨_,I,.inr ⟨I,hbad⟩⟩
   ·rw [if_neg h1,decide_eq_true (by omega),jX,aa]
    exact ⟨_,I,.inr ⟨I,hbad⟩⟩
 ·rw [if_neg hi]
  rw [List.take_of_length_le (by omega)] at a0 a3
  exact ⟨_,I,.inl ⟨D,I,a0,a2,a3⟩⟩
open Classical in
theorem mb (r:Te) (p:List Int) (k:Int) (hk:1 <= k) (hl:p.length <= 1000):(thn (aj (al_l1 FU p ⟨r,k⟩) FU (0,[])) (fun D443=>(au_p FU (!(decide (((D443.length:Nat):Int) = k))) (220:Int)).bind fun y497=>exc y497 (fun _=>some (Except.ok ())) (fun e498=>some (.error e498)))) = some (if bW p k then .ok () else .error ⟨220⟩):=by
 obtain ⟨y,e,hy⟩:=used_eq r p k hl
 rw [e]
 rcases hy with ⟨D,rfl,h1,h2,h3⟩ | ⟨rfl,h1⟩
 ·unfold thn
  simp only
  by_cases hD:(D.length:Int) = k
  ·rw [decide_eq_true hD]
   have hp:bW p k:=⟨h1,fun d d0 d1=>(h3 d).1 (jN (by omega) h2 (fun x hx=>h1 x ((h3 x).1 hx)) (by rw [List.length_map]; exact hD) d d0 d1)⟩
   rw [if_pos hp]; rfl
  ·rw [decide_eq_false hD]
   have hp:¬ bW p k:=fun hp=>hD (by
    have:=mP (l:=D.map Prod.fst) (k:=k) (by omega) h2 fun x=>by
     rw [h3 x]; exact ⟨fun hx=>hp.1 x hx,fun hx=>hp.2 x hx.1 hx.2⟩
    rwa [List.length_map] at this)
   rw [if_neg hp]; rfl
 ·have hp:¬ bW p k:=fun hp=>h1 hp.1
  rw [if_neg hp]; rfl
open Classical in
theorem nr {r:Te} {us:List Tc} (h:Lnd r us) (hn:r.ft.length <= 1000) (p:List Int) (k:Int) (hk:1 <= k) (hl:p.length <= 1000):al_p FU ⟨r,k⟩ p = some (if dh p us.length k then .ok () else .error ⟨220⟩):=by
 have hF:=aR
 have hle:=h.le
 have lab:=mb r p k hk hl
 have tailOk:∀ z:Int,z = us.length -> ((au_p FU (!(decide (((p.length:Nat):Int) = z))) (220:Int)).bind fun y182=>exc y182 (fun _=>thn (aj (al_l1 FU p ⟨r,k⟩) FU (0,([]:List (Int × Bool)))) (fun D265=>(au_p FU (!(decide (((D265.length:Nat):Int) = k))) (220:Int)).bind fun y319=>exc y319 (fun _=>some (Except.ok ())) (fun e320=>some (.error e320)))) (fun e183=>some (.error e183))) = some (if dh p us.length k then .ok () else .error ⟨220⟩):=by
  rintro z rfl
  by_cases hz:((p.length:Nat):Int) = us.length
  ·rw [decide_eq_true hz]
   simp only [Bool.not_true]
   rw [gm, aa]
   unfold exc
   simp only
   refine lab.trans ?_
   by_cases hp:bW p k
   ·rw [if_pos hp,if_pos ⟨by omega,hp⟩]
   ·rw [if_neg hp,if_neg fun hf:dh p us.length k=>hp hf.2]
  ·rw [decide_eq_false hz,if_neg fun hf:dh p us.length k=>hz (by rw [hf.1])]
   rfl
 have hh:=ap (B:=al_l3 FU ⟨r,k⟩ p) (fun s:Nat × Int=>r.ft.length - s.1) (fun s=>s.1 <= us.length/\s.2 = s.1) (fun y=>y = .inl (if dh p us.length k then .ok () else .error ⟨220⟩) ∨ y = .inr (us.length:Int)) ?_ FU (0,0) ⟨by simp,by simp⟩ (by simp only; omega)
 ·obtain ⟨y,e,hy⟩:=hh
  unfold al_p
  rw [e]
  rcases hy with rfl | rfl
  ·rfl
  ·exact tailOk _ I
 ·rintro ⟨i,z⟩ J ⟨a1,a2⟩ hJ
  simp only at a1 a2 hJ
  subst a2
  unfold al_l3
  simp only
  by_cases hi:i < r.ft.length
  ·rw [if_pos hi,geE hi,aa]
   rcases h.at hi with ⟨h2,_,hw⟩ | ⟨h2,hw⟩
   ·rw [if_neg (by rw [hw]; decide),az (by omega) (by omega),aa]
    exact hJ _ ⟨by simp only; omega,by simp only; omega⟩ (by simp only; omega)
   ·rw [if_pos hw]
    refine ⟨.inl (if dh p us.length k then .ok () else .error ⟨220⟩),?_,.inl I⟩
    exact congrArg (Option.map _) (tailOk (i:Int) (by omega))
  ·rw [if_neg hi]
   exact ⟨_,rfl,.inr (by rw [show i = us.length by omega])⟩
open Classical in
theorem fU {r:Te} (hS:∀ u ∈ r.ft,Sm4 u) (p:List Int) (k:Int) (hk:1 <= k) (hk8:k <= 8) (hl:p.length <= 1000) (us:List Tc) (hL:RV r -> Lnd r us):dw_p FU r p k = some (if RV r then if dh p us.length k then 0 else 220 else 161):=by
 unfold dw_p dp_p dn_p
 rw [jc r hS,aa]
 by_cases hv:RV r
 ·have hn:=hv.n
  rw [if_pos hv,if_pos hv]
  unfold de_p
  rw [if_pos I,aa]
  unfold exc
  simp only
  rw [if_neg (by omega),decide_eq_false (by omega),gm, aa]
  simp only
  rw [aa]
  simp only
  rw [nr (hL hv) (by omega) p k hk hl]
  by_cases hf:dh p us.length k
  ·rw [if_pos hf,if_pos hf]; rfl
  ·rw [if_neg hf,if_neg hf]; rfl
 ·rw [if_neg hv,if_neg hv]
  rfl
open Classical in
theorem fits_eq (p:List Int) (n:Nat) (k:Int) (hk:1 <= k) (hk8:k <= 8) (hn:n <= 1000):aK_p FU p (n:Int) k = some (decide (dh p n k)):=by
 have hF:=aR
 unfold aK_p
 by_cases hl:((p.length:Nat):Int) = n
 ·rw [if_pos hl,show mk k false = some (List.replicate k.toNat false) from if_pos ⟨by omega,by omega⟩,aa]
  have hh:=ap (B:=aK_l2 FU n p k) (fun s:Int × List Bool=>n - s.1.toNat) (fun s=>0 <= s.1/\s.1 <= n/\s.2.length = k.toNat/\(∀ x ∈ p.take s.1.toNat,0 <= x/\x < k)/\∀ d (hd:d < s.2.length),s.2[d] = true ↔ (d:Int) ∈ p.take s.1.toNat)
   (fun y=>(∃ xs:List Bool,y = .inr xs/\xs.length = k.toNat/\(∀ x ∈ p,0 <= x/\x < k)/\∀ d (hd:d < xs.length),xs[d] = true ↔ (d:Int) ∈ p) ∨ y = .inl false/\¬ ∀ x ∈ p,0 <= x/\x < k) ?_ FU (0,List.replicate k.toNat false) ⟨by simp,by simp,by simp,by simp,by simp⟩ (by simp only; omega)
  ·obtain ⟨y,e,hy⟩:=hh
   rw [e]
   rcases hy with ⟨xs,rfl,x1,x2,x3⟩ | ⟨rfl,hb⟩
   ·have hh2:=ap (B:=aK_l1 FU k xs) (fun z:Int=>9 - z.toNat) (fun z=>0 <= z/\z <= k/\∀ d,0 <= d -> d < z -> d ∈ p) (fun y=>y = .inr ()/\bW p k ∨ y = .inl false/\¬ bW p k) ?_ FU 0 ⟨by omega,by omega,fun d h1 h2=>by omega⟩ (by omega)
    ·obtain ⟨y,e2,hy⟩:=hh2
     unfold thn
     simp only
     rw [e2]
     rcases hy with ⟨rfl,hp⟩ | ⟨rfl,hp⟩
     ·rw [decide_eq_true (show dh p n k from ⟨by omega,hp⟩)]
     ·rw [decide_eq_false fun hf:dh p n k=>hp hf.2]
    ·rintro z J ⟨z0,z1,z2⟩ hJ
     unfold aK_l1
     simp only
     by_cases hz:z < k
     ·have hzx:z.toNat < xs.length:=by omega
      have hiff:=x3 z.toNat hzx
      rw [show ((z.toNat:Nat):Int) = z by omega] at hiff
      rw [if_pos hz,aS z0 hzx,aa]
      by_cases hb:xs[z.toNat] = true
      ·rw [if_pos hb,az (by omega) (by omega),aa]
       refine hJ _ ⟨by omega,by omega,fun d d0 d1=>?_⟩ (by omega)
       by_cases e:d = z
       ·rw [e]; exact hiff.1 hb
       ·exact z2 d d0 (by omega)
      ·rw [if_neg hb]
       exact ⟨_,I,.inr ⟨I,fun hp=>hb (hiff.2 (hp.2 z z0 hz))⟩⟩
     ·rw [if_neg hz]
      exact ⟨_,I,.inl ⟨I,x2,fun d d0 d1=>z2 d d0 (by omega)⟩⟩
   ·rw [decide_eq_false fun hf:dh p n k=>hb hf.2.1]; rfl
  ·rintro ⟨z,xs⟩ J ⟨z0,z1,a1,a2,a3⟩ hJ
   simp only at z0 z1 a1 a2 a3 hJ
   obtain ⟨i,rfl⟩:∃ i:Nat,z = (i:Int):=⟨z.toNat,by omega⟩
   simp only [Int.toNat_natCast] at a2 a3 hJ
   unfold aK_l2
   simp only
   by_cases hi:(i:Int) < n
   ·have hip:i < p.length:=by omega
    rw [if_pos hi,aS (by omega) (by rw [Int.toNat_natCast]; exact hip),aa]
    simp only [Int.toNat_natCast]
    by_cases hx:0 <= p[i]/\p[i] < k
    ·have hpx:p[i].toNat < xs.length:=by omega
     rw [if_neg (by omega),if_neg (by omega),aS hx.1 hpx,aa,aP _ hpx,aa,az (by omega) (by omega),aa]
     refine hJ _ ⟨by simp only; omega,by simp only; omega,by simpa using a1,?_,?_⟩ (by simp only; omega)
     ·simp only
      rw [show ((i:Int) + 1).toNat = i + 1 by omega,List.take_succ_eq_append_getElem hip]
      intro x hx2
      rw [List.mem_append,List.mem_singleton] at hx2
      rcases hx2 with hx2 | rfl
      ·exact a2 x hx2
      ·exact hx
     ·simp only
      rw [show ((i:Int) + 1).toNat = i + 1 by omega,List.take_succ_eq_append_getElem hip]
      intro d hd
      rw [List.length_set] at hd
      rw [List.getElem_set,List.mem_append,List.mem_singleton]
      by_cases e:p[i].toNat = d
      ·rw [if_pos e]; exact ⟨fun _=>.inr (by omega),fun _=>rfl⟩
      ·rw [if_neg e,a3 d hd]
       exact ⟨.inl,fun h=>h.elim id fun h=>absurd h (by omega)⟩
    ·have hbad:¬ ∀ x ∈ p,0 <= x/\x < k:=fun h=>hx (h _ (List.getElem_mem _))
     by_cases h1:p[i] < 0
     ·rw [if_pos h1]; exact ⟨_,rfl,.inr ⟨rfl,hbad⟩⟩
     ·rw [if_neg h1,if_pos (by omega)]; exact ⟨_,rfl,.inr ⟨rfl,hbad⟩⟩
   ·rw [if_neg hi]
    rw [List.take_of_length_le (by omega)] at a2 a3
    exact ⟨_,I,.inl ⟨xs,I,a1,a2,a3⟩⟩
 ·rw [if_neg hl,decide_eq_false fun hf:dh p n k=>hl (by rw [hf.1])]
open Classical in
theorem cT {r:Te} (hS:∀ u ∈ r.ft,Sm4 u) (p:List Int) (k:Int) (hk:1 <= k) (hk8:k <= 8) (us:List Tc) (hL:RV r -> Lnd r us):ce_p FU r p k = some (if RV r then if dh p us.length k then 0 else 220 else 161):=by
 unfold ce_p cA_p
 rw [dR r hS,aa]
 by_cases hv:RV r
 ·have hn:=hv.n
  have hle:=(hL hv).le
  rw [if_pos hv,if_pos hv,if_pos I,if_neg (by omega),if_neg (by omega),aa,if_pos I]
  unfold cY_p cX_p
  rw [dR r hS,if_pos hv,aa,if_pos I,nU (hL hv) (by omega),aa,aa,aa,fits_eq p us.length k hk hk8 (by omega),aa]
  by_cases hf:dh p us.length k
  ·rw [if_pos (decide_eq_true hf),if_pos hf]
  ·rw [if_neg (by simpa using hf),if_neg hf]
 ·rw [if_neg hv,if_neg hv,if_neg (by decide),aa,if_neg (by decide)]
set_option maxRecDepth 8000
structure D0 (r:Te):Prop where
 n:r.ft.length <= 13
 s:∀ u ∈ r.ft,Sm4 u
 k:∀ u ∈ r.ft,u.fE.length <= 100/\u.fh.length <= 100
 q:∀ u ∈ r.ft,∀ x ∈ u.fC,0 <= x/\x <= 2
theorem nI (d:Tl) (z:Int) (h0:0 <= z) (h1:z <= 100):∃ l,aj (ab_l1 FU d z) FU (0,[]) = some l/\l.length = (d.fj % 3).toNat/\∀ x ∈ l,0 <= x/\x <= 2:=by
 have hF:=aR
 have hk:(d.fj % 3).toNat < 3:=by rw [UInt8.toNat_mod]; exact Nat.mod_lt _ (by decide)
 refine ap (B:=ab_l1 FU d z) (fun s:Nat × List Int=>3 - s.1) (fun s=>s.1 <= (d.fj % 3).toNat/\s.2.length = s.1/\∀ x ∈ s.2,0 <= x/\x <= 2) _ ?_ FU (0,[]) ⟨by simp,rfl,by simp⟩ (by simp only; omega)
 rintro ⟨i,xs⟩ J ⟨a1,a2,a3⟩ hJ
 simp only at a1 a2 a3 hJ
 unfold ab_l1
 simp only
 split
 ·rename_i hi
  obtain ⟨y,e,y0,y1⟩:=kU FU d (9 * z + 7 + i) (by omega)
  rw [az (by omega) (by omega),aa,az (by omega) (by omega),aa,az (by omega) (by omega),aa,e,aa,bM (by decide),aa,bg _ _ (by simp only [leC,leN]; omega),aa]
  refine hJ _ ⟨by simp only; omega,by simp only [List.length_append,leC,leN]; omega,fun x hx=>?_⟩ (by simp only; omega)
  rcases List.mem_append.1 hx with hx | hx
  ·exact a3 x hx
  ·rw [List.mem_singleton.1 hx,Int.tmod_eq_emod_of_nonneg y0]
   have a1:=Int.emod_nonneg y (b:=(3:Int)) (by omega)
   have a2:=Int.emod_lt_of_pos y (b:=(3:Int)) (by omega)
   omega
 ·exact ⟨_,I,by omega,a3⟩
theorem name12 (i:Nat) (h:i < 13):(nD ⟨#[117]⟩ (bstr ([aN (97 + (i:Int)),aN (97 + 0)]:List UInt8))) = some (nm i):=by
 have:aN (97 + (i:Int)) = UInt8.ofNat (97 + i):=by unfold aN; congr 1; omega
 rw [this]; rfl
theorem nm_ns {i:Nat} (h:i < 13):nm i ∈ NS:=List.mem_cons_of_mem _ (List.mem_map.2 ⟨i,List.mem_range.2 h,rfl⟩)
def Du (u:Tc):Prop:=Sm4 u/\(u.fE.length <= 100/\u.fh.length <= 100)/\∀ x ∈ u.fC,0 <= x/\x <= 2
theorem ky (d:Tl) (m:Nat) (h2:m <= 12):∃ r,ab_p FU d m = some r/\D0 r/\r.fj = ((d.fj % 3).toNat:Int):=by
 have hF:=aR
 have hG:(d.fh % 3).toNat < 3:=by rw [UInt8.toNat_mod]; exact Nat.mod_lt _ (by decide)
 have hP:(d.fc % 4).toNat < 4:=by rw [UInt8.toNat_mod]; exact Nat.mod_lt _ (by decide)
 have hL:(d.fj % 3).toNat < 3:=by rw [UInt8.toNat_mod]; exact Nat.mod_lt _ (by decide)
 have hW:(d.fu % 2).toNat < 2:=by rw [UInt8.toNat_mod]; exact Nat.mod_lt _ (by decide)
 have hh:=ap (B:=ab_l3 FU (m:Int) d) (fun s:Int × List Tc=>13 - s.1.toNat) (fun s=>0 <= s.1/\s.1 <= m/\(s.2.length:Int) = s.1/\∀ u ∈ s.2,Du u)
  (fun us=>us.length = m/\∀ u ∈ us,Du u) ?_ FU (0,[]) ⟨by simp,by simp,by simp,fun u h=>by cases h⟩ (by simp only; omega)
 ·obtain ⟨us,e,u1,u2⟩:=hh
  have hs:=ap (B:=ab_l2 FU d) (fun s:Nat × List Tc=>2 - s.1) (fun s=>s.1 <= (d.fu % 2).toNat/\s.2.length = m + s.1/\∀ u ∈ s.2,Du u)
   (fun all=>all.length <= m + 1/\∀ u ∈ all,Du u) ?_ FU (0,us) ⟨by simp,u1,u2⟩ (by simp only; omega)
  ·obtain ⟨all,e2,ha,hd⟩:=hs
   refine ⟨⟨(d.fh % 3).toNat,(d.fc % 4).toNat,(d.fj % 3).toNat,all⟩,?_,⟨by simp only; omega,fun u hu=>(hd u hu).1,fun u hu=>(hd u hu).2.1,fun u hu=>(hd u hu).2.2⟩,rfl⟩
   unfold ab_p
   rw [e,aa,e2,aa]
  ·rintro ⟨i,xs⟩ J ⟨a1,a2,a3⟩ hJ
   simp only at a1 a2 a3 hJ
   unfold ab_l2
   simp only
   split
   ·rename_i hi
    rw [cu _ _ (by omega),aa,cu _ _ (by omega),aa,cu _ _ (by omega),aa,bg _ _ (by simp only [leC,leN]; omega),aa]
    refine hJ _ ⟨by simp only; omega,by simp only [List.length_append,leC,leN]; omega,fun u hu=>?_⟩ (by simp only; omega)
    rcases List.mem_append.1 hu with hu | hu
    ·exact a3 u hu
    ·rw [List.mem_singleton.1 hu]
     refine ⟨⟨List.mem_cons_self ..,?_,?_,?_⟩,⟨?_,?_⟩,fun x hx=>?_⟩
     ·simp only [List.length_replicate]; omega
     ·simp only [List.length_replicate]; omega
     ·simp only [List.length_replicate]; omega
     ·simp only [List.length_replicate]; omega
     ·simp only [List.length_replicate]; omega
     ·rw [List.eq_of_mem_replicate hx]; omega
   ·exact ⟨_,I,by omega,a3⟩
 ·rintro ⟨z,xs⟩ J ⟨a1,a2,a3,a4⟩ hJ
  simp only at a1 a2 a3 a4 hJ
  unfold ab_l3
  simp only
  split
  ·rename_i hz
   obtain ⟨i,rfl⟩:∃ i:Nat,z = i:=⟨z.toNat,by omega⟩
   have t1:Int.tmod (i:Int) 26 = i:=by rw [Int.tmod_eq_emod_of_nonneg (by omega)]; omega
   have t2:Int.tdiv (i:Int) 26 = 0:=by rw [Int.tdiv_eq_ediv_of_nonneg (by omega)]; omega
   obtain ⟨y,e,y0,y1⟩:=kU FU d (9 * (i:Int)) (by omega)
   obtain ⟨g,eg,g1,g2⟩:=jI FU d ((d.fh % 3).toNat:Nat) (9 * (i:Int) + 1) y (by omega) (by omega) (by omega) (by omega) y0 (by omega)
   obtain ⟨v,ev,v1,v2⟩:=jI FU d ((d.fc % 4).toNat:Nat) (9 * (i:Int) + 3) 255 (by omega) (by omega) (by omega) (by omega) (by omega) (by omega)
   obtain ⟨q,eq,q1,q2⟩:=nI d (i:Int) (by omega) (by omega)
   rw [bM (by decide),aa,t1,az (by omega) (by omega),aa]
   unfold cj
   rw [if_neg (by decide),t2,az (by omega) (by omega),aa,bM (by decide),aa,show Int.tmod 0 26 = 0 from I,az (by omega) (by omega),aa,az (by omega) (by omega),aa,e,aa,name12 i (by omega)]
   simp only [aa]
   rw [az (by omega) (by omega)]
   simp only [aa,eg]
   rw [az (by omega) (by omega)]
   simp only [aa,ev,eq]
   rw [bg _ _ (by simp only [leC,leN]; omega)]
   simp only [aa]
   try rw [az (by omega) (by omega),aa]
   refine hJ _ ⟨by simp only; omega,by simp only; omega,by simp only [List.length_append,leC,leN]; omega,fun u hu=>?_⟩ (by simp only; omega)
   rcases List.mem_append.1 hu with hu | hu
   ·exact a4 u hu
   ·rw [List.mem_singleton.1 hu]
    exact ⟨⟨nm_ns (by omega),by simp only; omega,by simp only; omega,by simp only; omega⟩,⟨by simp only; omega,by simp only; omega⟩,q2⟩
  ·exact ⟨_,I,by omega,a4⟩
theorem nQ (a n:Nat) (hn:0 < n):∃ j:Nat,j < n/\ca (a:Int) (n:Int) = some (j:Int):=by
 refine ⟨a % n,Nat.mod_lt _ hn,?_⟩
 rw [bM (by omega),Int.tmod_eq_emod_of_nonneg (by omega)]
 rfl
theorem kn {α:Type} {xs:List α} {j:Nat} (h:j < xs.length):idx xs (j:Int) = some xs[j]:=aS (i:=(j:Int)) (by omega) h
structure Dn (r:Te):Prop where
 n:r.ft.length <= 13
 s:∀ u ∈ r.ft,Sm4 u
theorem D0.dn {r:Te} (h:D0 r):Dn r:=⟨h.n,h.s⟩
theorem Dn.set {r:Te} (h:Dn r) (j:Nat) {u:Tc} (hs:Sm4 u):Dn ⟨r.fh,r.fc,r.fj,r.ft.set j u⟩:=
 ⟨by rw [List.length_set]; exact h.n,fun v hv=>(List.mem_or_eq_of_mem_set hv).elim (h.s v) fun e=>by rw [e]; exact hs⟩
theorem bend_ok (b:Tn) {r:Te} (h:D0 r):∃ r', ci_p FU b r = some r' /\Dn r' :=by
 have hn:=h.n
 unfold ci_p
 rw [bg _ _ (by simp only [leN]; omega),aa,List.nil_append]
 by_cases hz:r.ft.length = 0
 ·rw [if_pos hz]
  exact ⟨_,I,h.dn⟩
 obtain ⟨j,hj,e⟩:=nQ b.fB.toNat r.ft.length (by omega)
 have hm:=List.getElem_mem hj
 have hs:=h.s _ hm
 have hk:=h.k _ hm
 rw [if_neg hz,e,aa,kn hj,aa,Int.toNat_natCast]
 by_cases c0:(b.fG % (7:UInt8)).toNat = 0
 ·rw [if_pos c0,aP _ hj,aa]
  exact ⟨_,I,h.dn.set j ⟨hs.n,hs.g,hs.v,hs.q⟩⟩
 rw [if_neg c0]
 by_cases c1:(b.fG % (7:UInt8)).toNat = 1
 ·rw [if_pos c1,bg _ _ (by simp only [leC,leN]; omega),aa,aP _ hj,aa]
  exact ⟨_,rfl,h.dn.set j ⟨hs.n,hs.g,by simp only [List.length_append,leC,leN]; omega,hs.q⟩⟩
 rw [if_neg c1]
 by_cases c2:(b.fG % (7:UInt8)).toNat = 2
 ·rw [if_pos c2,bg _ _ (by simp only [leN]; omega),aa,List.nil_append,bg _ _ (by simp only [leC,leN]; omega),aa,aP _ hj,aa]
  exact ⟨_,rfl,h.dn.set j ⟨hs.n,by simp only [List.length_append,leC,leN]; omega,hs.v,hs.q⟩⟩
 rw [if_neg c2]
 by_cases c3:(b.fG % (7:UInt8)).toNat = 3
 ·rw [if_pos c3,aP _ hj,aa]
  exact ⟨_,I,h.dn.set j ⟨hs.n,hs.g,hs.v,hs.q⟩⟩
 rw [if_neg c3]
 by_cases c4:(b.fG % (7:UInt8)).toNat = 4
 ·have h00:0 < r.ft.length:=by omega
  rw [if_pos c4,geE h00,aa,aP _ hj,aa]
  exact ⟨_,I,h.dn.set j ⟨(h.s _ (List.getElem_mem h00)).n,hs.g,hs.v,hs.q⟩⟩
 rw [if_neg c4]
 by_cases c5:(b.fG % (7:UInt8)).toNat = 5
 ·rw [if_pos c5]
  exact ⟨_,I,hn,h.s⟩
 rw [if_neg c5,aP _ hj,aa]
 exact ⟨_,rfl,h.dn.set j ⟨hs.n,hs.g,hs.v,by simp only [leC,leN]; omega⟩⟩
theorem bendP (b:Tn) {p:List Int} (h1:1 <= p.length) (h2:p.length <= 9):∃ q,cj_p FU b p = some q/\q.length <= 10:=by
 unfold cj_p
 rw [bg _ _ (by simp only [leN]; omega),aa,List.nil_append]
 by_cases c0:(b.fG % (4:UInt8)).toNat = 0
 ·obtain ⟨j,hj,e⟩:=nQ b.fB.toNat p.length (by omega)
  rw [if_pos c0,e,aa,kn hj,aa,Int.toNat_natCast,aP _ hj,aa]
  exact ⟨_,rfl,by rw [List.length_set]; omega⟩
 rw [if_neg c0]
 by_cases c1:(b.fG % (4:UInt8)).toNat = 1
 ·rw [if_pos c1,bg _ _ (by simp only [leC,leN]; omega),aa]
  exact ⟨_,rfl,by simp only [List.length_append,leC,leN]; omega⟩
 rw [if_neg c1]
 by_cases c2:(b.fG % (4:UInt8)).toNat = 2
 ·rw [if_pos c2,show ((p.length:Nat):Int) - 1 = ((p.length - 1:Nat):Int) by omega,jt (by omega),aa]
  exact ⟨_,rfl,by rw [List.length_take]; omega⟩
 rw [if_neg c2]
 exact ⟨_,I,by omega⟩
def dv:List Int -> Nat
 | []=>0
 | x :: xs=>x.toNat + 4294967296 * dv xs
def Dig (xs:List Int):Prop:=∀ x ∈ xs,0 <= x/\x < 4294967296
theorem ee:Dig []:=fun x hx=>by cases hx
theorem gx (xs ys:List Int):dv (xs ++ ys) = dv xs + 4294967296 ^ xs.length * dv ys:=by
 induction xs with
 | nil=>simp [dv]
 | cons x xs ih=>simp only [List.cons_append,dv,ih,leC,Nat.pow_succ]; grind
theorem Dig.tl {x:Int} {xs:List Int} (h:Dig (x :: xs)):Dig xs:=fun y hy=>h y (List.mem_cons_of_mem _ hy)
theorem cz:∀ {xs:List Int},Dig xs -> dv xs < 4294967296 ^ xs.length
 | [],_=>by simp [dv]
 | x :: xs,h=>by
  have h1:=h x (List.mem_cons_self ..)
  have h2:4294967296 * (dv xs + 1) <= 4294967296 * 4294967296 ^ xs.length:=Nat.mul_le_mul_left _ (cz h.tl)
  simp only [dv,leC,Nat.pow_succ]
  rw [Nat.mul_comm (_ ^ _)]
  omega
theorem bN (a:List Int) {i:Nat} (h:i < a.length):dv (a.take (i + 1)) = dv (a.take i) + 4294967296 ^ i * a[i].toNat:=by
 rw [<- List.take_append_getElem h,gx,List.length_take,Nat.min_eq_left (Nat.le_of_lt h)]
 simp [dv]
theorem eH (b:List Int) (i:Nat):dv (b.take (i + 1)) = dv (b.take i) + 4294967296 ^ i * (b[i]?.getD 0).toNat:=by
 by_cases h:i < b.length
 ·rw [bN b h,geE h]; rfl
 ·rw [bn (by omega),bn (by omega),List.getElem?_eq_none (by omega)]; simp
theorem gQ (a:List Int) {i:Nat} (h:i < a.length):dv a = dv (a.take i) + 4294967296 ^ i * a[i].toNat + 4294967296 ^ (i + 1) * dv (a.drop (i + 1)):=by
 conv=>lhs; rw [<- List.take_append_drop (i + 1) a,gx]
 rw [bN a h,List.length_take,Nat.min_eq_left (by omega)]
theorem kZ:∀ {xs:List Int} {j:Nat} (v:Int) (h:j < xs.length),dv (xs.set j v) + 4294967296 ^ j * xs[j].toNat = dv xs + 4294967296 ^ j * v.toNat
 | x :: xs,0,v,_=>by simp only [List.set_cons_zero,dv,List.getElem_cons_zero,Nat.pow_zero]; omega
 | x :: xs,j + 1,v,h=>by
  have:=kZ (xs:=xs) (j:=j) v (by simpa using h)
  simp only [List.set_cons_succ,dv,List.getElem_cons_succ,Nat.pow_succ]
  grind
theorem eG:∀ (xs:List Int),(∀ x ∈ xs,x = 0) -> dv xs = 0
 | [],_=>rfl
 | x :: xs,h=>by
  have h1:=h x (List.mem_cons_self ..)
  have h2:=eG xs fun y hy=>h y (List.mem_cons_of_mem _ hy)
  subst h1; simp [dv,h2]
def rd (m:Nat):List Int:=if m = 0 then [] else ((m % 4294967296:Nat):Int) :: rd (m / 4294967296)
termination_by m
decreasing_by exact Nat.div_lt_self (by omega) (by omega)
theorem rd0:rd 0 = []:=by unfold rd; simp
theorem iB {m:Nat} (h:m ≠ 0):rd m = ((m % 4294967296:Nat):Int) :: rd (m / 4294967296):=by rw [rd]; rw [if_neg h]
theorem aM (m:Nat):dv (rd m) = m:=by
 induction m using Nat.strongRecOn with
 | _ m ih=>
  by_cases h:m = 0
  ·subst h; rw [rd0]; rfl
  ·rw [iB h]; simp only [dv]
   rw [ih _ (Nat.div_lt_self (by omega) (by omega)),Int.toNat_natCast]
   exact Nat.mod_add_div m 4294967296
theorem aD (m:Nat):Dig (rd m):=by
 induction m using Nat.strongRecOn with
 | _ m ih=>
  by_cases h:m = 0
  ·subst h; rw [rd0]; intro x hx; cases hx
  ·rw [iB h]
   intro x hx
   rcases List.mem_cons.1 hx with rfl | hx
   ·omega
   ·exact ih _ (Nat.div_lt_self (by omega) (by omega)) x hx
def Nr (xs:List Int):Prop:=∀ x,xs.getLast? = some x -> x ≠ 0
theorem Nr.tail {x y:Int} {xs:List Int} (h:Nr (x :: y :: xs)):Nr (y :: xs):=fun z hz=>h z (by rw [List.getLast?_cons_cons]; exact hz)
theorem jG:∀ {xs:List Int},Dig xs -> Nr xs -> xs ≠ [] -> 4294967296 ^ (xs.length - 1) <= dv xs
 | [],_,_,h=>absurd I h
 | [x],hd,h,_=>by
  have h1:=h x I
  have h2:=hd x (List.mem_cons_self ..)
  simp only [dv,leC,leN]
  show 4294967296 ^ 0 <= _
  rw [Nat.pow_zero]; omega
 | x :: y :: xs,hd,h,_=>by
  have h1:=jG hd.tl h.tail (by simp)
  have h2:4294967296 * 4294967296 ^ xs.length <= 4294967296 * dv (y :: xs):=Nat.mul_le_mul_left _ (by simpa using h1)
  show 4294967296 ^ (xs.length + 1) <= x.toNat + 4294967296 * dv (y :: xs)
  rw [Nat.pow_succ,Nat.mul_comm]; omega
theorem dv_pos {xs:List Int} (hd:Dig xs) (h:Nr xs) (h0:xs ≠ []):0 < dv xs:=by
 have:=jG hd h h0
 have h2:0 < 4294967296 ^ (xs.length - 1):=Nat.pow_pos (by decide)
 omega
theorem nF:∀ {xs:List Int},Dig xs -> Nr xs -> rd (dv xs) = xs
 | [],_,_=>rd0
 | x :: xs,hd,h=>by
  have hp:=dv_pos hd h (by simp)
  have hx:=hd x (List.mem_cons_self ..)
  rw [iB (by omega)]
  have h1:((dv (x :: xs) % 4294967296:Nat):Int) = x:=by simp only [dv]; omega
  have h2:dv (x :: xs) / 4294967296 = dv xs:=by simp only [dv]; omega
  have h3:Nr xs:=by
   cases xs with
   | nil=>intro z hz; simp at hz
   | cons y ys=>exact h.tail
  rw [h1,h2,nF hd.tl h3]
theorem fT (m:Nat):Nr (rd m):=by
 induction m using Nat.strongRecOn with
 | _ m ih=>
  intro x hx
  by_cases h:m = 0
  ·subst h; rw [rd0] at hx; cases hx
  ·rw [iB h] at hx
   by_cases h2:m / 4294967296 = 0
   ·rw [h2,rd0] at hx
    simp at hx
    omega
   ·have h3:=ih (m / 4294967296) (Nat.div_lt_self (by omega) (by omega))
    rw [iB h2] at hx h3
    rw [List.getLast?_cons_cons] at hx
    exact h3 x hx
theorem cx {m l:Nat} (h:m < 4294967296 ^ l):(rd m).length <= l:=by
 by_cases h0:rd m = []
 ·rw [h0]; simp
 ·have h1:=jG (aD m) (fT m) h0
  rw [aM] at h1
  have h2:=Nat.lt_of_le_of_lt h1 h
  have h3:=(Nat.pow_lt_pow_iff_right (by omega)).1 h2
  omega
theorem kC {m:Nat}:rd m = [] ↔ m = 0:=⟨fun h=>by have:=aM m; rw [h] at this; exact this.symm,fun h=>by rw [h]; exact rd0⟩
theorem cJ {a b:Nat} (h:a <= b):(rd a).length <= (rd b).length:=cx (Nat.lt_of_le_of_lt h (by have:=cz (aD b); rwa [aM] at this))
theorem dE (n:Nat) (ws:List Int) (hd:Dig ws) (hn:ws.length < n) (hl:ws.length <= 1000000):az_p n ws = some (rd (dv ws)):=by
 have h:=ap (B:=az_l1 n ws) (fun z:Int=>z.toNat) (fun z=>0 <= z/\z <= ws.length/\∀ i:Nat,z.toNat <= i -> ∀ h:i < ws.length,ws[i] = 0)
  (fun z=>∃ k:Nat,z = k/\k <= ws.length/\(∀ i:Nat,k <= i -> ∀ h:i < ws.length,ws[i] = 0)/\∀ h:0 < k,∀ h2:k - 1 < ws.length,ws[k - 1] ≠ 0) ?_ n (ws.length:Int) ⟨by omega,by omega,fun i h1 h2=>by omega⟩ (by simpa using hn)
 ·obtain ⟨z,hz,k,rfl,hk,hz0,hz1⟩:=h
  have e:dv ws = dv (ws.take k):=by
   conv=>lhs; rw [<- List.take_append_drop k ws,gx]
   rw [eG (ws.drop k) fun x hx=>?_]
   ·simp
   ·obtain ⟨i,hi,rfl⟩:=List.getElem_of_mem hx
    rw [List.getElem_drop]
    exact hz0 _ (by omega) _
  have hnm:Nr (ws.take k):=by
   intro x hx
   rw [List.getLast?_eq_getElem?,List.length_take,Nat.min_eq_left hk] at hx
   obtain ⟨h1,rfl⟩:=List.getElem?_eq_some_iff.1 hx
   have h2:k - 1 < ws.length:=by rw [List.length_take] at h1; omega
   by_cases h0:0 < k
   ·rw [List.getElem_take]; exact hz1 h0 h2
   ·rw [List.length_take] at h1; omega
  have e2:rd (dv ws) = ws.take k:=by rw [e]; exact nF (fun x hx=>hd x (List.mem_of_mem_take hx)) hnm
  unfold az_p jn
  simp only [hz,aa,jt hk,e2]
 ·intro z J ⟨h1,h2,h3⟩ hJ
  unfold az_l1
  simp only
  by_cases h0:0 < z
  ·rw [if_pos h0,az (by omega) (by omega),aa,aS (by omega) (by omega),aa]
   split
   ·rename_i hx
    rw [aa]
    refine hJ (z - 1) ⟨by omega,by omega,fun i h4 h5=>?_⟩ (by omega)
    by_cases h6:i = (z - 1).toNat
    ·subst h6; exact hx
    ·exact h3 i (by omega) h5
   ·rename_i hx
    refine ⟨z,I,z.toNat,by omega,by omega,h3,fun h4 h5=>?_⟩
    have:(z - 1).toNat = z.toNat - 1:=by omega
    simp only [this] at hx
    exact hx
  ·rw [if_neg h0]
   exact ⟨z,I,0,by omega,by omega,fun i h4 h5=>h3 i (by omega) h5,fun h4=>by omega⟩
theorem lJ {a b:List Int} (ha:Dig a) (hbd:Dig b) (hb:Nr b) (h:a.length < b.length):dv a < dv b:=by
 have h1:=cz ha
 have h2:=jG hbd hb (by intro e; rw [e] at h; simp at h)
 have h3:4294967296 ^ a.length <= 4294967296 ^ (b.length - 1):=Nat.pow_le_pow_right (by omega) (by omega)
 omega
theorem kz {a b:List Int} {i:Nat} (hda:Dig a) (hdb:Dig b) (ha:i < a.length) (hb:i < b.length) (hd:a.drop (i + 1) = b.drop (i + 1)) (h:a[i] < b[i]):dv a < dv b:=by
 rw [gQ a ha,gQ b hb,hd]
 have h1:=cz (xs:=a.take i) fun x hx=>hda x (List.mem_of_mem_take hx)
 rw [List.length_take,Nat.min_eq_left (by omega)] at h1
 have h3:=hda a[i] (List.getElem_mem _)
 have h4:=hdb b[i] (List.getElem_mem _)
 have h2:4294967296 ^ i * (a[i].toNat + 1) <= 4294967296 ^ i * b[i].toNat:=Nat.mul_le_mul_left _ (by omega)
 rw [Nat.mul_add] at h2
 omega
theorem gT (n:Nat) (a b:List Int) (hda:Dig a) (hdb:Dig b) (ha:Nr a) (hb:Nr b) (hn:a.length < n) (hl:a.length < 1000000):∃ c,aJ_p n a b = some c/\(c < 0 ↔ dv a < dv b)/\(c = 0 ↔ dv a = dv b):=by
 unfold aJ_p
 by_cases h:a.length = b.length
 ·rw [if_pos h]
  have hh:=ap (B:=aJ_l1 n a b) (fun z:Int=>(z + 1).toNat) (fun z=>-1 <= z/\z < a.length/\a.drop (z + 1).toNat = b.drop (z + 1).toNat)
   (fun r=>(∃ c,r = .inl c/\(c < 0/\dv a < dv b ∨ 0 < c/\dv b < dv a)) ∨ (r = .inr ()/\a = b)) ?_ n ((a.length:Int) - 1) ⟨by omega,by omega,?_⟩ (by omega)
  ·obtain ⟨r,hr,⟨c,h1,h2⟩ | h1⟩:=hh
   ·rw [hr,h1]; exact ⟨_,rfl,by omega,by omega⟩
   ·rw [hr,h1.1,h1.2]; exact ⟨_,rfl,by omega,by omega⟩
  ·intro z J ⟨h1,h2,h3⟩ hJ
   unfold aJ_l1
   simp only
   by_cases h0:0 <= z
   ·have e1:(z + 1).toNat = z.toNat + 1:=by omega
    rw [e1] at h3
    have d1:=hda (a[z.toNat]'(by omega)) (List.getElem_mem _)
    have d2:=hdb (b[z.toNat]'(by omega)) (List.getElem_mem _)
    rw [if_pos h0,aS h0 (by omega),aa,aS h0 (by omega),aa]
    split
    ·rename_i he
     rw [az (by omega) (by omega),aa]
     refine hJ (z - 1) ⟨by omega,by omega,?_⟩ (by omega)
     rw [show (z - 1 + 1).toNat = z.toNat by omega,List.drop_eq_getElem_cons (by omega),List.drop_eq_getElem_cons (l:=b) (by omega),h3,he]
    ·rename_i hne
     rw [az (by omega) (by omega),aa]
     by_cases hlt:a[z.toNat]'(by omega) < b[z.toNat]'(by omega)
     ·exact ⟨_,I,.inl ⟨_,I,.inl ⟨by omega,kz hda hdb (by omega) (by omega) h3 hlt⟩⟩⟩
     ·exact ⟨_,I,.inl ⟨_,I,.inr ⟨by omega,kz hdb hda (by omega) (by omega) h3.symm (by omega)⟩⟩⟩
   ·rw [if_neg h0]
    have e1:(z + 1).toNat = 0:=by omega
    rw [e1] at h3
    exact ⟨_,rfl,.inr ⟨rfl,by simpa using h3⟩⟩
  ·rw [show ((a.length:Int) - 1 + 1).toNat = a.length by omega,List.drop_length,h,List.drop_length]
 ·rw [if_neg h]
  refine ⟨_,I,?_⟩
  by_cases h1:a.length < b.length
  ·have:=lJ hda hdb hb h1; omega
  ·have:=lJ (a:=b) hdb hda ha (by omega); omega
theorem cP {xs:List Int} {x:Int} (h:Dig xs) (hx:0 <= x/\x < 4294967296):Dig (xs ++ [x]):=fun y hy=>(List.mem_append.1 hy).elim (h y) fun e=>by rw [List.mem_singleton.1 e]; exact hx
theorem eD (xs:List Int) (x:Int):dv (xs ++ [x]) = dv xs + 4294967296 ^ xs.length * x.toNat:=by rw [gx]; simp [dv]
theorem gB (n:Nat) (a b:List Int) (hda:Dig a) (hdb:Dig b) (hb:b.length <= a.length) (hv:dv b <= dv a) (hn:a.length < n) (hl:a.length < 100000):ao_p n a b = some (rd (dv a - dv b)):=by
 have h:=ap (B:=ao_l1 n a b) (fun s:Nat × Nat × List Int=>a.length - s.2.1) (fun s=>s.2.1 <= a.length/\s.2.2.length = s.2.1/\s.1 <= 1/\Dig s.2.2/\dv s.2.2 + dv (b.take s.2.1) = dv (a.take s.2.1) + 4294967296 ^ s.2.1 * s.1)
  (fun r:List Int=>r.length = a.length/\Dig r/\dv r = dv a - dv b) ?_ n (0,0,[]) ⟨by simp,by simp,by simp,ee,by simp [dv]⟩ (by simpa using hn)
 ·obtain ⟨xs,h1,h2,h3,h4⟩:=h
  unfold ao_p
  rw [h1,aa,dE n xs h3 (by omega) (by omega),aa,h4]
 ·rintro ⟨u,i,xs⟩ J ⟨h1,h2,h3,h4,h5⟩ hJ
  simp only at h1 h2 h3 h4 h5 hJ
  unfold ao_l1
  simp only
  by_cases hi:i < a.length
  ·have da:=hda a[i] (List.getElem_mem _)
   rw [if_pos hi,geE hi,aa,az (by omega) (by omega),aa]
   have key:∀ y:Int,0 <= y -> y < 4294967296 -> y.toNat = (b[i]?.getD 0).toNat -> ∃ r,(if a[i] - (u:Int) - y < 0 then (chk (a[i] - (u:Int) - y + 4294967296)).bind fun s245=>(app xs ([s245]:List Int)).bind fun xs230=>J (1,i + 1,xs230) else (app xs ([a[i] - (u:Int) - y]:List Int)).bind fun xs230=>J (0,i + 1,xs230)) = some r/\r.length = a.length/\Dig r/\dv r = dv a - dv b:=by
    intro y y0 y1 hy
    split
    ·rename_i hneg
     rw [az (by omega) (by omega),aa,bg _ _ (by simp only [leC,leN]; omega),aa]
     have e:dv (xs ++ [a[i] - (u:Int) - y + 4294967296]) + dv (b.take (i + 1)) = dv (a.take (i + 1)) + 4294967296 ^ (i + 1) * 1:=by
      rw [eD,h2,bN a hi,eH b i,<- hy,Nat.pow_succ]
      have e1:(a[i] - (u:Int) - y + 4294967296).toNat + u + y.toNat = a[i].toNat + 4294967296:=by omega
      have e2:=congrArg (4294967296 ^ i * ·) e1
      simp only [Nat.mul_add] at e2
      omega
     refine hJ (1,i + 1,_) ⟨hi,by simp only [List.length_append,leC,leN]; omega,by simp,cP h4 (by omega),by simpa using e⟩ (by simp only; omega)
    ·rename_i hneg
     rw [bg _ _ (by simp only [leC,leN]; omega),aa]
     have e:dv (xs ++ [a[i] - (u:Int) - y]) + dv (b.take (i + 1)) = dv (a.take (i + 1)) + 4294967296 ^ (i + 1) * 0:=by
      rw [eD,h2,bN a hi,eH b i,<- hy,Nat.mul_zero]
      have e1:(a[i] - (u:Int) - y).toNat + u + y.toNat = a[i].toNat:=by omega
      have e2:=congrArg (4294967296 ^ i * ·) e1
      simp only [Nat.mul_add] at e2
      omega
     refine hJ (0,i + 1,_) ⟨hi,by simp only [List.length_append,leC,leN]; omega,by simp,cP h4 (by omega),by simpa using e⟩ (by simp only; omega)
   unfold jn
   simp only
   by_cases hj:i < b.length
   ·have db:=hdb b[i] (List.getElem_mem _)
    rw [if_pos hj,geE hj,aa,az (by omega) (by omega),aa]
    exact key b[i] db.1 db.2 (by rw [geE hj]; rfl)
   ·rw [if_neg hj]
    have:=key 0 (by decide) (by decide) (by rw [List.getElem?_eq_none (by omega)]; rfl)
    rwa [Int.sub_zero] at this
  ·rw [if_neg hi]
   have:i = a.length:=by omega
   subst this
   rw [List.take_length,bn hb] at h5
   refine ⟨xs,I,h2,h4,?_⟩
   have h6:=cz h4
   rw [h2] at h6
   by_cases hu:u = 0
   ·rw [hu] at h5; omega
   ·have:u = 1:=by omega
    rw [this] at h5; omega
theorem mx (n:Nat) (a:List Int) (bit:Int) (hda:Dig a) (h0:0 <= bit/\bit <= 1) (hn:a.length + 1 < n) (hl:a.length < 100000):bj_p n a bit = some (rd (2 * dv a + bit.toNat)):=by
 have h:=ap (B:=bj_l1 n a) (fun s:Int × Nat × List Int=>a.length - s.2.1) (fun s=>s.2.1 <= a.length/\s.2.2.length = s.2.1/\(0 <= s.1/\s.1 <= 1)/\Dig s.2.2/\dv s.2.2 + 4294967296 ^ s.2.1 * s.1.toNat = 2 * dv (a.take s.2.1) + bit.toNat)
  (fun r:List Int × Int=>r.1.length = a.length/\Dig r.1/\(0 <= r.2/\r.2 <= 1)/\dv r.1 + 4294967296 ^ a.length * r.2.toNat = 2 * dv a + bit.toNat) ?_ n (bit,0,[]) ⟨by simp,by simp,h0,ee,by simp [dv]⟩ (by simp only; omega)
 ·obtain ⟨⟨xs,c⟩,h1,h2,h3,h4,h5⟩:=h
  simp only at h2 h3 h4 h5
  unfold bj_p
  rw [h1,aa]
  simp only
  rw [bg _ _ (by simp only [leC,leN]; omega),aa,dE n _ (cP h3 (by omega)) (by simp only [List.length_append,leC,leN]; omega) (by simp only [List.length_append,leC,leN]; omega),aa,eD,h2,h5]
 ·rintro ⟨c,i,xs⟩ J ⟨h1,h2,h3,h4,h5⟩ hJ
  simp only at h1 h2 h3 h4 h5 hJ
  unfold bj_l1
  simp only
  by_cases hi:i < a.length
  ·have da:=hda a[i] (List.getElem_mem _)
   have q0:Int.tdiv (2 * a[i] + c) 4294967296 = (2 * a[i] + c) / 4294967296:=Int.tdiv_eq_ediv_of_nonneg (by omega)
   have m0:Int.tmod (2 * a[i] + c) 4294967296 = (2 * a[i] + c) % 4294967296:=Int.tmod_eq_emod_of_nonneg (by omega)
   rw [if_pos hi,geE hi,aa,az (by omega) (by omega),aa,az (by omega) (by omega),aa,bM (by decide),aa,m0,bg _ _ (by simp only [leC,leN]; omega),aa]
   unfold cj
   rw [if_neg (by decide),q0,az (by omega) (by omega),aa]
   refine hJ (_,i + 1,_) ⟨hi,by simp only [List.length_append,leC,leN]; omega,by simp only; omega,cP h4 (by omega),?_⟩ (by simp only; omega)
   simp only
   rw [eD,h2,bN a hi,Nat.pow_succ]
   have e1:((2 * a[i] + c) % 4294967296).toNat + 4294967296 * ((2 * a[i] + c) / 4294967296).toNat = 2 * a[i].toNat + c.toNat:=by omega
   have e2:=congrArg (4294967296 ^ i * ·) e1
   simp only [Nat.mul_add] at e2
   rw [Nat.mul_assoc]
   have e3:4294967296 ^ i * (2 * a[i].toNat) = 2 * (4294967296 ^ i * a[i].toNat):=Nat.mul_left_comm ..
   omega
  ·rw [if_neg hi]
   have:i = a.length:=by omega
   subst this
   rw [List.take_length] at h5
   exact ⟨_,I,h2,h4,h3,h5⟩
theorem dA:∀ {xs:List Ua} {j:Nat} (v:Ua) (h:j < xs.length),val (xs.set j v) + 18446744073709551616 ^ j * xs[j].toNat = val xs + 18446744073709551616 ^ j * v.toNat
 | x :: xs,0,v,_=>by simp only [List.set_cons_zero,val,List.getElem_cons_zero,Nat.pow_zero]; omega
 | x :: xs,j + 1,v,h=>by
  have:=dA (xs:=xs) (j:=j) v (by simpa using h)
  simp only [List.set_cons_succ,val,List.getElem_cons_succ,Nat.pow_succ]
  grind
theorem kV {a b:Ua} {s:Nat} (ha:a.toNat < 2 ^ s) (hb:2 ^ s ∣ b.toNat):(a ||| b).toNat = a.toNat + b.toNat:=by
 obtain ⟨y,e⟩:=hb
 rw [UInt64.toNat_or,e,Nat.or_comm,<- Nat.two_pow_add_eq_or_of_lt ha,Nat.add_comm]
theorem dM (w:Nat):18446744073709551616 ^ w = 2 ^ (64 * w):=by
 rw [show (18446744073709551616:Nat) = 2 ^ 64 from I,<- Nat.pow_mul]
theorem dF (x:Ua) {s:Nat} (hs:s < 64):(shlU x s).toNat = x.toNat * 2 ^ s % 18446744073709551616:=by
 unfold shlU; rw [if_pos hs,UInt64.toNat_ofNat']
theorem bL (x:Ua) {s:Nat} (hs:s < 64):(shrU x s).toNat = x.toNat / 2 ^ s:=by
 unfold shrU; rw [if_pos hs,UInt64.toNat_ofNat']
 exact Nat.mod_eq_of_lt (Nat.lt_of_le_of_lt (Nat.div_le_self _ _) x.toNat_lt)
theorem split64 {s:Nat} (hs:s <= 64):(18446744073709551616:Nat) = 2 ^ (64 - s) * 2 ^ s:=by
 rw [<- Nat.pow_add,show 64 - s + s = 64 by omega]
theorem im (x:Ua) {s:Nat} (h0:0 < s) (hs:s < 64):(shlU x s).toNat + 18446744073709551616 * (shrU x (64 - s)).toNat = x.toNat * 2 ^ s/\2 ^ s ∣ (shlU x s).toNat/\(shrU x (64 - s)).toNat < 2 ^ s:=by
 have e:=split64 (s:=s) (by omega)
 have e1:x.toNat * 2 ^ s / 18446744073709551616 = x.toNat / 2 ^ (64 - s):=by
  rw [e]; exact Nat.mul_div_mul_right _ _ (Nat.two_pow_pos s)
 have e2:x.toNat * 2 ^ s % 18446744073709551616 = x.toNat % 2 ^ (64 - s) * 2 ^ s:=by
  rw [e]; exact Nat.mul_mod_mul_right ..
 rw [dF x hs,bL x (by omega)]
 refine ⟨?_,?_,?_⟩
 ·rw [<- e1]; exact Nat.mod_add_div ..
 ·rw [e2]; exact Nat.dvd_mul_left ..
 ·refine Nat.div_lt_of_lt_mul ?_
  rw [<- e]; exact x.toNat_lt
theorem di (x:Ua):shlU x 0 = x:=by
 refine UInt64.toNat_inj.1 ?_
 rw [dF x (by decide),Nat.pow_zero,Nat.mul_one]
 exact Nat.mod_eq_of_lt x.toNat_lt
theorem eE (x:Ua):(0:Ua) ||| x = x:=by
 refine UInt64.toNat_inj.1 ?_
 rw [UInt64.toNat_or]; simp
theorem bit_add {q:List Ua} {k:Nat} (h:k / 64 < q.length) (hd:2 ^ (k + 1) ∣ val q) (hb:(shlU 1 (k % 64)).toNat = 2 ^ (k % 64)):val (q.set (k / 64) (q[k / 64] ||| shlU 1 (k % 64))) = val q + 2 ^ k:=by
 have hs:=dq q h
 have hl:=cw (q.take (k / 64))
 rw [List.length_take,Nat.min_eq_left (by omega)] at hl
 have hk:k = 64 * (k / 64) + k % 64:=by omega
 have hm:k % 64 < 64:=by omega
 have e1:2 ^ (k + 1) = 18446744073709551616 ^ (k / 64) * 2 ^ (k % 64 + 1):=by rw [dM,<- Nat.pow_add]; congr 1; omega
 have e2:(18446744073709551616:Nat) = 2 ^ (k % 64 + 1) * 2 ^ (63 - k % 64):=by rw [<- Nat.pow_add,show k % 64 + 1 + (63 - k % 64) = 64 by omega]
 have h0:val (q.take (k / 64)) = 0:=by
  have h1:18446744073709551616 ^ (k / 64) ∣ val q:=Nat.dvd_trans ⟨_,e1⟩ hd
  rw [hs,Nat.pow_succ,Nat.mul_assoc,Nat.add_assoc,<- Nat.mul_add] at h1
  have h2:=(Nat.dvd_add_left (Nat.dvd_mul_right ..)).1 h1
  exact Nat.eq_zero_of_dvd_of_lt h2 hl
 have h3:2 ^ (k % 64 + 1) ∣ (q[k / 64]).toNat:=by
  rw [e1,hs,h0,Nat.zero_add,show (18446744073709551616:Nat) ^ (k / 64 + 1) = 18446744073709551616 ^ (k / 64) * 18446744073709551616 from Nat.pow_succ ..,Nat.mul_assoc (18446744073709551616 ^ (k / 64)) 18446744073709551616,<- Nat.mul_add] at hd
  have h4:=Nat.dvd_of_mul_dvd_mul_left (Nat.pow_pos (by decide)) hd
  have h5:2 ^ (k % 64 + 1) ∣ 18446744073709551616 * val (q.drop (k / 64 + 1)):=Nat.dvd_trans ⟨_,e2⟩ (Nat.dvd_mul_right ..)
  exact (Nat.dvd_add_left h5).1 h4
 have h6:(q[k / 64] ||| shlU 1 (k % 64)).toNat = 2 ^ (k % 64) + (q[k / 64]).toNat:=by
  rw [UInt64.or_comm]
  have:=kV (a:=shlU 1 (k % 64)) (b:=q[k / 64]) (s:=k % 64 + 1) (by rw [hb]; exact Nat.pow_lt_pow_right (by decide) (by omega)) h3
  rw [this,hb]
 have h7:=dA (q[k / 64] ||| shlU 1 (k % 64)) h
 have e3:2 ^ k = 18446744073709551616 ^ (k / 64) * 2 ^ (k % 64):=by rw [dM,<- Nat.pow_add]; congr 1
 rw [h6,Nat.mul_add,<- e3] at h7
 omega
theorem shl_one {s:Nat} (hs:s < 64):(shlU 1 s).toNat = 2 ^ s:=by
 rw [dF 1 hs]
 have:2 ^ s < 2 ^ 64:=Nat.pow_lt_pow_right (by decide) hs
 simp only [UInt64.toNat_one,Nat.one_mul]
 exact Nat.mod_eq_of_lt (by omega)
theorem nN {a b q r k:Nat} (h1:a = b * q + r) (h2:r < b * 2 ^ (k + 1)) (h3:2 ^ (k + 1) ∣ q) :
  (b * 2 ^ k <= r -> a = b * (q + 2 ^ k) + (r - b * 2 ^ k)/\r - b * 2 ^ k < b * 2 ^ k/\2 ^ k ∣ q + 2 ^ k)/\(r < b * 2 ^ k -> 2 ^ k ∣ q):=by
 have h4:2 ^ k ∣ q:=Nat.dvd_trans ⟨2,by rw [Nat.pow_succ]⟩ h3
 rw [Nat.pow_succ,<- Nat.mul_assoc] at h2
 refine ⟨fun h=>⟨?_,by omega,Nat.dvd_add h4 (Nat.dvd_refl _)⟩,fun _=>h4⟩
 rw [Nat.mul_add]; omega
def eu (x y:Nat):Nat:=if y = 0 then 0 else (if x < y then 1 else 0) + Nat.log2 (x * y) + 1
theorem lK {x y:Nat} (h:y ≠ 0):eu y (x % y) < eu x y:=by
 have hm:x % y < y:=Nat.mod_lt _ (by omega)
 unfold eu
 rw [if_neg h]
 by_cases h0:x % y = 0
 ·rw [if_pos h0]; omega
 ·rw [if_neg h0,if_neg (show ¬ y < x % y by omega)]
  by_cases h1:x < y
  ·rw [if_pos h1,Nat.mod_eq_of_lt h1,Nat.mul_comm y x]; omega
  ·rw [if_neg h1]
   have h2:2 * (x % y) < x ∨ 2 * (x % y) = x:=by
    have h3:=Nat.div_add_mod x y
    have h4:1 <= x / y:=Nat.div_pos (by omega) (by omega)
    have h5:y * 1 <= y * (x / y):=Nat.mul_le_mul_left _ h4
    omega
   have h6:2 * (y * (x % y)) <= x * y:=by
    rw [Nat.mul_comm x y,Nat.mul_left_comm]
    exact Nat.mul_le_mul_left _ (by omega)
   have h7:y * (x % y) ≠ 0:=Nat.mul_ne_zero h h0
   have h8:Nat.log2 (y * (x % y)) + 1 <= Nat.log2 (x * y):=by
    rw [Nat.le_log2 (by omega),Nat.pow_succ]
    have:=Nat.log2_self_le h7
    omega
   omega
theorem eu_le {x y l:Nat} (hx:x < 2 ^ l) (hy:y < 2 ^ l):eu x y <= 2 * l + 2:=by
 unfold eu
 split
 ·omega
 ·rename_i h
  have h1:Nat.log2 (x * y) <= 2 * l:=by
   by_cases h0:x * y = 0
   ·rw [h0]; simp
   ·have:Nat.log2 (x * y) < 2 * l:=by
     rw [Nat.log2_lt h0,Nat.two_mul,Nat.pow_add]
     exact Nat.mul_lt_mul'' hx hy
    omega
  split <;> omega
theorem oE:(List.range 32).all (fun k=>decide (shlS 1 k = (2:Int) ^ k)) = true:=by kernel_rfl
theorem shlS_ok {k:Nat} (h:k < 32):shlS 1 k = (2:Int) ^ k:=of_decide_eq_true (List.all_eq_true.1 oE k (List.mem_range.2 h))
theorem jL (k:Nat):(2:Int) ^ k = ((2 ^ k:Nat):Int):=by norm_cast
theorem bit_ok {x:Int} {k:Nat} (hx:0 <= x) (hk:k < 32):ca (shrS x k) 2 = some ((x.toNat / 2 ^ k % 2:Nat):Int):=by
 obtain ⟨m,rfl⟩:=Int.eq_ofNat_of_zero_le hx
 unfold shrS
 rw [Nat.min_eq_left (by omega),jL,Int.fdiv_eq_ediv_of_nonneg _ (Int.natCast_nonneg _),bM (by decide),<- Int.natCast_ediv,Int.tmod_eq_emod_of_nonneg (Int.natCast_nonneg _),Int.toNat_natCast]
 congr 1
theorem iD (w:Nat):4294967296 ^ w = 2 ^ (32 * w):=by
 rw [show (4294967296:Nat) = 2 ^ 32 from I,<- Nat.pow_mul]
theorem nY {xs:List Int} (h:Dig xs) (i:Nat) (hi:i <= xs.length):dv xs / 4294967296 ^ i = dv (xs.drop i):=by
 have h1:=cz (xs:=xs.take i) fun x hx=>h x (List.mem_of_mem_take hx)
 rw [List.length_take,Nat.min_eq_left hi] at h1
 have e:dv xs = dv (xs.take i) + 4294967296 ^ i * dv (xs.drop i):=by
  conv=>lhs; rw [<- List.take_append_drop i xs,gx,List.length_take,Nat.min_eq_left hi]
 rw [e,Nat.add_mul_div_left _ _ (Nat.pow_pos (by decide)),Nat.div_eq_of_lt h1,Nat.zero_add]
theorem mO (a i k:Nat) (hk:k < 32) (hi:i < (rd a).length):(rd a)[i].toNat / 2 ^ k % 2 = a / 2 ^ (32 * i + k) % 2:=by
 have h1:=nY (aD a) i (by omega)
 rw [aM,List.drop_eq_getElem_cons hi] at h1
 simp only [dv] at h1
 rw [Nat.pow_add,<- iD,<- Nat.div_div_eq_div_mul,h1]
 have e:(4294967296:Nat) = 2 ^ k * (2 * 2 ^ (31 - k)):=by
  rw [<- Nat.pow_succ', <- Nat.pow_add,show k + (31 - k).succ = 32 by omega]
 generalize dv (List.drop (i + 1) (rd a)) = r
 rw [e,Nat.mul_assoc,Nat.add_mul_div_left _ _ (Nat.two_pow_pos k),Nat.mul_assoc]
 omega
theorem dig_dvd {q:List Int} {i k:Nat} (hd:Dig q) (h:i < q.length) (hk:k < 32) (hv:2 ^ (32 * i + k + 1) ∣ dv q):2 ^ (k + 1) ∣ q[i].toNat:=by
 have hs:=gQ q h
 have hl:=cz (xs:=q.take i) fun x hx=>hd x (List.mem_of_mem_take hx)
 rw [List.length_take,Nat.min_eq_left (by omega)] at hl
 have e1:2 ^ (32 * i + k + 1) = 4294967296 ^ i * 2 ^ (k + 1):=by rw [iD,<- Nat.pow_add]; congr 1
 have e2:(4294967296:Nat) = 2 ^ (k + 1) * 2 ^ (31 - k):=by rw [<- Nat.pow_add,show k + 1 + (31 - k) = 32 by omega]
 have h0:dv (q.take i) = 0:=by
  have h1:4294967296 ^ i ∣ dv q:=Nat.dvd_trans ⟨_,e1⟩ hv
  rw [hs,Nat.pow_succ,Nat.mul_assoc,Nat.add_assoc,<- Nat.mul_add] at h1
  have h2:=(Nat.dvd_add_left (Nat.dvd_mul_right ..)).1 h1
  exact Nat.eq_zero_of_dvd_of_lt h2 hl
 rw [e1,hs,h0,Nat.zero_add,show (4294967296:Nat) ^ (i + 1) = 4294967296 ^ i * 4294967296 from Nat.pow_succ ..,Nat.mul_assoc (4294967296 ^ i) 4294967296,<- Nat.mul_add] at hv
 have h4:=Nat.dvd_of_mul_dvd_mul_left (Nat.pow_pos (by decide)) hv
 have h5:2 ^ (k + 1) ∣ 4294967296 * dv (q.drop (i + 1)):=Nat.dvd_trans ⟨_,e2⟩ (Nat.dvd_mul_right ..)
 exact (Nat.dvd_add_left h5).1 h4
theorem dig_set {q:List Int} {i:Nat} {v:Int} (h:Dig q) (hv:0 <= v/\v < 4294967296):Dig (q.set i v):=fun x hx=>(List.mem_or_eq_of_mem_set hx).elim (h x) fun e=>e ▸ hv
theorem kP {t k:Nat} (hk:k < 32) (ht:t < 4294967296) (hd:2 ^ (k + 1) ∣ t):t + 2 ^ k < 4294967296:=by
 obtain ⟨c,rfl⟩:=hd
 have e2:(4294967296:Nat) = 2 ^ (k + 1) * 2 ^ (31 - k):=by rw [<- Nat.pow_add,show k + 1 + (31 - k) = 32 by omega]
 rw [e2] at ht
 have h1:=Nat.lt_of_mul_lt_mul_left ht
 have h2:2 ^ (k + 1) * (c + 1) <= 2 ^ (k + 1) * 2 ^ (31 - k):=Nat.mul_le_mul_left _ h1
 rw [<- e2,Nat.mul_add,Nat.pow_succ] at h2
 have:=Nat.two_pow_pos k
 rw [Nat.pow_succ]
 omega
theorem mW (n:Nat) (a b i:Nat) (q:List Int) (hb:(rd b).length < 10000) (hi:i < (rd a).length) (hq:i < q.length) (hqd:Dig q) (Q R:Nat) (h1:dv q = 2 ^ (32 * i + 32) * Q) (h2:a / 2 ^ (32 * i + 32) = b * Q + R) (h3:R < b) (hn:20000 < n) :
  ∃ q' Q' R', aj (aA_l1 n (rd a) (i:Int) (rd b)) n (rd R,31,q) = some (rd R', q')/\q'.length = q.length/\Dig q' /\dv q' = 2 ^ (32 * i) * Q' /\a / 2 ^ (32 * i) = b * Q' + R' /\R' < b:=by
 have hh:=ap (B:=aA_l1 n (rd a) (i:Int) (rd b)) (fun s:List Int × Int × List Int=>(s.2.1 + 1).toNat)
  (fun s=>(-1 <= s.2.1/\s.2.1 <= 31)/\s.2.2.length = q.length/\Dig s.2.2/\∃ Q R,s.1 = rd R/\dv s.2.2 = 2 ^ (32 * i + (s.2.1 + 1).toNat) * Q/\a / 2 ^ (32 * i + (s.2.1 + 1).toNat) = b * Q + R/\R < b)
  (fun y=>y.2.length = q.length/\Dig y.2/\∃ Q R,y.1 = rd R/\dv y.2 = 2 ^ (32 * i) * Q/\a / 2 ^ (32 * i) = b * Q + R/\R < b) ?_ n (rd R,31,q) ⟨by simp,rfl,hqd,Q,R,rfl,h1,h2,h3⟩ (by simp only; omega)
 ·obtain ⟨⟨x,q'⟩,e,e1,e2,Q', R', e3,e4,e5,e6⟩:=hh
  simp only at e3
  subst e3
  exact ⟨q', Q', R', e,e1,e2,e4,e5,e6⟩
 ·rintro ⟨xs,z,q⟩ J ⟨a1,a2,a3,Q,R,rfl,a4,a5,a6⟩ hJ
  simp only at a1 a2 a3 a4 a5 hJ
  unfold aA_l1
  simp only
  by_cases hz:0 <= z
  ·obtain ⟨k,rfl⟩:∃ k:Nat,z = k:=⟨z.toNat,by omega⟩
   have hk:k < 32:=by omega
   have e0:(((k:Int) + 1).toNat) = k + 1:=by omega
   rw [e0] at a4 a5
   have hdi:=aD a (rd a)[i] (List.getElem_mem _)
   have hRl:=cJ (Nat.le_of_lt a6)
   rw [if_pos hz,aS (by omega) (by rw [Int.toNat_natCast]; exact hi),aa,show bG (k:Int) = some k from by unfold bG; rw [if_pos hz,Int.toNat_natCast],aa]
   simp only [Int.toNat_natCast]
   rw [bit_ok hdi.1 hk,aa,mO a i k hk hi,mx n _ _ (aD R) (by omega) (by omega) (by omega),aa,aM,Int.toNat_natCast]
   have hbit:a / 2 ^ (32 * i + k) % 2 < 2:=Nat.mod_lt _ (by decide)
   have hab:a / 2 ^ (32 * i + k) = b * (2 * Q) + (2 * R + a / 2 ^ (32 * i + k) % 2):=by
    have:a / 2 ^ (32 * i + (k + 1)) = a / 2 ^ (32 * i + k) / 2:=by rw [<- Nat.add_assoc,Nat.pow_succ,Nat.div_div_eq_div_mul]
    rw [this] at a5
    rw [Nat.mul_left_comm]; omega
   have hdq:dv q = 2 ^ (32 * i + k) * (2 * Q):=by rw [a4,<- Nat.add_assoc,Nat.pow_succ,Nat.mul_assoc]
   generalize a / 2 ^ (32 * i + k) % 2 = t at hbit hab ⊢
   obtain ⟨c,ec,c1,c2⟩:=gT n (rd (2 * R + t)) (rd b) (aD _) (aD _) (fT _) (fT _) (by have:=cx (m:=2 * R + t) (l:=(rd b).length + 1) (by have:=cz (aD b); rw [aM] at this; rw [Nat.pow_succ]; omega); omega) (by have:=cx (m:=2 * R + t) (l:=(rd b).length + 1) (by have:=cz (aD b); rw [aM] at this; rw [Nat.pow_succ]; omega); omega)
   rw [aM,aM] at c1 c2
   have hl2:(rd (2 * R + t)).length < 10002:=by have:=cx (m:=2 * R + t) (l:=(rd b).length + 1) (by have:=cz (aD b); rw [aM] at this; rw [Nat.pow_succ]; omega); omega
   rw [ec,aa]
   unfold jn
   simp only
   have eN:(((k:Int) - 1 + 1)).toNat = k:=by omega
   by_cases hc:0 <= c
   ·have hge:b <= 2 * R + t:=by omega
    have hdd:=dig_dvd a3 (by omega:i < q.length) hk (by rw [a4]; exact Nat.dvd_mul_right ..)
    have hqi:=a3 (q[i]'(by omega)) (List.getElem_mem _)
    have hroom:=kP hk (by omega) hdd
    have hk2:(2:Nat) ^ k < 4294967296:=by have:=Nat.zero_le (q[i]'(by omega)).toNat; omega
    rw [if_pos hc,gB n _ _ (aD _) (aD _) (cJ hge) (by rw [aM,aM]; exact hge) (by omega) (by omega),aa,aM,aM,aS (by omega) (by rw [Int.toNat_natCast]; omega),aa]
    simp only [Int.toNat_natCast]
    rw [aa,shlS_ok hk,jL,az (by omega) (by omega),aa,aP _ (by omega),aa,az (by omega) (by omega),aa]
    refine hJ (_,_,_) ⟨by simp only; omega,by simpa using a2,dig_set a3 (by omega),2 * Q + 1,2 * R + t - b,rfl,?_,?_,by omega⟩ (by simp only; omega)
    ·simp only
     rw [eN]
     have hp:=kZ ((q[i]'(by omega)) + ((2 ^ k:Nat):Int)) (by omega:i < q.length)
     rw [show ((q[i]'(by omega)) + ((2 ^ k:Nat):Int)).toNat = (q[i]'(by omega)).toNat + 2 ^ k by omega,Nat.mul_add] at hp
     have e5:2 ^ (32 * i + k) = 4294967296 ^ i * 2 ^ k:=by rw [iD,<- Nat.pow_add]
     rw [Nat.mul_add,Nat.mul_one,<- hdq,e5]
     omega
    ·simp only
     rw [eN,hab,Nat.mul_add]; omega
   ·rw [if_neg hc,az (by omega) (by omega),aa]
    refine hJ (_,_,_) ⟨by simp only; omega,a2,a3,2 * Q,2 * R + t,rfl,?_,?_,by omega⟩ (by simp only; omega)
    ·simp only; rw [eN]; exact hdq
    ·simp only; rw [eN]; exact hab
  ·rw [if_neg hz]
   have e0:(z + 1).toNat = 0:=by omega
   rw [e0] at a4 a5
   exact ⟨_,I,a2,a3,Q,R,I,a4,a5,a6⟩
theorem ir (n:Nat) (a b:Nat) (h0:b ≠ 0) (ha:(rd a).length < 10000) (hb:(rd b).length < 10000) (hn:20000 < n):aA_p n (rd a) (rd b) = some (rd (a / b),rd (a % b)):=by
 have hbn:rd b ≠ []:=fun e=>h0 (kC.1 e)
 have hbp:=jG (aD b) (fT b) hbn
 have hal:=cz (aD a)
 rw [aM] at hbp hal
 have hb1:1 <= (rd b).length:=by
  rcases h:rd b with _ | ⟨x,xs⟩
  ·exact absurd h hbn
  ·simp
 unfold aA_p
 by_cases hc:(((rd a).length:Nat):Int) <= (((rd b).length:Nat):Int) - 1
 ·have hab:a < b:=Nat.lt_of_lt_of_le hal (Nat.le_trans (Nat.pow_le_pow_right (by decide) (by omega)) hbp)
  rw [if_pos hc,bg _ _ (by simp only [leN]; omega),aa,List.nil_append,Nat.div_eq_of_lt hab,Nat.mod_eq_of_lt hab,rd0]
 ·obtain ⟨lq,hlq⟩:∃ lq:Nat,(((rd a).length:Nat):Int) - ((((rd b).length:Nat):Int) - 1) = lq:=⟨(rd a).length - ((rd b).length - 1),by omega⟩
  have hdr:(rd a).drop lq = rd (a / 2 ^ (32 * lq)):=by
   have h1:=nY (aD a) lq (by omega)
   rw [aM,iD] at h1
   rw [h1]
   refine (nF (fun x hx=>aD a x (List.mem_of_mem_drop hx)) fun x hx=>?_).symm
   rw [List.getLast?_drop] at hx
   split at hx
   ·cases hx
   ·exact fT a x hx
  have hR:a / 2 ^ (32 * lq) < b:=by
   rw [<- iD]
   refine Nat.lt_of_lt_of_le ?_ hbp
   refine Nat.div_lt_of_lt_mul ?_
   rw [<- Nat.pow_add,show lq + ((rd b).length - 1) = (rd a).length by omega]
   exact hal
  rw [if_neg hc,hlq,cu _ _ (by omega),aa]
  rw [show cut (rd a) (lq:Int) (((rd a).length:Nat):Int) = some ((rd a).drop lq) from by unfold cut; rw [if_pos ⟨by omega,by omega,by omega⟩,Int.toNat_natCast,Int.toNat_natCast,List.take_length],aa,bg _ _ (by rw [List.length_drop]; simp only [leN]; omega),aa,List.nil_append,hdr,List.length_replicate]
  have hh:=ap (B:=aA_l2 n (rd a) (rd b)) (fun s:List Int × Int × List Int=>(s.2.1 + 1).toNat)
   (fun s=>(-1 <= s.2.1/\s.2.1 < lq)/\s.2.2.length = lq/\Dig s.2.2/\∃ Q R,s.1 = rd R/\dv s.2.2 = 2 ^ (32 * (s.2.1 + 1).toNat) * Q/\a / 2 ^ (32 * (s.2.1 + 1).toNat) = b * Q + R/\R < b)
   (fun y=>y.1.length = lq/\Dig y.1/\dv y.1 = a / b/\y.2 = rd (a % b)) ?_ n (rd (a / 2 ^ (32 * lq)),(lq:Int) - 1,List.replicate lq 0)
   ⟨by simp only; omega,by simp,fun x hx=>by rw [(List.mem_replicate.1 hx).2]; decide,0,a / 2 ^ (32 * lq),rfl,by simp only [Nat.mul_zero]; exact eG _ fun x hx=>(List.mem_replicate.1 hx).2,by simp only [Nat.mul_zero,Nat.zero_add]; congr 2; omega,hR⟩ (by simp only; omega)
  ·obtain ⟨⟨q,r⟩,e,e1,e2,e3,e4⟩:=hh
   simp only at e1 e2 e3 e4
   rw [e,aa]
   simp only
   rw [dE n q e2 (by omega) (by omega),aa,e3,e4]
  ·rintro ⟨xs,z,q⟩ J ⟨a1,a2,a3,Q,R,rfl,a4,a5,a6⟩ hJ
   simp only at a1 a2 a3 a4 a5 hJ
   unfold aA_l2
   simp only
   by_cases hz:0 <= z
   ·obtain ⟨k,rfl⟩:∃ k:Nat,z = k:=⟨z.toNat,by omega⟩
    have e0:32 * (((k:Int) + 1).toNat) = 32 * k + 32:=by omega
    rw [e0] at a4 a5
    obtain ⟨q', Q', R', e,e1,e2,e3,e4,e5⟩:=mW n a b k q hb (by omega) (by omega) a3 Q R a4 a5 a6 hn
    rw [if_pos hz,e,aa]
    simp only
    rw [az (by omega) (by omega),aa]
    have eN:(((k:Int) - 1 + 1)).toNat = k:=by omega
    refine hJ (_,_,_) ⟨by simp only; omega,by simp only; omega,e2,Q', R', rfl,by simp only; rw [eN]; exact e3,by simp only; rw [eN]; exact e4,e5⟩ (by simp only; omega)
   ·rw [if_neg hz]
    have e0:(z + 1).toNat = 0:=by omega
    rw [e0,Nat.mul_zero,Nat.pow_zero] at a4 a5
    rw [Nat.div_one] at a5
    rw [Nat.one_mul] at a4
    have hu:=(Nat.div_mod_unique (a:=a) (b:=b) (c:=R) (d:=Q) (by omega)).2 ⟨by omega,a6⟩
    exact ⟨_,rfl,a2,a3,by simp only; rw [a4,hu.1],by simp only; rw [hu.2]⟩
theorem gO (n:Nat) (x y:Nat) (s t:Bool) (hx:(rd x).length < 10000) (hy:(rd y).length < 10000) (hn:18446744073709551616 < n):aM_p n ⟨s,rd x⟩ ⟨t,rd y⟩ = some ⟨false,rd (Nat.gcd x y)⟩:=by
 have hxl:=cz (aD x)
 have hyl:=cz (aD y)
 rw [aM,iD] at hxl hyl
 obtain ⟨M,hM⟩:∃ M:Nat,M = 320000:=⟨_,I⟩
 have hx2:x < 2 ^ M:=Nat.lt_of_lt_of_le hxl (Nat.pow_le_pow_right (by decide) (by omega))
 have hy2:y < 2 ^ M:=Nat.lt_of_lt_of_le hyl (Nat.pow_le_pow_right (by decide) (by omega))
 have he:=eu_le hx2 hy2
 have hh:=ap (B:=aM_l1 n) (fun s:List Int × List Int=>eu (dv s.1) (dv s.2)) (fun s=>∃ a b,s = (rd a,rd b)/\(rd a).length < 10000/\(rd b).length < 10000/\Nat.gcd a b = Nat.gcd x y)
  (fun r=>r = rd (Nat.gcd x y)) ?_ n (rd x,rd y) ⟨_,_,rfl,hx,hy,rfl⟩ (by simp only [aM]; omega)
 ·obtain ⟨r,h1,rfl⟩:=hh
  unfold aM_p
  simp only
  rw [h1,aa]
 ·rintro _ J ⟨a,b,rfl,h1,h2,h3⟩ hJ
  unfold aM_l1
  simp only
  by_cases h0:b = 0
  ·subst h0
   rw [if_neg (by rw [rd0]; simp)]
   exact ⟨_,rfl,by rw [<- h3,Nat.gcd_zero_right]⟩
  ·have hm:a % b < b:=Nat.mod_lt _ (by omega)
   have hbl:0 < (rd b).length:=by
    rcases h:rd b with _ | ⟨z,zs⟩
    ·exact absurd (kC.1 h) h0
    ·simp
   rw [if_pos hbl,ir n a b h0 h1 h2 (by omega),aa]
   simp only
   refine hJ (rd b,rd (a % b)) ⟨_,_,rfl,h2,Nat.lt_of_le_of_lt (cJ (Nat.le_of_lt hm)) h2,?_⟩ (by simp only [aM]; exact lK h0)
   rw [<- h3,Nat.gcd_comm a b,Nat.gcd_rec b a,Nat.gcd_comm]
theorem iT {m:Nat}:0 < (rd m).length ↔ 0 < m:=by
 constructor
 ·intro h
  by_cases h0:m = 0
  ·rw [h0,rd0] at h; simp at h
  ·omega
 ·intro h
  rcases e:rd m with _ | ⟨x,xs⟩
  ·have:=kC.1 e; omega
  ·simp
theorem bZ (n:Nat) (b:Bool) (ws:List Int) (hd:Dig ws) (hn:ws.length < n) (hl:ws.length <= 1000000):aa_p n b ws = some ⟨b && decide (0 < dv ws),rd (dv ws)⟩:=by
 unfold aa_p
 rw [dE n ws hd hn hl,aa]
 cases b
 ·simp
 ·rw [if_pos I,decide_eq_decide.2 iT,Bool.true_and]
def R8 (z:Int):Tf:=⟨decide (z < 0),rd z.natAbs⟩
theorem nE (s:Bool) (m:Nat):(⟨s && decide (0 < m),rd m⟩:Tf) = R8 (sg s m):=by
 unfold R8
 rw [gG]
 cases s
 ·simp [sg]
 ·simp [sg]
theorem jF (n:Nat) (z:Int) (h:Sm z) (hn:10 < n):aX_p n z = some (R8 z):=by
 have key:∀ u:Ua,u.toNat = z.natAbs -> ((aa_p n (decide (z < 0)) ([aB (u % (4294967296:Ua)),aB (u / (4294967296:Ua))]:List Int)).bind fun y28=>some y28) = some (R8 z):=fun u hu=>by
  unfold Sm at h
  have h1:aB (u % (4294967296:Ua)) = ((z.natAbs % 4294967296:Nat):Int):=by
   unfold aB
   rw [UInt64.toNat_mod,hu]
   rw [if_pos (by simp; omega)]
   rfl
  have h2:aB (u / (4294967296:Ua)) = ((z.natAbs / 4294967296:Nat):Int):=by
   unfold aB
   rw [UInt64.toNat_div,hu]
   rw [if_pos (by simp; omega)]
   rfl
  rw [h1,h2,bZ n _ _ (fun x hx=>by
   rcases List.mem_cons.1 hx with rfl | hx
   ·omega
   ·rw [List.mem_singleton.1 hx]; omega) (by simp only [leC,leN]; omega) (by simp),aa]
  have e:dv [((z.natAbs % 4294967296:Nat):Int),((z.natAbs / 4294967296:Nat):Int)] = z.natAbs:=by
   simp only [dv,Int.toNat_natCast]; omega
  rw [e]
  unfold R8
  congr 2
  by_cases hz:z < 0
  ·simp [hz]; omega
  ·simp [hz]
 unfold aX_p jn
 simp only
 by_cases hz:z < 0
 ·rw [if_pos hz]
  refine key _ ?_
  rw [UInt64.toNat_neg,eK h hz,show UInt64.size = 18446744073709551616 from I]
  unfold Sm at h
  omega
 ·rw [if_neg hz]
  refine key _ ?_
  rw [em h hz,bS h.w]
theorem gt (n:Nat) (z:Int) (h:(rd z.natAbs).length < 10000) (hn:20000 < n):bD_p n (R8 z) = some (R8 (-z)):=by
 unfold bD_p
 rw [show (R8 z).fD = rd z.natAbs from I,bZ n _ _ (aD _) (by omega) (by omega),aa,aM]
 unfold R8
 rw [Int.natAbs_neg]
 congr 2
 show (!decide (z < 0) && decide (0 < z.natAbs)) = decide (-z < 0)
 by_cases hz:z < 0
 ·rw [decide_eq_true hz,decide_eq_false (show ¬ -z < 0 by omega)]; rfl
 ·rw [decide_eq_false hz]
  by_cases h0:z = 0
  ·subst h0; rfl
  ·rw [decide_eq_true (by omega),decide_eq_true (by omega)]; rfl
theorem sg_mul (g x:Int) (hg:g ≠ 0):sg (!(decide (g * x < 0) == decide (g < 0))) x.natAbs = x:=by
 unfold sg
 by_cases h1:g < 0
 ·by_cases h2:x < 0
  ·have:=Int.mul_pos_of_neg_of_neg h1 h2
   rw [decide_eq_true h1,decide_eq_false (by omega)]; simp; omega
  ·by_cases h3:x = 0
   ·subst h3; simp
   ·have:=Int.mul_neg_of_neg_of_pos h1 (by omega:0 < x)
    rw [decide_eq_true h1,decide_eq_true this]; simp; omega
 ·by_cases h2:x < 0
  ·have:=Int.mul_neg_of_pos_of_neg (by omega:0 < g) h2
   rw [decide_eq_false h1,decide_eq_true this]; simp; omega
  ·have:=Int.mul_nonneg (by omega:0 <= g) (by omega:0 <= x)
   rw [decide_eq_false h1,decide_eq_false (by omega)]; simp; omega
theorem iS (n:Nat) (a g x:Int) (e:a = g * x) (hg:g ≠ 0) (ha:(rd a.natAbs).length < 10000) (hl:(rd g.natAbs).length < 10000) (hn:20000 < n):bw_p n (R8 a) (R8 g) = some (R8 x,R8 0):=by
 subst e
 have hd:(g * x).natAbs / g.natAbs = x.natAbs:=by rw [Int.natAbs_mul]; exact Nat.mul_div_cancel_left _ (by omega)
 have hm:(g * x).natAbs % g.natAbs = 0:=by rw [Int.natAbs_mul]; exact Nat.mul_mod_right ..
 have hx:(rd x.natAbs).length < 10000:=Nat.lt_of_le_of_lt (cJ (by rw [Int.natAbs_mul]; exact Nat.le_mul_of_pos_left _ (by omega))) ha
 unfold bw_p
 rw [show (R8 (g * x)).fD = rd (g * x).natAbs from I,show (R8 g).fD = rd g.natAbs from I,ir n _ _ (by omega) ha hl hn,aa,hd,hm]
 simp only
 rw [bZ n _ _ (aD _) (by omega) (by omega),aa,aM,rd0,bZ n _ [] ee (by simp; omega) (by simp),aa]
 show (if ((decide (g * x < 0)) && decide (0 < 0)) = true then _ else _) = _
 rw [if_neg (by simp)]
 rw [show (R8 (g * x)).fe = decide (g * x < 0) from I,show (R8 g).fe = decide (g < 0) from I,nE,sg_mul g x hg,show dv [] = 0 from I,nE]
 congr 2
 congr 1
 unfold sg; split <;> simp
theorem jd (n:Nat) (a b:Int) (h0:b ≠ 0) (ha:(rd a.natAbs).length < 10000) (hb:(rd b.natAbs).length < 10000) (hn:18446744073709551616 < n) :
  aZ_p n (R8 a) (R8 b) = some ⟨R8 (Rat.divInt a b).num,R8 ((Rat.divInt a b).den:Int)⟩/\(Rat.divInt a b).num.natAbs <= a.natAbs/\(Rat.divInt a b).den <= b.natAbs:=by
 have hg:0 < Nat.gcd a.natAbs b.natAbs:=Nat.gcd_pos_of_pos_right _ (by omega)
 have hgl:(rd (Nat.gcd a.natAbs b.natAbs)).length < 10000:=Nat.lt_of_le_of_lt (cJ (Nat.gcd_le_right _ (by omega))) hb
 obtain ⟨x,hx⟩:((Nat.gcd a.natAbs b.natAbs:Nat):Int) ∣ a:=Int.ofNat_dvd_left.2 (Nat.gcd_dvd_left _ _)
 obtain ⟨y,hy⟩:((Nat.gcd a.natAbs b.natAbs:Nat):Int) ∣ b:=Int.ofNat_dvd_left.2 (Nat.gcd_dvd_right _ _)
 have hco:=Nat.coprime_div_gcd_div_gcd hg
 unfold aZ_p
 rw [show R8 a = ⟨decide (a < 0),rd a.natAbs⟩ from I,show R8 b = ⟨decide (b < 0),rd b.natAbs⟩ from I,gO n _ _ _ _ ha hb hn,aa,<- show R8 a = ⟨decide (a < 0),rd a.natAbs⟩ from I,<- show R8 b = ⟨decide (b < 0),rd b.natAbs⟩ from I]
 generalize Nat.gcd a.natAbs b.natAbs = g at *
 have hg0:(g:Int) ≠ 0:=by omega
 have e3:a.natAbs = g * x.natAbs:=by rw [hx,Int.natAbs_mul]; rfl
 have e4:b.natAbs = g * y.natAbs:=by rw [hy,Int.natAbs_mul]; rfl
 have hc:x.natAbs.Coprime y.natAbs:=by
  rw [e3,e4,Nat.mul_div_cancel_left _ hg,Nat.mul_div_cancel_left _ hg] at hco; exact hco
 have hxl:x.natAbs <= a.natAbs:=by rw [e3]; exact Nat.le_mul_of_pos_left _ hg
 have hyl:y.natAbs <= b.natAbs:=by rw [e4]; exact Nat.le_mul_of_pos_left _ hg
 have hy0:y ≠ 0:=fun e=>h0 (by rw [hy,e,Int.mul_zero])
 have eq:Rat.divInt a b = Rat.divInt x y:=by
  conv=>lhs; rw [hx,hy]
  exact Rat.divInt_mul_left hg0
 rw [eq]
 have egR:(⟨false,rd g⟩:Tf) = R8 (g:Int):=by unfold R8; simp
 unfold jn
 simp only
 by_cases hs:b < 0
 ·have hyn:y < 0:=by
   by_cases hy1:y < 0
   ·exact hy1
   ·have:=Int.mul_nonneg (by omega:(0:Int) <= g) (by omega:0 <= y); omega
  rw [if_pos (show (R8 b).fe = true from decide_eq_true hs),egR,gt n _ (by simpa using hgl) (by omega),aa]
  show (bw_p n (R8 a) (R8 (-(g:Int)))).bind _ = _/\_
  rw [iS n a (-(g:Int)) (-x) (by rw [Int.neg_mul_neg]; exact hx) (by omega) ha (by rw [Int.natAbs_neg]; simpa using hgl) (by omega),aa,iS n b (-(g:Int)) (-y) (by rw [Int.neg_mul_neg]; exact hy) (by omega) hb (by rw [Int.natAbs_neg]; simpa using hgl) (by omega),aa]
  have h5:=eT (x:=-x) (y:=-y) (by omega) (by rwa [Int.natAbs_neg,Int.natAbs_neg])
  rw [Rat.neg_divInt_neg] at h5
  rw [h5.1,h5.2]
  exact ⟨rfl,by rw [Int.natAbs_neg]; exact hxl,by have:=h5.2; omega⟩
 ·have hyp:0 < y:=by
   by_cases hy1:0 < y
   ·exact hy1
   ·have:=Int.mul_neg_of_pos_of_neg (by omega:(0:Int) < g) (by omega:y < 0); omega
  rw [if_neg (show ¬ (R8 b).fe = true from by simpa [R8] using hs)]
  show (bw_p n (R8 a) (⟨false,rd g⟩:Tf)).bind _ = _/\_
  rw [egR,iS n a g x hx hg0 ha (by simpa using hgl) (by omega),aa,iS n b g y hy hg0 hb (by simpa using hgl) (by omega),aa]
  have h5:=eT (x:=x) (y:=y) hyp hc
  rw [h5.1,h5.2]
  exact ⟨I,hxl,by have:=h5.2; omega⟩
def bln (m:Nat):Nat:=if m = 0 then 0 else Nat.log2 m + 1
theorem jk (m:Nat):m < 2 ^ bln m:=by
 unfold bln
 split
 ·rename_i h; rw [h]; decide
 ·rename_i h; exact Nat.lt_log2_self
theorem gV {m:Nat} (h:m ≠ 0):2 ^ (bln m - 1) <= m:=by
 unfold bln
 rw [if_neg h]
 exact Nat.log2_self_le h
theorem eh {m:Nat} (h:m ≠ 0):1 <= bln m:=by unfold bln; rw [if_neg h]; omega
theorem og {m l:Nat} (h1:2 ^ l <= m) (h2:m < 2 ^ (l + 1)):bln m = l + 1:=by
 have h0:m ≠ 0:=fun e=>by have:=Nat.two_pow_pos l; omega
 have h3:=jk m
 have h4:=gV h0
 have h5:=eh h0
 have h6:=(Nat.pow_lt_pow_iff_right (by decide:1 < 2)).1 (Nat.lt_of_le_of_lt h1 h3)
 have h7:=(Nat.pow_lt_pow_iff_right (by decide:1 < 2)).1 (Nat.lt_of_le_of_lt h4 h2)
 omega
theorem dj {m s:Nat} (h:2 ^ s <= m):bln m = s + bln (m / 2 ^ s):=by
 have hp:=Nat.two_pow_pos s
 have h0:m / 2 ^ s ≠ 0:=fun e=>by have:=Nat.div_pos h hp; omega
 have h1:=jk (m / 2 ^ s)
 have h2:=gV h0
 have h3:=eh h0
 have e1:2 ^ (s + (bln (m / 2 ^ s) - 1)) <= m:=by
  rw [Nat.pow_add,Nat.mul_comm]
  exact (Nat.le_div_iff_mul_le hp).1 h2
 have e2:m < 2 ^ (s + bln (m / 2 ^ s)):=by
  rw [Nat.pow_add,Nat.mul_comm]
  exact (Nat.div_lt_iff_lt_mul hp).1 h1
 have:=og (l:=s + (bln (m / 2 ^ s) - 1)) e1 (by rw [show s + (bln (m / 2 ^ s) - 1) + 1 = s + bln (m / 2 ^ s) by omega]; exact e2)
 omega
theorem cC {m l:Nat} (h:m < 2 ^ l):bln m <= l:=by
 by_cases h0:m = 0
 ·subst h0; simp [bln]
 ·have h4:=gV h0
  have h7:=(Nat.pow_lt_pow_iff_right (by decide:1 < 2)).1 (Nat.lt_of_le_of_lt h4 h)
  have:=eh h0
  omega
theorem tab_all:(List.range 256).all (fun v=>decide (cZ[v]? = some (UInt8.ofNat (bln v)))) = true:=by kernel_rfl
theorem tab_ok {v:Nat} (h:v < 256):cZ[v]? = some (UInt8.ofNat (bln v)):=of_decide_eq_true (List.all_eq_true.1 tab_all v (List.mem_range.2 h))
theorem lz (u:Ua) (z:Int) (h:u.toNat < 256) (hz:0 <= z/\z <= 64):((cZ[(eX u).toNat]?).bind fun z27=>(chk (z + ((z27.toNat:Nat):Int))).bind fun s29=>some s29) = some (z + bln u.toNat):=by
 have hb:=cC (l:=8) (m:=u.toNat) (by omega)
 have e:(eX u).toNat = u.toNat:=by unfold eX; rw [UInt8.toNat_ofNat']; omega
 have e2:(UInt8.ofNat (bln u.toNat)).toNat = bln u.toNat:=by rw [UInt8.toNat_ofNat']; omega
 rw [e,tab_ok h,aa,e2,az (by omega) (by omega),aa]
theorem jO (n:Nat) (x:Ua):cB_p n x = some (bln x.toNat:Int):=by
 have hx:=x.toNat_lt
 have k16:∀ (u:Ua) (z:Int),u.toNat < 65536 -> (0 <= z/\z <= 48) -> ((if (256:Ua) <= u then (chk (z + 8)).bind fun s31=>((cZ[(eX (shrU u 8)).toNat]?).bind fun z27=>(chk (s31 + ((z27.toNat:Nat):Int))).bind fun s29=>some s29) else ((cZ[(eX u).toNat]?).bind fun z27=>(chk (z + ((z27.toNat:Nat):Int))).bind fun s29=>some s29))) = some (z + bln u.toNat):=fun u z hu hz=>by
  by_cases c:(256:Ua) <= u
  ·have c2:256 <= u.toNat:=by rw [UInt64.le_iff_toNat_le] at c; simpa using c
   rw [if_pos c,az (by omega) (by omega),aa,lz _ _ (by rw [bL _ (by decide)]; omega) (by omega),bL _ (by decide),dj (m:=u.toNat) (s:=8) (by omega)]
   congr 1; omega
  ·have c2:u.toNat < 256:=by rw [UInt64.le_iff_toNat_le] at c; simpa using c
   rw [if_neg c,lz _ _ c2 (by omega)]
 have k32:∀ (u:Ua) (z:Nat),u.toNat < 4294967296 -> z <= 32 -> ((if (65536:Ua) <= u then (chk ((z:Int) + 16)).bind fun s33=>(if (256:Ua) <= shrU u 16 then (chk (s33 + 8)).bind fun s31=>((cZ[(eX (shrU (shrU u 16) 8)).toNat]?).bind fun z27=>(chk (s31 + ((z27.toNat:Nat):Int))).bind fun s29=>some s29) else ((cZ[(eX (shrU u 16)).toNat]?).bind fun z27=>(chk (s33 + ((z27.toNat:Nat):Int))).bind fun s29=>some s29)) else (if (256:Ua) <= u then (chk ((z:Int) + 8)).bind fun s31=>((cZ[(eX (shrU u 8)).toNat]?).bind fun z27=>(chk (s31 + ((z27.toNat:Nat):Int))).bind fun s29=>some s29) else ((cZ[(eX u).toNat]?).bind fun z27=>(chk ((z:Int) + ((z27.toNat:Nat):Int))).bind fun s29=>some s29)))) = some ((z:Int) + bln u.toNat):=fun u z hu hz=>by
  by_cases c:(65536:Ua) <= u
  ·have c2:65536 <= u.toNat:=by rw [UInt64.le_iff_toNat_le] at c; simpa using c
   rw [if_pos c,az (by omega) (by omega),aa,k16 _ _ (by rw [bL _ (by decide)]; omega) (by omega),bL _ (by decide),dj (m:=u.toNat) (s:=16) (by omega)]
   congr 1; omega
  ·have c2:u.toNat < 65536:=by rw [UInt64.le_iff_toNat_le] at c; simpa using c
   rw [if_neg c,k16 _ _ c2 (by omega)]
 unfold cB_p jn
 simp only
 by_cases c:(4294967296:Ua) <= x
 ·have c2:4294967296 <= x.toNat:=by rw [UInt64.le_iff_toNat_le] at c; simpa using c
  rw [if_pos c]
  refine (k32 (shrU x 32) 32 (by rw [bL _ (by decide)]; omega) (by omega)).trans ?_
  rw [bL _ (by decide),dj (m:=x.toNat) (s:=32) (by omega)]
  congr 1
 ·have c2:x.toNat < 4294967296:=by rw [UInt64.le_iff_toNat_le] at c; simpa using c
  rw [if_neg c]
  refine (k32 x 0 c2 (by omega)).trans ?_
  congr 1; omega
theorem lz_ok (n:Nat) (x:Ua):bm_p n x = some (64 - bln x.toNat:Int):=by
 have:=cC (l:=64) (m:=x.toNat) (by have:=x.toNat_lt; omega)
 unfold bm_p
 rw [jO,aa,az (by omega) (by omega),aa]
theorem div_top {m lo t l:Nat} (hv:m = lo + 18446744073709551616 ^ l * t) (hlow:lo < 18446744073709551616 ^ l):m / 2 ^ (64 * l) = t:=by
 rw [<- dM,hv,Nat.add_mul_div_left _ _ (Nat.lt_of_le_of_lt (Nat.zero_le _) hlow),Nat.div_eq_of_lt hlow,Nat.zero_add]
theorem iv (n:Nat) (m:Nat) (hl:(dg m).length <= 1000000):dD_p n (dg m) = some (bln m:Int):=by
 unfold dD_p
 by_cases h0:m = 0
 ·subst h0
  rw [dg0,if_pos (show ([]:List Ua).length = 0 from I)]
  unfold bln
  rw [if_pos I]; rfl
 ·have hne:dg m ≠ []:=fun e=>h0 (by have:=aG m; rw [e] at this; exact this.symm)
  obtain ⟨l,hl1⟩:∃ l,(dg m).length = l + 1:=⟨(dg m).length - 1,by cases h:dg m with | nil=>exact absurd h hne | cons x xs=>simp⟩
  have hlast:l < (dg m).length:=by omega
  have hv:=dq (dg m) hlast
  rw [List.drop_eq_nil_of_le (by omega),aG,show val ([]:List Ua) = 0 from I,Nat.mul_zero,Nat.add_zero] at hv
  have hlow:=cw ((dg m).take l)
  rw [List.length_take,Nat.min_eq_left (by omega)] at hlow
  have htop:(dg m)[l] ≠ 0:=gX m _ (by rw [List.getLast?_eq_getElem?,hl1]; exact geE hlast)
  have ht0:((dg m)[l]).toNat ≠ 0:=fun e=>htop (UInt64.toNat_inj.1 (by simpa using e))
  have hb:bln m = 64 * l + bln ((dg m)[l]).toNat:=by
   have e:m / 2 ^ (64 * l) = ((dg m)[l]).toNat:=div_top hv hlow
   have:=dj (m:=m) (s:=64 * l) (by
    have h1:2 ^ (64 * l) * 1 <= 2 ^ (64 * l) * ((dg m)[l]).toNat:=Nat.mul_le_mul_left _ (by omega)
    rw [dM] at hv
    omega)
   rw [e] at this
   exact this
  have hbt:=cC (l:=64) (m:=((dg m)[l]).toNat) (by have:=((dg m)[l]).toNat_lt; omega)
  have hi:((((dg m).length:Nat):Int) - 1).toNat = l:=by omega
  rw [if_neg (by omega),az (by omega) (by omega),aa,aS (by omega) (by omega),aa]
  simp only [hi]
  rw [lz_ok,aa,az (by omega) (by omega),aa,hb]
  congr 1; omega
theorem oh (k:Nat) (h:k < 1000000000):cj (k:Int) 64 = some ((k / 64:Nat):Int):=by
 unfold cj
 rw [if_neg (by decide),Int.tdiv_eq_ediv_of_nonneg (by omega),az (by omega) (by omega)]
 congr 1
theorem rem64 (k:Nat):ca (k:Int) 64 = some ((k % 64:Nat):Int):=by
 rw [bM (by decide),Int.tmod_eq_emod_of_nonneg (by omega)]
 congr 1
theorem eU (k:Nat):bG (k:Int) = some k:=by unfold bG; rw [if_pos (Int.natCast_nonneg _),Int.toNat_natCast]
theorem idxN {α:Type} {xs:List α} {i:Nat} (h:i < xs.length):idx xs (i:Int) = some xs[i]:=by
 rw [aS (by omega) (by rw [Int.toNat_natCast]; exact h)]
 simp only [Int.toNat_natCast]
theorem putN {α:Type} {xs:List α} {i:Nat} (x:α) (h:i < xs.length):put xs ((((i:Nat):Int).toNat:Nat):Int) x = some (xs.set i x):=by rw [Int.toNat_natCast]; exact aP x h
theorem oq (n:Nat) (a:List Ua) (k:Nat) (hk:k < 1000000) (hl:a.length < 100000) (hn:200000 < n):dq_p n a (k:Int) = some (dg (val a * 2 ^ k)):=by
 have hkw:2 ^ k = 18446744073709551616 ^ (k / 64) * 2 ^ (k % 64):=by rw [dM,<- Nat.pow_add]; congr 1; omega
 have hs:k % 64 < 64:=Nat.mod_lt _ (by decide)
 have hh:=ap (B:=dq_l1 n a (k:Int)) (fun s:Nat × List Ua=>a.length - s.1) (fun s=>s.1 <= a.length/\∃ hx:s.2.length = a.length + k / 64 + 1,val s.2 = val (a.take s.1) * 2 ^ k/\(∀ j (h:j < s.2.length),s.1 + k / 64 < j -> s.2[j] = 0)/\(s.2[s.1 + k / 64]?.getD 0).toNat < 2 ^ (k % 64))
  (fun xs=>xs.length = a.length + k / 64 + 1/\val xs = val a * 2 ^ k) ?_ n (0,List.replicate (a.length + k / 64 + 1) 0) ⟨Nat.zero_le _,by simp,?_,fun j h _=>by simp,?_⟩ (by simp only; omega)
 ·obtain ⟨xs,e,h1,h2⟩:=hh
  unfold dq_p
  rw [oh k (by omega),aa,az (by omega) (by omega),aa,az (by omega) (by omega),aa,show ((a.length:Nat):Int) + ((k / 64:Nat):Int) + 1 = ((a.length + k / 64 + 1:Nat):Int) by omega,cu _ _ (by omega),aa,e,aa,aJ n false xs (by omega) (by omega),aa,h2]
 ·rintro ⟨i,xs⟩ J ⟨a1,a2,a3,a4,a5⟩ hJ
  simp only at a1 a2 a3 a4 a5 hJ
  unfold dq_l1
  simp only
  by_cases hi:i < a.length
  ·have hw:i + k / 64 < xs.length:=by omega
   have hw1:i + k / 64 + 1 < xs.length:=by omega
   rw [geE hw] at a5
   have a5' : (xs[i + k / 64]).toNat < 2 ^ (k % 64):=a5
   rw [if_pos hi,geE hi,aa,oh k (by omega),aa,az (by omega) (by omega),aa,show ((i:Nat):Int) + ((k / 64:Nat):Int) = ((i + k / 64:Nat):Int) by omega,idxN hw,aa,rem64,aa,eU,aa,putN _ hw,aa,aa]
   have e0:val (a.take (i + 1)) * 2 ^ k = val (a.take i) * 2 ^ k + 18446744073709551616 ^ (i + k / 64) * (a[i].toNat * 2 ^ (k % 64)):=by
    rw [bR a hi,Nat.add_mul,hkw,Nat.pow_add]
    congr 1
    grind
   by_cases c:0 < k % 64
   ·obtain ⟨s1,s2,s3⟩:=im a[i] c hs
    have hor:=kV (a:=xs[i + k / 64]) (b:=shlU a[i] (k % 64)) a5' s2
    have v1:=dA (xs[i + k / 64] ||| shlU a[i] (k % 64)) hw
    rw [hor,Nat.mul_add] at v1
    generalize hys:xs.set (i + k / 64) (xs[i + k / 64] ||| shlU a[i] (k % 64)) = ys at *
    have hyl:ys.length = xs.length:=by rw [<- hys,List.length_set]
    have hy1:i + k / 64 + 1 < ys.length:=by omega
    have hy0:ys[i + k / 64 + 1] = 0:=by
     have:=a4 (i + k / 64 + 1) hw1 (by omega)
     simp only [<- hys]
     rw [List.getElem_set_ne (by omega)]; exact this
    have v2:=dA (shrU a[i] (64 - k % 64)) hy1
    rw [hy0] at v2
    rw [if_pos (by omega),aa,az (by omega) (by omega),aa,az (by omega) (by omega),aa,aa,az (by omega) (by omega),aa,show (64:Int) - ((k % 64:Nat):Int) = ((64 - k % 64:Nat):Int) by omega,eU,aa,show ((i:Nat):Int) + ((k / 64:Nat):Int) + 1 = ((i + k / 64 + 1:Nat):Int) by omega,idxN hy1,aa,putN _ hy1,aa]
    refine hJ _ ⟨hi,by simp only [List.length_set]; omega,?_,fun j hj hlt=>?_,?_⟩ (by simp only; omega)
    ·simp only
     rw [e0,<- s1,Nat.mul_add,<- Nat.mul_assoc,<- Nat.pow_succ]
     simp only [UInt64.toNat_zero,Nat.mul_zero,Nat.add_zero] at v2
     rw [v2,<- a3]
     show val ys + 18446744073709551616 ^ (i + k / 64 + 1) * _ = val xs + (_ + 18446744073709551616 ^ (i + k / 64 + 1) * _)
     omega
    ·simp only at hj hlt ⊢
     rw [List.getElem_set_ne (by omega)]
     simp only [<- hys]
     rw [List.getElem_set_ne (by omega)]
     exact a4 j (by simpa [<- hys] using hj) (by omega)
    ·simp only
     rw [show i + 1 + k / 64 = i + k / 64 + 1 by omega,List.getElem?_set_self hy1]
     exact s3
   ·have c0:k % 64 = 0:=by omega
    rw [c0,Nat.pow_zero] at a5'
    have hz:xs[i + k / 64] = 0:=UInt64.toNat_inj.1 (by simp; omega)
    have v1:=dA (xs[i + k / 64] ||| shlU a[i] (k % 64)) hw
    rw [hz,eE,c0,di] at v1
    rw [if_neg (by omega),hz,eE,c0,di]
    refine hJ _ ⟨hi,by simp only [List.length_set]; omega,?_,fun j hj hlt=>?_,?_⟩ (by simp only; omega)
    ·simp only
     rw [e0,c0,Nat.pow_zero,Nat.mul_one,<- a3]
     simp only [UInt64.toNat_zero,Nat.mul_zero,Nat.add_zero] at v1
     exact v1
    ·simp only at hj hlt ⊢
     rw [List.getElem_set_ne (by omega)]
     exact a4 j (by simpa using hj) (by omega)
    ·simp only
     rw [show i + 1 + k / 64 = i + k / 64 + 1 by omega,List.getElem?_set_ne (by omega),geE hw1,a4 _ hw1 (by omega),c0]
     decide
  ·rw [if_neg hi]
   rw [List.take_of_length_le (by omega)] at a3
   exact ⟨_,I,a2,a3⟩
 ·simp only [List.take_zero,val,Nat.zero_mul]
  exact ci _ fun x hx=>(List.mem_replicate.1 hx).2
 ·simp only
  rw [List.getElem?_replicate]
  split <;> simp <;> exact Nat.two_pow_pos _
set_option maxRecDepth 8000
theorem mc {B:(Ua × Ua -> Oa Ua) -> Ua × Ua -> Oa Ua} {y1 y0 un:Ua}
  (hB:∀ J q rh,B J (q,rh) = if (4294967296:Ua) <= q then (if (4294967296:Ua) <= rh + y1 then some (q - 1) else J (q - 1,rh + y1)) else (if 4294967296 * rh + un < q * y0 then (if (4294967296:Ua) <= rh + y1 then some (q - 1) else J (q - 1,rh + y1)) else some q))
  {U:Nat} (h1:2147483648 <= y1.toNat) (h1' : y1.toNat < 4294967296) (h0:y0.toNat < 4294967296) (hu:un.toNat < 4294967296) (hU:U < y1.toNat * 4294967296 + y0.toNat) (q0 r0:Ua) (e:U = q0.toNat * y1.toNat + r0.toNat) (hr:r0.toNat < y1.toNat) (n:Nat) (hn:4294967300 < n) :
  ∃ q:Ua,aj B n (q0,r0) = some q/\q.toNat = (U * 4294967296 + un.toNat) / (y1.toNat * 4294967296 + y0.toNat):=by
 obtain ⟨V,hV⟩:∃ V,y1.toNat * 4294967296 + y0.toNat = V:=⟨_,I⟩
 obtain ⟨N,hN⟩:∃ N,U * 4294967296 + un.toNat = N:=⟨_,I⟩
 rw [hV] at hU
 rw [hV,hN]
 have hVp:0 < V:=by omega
 obtain ⟨D,hD⟩:∃ D,N / V = D:=⟨_,I⟩
 have hle:∀ x,x <= D ↔ x * V <= N:=fun x=>by rw [<- hD]; exact Nat.le_div_iff_mul_le hVp
 have hlt:∀ x,D < x ↔ N < x * V:=fun x=>by rw [<- hD]; exact Nat.div_lt_iff_lt_mul hVp
 rw [hD]
 have hNV:D < 4294967296:=by
  rw [hlt]
  omega
 have hq0:q0.toNat <= 4294967297:=by
  have h2:q0.toNat * 2147483648 <= q0.toNat * y1.toNat:=Nat.mul_le_mul_left _ h1
  by_cases h3:q0.toNat <= 4294967297
  ·exact h3
  ·exfalso
   have h4:4294967298 * y1.toNat <= q0.toNat * y1.toNat:=Nat.mul_le_mul_right _ (by omega)
   omega
 have up:D <= q0.toNat:=by
  rw [<- hD]
  have h3:N / V <= N / (y1.toNat * 4294967296):=Nat.div_le_div_left (by omega) (by omega)
  have h4:N / (y1.toNat * 4294967296) = U / y1.toNat:=by
   rw [Nat.mul_comm,<- Nat.div_div_eq_div_mul]
   congr 1
   omega
  have h5:U / y1.toNat = q0.toNat:=by
   rw [e,Nat.mul_comm,Nat.add_comm,Nat.add_mul_div_left _ _ (by omega),Nat.div_eq_of_lt hr,Nat.zero_add]
  rw [h4,h5] at h3
  exact h3
 refine ap (B:=B) (fun s:Ua × Ua=>s.1.toNat) (fun s=>U = s.1.toNat * y1.toNat + s.2.toNat/\s.2.toNat < 4294967296/\D <= s.1.toNat/\s.1.toNat <= 4294967297) (fun q=>q.toNat = D) ?_ n (q0,r0) ⟨e,by simp only; omega,up,hq0⟩ (by simp only; omega)
 rintro ⟨q,rh⟩ J ⟨i1,i2,i3,i4⟩ hJ
 simp only at i1 i2 i3 i4 hJ
 rw [hB]
 have c32:(4294967296:Ua).toNat = 4294967296:=rfl
 have hrh:(rh + y1).toNat = rh.toNat + y1.toNat:=by rw [UInt64.toNat_add]; omega
 -- what follows once the guess is too great
 have over:D + 1 <= q.toNat -> ∃ r,(if (4294967296:Ua) <= rh + y1 then some (q - 1) else J (q - 1,rh + y1)) = some r/\r.toNat = D:=fun ho=>by
  have hq1:(q - 1).toNat = q.toNat - 1:=by
   rw [UInt64.toNat_sub]
   have:=q.toNat_lt
   simp only [UInt64.toNat_one]
   omega
  have e1:q.toNat * y1.toNat = (q.toNat - 1) * y1.toNat + y1.toNat:=by
   rw [<- Nat.succ_mul]; congr 1; omega
  split
  ·rename_i hbig
   rw [UInt64.le_iff_toNat_le,c32,hrh] at hbig
   refine ⟨_,I,?_⟩
   rw [hq1]
   refine Nat.le_antisymm ?_ (by omega)
   rw [hle,<- hV,Nat.mul_add,<- Nat.mul_assoc]
   have h5:(q.toNat - 1) * y0.toNat <= 4294967296 * 4294967295:=Nat.mul_le_mul (by omega) (by omega)
   omega
  ·rename_i hbig
   rw [UInt64.le_iff_toNat_le,c32,hrh] at hbig
   exact hJ _ ⟨by simp only; rw [hq1,hrh]; omega,by simp only; rw [hrh]; omega,by simp only; rw [hq1]; omega,by simp only; rw [hq1]; omega⟩ (by simp only; rw [hq1]; omega)
 by_cases c:(4294967296:Ua) <= q
 ·rw [if_pos c]
  rw [UInt64.le_iff_toNat_le,c32] at c
  exact over (by omega)
 ·rw [if_neg c]
  rw [UInt64.le_iff_toNat_le,c32] at c
  have m1:(4294967296 * rh + un).toNat = 4294967296 * rh.toNat + un.toNat:=by
   rw [UInt64.toNat_add,UInt64.toNat_mul,c32]; omega
  have m2:(q * y0).toNat = q.toNat * y0.toNat:=by
   rw [UInt64.toNat_mul]
   have:q.toNat * y0.toNat <= 4294967295 * 4294967295:=Nat.mul_le_mul (by omega) (by omega)
   omega
  have eqV:q.toNat * V = q.toNat * y1.toNat * 4294967296 + q.toNat * y0.toNat:=by rw [<- hV,Nat.mul_add,<- Nat.mul_assoc]
  by_cases c2:4294967296 * rh + un < q * y0
  ·rw [if_pos c2]
   rw [UInt64.lt_iff_toNat_lt,m1,m2] at c2
   refine over ?_
   have:D < q.toNat:=by
    rw [hlt,eqV]
    omega
   omega
  ·rw [if_neg c2]
   rw [UInt64.lt_iff_toNat_lt,m1,m2] at c2
   refine ⟨_,I,Nat.le_antisymm ?_ i3⟩
   rw [hle,eqV]
   omega
theorem lr {N M R:Nat} (h:N = M + R) (hR:R < 18446744073709551616):(18446744073709551616 - M % 18446744073709551616 + N % 18446744073709551616) % 18446744073709551616 = R:=by omega
theorem glue2 {hi lo p u t w:Nat} (t1:u = hi * p + t) (t2:w + 18446744073709551616 * t = lo * p):(hi * 18446744073709551616 + lo) * p = u * 18446744073709551616 + w:=by
 rw [Nat.add_mul,Nat.mul_right_comm hi 18446744073709551616 p,t1,<- t2]
 generalize hi * p = z
 omega
theorem glue {P Q R1 R0 u w:Nat} (h1:P + R1 = u * 4294967296 + w / 4294967296) (h2:Q + R0 = R1 * 4294967296 + w % 4294967296):u * 18446744073709551616 + w = P * 4294967296 + Q + R0:=by omega
theorem mN (n:Nat) (hi lo y:Ua) (h:hi.toNat < y.toNat) (hn:4294967300 < n):∃ q r:Ua,aN_p n hi lo y = some (q,r)/\hi.toNat * 18446744073709551616 + lo.toNat = q.toNat * y.toNat + r.toNat/\r.toNat < y.toNat:=by
 have hy:=y.toNat_lt
 have hlo:=lo.toNat_lt
 have hy0:y ≠ 0:=fun e=>by rw [e] at h; simp at h
 unfold aN_p
 rw [if_neg hy0,if_neg (by rw [UInt64.le_iff_toNat_le]; omega)]
 by_cases h0:hi = 0
 ·subst h0
  rw [if_pos I]
  unfold jr mT
  rw [if_neg hy0,aa,if_neg hy0,aa]
  refine ⟨_,_,I,?_,?_⟩
  ·rw [UInt64.toNat_div,UInt64.toNat_mod]
   have:=Nat.div_add_mod lo.toNat y.toNat
   rw [Nat.mul_comm] at this
   simp; omega
  ·rw [UInt64.toNat_mod]; exact Nat.mod_lt _ (by omega)
 ·rw [if_neg h0,lz_ok,aa]
  have hyn:y.toNat ≠ 0:=by omega
  have b1:=eh hyn
  have b2:=cC (l:=64) (m:=y.toNat) (by omega)
  have b3:=jk y.toNat
  have b4:=gV hyn
  obtain ⟨s,hs⟩:∃ s,s = 64 - bln y.toNat:=⟨_,I⟩
  have e1:(ac (64 - (bln y.toNat:Int))).toNat = s:=by unfold ac; rw [UInt64.toNat_ofNat']; omega
  have e2:((64:Ua) - ac (64 - (bln y.toNat:Int))).toNat = 64 - s:=by
   rw [UInt64.toNat_sub,e1]
   simp only [show (64:Ua).toNat = 64 from rfl]
   omega
  have hs64:s < 64:=by omega
  have hps:=Nat.two_pow_pos s
  -- the divisor,moved
  have v2:y.toNat * 2 ^ s < 18446744073709551616:=by
   have:y.toNat * 2 ^ s < 2 ^ bln y.toNat * 2 ^ s:=Nat.mul_lt_mul_of_pos_right b3 hps
   rw [<- Nat.pow_add,show bln y.toNat + s = 64 by omega] at this
   exact this
  have v1:9223372036854775808 <= y.toNat * 2 ^ s:=by
   have:2 ^ (bln y.toNat - 1) * 2 ^ s <= y.toNat * 2 ^ s:=Nat.mul_le_mul_right _ b4
   rw [<- Nat.pow_add,show bln y.toNat - 1 + s = 63 by omega] at this
   exact this
  have hyv:(shlU y s).toNat = y.toNat * 2 ^ s:=by rw [dF y hs64,Nat.mod_eq_of_lt v2]
  have hhi:hi.toNat * 2 ^ s < 18446744073709551616:=Nat.lt_of_le_of_lt (Nat.mul_le_mul_right _ (Nat.le_of_lt h)) v2
  have hhv:(shlU hi s).toNat = hi.toNat * 2 ^ s:=by rw [dF hi hs64,Nat.mod_eq_of_lt hhi]
  -- the dividend,moved
  have hun:∃ t:Nat,(shlU hi s ||| shrU lo (64 - s)).toNat = hi.toNat * 2 ^ s + t/\(shlU lo s).toNat + 18446744073709551616 * t = lo.toNat * 2 ^ s:=by
   by_cases s0:s = 0
   ·subst s0
    refine ⟨0,?_,by rw [di]; simp⟩
    rw [di,show shrU lo (64 - 0) = 0 from by unfold shrU; rw [if_neg (by decide)],UInt64.toNat_or]
    simp
   ·obtain ⟨t1,t2,t3⟩:=im lo (by omega) hs64
    refine ⟨(shrU lo (64 - s)).toNat,?_,t1⟩
    rw [UInt64.or_comm,kV t3 (by rw [hhv]; exact Nat.dvd_mul_left ..),hhv,Nat.add_comm]
  obtain ⟨t,t1,t2⟩:=hun
  rw [e1,e2]
  generalize hyy:shlU y s = yy at *
  generalize hun32:shlU hi s ||| shrU lo (64 - s) = un32 at *
  generalize hun10:shlU lo s = un10 at *
  have hun10l:=un10.toNat_lt
  have hun32l:=un32.toNat_lt
  -- both halves of the divisor
  have w1:(shrU yy 32).toNat = yy.toNat / 4294967296:=ld yy
  have w0:(yy &&& (4294967295:Ua)).toNat = yy.toNat % 4294967296:=ot yy
  have x1:(shrU un10 32).toNat = un10.toNat / 4294967296:=ld un10
  have x0:(un10 &&& (4294967295:Ua)).toNat = un10.toNat % 4294967296:=ot un10
  have hyyl:=yy.toNat_lt
  have hV:(shrU yy 32).toNat * 4294967296 + (yy &&& (4294967295:Ua)).toNat = yy.toNat:=by rw [w1,w0]; omega
  have hy1:2147483648 <= (shrU yy 32).toNat:=by rw [w1]; omega
  have hy1' : (shrU yy 32).toNat < 4294967296:=by rw [w1]; omega
  have hy0' : (yy &&& (4294967295:Ua)).toNat < 4294967296:=by rw [w0]; omega
  have hne:shrU yy 32 ≠ 0:=fun e=>by rw [e] at hy1; simp at hy1
  have hUV:un32.toNat < yy.toNat:=by
   have h5:(hi.toNat * 18446744073709551616 + lo.toNat) * 2 ^ s < y.toNat * 18446744073709551616 * 2 ^ s:=Nat.mul_lt_mul_of_pos_right (by omega) hps
   rw [Nat.add_mul,Nat.mul_right_comm,Nat.mul_right_comm y.toNat] at h5
   omega
  -- the first digit
  have d1:∀ (U:Ua) (hU:U.toNat < yy.toNat) (un:Ua) (hu:un.toNat < 4294967296) (B:(Ua × Ua -> Oa Ua) -> Ua × Ua -> Oa Ua) (hB:∀ J q rh,B J (q,rh) = if (4294967296:Ua) <= q then (if (4294967296:Ua) <= rh + shrU yy 32 then some (q - 1) else J (q - 1,rh + shrU yy 32)) else (if 4294967296 * rh + un < q * (yy &&& (4294967295:Ua)) then (if (4294967296:Ua) <= rh + shrU yy 32 then some (q - 1) else J (q - 1,rh + shrU yy 32)) else some q)),
    ∃ q:Ua,aj B n (U / shrU yy 32,U - U / shrU yy 32 * shrU yy 32) = some q/\q.toNat = (U.toNat * 4294967296 + un.toNat) / yy.toNat:=fun U hU un hu B hB=>by
   have hm:=Nat.div_add_mod U.toNat (shrU yy 32).toNat
   have hml:=Nat.mod_lt U.toNat (show 0 < (shrU yy 32).toNat by omega)
   have hUl:=U.toNat_lt
   have e3:(U - U / shrU yy 32 * shrU yy 32).toNat = U.toNat % (shrU yy 32).toNat:=by
    rw [UInt64.toNat_sub,UInt64.toNat_mul,UInt64.toNat_div]
    rw [Nat.mul_comm] at hm
    have:U.toNat / (shrU yy 32).toNat * (shrU yy 32).toNat <= U.toNat:=by omega
    rw [Nat.mod_eq_of_lt (a:=U.toNat / (shrU yy 32).toNat * (shrU yy 32).toNat) (by omega)]
    omega
   obtain ⟨q,a1,a2⟩:=mc hB (U:=U.toNat) hy1 hy1' hy0' hu (by rw [hV]; exact hU) (U / shrU yy 32) (U - U / shrU yy 32 * shrU yy 32) (by rw [UInt64.toNat_div,e3,Nat.mul_comm]; exact hm.symm) (by rw [e3]; exact hml) n hn
   exact ⟨q,a1,by rw [a2,hV]⟩
  obtain ⟨q1,l2,q1v⟩:=d1 un32 hUV (shrU un10 32) (by rw [x1]; omega) (aN_l2 n y (64 - (bln y.toNat:Int)) lo) (fun J q rh=>by unfold aN_l2; simp only [e1,hyy,hun10])
  have hm1:=Nat.div_add_mod (un32.toNat * 4294967296 + (shrU un10 32).toNat) yy.toNat
  have hml1:=Nat.mod_lt (un32.toNat * 4294967296 + (shrU un10 32).toNat) (show 0 < yy.toNat by omega)
  rw [<- q1v] at hm1
  generalize hR1:(un32.toNat * 4294967296 + (shrU un10 32).toNat) % yy.toNat = R1 at hm1 hml1
  have u21:(un32 * 4294967296 + shrU un10 32 - q1 * yy).toNat = R1:=by
   rw [UInt64.toNat_sub,UInt64.toNat_add,UInt64.toNat_mul,UInt64.toNat_mul]
   rw [show (4294967296:Ua).toNat = 4294967296 from I]
   have:=lr (N:=un32.toNat * 4294967296 + (shrU un10 32).toNat) (M:=q1.toNat * yy.toNat) (R:=R1) (by rw [Nat.mul_comm q1.toNat]; exact hm1.symm) (by omega)
   generalize q1.toNat * yy.toNat = M at *
   omega
  obtain ⟨q0,l1,q0v⟩:=d1 (un32 * 4294967296 + shrU un10 32 - q1 * yy) (by rw [u21]; exact hml1) (un10 &&& (4294967295:Ua)) (by rw [x0]; omega) (aN_l1 n y (64 - (bln y.toNat:Int)) lo) (fun J q rh=>by unfold aN_l1; simp only [e1,hyy,hun10])
  rw [u21] at q0v
  have hm0:=Nat.div_add_mod (R1 * 4294967296 + (un10 &&& (4294967295:Ua)).toNat) yy.toNat
  have hml0:=Nat.mod_lt (R1 * 4294967296 + (un10 &&& (4294967295:Ua)).toNat) (show 0 < yy.toNat by omega)
  rw [<- q0v] at hm0
  generalize hR0:(R1 * 4294967296 + (un10 &&& (4294967295:Ua)).toNat) % yy.toNat = R0 at hm0 hml0
  have u00:((un32 * 4294967296 + shrU un10 32 - q1 * yy) * 4294967296 + (un10 &&& (4294967295:Ua)) - q0 * yy).toNat = R0:=by
   rw [UInt64.toNat_sub,UInt64.toNat_add,UInt64.toNat_mul,UInt64.toNat_mul,u21]
   rw [show (4294967296:Ua).toNat = 4294967296 from I]
   have:=lr (N:=R1 * 4294967296 + (un10 &&& (4294967295:Ua)).toNat) (M:=q0.toNat * yy.toNat) (R:=R0) (by rw [Nat.mul_comm q0.toNat]; exact hm0.symm) (by omega)
   generalize q0.toNat * yy.toNat = M at *
   omega
  have q1l:q1.toNat < 4294967296:=by
   rw [q1v,Nat.div_lt_iff_lt_mul (by omega)]; rw [x1]; omega
  have q0l:q0.toNat < 4294967296:=by
   rw [q0v,Nat.div_lt_iff_lt_mul (by omega)]; rw [x0]; omega
  -- all together
  have all:(hi.toNat * 18446744073709551616 + lo.toNat) * 2 ^ s = (q1.toNat * 4294967296 + q0.toNat) * y.toNat * 2 ^ s + R0:=by
   have a1:(hi.toNat * 18446744073709551616 + lo.toNat) * 2 ^ s = un32.toNat * 18446744073709551616 + un10.toNat:=by
    exact glue2 t1 t2
   have a2:(q1.toNat * 4294967296 + q0.toNat) * y.toNat * 2 ^ s = yy.toNat * q1.toNat * 4294967296 + yy.toNat * q0.toNat:=by
    rw [Nat.mul_assoc,<- hyv]; grind
   rw [a1,a2]
   rw [x1] at hm1
   rw [x0] at hm0
   exact glue hm1 hm0
  have hq:(q1 * 4294967296 + q0).toNat = q1.toNat * 4294967296 + q0.toNat:=by
   rw [UInt64.toNat_add,UInt64.toNat_mul,show (4294967296:Ua).toNat = 4294967296 from I]; omega
  have hd:2 ^ s ∣ R0:=by
   have:=(Nat.dvd_add_right (Nat.dvd_mul_left (2 ^ s) ((q1.toNat * 4294967296 + q0.toNat) * y.toNat))).1 (by rw [<- all]; exact Nat.dvd_mul_left ..)
   exact this
  obtain ⟨rr,hrr⟩:=hd
  have hrv:(shrU ((un32 * 4294967296 + shrU un10 32 - q1 * yy) * 4294967296 + (un10 &&& (4294967295:Ua)) - q0 * yy) s).toNat = rr:=by
   rw [bL _ hs64,u00,hrr,Nat.mul_div_cancel_left _ hps]
  unfold jn jr
  rw [if_neg hne,aa,aa]
  dsimp only
  rw [l2,aa,aa,if_neg hne,aa,aa]
  try dsimp only
  rw [l1,aa,aa,aa]
  refine ⟨_,_,I,?_,?_⟩
  ·rw [hq,hrv]
   rw [hrr,Nat.mul_comm (2 ^ s) rr,<- Nat.add_mul] at all
   exact Nat.mul_right_cancel hps all
  ·rw [hrv]
   rw [hrr,Nat.mul_comm,hyv] at hml0
   exact Nat.lt_of_mul_lt_mul_right hml0
set_option maxRecDepth 8000
theorem nG (a:Nat):bln a <= 64 * (dg a).length:=cC (by
 have:=cw (dg a)
 rw [aG,dM] at this
 exact this)
theorem dg_one {m:Nat} (h:(dg m).length = 1):∃ y:Ua,dg m = [y]/\y.toNat = m:=by
 rcases e:dg m with _ | ⟨y,_ | ⟨z,zs⟩⟩
 ·rw [e] at h; simp at h
 ·refine ⟨y,I,?_⟩
  have:=aG m
  rw [e] at this
  simp only [val] at this
  omega
 ·rw [e] at h; simp at h
theorem ii {xs:List Ua} {i:Nat} (v:Ua) (h:i < xs.length):(xs.set i v).drop i = v :: xs.drop (i + 1):=by
 rw [List.drop_eq_getElem_cons (by simpa using h),List.getElem_set_self,List.drop_set_of_lt (by omega)]
theorem kL (n:Nat) (a:List Ua) (y:Ua) (hy:0 < y.toNat) (hl:a.length < 100000) (hn:4294967300 < n):∃ u xs,aj (aP_l1 n a [y]) n (0,((a.length:Nat):Int) - 1,List.replicate a.length 0) = some (u,xs)/\xs.length = a.length/\val a = val xs * y.toNat + u.toNat/\u.toNat < y.toNat:=by
 have hh:=ap (B:=aP_l1 n a [y]) (fun s:Ua × Int × List Ua=>(s.2.1 + 1).toNat) (fun s=>(-1 <= s.2.1/\s.2.1 < a.length)/\s.2.2.length = a.length/\val (a.drop (s.2.1 + 1).toNat) = val (s.2.2.drop (s.2.1 + 1).toNat) * y.toNat + s.1.toNat/\s.1.toNat < y.toNat)
  (fun r=>r.2.length = a.length/\val a = val r.2 * y.toNat + r.1.toNat/\r.1.toNat < y.toNat) ?_ n (0,((a.length:Nat):Int) - 1,List.replicate a.length 0) ⟨by simp only; omega,by simp,?_,by simpa using hy⟩ (by simp only; omega)
 ·obtain ⟨⟨u,xs⟩,e,h1,h2,h3⟩:=hh; exact ⟨u,xs,e,h1,h2,h3⟩
 ·rintro ⟨u,z,xs⟩ J ⟨a1,a2,a3,a4⟩ hJ
  simp only at a1 a2 a3 a4 hJ
  unfold aP_l1
  simp only
  by_cases hz:0 <= z
  ·obtain ⟨k,rfl⟩:∃ k:Nat,z = k:=⟨z.toNat,by omega⟩
   have e0:(((k:Int) + 1).toNat) = k + 1:=by omega
   rw [e0] at a3
   have hka:k < a.length:=by omega
   have hkx:k < xs.length:=by omega
   obtain ⟨q,r,d1,d2,d3⟩:=mN n u a[k] y a4 hn
   rw [if_pos hz,idxN hka,aa]
   simp only [List.getElem?_cons_zero,aa]
   rw [d1,aa,idxN hkx,aa,putN _ hkx,aa,az (by omega) (by omega),aa]
   have eN:(((k:Int) - 1 + 1)).toNat = k:=by omega
   refine hJ (_,_,_) ⟨by simp only; omega,by simpa using a2,?_,d3⟩ (by simp only; omega)
   simp only
   rw [eN,ii q hkx,List.drop_eq_getElem_cons hka]
   simp only [val]
   rw [a3,Nat.add_mul,Nat.mul_add,<- Nat.mul_assoc]
   omega
  ·rw [if_neg hz]
   have e0:(z + 1).toNat = 0:=by omega
   rw [e0] at a3
   exact ⟨_,rfl,a2,by simpa using a3,a4⟩
 ·simp only
  rw [show ((((a.length:Nat):Int) - 1 + 1)).toNat = a.length by omega,List.drop_length,List.drop_eq_nil_of_le (by simp)]
  simp [val]
theorem kl (n:Nat) (a b:Nat) (h0:b ≠ 0) (ha:(dg a).length < 10000) (hb:(dg b).length < 10000) (hn:18446744073709551616 < n):∃ q,aP_p n (dg a) (dg b) = some (q,dg (a % b))/\q.length <= (dg a).length/\val q = a / b:=by
 unfold aP_p
 rw [cu _ _ (by omega),aa]
 by_cases h1:(dg b).length = 1
 ·obtain ⟨y,e,hy⟩:=dg_one h1
  obtain ⟨u,xs,l1,l2,l3,l4⟩:=kL n (dg a) y (by omega) (by omega) (by omega)
  rw [e,if_pos (show ([y]:List Ua).length = 1 from I),l1,aa]
  simp only
  rw [aJ n false _ (by simp only [leC,leN]; omega) (by simp),aa]
  rw [aG,hy] at l3
  rw [hy] at l4
  have hu:=(Nat.div_mod_unique (a:=a) (b:=b) (c:=u.toNat) (d:=val xs) (by omega)).2 ⟨by rw [Nat.mul_comm]; omega,l4⟩
  refine ⟨xs,?_,by omega,hu.1.symm⟩
  simp only [val,Nat.mul_zero,Nat.add_zero]
  rw [hu.2]
 ·rw [if_neg h1,iv n a (by omega),aa,iv n b (by omega),aa]
  have bla:=nG a
  have blb:=nG b
  rw [az (by omega) (by omega),aa]
  have hbp:=eh h0
  have hbg:=gV h0
  have hal:=jk a
  by_cases hK:(bln a:Int) - bln b < 0
  ·obtain ⟨m,rfl⟩:∃ m,n = m + 1:=⟨n - 1,by omega⟩
   have hab:a < b:=Nat.lt_of_lt_of_le hal (Nat.le_trans (Nat.pow_le_pow_right (by decide) (by omega)) hbg)
   rw [bD]
   unfold aP_l2
   simp only
   rw [if_neg (by omega),aa]
   refine ⟨_,by rw [Nat.mod_eq_of_lt hab],by simp,?_⟩
   rw [Nat.div_eq_of_lt hab]
   exact ci _ fun x hx=>(List.mem_replicate.1 hx).2
  ·obtain ⟨K,hKe⟩:∃ K:Nat,(bln a:Int) - bln b = K:=⟨bln a - bln b,by omega⟩
   rw [hKe]
   have hstart:a < b * 2 ^ (K + 1):=by
    have h2:2 ^ bln a <= b * 2 ^ (K + 1):=by
     have:2 ^ (bln b - 1) * 2 ^ (K + 1) <= b * 2 ^ (K + 1):=Nat.mul_le_mul_right _ hbg
     rw [<- Nat.pow_add,show bln b - 1 + (K + 1) = bln a by omega] at this
     exact this
    omega
   have hh:=ap (B:=aP_l2 n (dg b)) (fun s:List Ua × Int × List Ua=>(s.2.1 + 1).toNat)
    (fun s=>(-1 <= s.2.1/\s.2.1 <= K)/\s.2.2.length = (dg a).length/\∃ R,s.1 = dg R/\R <= a/\a = b * val s.2.2 + R/\R < b * 2 ^ (s.2.1 + 1).toNat/\2 ^ (s.2.1 + 1).toNat ∣ val s.2.2)
    (fun r=>r.1.length = (dg a).length/\val r.1 = a / b/\r.2 = dg (a % b)) ?_ n (dg a,(K:Int),List.replicate (dg a).length 0)
    ⟨by simp only; omega,by simp,a,rfl,Nat.le_refl _,?_,?_,?_⟩ (by simp only; omega)
   ·obtain ⟨⟨q,r⟩,e,e1,e2,e3⟩:=hh
    simp only at e1 e2 e3
    rw [e,aa]
    simp only
    rw [e3]
    exact ⟨q,I,by omega,e2⟩
   ·rintro ⟨rw_,z,q⟩ J ⟨a1,a2,R,rfl,a3,a4,a5,a6⟩ hJ
    simp only at a1 a2 a3 a4 a5 a6 hJ
    unfold aP_l2
    simp only
    by_cases hz:0 <= z
    ·obtain ⟨k,rfl⟩:∃ k:Nat,z = k:=⟨z.toNat,by omega⟩
     have e0:(((k:Int) + 1).toNat) = k + 1:=by omega
     rw [e0] at a5 a6
     have eN:(((k:Int) - 1 + 1)).toNat = k:=by omega
     have hRl:=gj a3
     obtain ⟨st1,st2⟩:=nN a4 a5 a6
     rw [if_pos hz,oq n (dg b) k (by omega) (by omega) (by omega),aa,aG]
     obtain ⟨c,ec,c1,c2⟩:=fX n (dg R) (dg (b * 2 ^ k)) (gX _) (gX _) (by omega) (by omega)
     rw [aG,aG] at c1 c2
     rw [ec,aa]
     unfold jn
     simp only
     by_cases hc:0 <= c
     ·have hge:b * 2 ^ k <= R:=by omega
      obtain ⟨g1,g2,g3⟩:=st1 hge
      obtain ⟨xs,t1,t2,t3⟩:=jW n (dg R) (dg (b * 2 ^ k)) (gj hge) (by rw [aG,aG]; exact hge) (by omega) (by omega)
      rw [aG,aG] at t3
      have hkq:k / 64 < q.length:=by
       have h2:2 ^ k < 2 ^ (64 * (dg a).length):=by
        have h3:=cw (dg a)
        rw [aG,dM] at h3
        have h4:1 * 2 ^ k <= b * 2 ^ k:=Nat.mul_le_mul_right _ (by omega)
        omega
       have h5:=(Nat.pow_lt_pow_iff_right (by decide:1 < 2)).1 h2
       omega
      have hbit:=bit_add hkq a6 (shl_one (Nat.mod_lt _ (by decide)))
      rw [if_pos hc,t1,aa,aJ n false xs (by omega) (by omega),aa,oh k (by omega),aa,idxN hkq,aa,rem64,aa,eU,aa,putN _ hkq,aa]
      simp only
      rw [az (by omega) (by omega),aa,t3]
      refine hJ (_,_,_) ⟨by simp only; omega,by simpa using a2,R - b * 2 ^ k,rfl,by omega,?_,?_,?_⟩ (by simp only; omega)
      ·simp only; rw [hbit]; exact g1
      ·simp only; rw [eN]; exact g2
      ·simp only; rw [eN,hbit]; exact g3
     ·rw [if_neg hc,az (by omega) (by omega),aa]
      refine hJ (_,_,_) ⟨by simp only; omega,a2,R,rfl,a3,a4,?_,?_⟩ (by simp only; omega)
      ·simp only; rw [eN]; omega
      ·simp only; rw [eN]; exact st2 (by omega)
    ·rw [if_neg hz]
     have e0:(z + 1).toNat = 0:=by omega
     rw [e0,Nat.pow_zero,Nat.mul_one] at a5
     have hu:=(Nat.div_mod_unique (a:=a) (b:=b) (c:=R) (d:=val q) (by omega)).2 ⟨by omega,a5⟩
     exact ⟨_,rfl,a2,hu.1.symm,by simp only; rw [hu.2]⟩
   ·simp only
    rw [ci _ fun x hx=>(List.mem_replicate.1 hx).2]; omega
   ·simp only
    rw [show (((K:Int) + 1).toNat) = K + 1 by omega]
    exact hstart
   ·simp only
    rw [ci _ fun x hx=>(List.mem_replicate.1 hx).2]
    exact Nat.dvd_zero _
theorem nC (n l:Nat) (a b:Int) (ha:Fit l a) (hb:Fit l b) (h0:b ≠ 0) (hl:l < 5000) (hn:18446744073709551616 < n):cd_p n (L a) (L b) = some (L (a / b),L (a % b)):=by
 have hal:=ha.len
 have hbl:=hb.len
 obtain ⟨q,e1,e2,e3⟩:=kl n a.natAbs b.natAbs (by omega) (by omega) (by omega) hn
 have hm:a.natAbs % b.natAbs < b.natAbs:=Nat.mod_lt _ (by omega)
 have hl2:(dg (a.natAbs % b.natAbs)).length <= l:=gF (Nat.lt_trans hm hb)
 have hdm:=Nat.div_add_mod a.natAbs b.natAbs
 have hq:a.natAbs / b.natAbs <= a.natAbs:=Nat.div_le_self _ _
 unfold cd_p
 rw [show (L a).fo = dg a.natAbs from I,show (L b).fo = dg b.natAbs from I,e1,aa]
 simp only
 rw [aJ n _ _ (by omega) (by omega),aa,aJ n _ _ (by omega) (by omega),aa,e3,aG]
 generalize hx:a.natAbs / b.natAbs = x at *
 generalize hy:a.natAbs % b.natAbs = y at *
 simp only [mt]
 show (if (decide (a < 0) && decide (0 < y)) = true then _ else _) = _
 have hqf:x < 18446744073709551616 ^ l:=Nat.lt_of_le_of_lt hq ha
 have hyf:y < 18446744073709551616 ^ l:=Nat.lt_trans hm hb
 have hpw:2 * 18446744073709551616 ^ l <= 18446744073709551616 ^ (l + 1):=by rw [Nat.pow_succ,Nat.mul_comm]; exact Nat.mul_le_mul_left _ (by decide)
 have hp1:1 <= 18446744073709551616 ^ l:=Nat.pow_pos (by decide)
 have hbb:b.natAbs < 18446744073709551616 ^ l:=hb
 have hab:(b.natAbs:Int) * x + y = a.natAbs:=by exact_mod_cast hdm
 by_cases hr:a < 0/\0 < y
 ·obtain ⟨h1,h2⟩:=hr
  rw [if_pos (by simp [h1,h2])]
  have f1:(⟨false,dg b.natAbs⟩:Ti) = L b.natAbs:=by unfold L; simp
  have f2:(⟨!(L b).fe,([(1:Ua)]:List Ua)⟩:Ti) = L (if b < 0 then 1 else -1):=by
   unfold L
   by_cases hb0:b < 0 <;> simp [hb0] <;> rw [dg1 (by decide) (by decide)] <;> rfl
  rw [f1,f2,dm n (l + 1) _ _ ?_ ?_ (by omega) (by omega),aa,dm n (l + 1) _ _ ?_ ?_ (by omega) (by omega),aa]
  ·have e:sg (!(decide (a < 0) == decide (b < 0))) x + (if b < 0 then 1 else -1) = a / b/\sg (decide (a < 0)) y + b.natAbs = a % b:=by
    have:=dJ (a:=a) (b:=b) (q:=sg (!(decide (a < 0) == decide (b < 0))) x + (if b < 0 then 1 else -1)) (r:=sg (decide (a < 0)) y + b.natAbs) ?_ ?_ ?_
    ·exact ⟨this.1.symm,this.2.symm⟩
    ·unfold sg
     by_cases hb0:b < 0
     ·have:(b.natAbs:Int) = -b:=by omega
      rw [this] at hab ⊢
      have h3:(a.natAbs:Int) = -a:=by omega
      simp [h1,hb0]
      rw [Int.mul_add]; grind
     ·have:(b.natAbs:Int) = b:=by omega
      rw [this] at hab ⊢
      have h3:(a.natAbs:Int) = -a:=by omega
      simp [h1,hb0]
      rw [Int.mul_add]; grind
    ·unfold sg; simp [h1]; omega
    ·unfold sg; simp [h1]; omega
   show some (L (sg (!(decide (a < 0) == decide (b < 0))) x + (if b < 0 then 1 else -1)),L (sg (decide (a < 0)) y + b.natAbs)) = _
   rw [e.1,e.2]
  ·unfold Fit; rw [gG]; omega
  ·unfold Fit; split <;> simp <;> omega
  ·unfold Fit; rw [gG]; omega
  ·unfold Fit; rw [Int.natAbs_natCast]; omega
 ·rw [if_neg (by simpa using hr)]
  have e:=dJ (a:=a) (b:=b) (q:=sg (!(decide (a < 0) == decide (b < 0))) x) (r:=sg (decide (a < 0)) y) ?_ ?_ ?_
  ·rw [e.1,e.2]; rfl
  ·unfold sg
   by_cases h1:a < 0
   ·have hy0:y = 0:=by omega
    have h3:(a.natAbs:Int) = -a:=by omega
    by_cases hb0:b < 0
    ·have:(b.natAbs:Int) = -b:=by omega
     rw [this] at hab; simp [h1,hb0,hy0] at hab ⊢; grind
    ·have:(b.natAbs:Int) = b:=by omega
     rw [this] at hab; simp [h1,hb0,hy0] at hab ⊢; grind
   ·have h3:(a.natAbs:Int) = a:=by omega
    by_cases hb0:b < 0
    ·have:(b.natAbs:Int) = -b:=by omega
     rw [this] at hab; simp [h1,hb0] at hab ⊢; grind
    ·have:(b.natAbs:Int) = b:=by omega
     rw [this] at hab; simp [h1,hb0] at hab ⊢; grind
  ·unfold sg
   by_cases h1:a < 0
   ·have hy0:y = 0:=by omega
    simp [hy0]
   ·simp [h1]
  ·unfold sg
   by_cases h1:a < 0
   ·have hy0:y = 0:=by omega
    simp [hy0]; omega
   ·simp [h1]; omega
theorem lA (n l:Nat) (a b:Int) (ha:Fit l a) (hb:Fit l b) (hl:l < 5000) (hn:18446744073709551616 < n):aH_p n (L a) (L b) = some (L (Nat.gcd a.natAbs b.natAbs:Nat)):=by
 obtain ⟨M,hM⟩:∃ M:Nat,M = 64 * l:=⟨_,I⟩
 have hx2:a.natAbs < 2 ^ M:=by unfold Fit at ha; rw [dM,<- hM] at ha; exact ha
 have hy2:b.natAbs < 2 ^ M:=by unfold Fit at hb; rw [dM,<- hM] at hb; exact hb
 have he:=eu_le hx2 hy2
 have h:=ap (B:=aH_l1 n) (fun s:List Ua × List Ua=>eu (val s.1) (val s.2)) (fun s=>∃ x y,s = (dg x,dg y)/\(dg x).length < 10000/\(dg y).length < 10000/\Nat.gcd x y = Nat.gcd a.natAbs b.natAbs)
  (fun r=>r = dg (Nat.gcd a.natAbs b.natAbs)) ?_ n (dg a.natAbs,dg b.natAbs) ⟨_,_,rfl,by have:=ha.len; omega,by have:=hb.len; omega,rfl⟩ (by simp only [aG]; omega)
 ·obtain ⟨r,h1,rfl⟩:=h
  unfold aH_p
  rw [show (L a).fo = dg a.natAbs from I,show (L b).fo = dg b.natAbs from I,h1,aa]
  unfold L
  simp
 ·rintro _ J ⟨x,y,rfl,h1,h2,h3⟩ hJ
  unfold aH_l1
  simp only
  by_cases h0:y = 0
  ·subst h0
   rw [if_neg (by rw [dg0]; simp)]
   exact ⟨_,rfl,by rw [<- h3,Nat.gcd_zero_right]⟩
  ·obtain ⟨q,e1,_,_⟩:=kl n x y h0 h1 h2 hn
   have hm:x % y < y:=Nat.mod_lt _ (by omega)
   have hyl:0 < (dg y).length:=by
    rcases e:dg y with _ | ⟨z,zs⟩
    ·have:=aG y; rw [e] at this; exact absurd this.symm h0
    ·simp
   rw [if_pos hyl,e1,aa]
   simp only
   refine hJ (dg y,dg (x % y)) ⟨_,_,rfl,h2,Nat.lt_of_le_of_lt (gj (Nat.le_of_lt hm)) h2,?_⟩ (by simp only [aG]; exact lK h0)
   rw [<- h3,Nat.gcd_comm x y,Nat.gcd_rec y x,Nat.gcd_comm]
theorem ma (n l:Nat) (a b:Int) (ha:Fit l a) (hb:Fit l b) (h0:b ≠ 0) (hl:l < 5000) (hn:18446744073709551616 < n) :
  cu_p n (L a) (L b) = some (Rt (Rat.divInt a b))/\(Rat.divInt a b).num.natAbs <= a.natAbs/\(Rat.divInt a b).den <= b.natAbs:=by
 have hg:0 < Nat.gcd a.natAbs b.natAbs:=Nat.gcd_pos_of_pos_right _ (by omega)
 have hgb:Nat.gcd a.natAbs b.natAbs <= b.natAbs:=Nat.gcd_le_right _ (by omega)
 have hgw:Fit l ((Nat.gcd a.natAbs b.natAbs:Nat):Int):=by unfold Fit at *; rw [Int.natAbs_natCast]; omega
 obtain ⟨x,hx⟩:((Nat.gcd a.natAbs b.natAbs:Nat):Int) ∣ a:=Int.ofNat_dvd_left.2 (Nat.gcd_dvd_left _ _)
 obtain ⟨y,hy⟩:((Nat.gcd a.natAbs b.natAbs:Nat):Int) ∣ b:=Int.ofNat_dvd_left.2 (Nat.gcd_dvd_right _ _)
 have hco:=Nat.coprime_div_gcd_div_gcd hg
 generalize Nat.gcd a.natAbs b.natAbs = g at *
 have hg0:(g:Int) ≠ 0:=by omega
 have e1:a / (g:Int) = x:=by rw [hx]; exact Int.mul_ediv_cancel_left _ hg0
 have e2:b / (g:Int) = y:=by rw [hy]; exact Int.mul_ediv_cancel_left _ hg0
 have e3:a.natAbs = g * x.natAbs:=by rw [hx,Int.natAbs_mul]; rfl
 have e4:b.natAbs = g * y.natAbs:=by rw [hy,Int.natAbs_mul]; rfl
 have hc:x.natAbs.Coprime y.natAbs:=by
  rw [e3,e4,Nat.mul_div_cancel_left _ hg,Nat.mul_div_cancel_left _ hg] at hco; exact hco
 have hxl:x.natAbs <= a.natAbs:=by rw [e3]; exact Nat.le_mul_of_pos_left _ hg
 have hyl:y.natAbs <= b.natAbs:=by rw [e4]; exact Nat.le_mul_of_pos_left _ hg
 have hy0:y ≠ 0:=fun e=>h0 (by rw [hy,e,Int.mul_zero])
 have eq:Rat.divInt a b = Rat.divInt x y:=by
  conv=>lhs; rw [hx,hy]
  exact Rat.divInt_mul_left hg0
 have xw:Fit l x:=Nat.lt_of_le_of_lt hxl ha
 have yw:Fit l y:=Nat.lt_of_le_of_lt hyl hb
 have gc:aH_p n (L a) (L b) = some (L g):=by
  have:=lA n l a b ha hb hl hn
  rw [this]
  have h5:Nat.gcd a.natAbs b.natAbs = g:=by
   rw [e3,e4,Nat.gcd_mul_left,show Nat.gcd x.natAbs y.natAbs = 1 from hc,Nat.mul_one]
  rw [h5]
 unfold cu_p
 rw [gc,aa,nC n l a g ha hgw hg0 hl hn,aa,nC n l b g hb hgw hg0 hl hn,aa,e1,e2]
 simp only
 rw [eq]
 by_cases hs:y < 0
 ·rw [if_pos (by simpa [L] using hs),cb n l x xw (by omega) (by omega),aa,cb n l y yw (by omega) (by omega),aa]
  have h5:=eT (x:=-x) (y:=-y) (by omega) (by rwa [Int.natAbs_neg,Int.natAbs_neg])
  rw [Rat.neg_divInt_neg] at h5
  unfold Rt
  rw [h5.1,h5.2]
  exact ⟨rfl,by rw [Int.natAbs_neg]; exact hxl,by have:=h5.2; omega⟩
 ·rw [if_neg (by simpa [L] using hs)]
  have h5:=eT (x:=x) (y:=y) (by omega) hc
  unfold Rt
  rw [h5.1,h5.2]
  exact ⟨I,hxl,by have:=h5.2; omega⟩
set_option maxRecDepth 8000
abbrev T8:=Ua × Ua × Ua × Ua × Ua × Ua × Ua × Ua
def wv (t:T8):List Ua:=[t.1,t.2.1,t.2.2.1,t.2.2.2.1,t.2.2.2.2.1,t.2.2.2.2.2.1,t.2.2.2.2.2.2.1,t.2.2.2.2.2.2.2]
theorem lS:∀ {xs ys:List Ua},xs.length = ys.length -> val xs = val ys -> xs = ys
 | [],[],_,_=>rfl
 | x :: xs,[],h,_=>by simp at h
 | [],y :: ys,h,_=>by simp at h
 | x :: xs,y :: ys,h,e=>by
  simp only [val] at e
  have hx:=x.toNat_lt
  have hy:=y.toNat_lt
  have e1:x = y:=UInt64.toNat_inj.1 (by omega)
  have e2:val xs = val ys:=by omega
  rw [e1,lS (by simpa using h) e2]
theorem wv_inj {s t:T8} (h:val (wv s) = val (wv t)):s = t:=by
 have:=lS (by rfl) h
 unfold wv at this
 obtain ⟨s1,s2,s3,s4,s5,s6,s7,s8⟩:=s
 obtain ⟨t1,t2,t3,t4,t5,t6,t7,t8⟩:=t
 simp only [List.cons.injEq,and_true] at this
 simp only [Prod.mk.injEq]
 exact this
def HB:Nat:=9223372036854775808 * 18446744073709551616 ^ 7
def FB:Nat:=18446744073709551616 ^ 8
theorem cU:FB = 2 * HB:=by unfold FB HB; rfl
theorem bT:0 < HB:=by unfold HB; decide
theorem wv_lt (t:T8):val (wv t) < FB:=cw (wv t)
def Wn (m:Nat):T8:=(UInt64.ofNat m,UInt64.ofNat (m / 18446744073709551616),UInt64.ofNat (m / 18446744073709551616 / 18446744073709551616),UInt64.ofNat (m / 18446744073709551616 / 18446744073709551616 / 18446744073709551616),UInt64.ofNat (m / 18446744073709551616 / 18446744073709551616 / 18446744073709551616 / 18446744073709551616),UInt64.ofNat (m / 18446744073709551616 / 18446744073709551616 / 18446744073709551616 / 18446744073709551616 / 18446744073709551616),UInt64.ofNat (m / 18446744073709551616 / 18446744073709551616 / 18446744073709551616 / 18446744073709551616 / 18446744073709551616 / 18446744073709551616),UInt64.ofNat (m / 18446744073709551616 / 18446744073709551616 / 18446744073709551616 / 18446744073709551616 / 18446744073709551616 / 18446744073709551616 / 18446744073709551616))
theorem cp (m:Nat) (xs:List Ua) (h:val xs = m / 18446744073709551616):val (UInt64.ofNat m :: xs) = m:=by
 simp only [val]
 rw [UInt64.toNat_ofNat', h]
 exact Nat.mod_add_div m 18446744073709551616
theorem Wn_val {m:Nat} (h:m < FB):val (wv (Wn m)) = m:=by
 unfold wv Wn
 refine cp _ _ (cp _ _ (cp _ _ (cp _ _ (cp _ _ (cp _ _ (cp _ _ ?_))))))
 simp only [val]
 rw [UInt64.toNat_ofNat', Nat.mul_zero,Nat.add_zero]
 refine Nat.mod_eq_of_lt ?_
 simp only [Nat.div_div_eq_div_mul]
 refine Nat.div_lt_of_lt_mul ?_
 exact h
def Fw (z:Int):Prop:=-(HB:Int) <= z/\z < HB
def Wg (z:Int):T8:=Wn (z % (FB:Int)).toNat
theorem dY (z:Int):(val (wv (Wg z)):Int) = z % (FB:Int):=by
 have hp:=bT
 have hf:=cU
 have h0:=Int.emod_nonneg z (b:=(FB:Int)) (by omega)
 have h1:=Int.emod_lt_of_pos z (b:=(FB:Int)) (by omega)
 unfold Wg
 rw [Wn_val (by omega)]
 omega
theorem ln {z:Int} (h:Fw z) (h0:0 <= z):val (wv (Wg z)) = z.natAbs:=by
 have hp:=bT
 have hf:=cU
 have:=dY z
 rw [Int.emod_eq_of_lt h0 (by have:=h.2; omega)] at this
 omega
theorem kM {z:Int} (h:Fw z) (h0:z < 0):val (wv (Wg z)) + z.natAbs = FB:=by
 have hp:=bT
 have hf:=cU
 have:=dY z
 have e:z % (FB:Int) = z + FB:=by
  rw [<- Int.add_emod_right]
  exact Int.emod_eq_of_lt (by have:=h.1; omega) (by omega)
 rw [e] at this
 have:=h.1
 omega
theorem bP {s b c a c1 c2 Vs Vb Va K:Nat} (h1:s + b + c = a + 18446744073709551616 * c1) (h2:Vs + Vb + c1 = Va + K * c2):(s + 18446744073709551616 * Vs) + (b + 18446744073709551616 * Vb) + c = (a + 18446744073709551616 * Va) + 18446744073709551616 * K * c2:=by
 rw [Nat.mul_assoc]
 have:=congrArg (18446744073709551616 * ·) h2
 simp only [Nat.mul_add] at this
 omega
theorem io (n:Nat) (a b:T8):∃ s c,bH_p n a b = some (s,c)/\val (wv s) + val (wv b) = val (wv a) + FB * c.toNat/\c.toNat <= 1:=by
 obtain ⟨a1,a2,a3,a4,a5,a6,a7,a8⟩:=a
 obtain ⟨b1,b2,b3,b4,b5,b6,b7,b8⟩:=b
 obtain ⟨s1,c1,e1,f1,g1⟩:=bH a1 b1 0 (by decide)
 obtain ⟨s2,c2,e2,f2,g2⟩:=bH a2 b2 c1 g1
 obtain ⟨s3,c3,e3,f3,g3⟩:=bH a3 b3 c2 g2
 obtain ⟨s4,c4,e4,f4,g4⟩:=bH a4 b4 c3 g3
 obtain ⟨s5,c5,e5,f5,g5⟩:=bH a5 b5 c4 g4
 obtain ⟨s6,c6,e6,f6,g6⟩:=bH a6 b6 c5 g5
 obtain ⟨s7,c7,e7,f7,g7⟩:=bH a7 b7 c6 g6
 obtain ⟨s8,c8,e8,f8,g8⟩:=bH a8 b8 c7 g7
 refine ⟨(s1,s2,s3,s4,s5,s6,s7,s8),c8,?_,?_,g8⟩
 ·unfold bH_p
  simp only [e1,e2,e3,e4,e5,e6,e7,e8,aa]
 ·have hFB:FB = 18446744073709551616 * (18446744073709551616 * (18446744073709551616 * (18446744073709551616 * (18446744073709551616 * (18446744073709551616 * (18446744073709551616 * (18446744073709551616 * 1))))))):=rfl
  have:=bP f1 (bP f2 (bP f3 (bP f4 (bP f5 (bP f6 (bP f7 (bP f8 (show 0 + 0 + c8.toNat = 0 + 1 * c8.toNat by omega))))))))
  rw [<- hFB,show (0:Ua).toNat = 0 from I,Nat.add_zero] at this
  simp only [wv,val]
  exact this
theorem mJ (n:Nat) (a b:T8) (hn:10 < n):∃ c,bf_p n a b = some c/\(c < 0 ↔ val (wv a) < val (wv b))/\(c = 0 ↔ val (wv a) = val (wv b)):=by
 have hh:=ap (B:=bf_l1 n a b) (fun z:Int=>(z + 1).toNat) (fun z=>-1 <= z/\z < 8/\(wv a).drop (z + 1).toNat = (wv b).drop (z + 1).toNat)
  (fun r=>(r = .inl (-1)/\val (wv a) < val (wv b)) ∨ (r = .inl 1/\val (wv b) < val (wv a)) ∨ (r = .inr ()/\wv a = wv b)) ?_ n 7 ⟨by omega,by omega,I⟩ (by omega)
 ·obtain ⟨r,hr,h1 | h1 | h1⟩:=hh
  ·unfold bf_p
   rw [hr,h1.1]; exact ⟨_,rfl,by have:=h1.2; omega,by have:=h1.2; omega⟩
  ·unfold bf_p
   rw [hr,h1.1]; exact ⟨_,rfl,by have:=h1.2; omega,by have:=h1.2; omega⟩
  ·unfold bf_p
   rw [hr,h1.1,h1.2]; exact ⟨_,rfl,by omega,by omega⟩
 ·intro z J ⟨h1,h2,h3⟩ hJ
  unfold bf_l1
  simp only
  have la:(wv a).length = 8:=rfl
  have lb:(wv b).length = 8:=rfl
  by_cases h0:0 <= z
  ·have e1:(z + 1).toNat = z.toNat + 1:=by omega
   rw [e1] at h3
   rw [if_pos h0]
   show ∃ r,((idx (wv a) z).bind fun z64=>(idx (wv b) z).bind fun z68=>if z64 = z68 then (chk (z - 1)).bind fun s73=>J s73 else if z64 < z68 then some (Sum.inl (-1:Int)) else some (Sum.inl (1:Int))) = some r/\_
   rw [aS h0 (by omega),aa,aS h0 (by omega),aa]
   split
   ·rename_i he
    rw [az (by omega) (by omega),aa]
    refine hJ (z - 1) ⟨by omega,by omega,?_⟩ (by omega)
    rw [show (z - 1 + 1).toNat = z.toNat by omega,List.drop_eq_getElem_cons (by omega),List.drop_eq_getElem_cons (l:=wv b) (by omega),h3,he]
   ·rename_i hne
    split
    ·rename_i hlt; exact ⟨_,I,.inl ⟨I,gg (by omega) (by omega) h3 hlt⟩⟩
    ·rename_i h5
     refine ⟨_,I,.inr (.inl ⟨I,gg (by omega) (by omega) h3.symm ?_⟩)⟩
     rw [UInt64.lt_iff_toNat_lt] at h5 ⊢
     have:((wv a)[z.toNat]'(by omega)).toNat ≠ ((wv b)[z.toNat]'(by omega)).toNat:=fun e=>hne (UInt64.toNat_inj.1 e)
     omega
  ·rw [if_neg h0]
   have e1:(z + 1).toNat = 0:=by omega
   rw [e1] at h3
   exact ⟨_,rfl,.inr (.inr ⟨rfl,by simpa using h3⟩)⟩
theorem gk (t:T8):shrU t.2.2.2.2.2.2.2 63 = 1 ↔ HB <= val (wv t):=by
 obtain ⟨t1,t2,t3,t4,t5,t6,t7,t8⟩:=t
 have h1:=cw [t1,t2,t3,t4,t5,t6,t7]
 have e:val (wv (t1,t2,t3,t4,t5,t6,t7,t8)) = val [t1,t2,t3,t4,t5,t6,t7] + 18446744073709551616 ^ 7 * t8.toNat:=by
  have:=eB [t1,t2,t3,t4,t5,t6,t7] [t8]
  simp only [leC,leN] at this
  show val ([t1,t2,t3,t4,t5,t6,t7] ++ [t8]) = _
  rw [this]
  simp [val]
 rw [e]
 simp only [leC,leN] at h1
 have h8:=t8.toNat_lt
 have hs:(shrU t8 63).toNat = t8.toNat / 9223372036854775808:=bL t8 (by decide)
 have hsw:shrU t8 63 = 1 ↔ 9223372036854775808 <= t8.toNat:=by
  constructor
  ·intro h
   have:=congrArg UInt64.toNat h
   rw [hs] at this
   simp only [UInt64.toNat_one] at this
   omega
  ·intro h
   refine UInt64.toNat_inj.1 ?_
   rw [hs]
   simp only [UInt64.toNat_one]
   omega
 show shrU t8 63 = 1 ↔ _
 rw [hsw]
 unfold HB
 generalize val [t1,t2,t3,t4,t5,t6,t7] = lo at *
 generalize hP:(18446744073709551616:Nat) ^ 7 = P at *
 constructor
 ·intro h
  have:=Nat.mul_le_mul_left P h
  rw [Nat.mul_comm] at this
  omega
 ·intro h
  by_cases c:9223372036854775808 <= t8.toNat
  ·exact c
  ·exfalso
   have:=Nat.mul_le_mul_left P (show t8.toNat + 1 <= 9223372036854775808 by omega)
   rw [Nat.mul_add,Nat.mul_comm P 9223372036854775808] at this
   omega
theorem lO (n:Nat) (z:Int) (h:Fw z) (hn:10 < n):bY_p n (Wg z) = some (L z):=by
 have hp:=bT
 have hf:=cU
 have fin:∀ (b:Bool) (t:T8),val (wv t) = z.natAbs -> (b && decide (0 < z.natAbs)) = decide (z < 0) -> ((app ([]:List Ua) ([t.1,t.2.1,t.2.2.1,t.2.2.2.1,t.2.2.2.2.1,t.2.2.2.2.2.1,t.2.2.2.2.2.2.1,t.2.2.2.2.2.2.2]:List Ua)).bind fun xs=>(ay_p n b xs).bind fun y=>some y) = some (L z):=fun b t hv hb=>by
  show ((app ([]:List Ua) (wv t)).bind fun xs=>(ay_p n b xs).bind fun y=>some y) = some (L z)
  rw [bg [] (wv t) (by show 0 + 8 <= 1000000; decide),aa,List.nil_append,aJ n b (wv t) (by show 8 < n; omega) (by show 8 <= 4294967296; decide),aa,hv,hb]
  rfl
 unfold bY_p dQ_p
 by_cases h0:z < 0
 ·have hv:=kM h h0
  have hge:HB <= val (wv (Wg z)):=by have:=h.1; omega
  obtain ⟨s,c,e,e2,e3⟩:=io n (0,0,0,0,0,0,0,0) (Wg z)
  have hz:val (wv ((0,0,0,0,0,0,0,0):T8)) = 0:=rfl
  rw [hz] at e2
  have hs:=wv_lt s
  have hc:c.toNat = 1:=by
   by_cases hc0:c.toNat = 0
   ·rw [hc0] at e2; omega
   ·omega
  rw [hc] at e2
  rw [if_pos ((gk _).2 hge),e,aa,aa]
  exact fin _ s (by omega) (by rw [decide_eq_true ((gk _).2 hge),decide_eq_true (by omega:0 < z.natAbs),decide_eq_true h0]; rfl)
 ·have hv:=ln h (by omega)
  have hlt:¬ shrU (Wg z).2.2.2.2.2.2.2 63 = 1:=fun e=>by have:=(gk _).1 e; have:=h.2; omega
  rw [if_neg hlt,aa]
  exact fin _ (Wg z) hv (by rw [decide_eq_false hlt,decide_eq_false h0]; rfl)
theorem iy {z:Int} {t:T8} (h:(val (wv t):Int) = z % (FB:Int)):t = Wg z:=wv_inj (by have:=dY z; omega)
theorem nj {ws:List Ua} (h:ws.length <= 8):val (wv (aQ ws 0 0,aQ ws 1 0,aQ ws 2 0,aQ ws 3 0,aQ ws 4 0,aQ ws 5 0,aQ ws 6 0,aQ ws 7 0)) = val ws:=by
 unfold wv aQ
 rcases ws with _ | ⟨a,_ | ⟨b,_ | ⟨c,_ | ⟨d,_ | ⟨e,_ | ⟨f,_ | ⟨g,_ | ⟨i,_ | ⟨j,xs⟩⟩⟩⟩⟩⟩⟩⟩⟩
 any_goals simp [val]
 simp only [leC] at h
 omega
open Classical in
theorem toldG (n:Nat) (z:Int) (hn:10 < n):cq_p n (L z) = some (if Fw z then (Wg z,0) else ((0,0,0,0,0,0,0,0),6)):=by
 have hp:=bT
 have hf:=cU
 have hdg:=aG z.natAbs
 unfold cq_p
 by_cases hl:8 < (dg z.natAbs).length
 ·have h1:=iY (gX z.natAbs) (by intro e; rw [e] at hl; simp at hl)
  have h2:18446744073709551616 ^ 8 <= 18446744073709551616 ^ ((dg z.natAbs).length - 1):=Nat.pow_le_pow_right (by decide) (by omega)
  have hbig:FB <= z.natAbs:=by unfold FB; omega
  rw [if_pos (show 8 < (L z).fo.length from hl),if_neg fun h:Fw z=>by have:=h.1; have:=h.2; omega]
 ·have hv:=nj (ws:=dg z.natAbs) (by omega)
  rw [if_neg (show ¬ 8 < (L z).fo.length from hl)]
  show ((cG_p n ⟨decide (z < 0),(aQ (dg z.natAbs) 0 0,aQ (dg z.natAbs) 1 0,aQ (dg z.natAbs) 2 0,aQ (dg z.natAbs) 3 0,aQ (dg z.natAbs) 4 0,aQ (dg z.natAbs) 5 0,aQ (dg z.natAbs) 6 0,aQ (dg z.natAbs) 7 0)⟩).bind _) = _
  generalize hT:((aQ (dg z.natAbs) 0 0,aQ (dg z.natAbs) 1 0,aQ (dg z.natAbs) 2 0,aQ (dg z.natAbs) 3 0,aQ (dg z.natAbs) 4 0,aQ (dg z.natAbs) 5 0,aQ (dg z.natAbs) 6 0,aQ (dg z.natAbs) 7 0):T8) = t at *
  rw [hdg] at hv
  unfold cG_p
  obtain ⟨c,ec,c1,c2⟩:=mJ n t (0,0,0,0,0,0,0,9223372036854775808) hn
  have hlim:val (wv ((0,0,0,0,0,0,0,9223372036854775808):T8)) = HB:=by decide
  rw [hlim,hv] at c1 c2
  simp only
  rw [ec,aa]
  obtain ⟨s,cc,e,e2,e3⟩:=io n (0,0,0,0,0,0,0,0) t
  have hz:val (wv ((0,0,0,0,0,0,0,0):T8)) = 0:=rfl
  rw [hz,hv] at e2
  have hs:=wv_lt s
  have neg:z < 0 -> Fw z -> s = Wg z:=fun h0 hw=>by
   refine iy ?_
   have hc:cc.toNat = 1:=by
    by_cases hc0:cc.toNat = 0
    ·rw [hc0] at e2; omega
    ·omega
   rw [hc] at e2
   have e5:z % (FB:Int) = z + FB:=by
    rw [<- Int.add_emod_right]
    exact Int.emod_eq_of_lt (by have:=hw.1; omega) (by omega)
   rw [e5]; omega
  by_cases g1:0 < c
  ·rw [if_pos g1,aa,if_neg fun h:Fw z=>by have:=h.1; have:=h.2; omega]
  ·rw [if_neg g1]
   by_cases g2:c = 0
   ·rw [if_pos g2]
    by_cases h0:z < 0
    ·have hw:Fw z:=⟨by omega,by omega⟩
     rw [if_pos (decide_eq_true h0),e,aa,aa,if_pos hw,neg h0 hw]
    ·rw [if_neg (by simpa using h0),aa,if_neg fun h:Fw z=>by have:=h.2; omega]
   ·rw [if_neg g2]
    by_cases h0:z < 0
    ·have hw:Fw z:=⟨by omega,by omega⟩
     rw [if_pos (decide_eq_true h0),e,aa,aa,if_pos hw,neg h0 hw]
    ·have hw:Fw z:=⟨by omega,by omega⟩
     rw [if_neg (by simpa using h0),aa,if_pos hw]
     rw [show t = Wg z from iy (by rw [Int.emod_eq_of_lt (by omega) (by have:=hw.2; omega)]; omega)]
set_option maxRecDepth 8000
def Sg (q:Rat):Ta:=⟨Wg q.num,Wg q.den⟩
def FQ (q:Rat):Prop:=Fw q.num/\Fw (q.den:Int)
def noS:Ta:=⟨(0,0,0,0,0,0,0,0),(0,0,0,0,0,0,0,0)⟩
theorem Fw.fit {z:Int} (h:Fw z):Fit 8 z:=by
 have h1:=cU
 have h2:=bT
 unfold Fit
 show z.natAbs < FB
 have:=h.1
 have:=h.2
 omega
theorem FQ.n {q:Rat} (h:FQ q):Fit 8 q.num:=h.1.fit
theorem FQ.d {q:Rat} (h:FQ q):Fit 8 (q.den:Int):=h.2.fit
theorem FQ.ndnz {q:Rat}:(q.den:Int) ≠ 0:=by have:=q.den_pos; omega
theorem gJ {z:Int} (h:Sm z):Fw z:=by
 have:9223372036854775808 <= HB:=by unfold HB; decide
 unfold Sm at h
 exact ⟨by omega,by omega⟩
theorem W8_Wg {z:Int} (h:Sm z):W8 z = Wg z:=by
 have hp:9223372036854775808 <= HB:=by unfold HB; decide
 have hf:=cU
 refine iy ?_
 unfold W8
 by_cases h0:z < 0
 ·have e5:z % (FB:Int) = z + FB:=by
   rw [<- Int.add_emod_right]
   exact Int.emod_eq_of_lt (by unfold Sm at h; omega) (by omega)
  rw [if_pos h0,e5]
  have hv:val (wv ((ac z,18446744073709551615,18446744073709551615,18446744073709551615,18446744073709551615,18446744073709551615,18446744073709551615,18446744073709551615):T8)) = (ac z).toNat + 18446744073709551616 * val [18446744073709551615,18446744073709551615,18446744073709551615,18446744073709551615,18446744073709551615,18446744073709551615,18446744073709551615]:=rfl
  have hc:18446744073709551616 * val [18446744073709551615,18446744073709551615,18446744073709551615,18446744073709551615,18446744073709551615,18446744073709551615,18446744073709551615] + 18446744073709551616 = FB:=by decide
  rw [hv,eK h h0]
  unfold Sm at h
  omega
 ·rw [if_neg h0,Int.emod_eq_of_lt (by omega) (by unfold Sm at h; omega)]
  have hv:val (wv ((ac z,0,0,0,0,0,0,0):T8)) = (ac z).toNat:=by unfold wv; simp [val]
  rw [hv,em h h0,bS h.w]
  omega
theorem Sh_Sg {q:Rat} (h1:Sm q.num) (h2:Sm (q.den:Int)):Sh q = Sg q:=by unfold Sh Sg; rw [W8_Wg h1,W8_Wg h2]
theorem Wg_inj {x y:Int} (hx:Fw x) (hy:Fw y) (e:Wg x = Wg y):x = y:=by
 have h1:=dY x
 have h2:=dY y
 rw [e,h2] at h1
 have hf:=cU
 have hp:=bT
 have a:=hx.1; have b:=hx.2; have c:=hy.1; have d:=hy.2
 have e3:=Int.emod_eq_emod_iff_emod_sub_eq_zero.1 h1
 obtain ⟨k,hk⟩:=Int.dvd_of_emod_eq_zero e3
 by_cases k0:k = 0
 ·rw [k0,Int.mul_zero] at hk; omega
 ·by_cases kp:1 <= k
  ·have:(FB:Int) * 1 <= FB * k:=Int.mul_le_mul_of_nonneg_left kp (by omega)
   omega
  ·have:(FB:Int) * k <= FB * (-1):=Int.mul_le_mul_of_nonneg_left (show k <= -1 by omega) (by omega)
   omega
theorem cK (n:Nat) (q:Rat) (h:FQ q) (hn:10 < n):bb_p n (Sg q) = some (Rt q):=by
 unfold bb_p
 rw [show (Sg q).fN = Wg q.num from I,show (Sg q).fD = Wg q.den from I,lO n _ h.1 hn,aa,lO n _ h.2 hn,aa]
 rfl
open Classical in
theorem rtoldG (n:Nat) (q:Rat) (hn:10 < n):bS_p n (Rt q) = some (if FQ q then (Sg q,0) else (noS,6)):=by
 unfold bS_p
 rw [show (Rt q).fy = L q.num from I,show (Rt q).fv = L q.den from I,toldG n _ hn,aa,toldG n _ hn,aa]
 by_cases h1:Fw q.num
 ·by_cases h2:Fw (q.den:Int)
  ·rw [if_pos h1,if_pos h2,if_pos (show FQ q from ⟨h1,h2⟩)]
   rfl
  ·rw [if_pos h1,if_neg h2,if_neg fun h:FQ q=>h2 h.2]
   rfl
 ·rw [if_neg h1,if_neg fun h:FQ q=>h1 h.1]
  rfl
theorem checkG (n:Nat) (q:Rat) (h:FQ q) (hn:18446744073709551616 < n):dN_p n (Sg q) = some 0:=by
 have hd:=q.den_pos
 unfold dN_p
 rw [from_ok n 1 (by unfold Sm; decide) (by omega),aa,cK n q h (by omega),aa,show (Rt q).fy = L q.num from I,show (Rt q).fv = L q.den from I,iJ,aa,Int.sign_eq_one_of_pos (by omega),if_neg (by decide)]
 rw [lA n 8 _ _ h.n h.d (by decide) hn,aa,show Nat.gcd q.num.natAbs (q.den:Int).natAbs = 1 from q.reduced]
 unfold df_p
 rw [jx n 1 _ _ (by unfold Fit; decide) (by unfold Fit; decide) (by omega) (by omega),aa,iJ]
 rfl
theorem valid1G (n:Nat) (q:Rat) (h:FQ q) (hn:18446744073709551616 < n):dG_p n (Sg q) = some true:=by
 unfold dG_p; rw [checkG n q h hn]; rfl
theorem validG (n:Nat) (l:List Rat) (h:∀ q ∈ l,FQ q) (hl:l.length < n) (hn:18446744073709551616 < n):bn_p n (l.map Sg) = some true:=by
 have hh:=ap (B:=bn_l1 n (l.map Sg)) (fun i:Nat=>l.length - i) (fun i=>i <= l.length) (fun r=>r = .inr ()) ?_ n 0 (Nat.zero_le _) (by simpa using hl)
 ·obtain ⟨r,e,rfl⟩:=hh
  unfold bn_p
  rw [e]; rfl
 ·intro i J hi hJ
  unfold bn_l1
  simp only
  by_cases h0:i < l.length
  ·rw [if_pos (by simpa using h0),geE (by simpa using h0),aa,List.getElem_map]
   rw [valid1G n _ (h l[i] (List.getElem_mem _)) hn,aa,if_pos I]
   exact hJ (i + 1) h0 (by omega)
  ·rw [if_neg (by simpa using h0)]
   exact ⟨_,I,I⟩
theorem gb (n:Nat) (a b:Rat) (ha:FQ a) (hb:FQ b) (hn:18446744073709551616 < n):bn_p n [Sg a,Sg b] = some true:=
 validG n [a,b] (fun q hq=>by
  rcases List.mem_cons.1 hq with rfl | hq
  ·exact ha
  ·rw [List.mem_singleton.1 hq]; exact hb) (by simp only [leC,leN]; omega) hn
theorem Fit.mul {l m:Nat} {a b:Int} (ha:Fit l a) (hb:Fit m b):Fit (l + m) (a * b):=by
 unfold Fit at *
 rw [Int.natAbs_mul,Nat.pow_add]
 exact Nat.mul_lt_mul'' ha hb
theorem Fit.add {l:Nat} {a b:Int} (ha:Fit l a) (hb:Fit l b):Fit (l + 1) (a + b):=by
 unfold Fit at *
 have:2 * 18446744073709551616 ^ l <= 18446744073709551616 ^ (l + 1):=by rw [Nat.pow_succ,Nat.mul_comm]; exact Nat.mul_le_mul_left _ (by decide)
 omega
theorem Fit.mono {l m:Nat} {a:Int} (ha:Fit l a) (h:l <= m):Fit m a:=Nat.lt_of_lt_of_le ha (Nat.pow_le_pow_right (by decide) h)
structure RF (l:Nat) (q:Rat):Prop where
 n:Fit l q.num
 d:Fit l (q.den:Int)
theorem FQ.rf {q:Rat} (h:FQ q):RF 8 q:=⟨h.n,h.d⟩
theorem RF.of {l:Nat} {a b:Int} (ha:Fit l a) (hb:Fit l b) (h1:(Rat.divInt a b).num.natAbs <= a.natAbs) (h2:(Rat.divInt a b).den <= b.natAbs):RF l (Rat.divInt a b):=
 ⟨Nat.lt_of_le_of_lt h1 ha,by unfold Fit; rw [Int.natAbs_natCast]; exact Nat.lt_of_le_of_lt h2 hb⟩
theorem plusG (n l:Nat) (a b:Rat) (ha:RF l a) (hb:RF l b) (hl:l < 1000) (hn:18446744073709551616 < n):cv_p n (Rt a) (Rt b) = some (Rt (a + b))/\RF (l + l + 1) (a + b):=by
 have d0:(a.den:Int) * b.den ≠ 0:=Int.mul_ne_zero FQ.ndnz FQ.ndnz
 have e:a + b = Rat.divInt (a.num * b.den + b.num * a.den) (a.den * b.den):=by
  conv=>lhs; rw [<- Rat.num_divInt_den a,<- Rat.num_divInt_den b]
  exact Rat.divInt_add_divInt _ _ FQ.ndnz FQ.ndnz
 have f1:=(ha.n.mul hb.d).add (hb.n.mul ha.d)
 have f2:=(ha.d.mul hb.d).mono (show l + l <= l + l + 1 by omega)
 obtain ⟨e1,e2,e3⟩:=ma n (l + l + 1) _ _ f1 f2 d0 (by omega) hn
 rw [<- e] at e1 e2 e3
 refine ⟨?_,?_⟩
 ·unfold cv_p Rt
  rw [cm n l l _ _ ha.n hb.d (by omega) (by omega),aa,cm n l l _ _ hb.n ha.d (by omega) (by omega),aa,dm n (l + l) _ _ (ha.n.mul hb.d) (hb.n.mul ha.d) (by omega) (by omega),aa,cm n l l _ _ ha.d hb.d (by omega) (by omega),aa,e1]
  rfl
 ·rw [e]; rw [e] at e2 e3; exact RF.of f1 f2 e2 e3
theorem overG (n l:Nat) (a b:Rat) (ha:RF l a) (hb:RF l b) (h0:b ≠ 0) (hl:l < 1000) (hn:18446744073709551616 < n):cw_p n (Rt a) (Rt b) = some (Rt (a / b))/\RF (l + l) (a / b):=by
 have b0:b.num ≠ 0:=fun e=>h0 (Rat.num_eq_zero.1 e)
 have d0:(a.den:Int) * b.num ≠ 0:=Int.mul_ne_zero FQ.ndnz b0
 have e:a / b = Rat.divInt (a.num * b.den) (a.den * b.num):=by
  conv=>lhs; rw [Rat.div_def,<- Rat.num_divInt_den a,<- Rat.num_divInt_den b,Rat.inv_divInt]
  exact Rat.divInt_mul_divInt _ _
 have f1:=ha.n.mul hb.d
 have f2:=ha.d.mul hb.n
 obtain ⟨e1,e2,e3⟩:=ma n (l + l) _ _ f1 f2 d0 (by omega) hn
 rw [<- e] at e1 e2 e3
 refine ⟨?_,?_⟩
 ·unfold cw_p Rt
  rw [cm n l l _ _ ha.n hb.d (by omega) (by omega),aa,cm n l l _ _ ha.d hb.n (by omega) (by omega),aa,e1]
  rfl
 ·rw [e]; rw [e] at e2 e3; exact RF.of f1 f2 e2 e3
theorem RF.neg {l:Nat} {q:Rat} (h:RF l q):RF l (-q):=⟨by rw [Rat.neg_num]; exact h.n.neg,by rw [Rat.neg_den]; exact h.d⟩
theorem turnedG (n l:Nat) (a:Rat) (ha:RF l a) (hl:l < 1000) (hn:18446744073709551616 < n):cD_p n (Rt a) = some (Rt (-a)):=by
 unfold cD_p Rt
 rw [cb n l _ ha.n (by omega) (by omega),aa,Rat.neg_num,Rat.neg_den]
open Classical in
theorem kI (n:Nat) (q:Rat) (hn:10 < n):bK_p n (Rt q) 0 = some (if FQ q then (Sg q,0) else (noS,6)):=by
 unfold bK_p
 rw [if_pos I,rtoldG n q hn]
 rfl
open Classical in
theorem addG (n:Nat) (a b:Rat) (ha:FQ a) (hb:FQ b) (hn:18446744073709551616 < n):dS_p n (Sg a) (Sg b) = some (if FQ (a + b) then (Sg (a + b),0) else (noS,6)):=by
 obtain ⟨e1,_⟩:=plusG n 8 a b ha.rf hb.rf (by decide) hn
 unfold dS_p
 rw [gb n a b ha hb hn,aa,if_pos I,cK n a ha (by omega),aa,cK n b hb (by omega),aa,e1,aa,kI n _ (by omega)]
 rfl
open Classical in
theorem subG (n:Nat) (a b:Rat) (ha:FQ a) (hb:FQ b) (hn:18446744073709551616 < n):dR_p n (Sg a) (Sg b) = some (if FQ (a - b) then (Sg (a - b),0) else (noS,6)):=by
 obtain ⟨e1,_⟩:=plusG n 8 a (-b) ha.rf hb.rf.neg (by decide) hn
 rw [<- Rat.sub_eq_add_neg] at e1
 unfold dR_p
 rw [gb n a b ha hb hn,aa,if_pos I,cK n a ha (by omega),aa,cK n b hb (by omega),aa]
 unfold dj_p
 rw [turnedG n 8 b hb.rf (by decide) hn,aa,e1,aa,aa,kI n _ (by omega)]
 rfl
theorem Wg_zero:Wg 0 = (0,0,0,0,0,0,0,0):=(iy (by decide)).symm
open Classical in
theorem divG (n:Nat) (a b:Rat) (ha:FQ a) (hb:FQ b) (h0:b ≠ 0) (hn:18446744073709551616 < n):dT_p n (Sg a) (Sg b) = some (if FQ (a / b) then (Sg (a / b),0) else (noS,6)):=by
 obtain ⟨e1,_⟩:=overG n 8 a b ha.rf hb.rf h0 (by decide) hn
 have hz:Fw 0:=⟨by have:=bT; omega,by have:=bT; omega⟩
 unfold dT_p
 rw [gb n a b ha hb hn,aa,if_pos I,if_neg (show ¬ (Sg b).fN = (0,0,0,0,0,0,0,0) from fun e=>h0 (Rat.num_eq_zero.1 (Wg_inj hb.1 hz (e.trans Wg_zero.symm)))),aa,if_pos I,cK n a ha (by omega),aa,cK n b hb (by omega),aa,e1,aa,kI n _ (by omega)]
 rfl
set_option maxRecDepth 8000
theorem lT {x y:Int} (h:y ≠ 0) (h1:-9223372036854775808 <= x.tdiv y) (h2:x.tdiv y <= 9223372036854775807):cj x y = some (x.tdiv y):=by
 unfold cj; rw [if_neg h,az h1 h2]
theorem nV (n:Nat) (a b:List Int) (hda:Dig a) (hdb:Dig b) (hn:a.length + 1 < n/\b.length + 1 < n) (hl:a.length < 100000/\b.length < 100000):∃ xs,bt_p n a b = some xs/\Dig xs/\xs.length <= max a.length b.length + 1/\dv xs = dv a + dv b:=by
 have h:=ap (B:=bt_l1 n a b) (fun s:Int × Int × List Int=>max a.length b.length + 1 - s.2.2.length)
  (fun s=>s.2.1 = (s.2.2.length:Int)/\s.2.2.length <= max a.length b.length + 1/\(0 <= s.1/\s.1 <= 1)/\Dig s.2.2/\dv s.2.2 + 4294967296 ^ s.2.2.length * s.1.toNat = dv (a.take s.2.2.length) + dv (b.take s.2.2.length)/\(s.2.2.length = max a.length b.length + 1 -> s.1 = 0))
  (fun xs:List Int=>Dig xs/\xs.length <= max a.length b.length + 1/\dv xs = dv a + dv b) ?_ n (0,0,[]) ⟨rfl,by simp,by simp,ee,by simp [dv],fun _=>rfl⟩ (by simp only [leN]; omega)
 ·obtain ⟨xs,e,h⟩:=h
  unfold bt_p
  rw [e,aa]
  exact ⟨xs,I,h⟩
 ·rintro ⟨c,z,xs⟩ J ⟨h1,h2,h3,h4,h5,h6⟩ hJ
  simp only at h1 h2 h3 h4 h5 h6 hJ
  subst h1
  unfold bt_l1 jn
  simp only
  have step:∀ v:Int,0 <= v -> v < 8589934592 -> v.toNat = c.toNat + (a[xs.length]?.getD 0).toNat + (b[xs.length]?.getD 0).toNat -> xs.length <= max a.length b.length -> (xs.length = max a.length b.length -> v <= 1) -> ∃ r,J (v / 4294967296,((xs.length:Nat):Int) + 1,xs ++ [v % 4294967296]) = some r/\Dig r/\r.length <= max a.length b.length + 1/\dv r = dv a + dv b:=fun v v0 v1 hv hk hc=>by
   refine hJ _ ⟨by simp,by simp only [List.length_append,leC,leN]; omega,by simp only; omega,cP h4 (by omega),?_,fun e=>?_⟩ (by simp only [List.length_append,leC,leN]; omega)
   ·simp only [List.length_append,leC,leN,Nat.zero_add]
    rw [eD,eH a,eH b,Nat.pow_succ]
    have e1:(v % 4294967296).toNat + 4294967296 * (v / 4294967296).toNat = c.toNat + (a[xs.length]?.getD 0).toNat + (b[xs.length]?.getD 0).toNat:=by omega
    have e2:=congrArg (4294967296 ^ xs.length * ·) e1
    simp only [Nat.mul_add] at e2
    rw [Nat.mul_assoc]
    omega
   ·simp only [List.length_append,leC,leN] at e
    have:=hc (by omega)
    simp only; omega
  have q0:∀ v:Int,0 <= v -> v < 8589934592 -> cj v 4294967296 = some (v / 4294967296):=fun v v0 v1=>by
   have e:v.tdiv 4294967296 = v / 4294967296:=Int.tdiv_eq_ediv_of_nonneg v0
   rw [lT (by decide) (by rw [e]; omega) (by rw [e]; omega),e]
  have m0:∀ v:Int,0 <= v -> ca v 4294967296 = some (v % 4294967296):=fun v v0=>by
   rw [bM (by decide),Int.tmod_eq_emod_of_nonneg v0]
  have hlen:xs.length + 1 <= 1000000:=by omega
  by_cases ha:xs.length < a.length
  ·have da:=hda a[xs.length] (List.getElem_mem _)
   rw [if_pos (by omega),aS (by omega) (by simpa using ha),aa]
   simp only [Int.toNat_natCast]
   rw [az (by omega) (by omega),aa]
   by_cases hb:xs.length < b.length
   ·have db:=hdb b[xs.length] (List.getElem_mem _)
    rw [if_pos (by omega),aS (by omega) (by simpa using hb),aa]
    simp only [Int.toNat_natCast]
    rw [az (by omega) (by omega),aa,m0 _ (by omega),aa,bg _ _ (by simpa using hlen),aa,q0 _ (by omega) (by omega),aa,az (by omega) (by omega),aa]
    exact step _ (by omega) (by omega) (by rw [geE ha,geE hb]; simp only [Option.getD_some]; omega) (by omega) (by omega)
   ·rw [if_neg (by omega),m0 _ (by omega),aa,bg _ _ (by simpa using hlen),aa,q0 _ (by omega) (by omega),aa,az (by omega) (by omega),aa]
    exact step _ (by omega) (by omega) (by rw [geE ha,List.getElem?_eq_none (by omega)]; simp only [Option.getD_some,Option.getD_none]; omega) (by omega) (by omega)
  ·rw [if_neg (by omega)]
   by_cases hb:xs.length < b.length
   ·have db:=hdb b[xs.length] (List.getElem_mem _)
    rw [if_pos (by omega),aS (by omega) (by simpa using hb),aa]
    simp only [Int.toNat_natCast]
    rw [az (by omega) (by omega),aa,m0 _ (by omega),aa,bg _ _ (by simpa using hlen),aa,q0 _ (by omega) (by omega),aa]
    exact step _ (by omega) (by omega) (by rw [List.getElem?_eq_none (by omega),geE hb]; simp only [Option.getD_some,Option.getD_none]; omega) (by omega) (by omega)
   ·rw [if_neg (by omega)]
    by_cases hc:0 < c
    ·rw [if_pos hc,m0 _ (by omega),aa,bg _ _ (by simpa using hlen),aa,q0 _ (by omega) (by omega),aa,az (by omega) (by omega),aa]
     exact step _ (by omega) (by omega) (by rw [List.getElem?_eq_none (by omega),List.getElem?_eq_none (by omega)]; simp only [Option.getD_none]; omega) (by omega) (by omega)
    ·rw [if_neg hc]
     have c0:c = 0:=by omega
     rw [c0,List.take_of_length_le (by omega),List.take_of_length_le (by omega)] at h5
     exact ⟨_,rfl,h4,h2,by simpa using h5⟩
def FtR (l:Nat) (z:Int):Prop:=z.natAbs < 4294967296 ^ l
theorem FtR.len {l:Nat} {z:Int} (h:FtR l z):(rd z.natAbs).length <= l:=cx h
theorem FtR.neg {l:Nat} {z:Int} (h:FtR l z):FtR l (-z):=by unfold FtR at *; rwa [Int.natAbs_neg]
theorem FtR.mono {l m:Nat} {z:Int} (h:FtR l z) (hm:l <= m):FtR m z:=Nat.lt_of_lt_of_le h (Nat.pow_le_pow_right (by decide) hm)
theorem FtR.mul {l m:Nat} {a b:Int} (ha:FtR l a) (hb:FtR m b):FtR (l + m) (a * b):=by
 unfold FtR at *
 rw [Int.natAbs_mul,Nat.pow_add]
 exact Nat.mul_lt_mul'' ha hb
theorem FtR.add {l:Nat} {a b:Int} (ha:FtR l a) (hb:FtR l b):FtR (l + 1) (a + b):=by
 unfold FtR at *
 rw [Nat.pow_succ]
 omega
theorem kg (n l a b:Nat) (s:Bool) (h:a <= b) (hl:(rd b).length <= l) (hn:l < n) (hl2:l < 10000):((ao_p n (rd b) (rd a)).bind fun y67=>(aa_p n s y67).bind fun y75=>some y75) = some (R8 (sg s (b - a:Nat))):=by
 have hle:=Nat.le_trans (cJ (Nat.sub_le b a)) hl
 rw [gB n (rd b) (rd a) (aD _) (aD _) (cJ h) (by rw [aM,aM]; exact h) (by omega) (by omega),aa,aM,aM,bZ n _ _ (aD _) (by omega) (by omega),aa,aM,nE]
theorem gW (n l:Nat) (a b:Int) (ha:FtR l a) (hb:FtR l b) (hn:l + 1 < n) (hl:l < 10000):bc_p n (R8 a) (R8 b) = some (R8 (a + b)):=by
 unfold bc_p
 have h1:=ha.len
 have h2:=hb.len
 by_cases h:((R8 a).fe == (R8 b).fe) = true
 ·rw [if_pos h]
  obtain ⟨xs,e1,e4,e2,e3⟩:=nV n (rd a.natAbs) (rd b.natAbs) (aD _) (aD _) ⟨by omega,by omega⟩ ⟨by omega,by omega⟩
  rw [show (R8 a).fD = rd a.natAbs from I,show (R8 b).fD = rd b.natAbs from I,e1,aa,bZ n _ _ e4 (by omega) (by omega),aa,e3,aM,aM,nE]
  refine congrArg (fun x=>some (R8 x)) ?_
  have h3:decide (a < 0) = decide (b < 0):=eq_of_beq h
  show sg (decide (a < 0)) _ = _
  unfold sg
  by_cases h4:a < 0 <;> by_cases h5:b < 0 <;> simp [h4,h5] at h3 ⊢ <;> omega
 ·rw [if_neg h]
  obtain ⟨c,e1,e2,e3⟩:=gT n (rd a.natAbs) (rd b.natAbs) (aD _) (aD _) (fT _) (fT _) (by omega) (by omega)
  have h3:decide (a < 0) ≠ decide (b < 0):=fun e=>h (by rw [beq_iff_eq]; exact e)
  rw [aM,aM] at e2
  rw [show (R8 a).fD = rd a.natAbs from I,show (R8 b).fD = rd b.natAbs from I,e1,aa]
  by_cases hc:0 <= c
  ·rw [if_pos hc,kg n l _ _ _ (by omega) h1 (by omega) hl]
   refine congrArg (fun x=>some (R8 x)) ?_
   show sg (decide (a < 0)) _ = _
   unfold sg
   by_cases h4:a < 0 <;> by_cases h5:b < 0 <;> simp [h4,h5] at h3 ⊢ <;> omega
  ·rw [if_neg hc,kg n l _ _ _ (by omega) h2 (by omega) hl]
   refine congrArg (fun x=>some (R8 x)) ?_
   show sg (decide (b < 0)) _ = _
   unfold sg
   by_cases h4:a < 0 <;> by_cases h5:b < 0 <;> simp [h4,h5] at h3 ⊢ <;> omega
/-! ### Products -/
theorem mV {xs:List Int} {i:Nat} (s:Int) (h:i < xs.length):dv ((xs.set i s).take (i + 1)) = dv (xs.take i) + 4294967296 ^ i * s.toNat:=by
 rw [bN _ (by simpa using h),List.getElem_set_self,List.take_set_of_le (Nat.le_refl _)]
theorem iW (w:Ua):aB (w % (4294967296:Ua)) = ((w.toNat % 4294967296:Nat):Int):=by
 have:=w.toNat_lt
 unfold aB
 rw [UInt64.toNat_mod,if_pos (by simp; omega)]
 rfl
theorem lU (w:Ua):aB (w / (4294967296:Ua)) = ((w.toNat / 4294967296:Nat):Int):=by
 have:=w.toNat_lt
 unfold aB
 rw [UInt64.toNat_div,if_pos (by simp; omega)]
 rfl
theorem gd {x:Int} (h:0 <= x/\x < 4294967296):(ac x).toNat = x.toNat:=by
 unfold ac
 rw [UInt64.toNat_ofNat']; omega
theorem prod_in (n:Nat) (a b:List Int) (hda:Dig a) (hdb:Dig b) (i:Nat) (hia:i < a.length) (xs0:List Int) (hd0:Dig xs0) (hi:i + b.length < xs0.length) (hn:b.length < n) :
  ∃ xs u,aj (ax_l1 n b i a) n (0,0,xs0) = some (xs,u)/\xs.length = xs0.length/\Dig xs/\u.toNat < 4294967296/\dv (xs.take (i + b.length)) + 4294967296 ^ (i + b.length) * u.toNat = dv (xs0.take (i + b.length)) + a[i].toNat * dv b * 4294967296 ^ i:=by
 have da:=hda a[i] (List.getElem_mem _)
 have h:=ap (B:=ax_l1 n b i a) (fun s:Ua × Nat × List Int=>b.length - s.2.1) (fun s=>s.2.1 <= b.length/\s.2.2.length = xs0.length/\(∀ k,i + s.2.1 <= k -> s.2.2[k]? = xs0[k]?)/\Dig s.2.2/\s.1.toNat < 4294967296/\dv (s.2.2.take (i + s.2.1)) + 4294967296 ^ (i + s.2.1) * s.1.toNat = dv (xs0.take (i + s.2.1)) + a[i].toNat * dv (b.take s.2.1) * 4294967296 ^ i)
  (fun r:List Int × Ua=>r.1.length = xs0.length/\Dig r.1/\r.2.toNat < 4294967296/\dv (r.1.take (i + b.length)) + 4294967296 ^ (i + b.length) * r.2.toNat = dv (xs0.take (i + b.length)) + a[i].toNat * dv b * 4294967296 ^ i) ?_ n (0,0,xs0) ⟨by simp,rfl,fun _ _=>rfl,hd0,by simp,by simp [dv]⟩ (by simpa using hn)
 ·obtain ⟨⟨xs,u⟩,h1,h2⟩:=h; exact ⟨xs,u,h1,h2⟩
 ·rintro ⟨u,j,xs⟩ J ⟨h1,h2,h3,hd,hu,h4⟩ hJ
  simp only at h1 h2 h3 h4 hd hu hJ
  unfold ax_l1
  simp only
  by_cases hj:j < b.length
  ·have db:=hdb b[j] (List.getElem_mem _)
   have hx:i + j < xs.length:=by omega
   have dx:=hd (xs[i + j]'hx) (List.getElem_mem _)
   have hx0:xs[i + j]'hx = xs0[i + j]'(by omega):=by
    have:=h3 (i + j) (by omega)
    rw [geE (by omega),geE (by omega)] at this
    exact Option.some.inj this
   have bx:a[i].toNat * b[j].toNat <= 4294967295 * 4294967295:=Nat.mul_le_mul (by omega) (by omega)
   have ev:((u + ac (xs[i + j]'hx)) + (ac a[i]) * (ac b[j])).toNat = u.toNat + (xs[i + j]'hx).toNat + a[i].toNat * b[j].toNat:=by
    rw [UInt64.toNat_add,UInt64.toNat_add,UInt64.toNat_mul,gd dx,gd da,gd db]
    rw [Nat.mod_eq_of_lt (show a[i].toNat * b[j].toNat < 2 ^ 64 by omega),Nat.mod_eq_of_lt (show u.toNat + (xs[i + j]'hx).toNat < 2 ^ 64 by omega),Nat.mod_eq_of_lt (by omega)]
   rw [if_pos hj,geE hx,aa,geE hia,aa,geE hj,aa,aP _ hx,aa,iW,ev]
   have ed:(((u + ac (xs[i + j]'hx)) + (ac a[i]) * (ac b[j])) / (4294967296:Ua)).toNat = (u.toNat + (xs[i + j]'hx).toNat + a[i].toNat * b[j].toNat) / 4294967296:=by
    rw [UInt64.toNat_div,ev]; rfl
   generalize (u + ac (xs[i + j]'hx) + ac a[i] * ac b[j]) / (4294967296:Ua) = u' at *
   refine hJ (u', j + 1,_) ⟨hj,by simpa using h2,fun k hk=>?_,fun x hxm=>?_,by simp only; omega,?_⟩ (by simp only; omega)
   ·simp only at hk ⊢
    rw [List.getElem?_set_ne (by omega)]; exact h3 k (by omega)
   ·rcases List.mem_or_eq_of_mem_set hxm with hm | rfl
    ·exact hd x hm
    ·omega
   ·simp only
    rw [<- Nat.add_assoc,mV _ hx,bN xs0 (by omega),bN b hj,<- hx0,Nat.pow_succ,ed]
    rw [Nat.pow_add] at h4 ⊢
    rw [Int.toNat_natCast]
    generalize (xs[i + j]'hx).toNat = x at *
    generalize a[i].toNat = y at *
    generalize b[j].toNat = w at *
    have hv:=Nat.mod_add_div (u.toNat + x + y * w) 4294967296
    generalize (u.toNat + x + y * w) % 4294967296 = m at *
    generalize (u.toNat + x + y * w) / 4294967296 = q at *
    have e2:=congrArg (4294967296 ^ i * 4294967296 ^ j * ·) hv
    simp only [Nat.mul_add] at e2
    grind
  ·rw [if_neg hj]
   have:j = b.length:=by omega
   subst this
   refine ⟨_,I,h2,hd,hu,?_⟩
   simp only
   rw [h4,List.take_length]
theorem jw (n:Nat) (a b:List Int) (hda:Dig a) (hdb:Dig b) (hn:a.length + b.length + 1 < n) (hl:a.length + b.length <= 100000):ax_p n a b = some (rd (dv a * dv b)):=by
 have h:=ap (B:=ax_l2 n a b) (fun s:Nat × List Int=>a.length - s.1) (fun s=>s.1 <= a.length/\s.2.length = a.length + b.length/\Dig s.2/\dv (s.2.take (s.1 + b.length)) = dv (a.take s.1) * dv b)
  (fun r:List Int=>r.length = a.length + b.length/\Dig r/\dv r = dv a * dv b) ?_ n (0,List.replicate (a.length + b.length) 0) ⟨by simp,by simp,fun x hx=>(by rw [(List.mem_replicate.1 hx).2]; exact ⟨Int.le_refl _,by decide⟩),?_⟩ (by simp only; omega)
 ·obtain ⟨xs,h1,h2,h3,h4⟩:=h
  unfold ax_p
  rw [cu _ _ (by omega),aa,h1,aa,dE n xs h3 (by omega) (by omega),aa,h4]
 ·rintro ⟨i,xs⟩ J ⟨h1,h2,hd,h3⟩ hJ
  simp only at h1 h2 h3 hd hJ
  unfold ax_l2
  simp only
  by_cases hi:i < a.length
  ·obtain ⟨ys,u,e1,e2,e3,e4,e5⟩:=prod_in n a b hda hdb i hi xs hd (by omega) (by omega)
   rw [if_pos hi,e1,aa]
   simp only
   have hu:aB u = ((u.toNat:Nat):Int):=by unfold aB; rw [if_pos (by omega)]
   rw [geE (by omega),aa,aP _ (by omega),aa,hu]
   refine hJ (i + 1,ys.set (i + b.length) ((u.toNat:Nat):Int)) ⟨hi,by simp; omega,fun x hxm=>?_,?_⟩ (by simp only; omega)
   ·rcases List.mem_or_eq_of_mem_set hxm with hm | rfl
    ·exact e3 x hm
    ·omega
   ·simp only
    rw [show i + 1 + b.length = i + b.length + 1 by omega,mV _ (by omega),bN a hi,Int.toNat_natCast,e5,h3]
    grind
  ·rw [if_neg hi]
   have:i = a.length:=by omega
   subst this
   rw [List.take_length,bn (by omega)] at h3
   exact ⟨xs,I,h2,hd,h3⟩
 ·simp only [List.take_zero,dv,Nat.zero_mul]
  exact eG _ fun x hx=>(List.mem_replicate.1 (List.mem_of_mem_take hx)).2
theorem bb (n l m:Nat) (a b:Int) (ha:FtR l a) (hb:FtR m b) (hn:20000 < n) (hl:l + m < 10000):aC_p n (R8 a) (R8 b) = some (R8 (a * b)):=by
 unfold aC_p
 have h1:=ha.len
 have h2:=hb.len
 have h5:=(ha.mul hb).len
 rw [Int.natAbs_mul] at h5
 rw [show (R8 a).fD = rd a.natAbs from I,show (R8 b).fD = rd b.natAbs from I,jw n _ _ (aD _) (aD _) (by omega) (by omega),aa,aM,aM,bZ n _ _ (aD _) (by omega) (by omega),aa,aM,nE]
 refine congrArg (fun x=>some (R8 x)) ?_
 show sg (!(decide (a < 0) == decide (b < 0))) _ = _
 conv=>rhs; rw [lG a,lG b]
 unfold sg
 by_cases h3:a < 0 <;> by_cases h4:b < 0 <;> simp [h3,h4,Int.neg_mul,Int.mul_neg]
set_option maxRecDepth 8000
def hvs:List Ua -> List Int
 | []=>[]
 | w :: ws=>aB (w % (4294967296:Ua)) :: aB (w / (4294967296:Ua)) :: hvs ws
theorem lW:∀ xs ys:List Ua,hvs (xs ++ ys) = hvs xs ++ hvs ys
 | [],_=>rfl
 | x :: xs,ys=>by show _ :: _ :: hvs (xs ++ ys) = _; rw [lW xs ys]; rfl
theorem jb:∀ ws:List Ua,Dig (hvs ws)
 | []=>ee
 | w :: ws=>fun x hx=>by
  have hw:=w.toNat_lt
  rcases List.mem_cons.1 hx with rfl | hx
  ·rw [iW]; omega
  ·rcases List.mem_cons.1 hx with rfl | hx
   ·rw [lU]; omega
   ·exact jb ws x hx
theorem kK:∀ ws:List Ua,dv (hvs ws) = val ws
 | []=>rfl
 | w :: ws=>by
  show (aB (w % (4294967296:Ua))).toNat + 4294967296 * ((aB (w / (4294967296:Ua))).toNat + 4294967296 * dv (hvs ws)) = w.toNat + 18446744073709551616 * val ws
  rw [kK ws,iW,lU,Int.toNat_natCast,Int.toNat_natCast]
  omega
theorem iN:∀ ws:List Ua,(hvs ws).length = 2 * ws.length
 | []=>rfl
 | w :: ws=>by show (hvs ws).length + 1 + 1 = 2 * (ws.length + 1); rw [iN ws]; omega
theorem mR (n:Nat) (t:T8) (hn:10 < n):a9_p n t = some (hvs (wv t)):=by
 have hl:(wv t).length = 8:=rfl
 have h:=ap (B:=a9_l1 n t) (fun s:Nat × List Int=>8 - s.1) (fun s=>s.1 <= 8/\s.2 = hvs ((wv t).take s.1)) (fun r=>r = hvs (wv t)) ?_ n (0,[]) ⟨Nat.zero_le _,rfl⟩ (by simp only; omega)
 ·obtain ⟨y,e,rfl⟩:=h
  unfold a9_p
  rw [e,aa]
 ·rintro ⟨i,xs⟩ J ⟨h1,h2⟩ hJ
  simp only at h1 h2 hJ
  subst h2
  unfold a9_l1
  simp only
  by_cases hi:i < 8
  ·rw [if_pos hi]
   show ∃ r,(((wv t)[i]?).bind fun z90=>(app (hvs ((wv t).take i)) ([aB (z90 % (4294967296:Ua)),aB (z90 / (4294967296:Ua))]:List Int)).bind fun xs99=>J (i + 1,xs99)) = some r/\_
   have next:=hJ (i + 1,hvs ((wv t).take (i + 1))) ⟨hi,rfl⟩ (by simp only; omega)
   rw [List.take_succ_eq_append_getElem (by omega),lW] at next
   rw [geE (by omega),aa,bg _ _ (by rw [iN,List.length_take]; simp only [leC,leN]; omega),aa]
   exact next
  ·rw [if_neg hi]
   exact ⟨_,rfl,by rw [List.take_of_length_le (by omega)]⟩
theorem nz (t:T8):t.2.2.2.2.2.2.2 < (9223372036854775808:Ua) ↔ val (wv t) < HB:=by
 have h:=gk t
 have hs:(shrU t.2.2.2.2.2.2.2 63).toNat = t.2.2.2.2.2.2.2.toNat / 9223372036854775808:=bL _ (by decide)
 have ht:=t.2.2.2.2.2.2.2.toNat_lt
 have hsw:shrU t.2.2.2.2.2.2.2 63 = 1 ↔ 9223372036854775808 <= t.2.2.2.2.2.2.2.toNat:=by
  constructor
  ·intro h
   have:=congrArg UInt64.toNat h
   rw [hs] at this
   simp only [UInt64.toNat_one] at this
   omega
  ·intro h
   refine UInt64.toNat_inj.1 ?_
   rw [hs]
   simp only [UInt64.toNat_one]
   omega
 rw [UInt64.lt_iff_toNat_lt,show (9223372036854775808:Ua).toNat = 9223372036854775808 from I]
 rw [hsw] at h
 omega
theorem dV:FB = 4294967296 ^ 16:=by unfold FB; decide
theorem HB_dig:HB = 4294967296 ^ 15 * 2147483648:=by unfold HB; decide
theorem oB (l j:Nat) (v:Int) (h:j < l) (hv:0 <= v/\v < 4294967296):dv ((List.replicate l (0:Int)).set j v) = 4294967296 ^ j * v.toNat/\Dig ((List.replicate l (0:Int)).set j v):=by
 have hz:dv (List.replicate l (0:Int)) = 0:=eG _ fun x hx=>(List.mem_replicate.1 hx).2
 have hp:=kZ (xs:=List.replicate l (0:Int)) v (show j < (List.replicate l (0:Int)).length by simpa using h)
 rw [hz,List.getElem_replicate] at hp
 refine ⟨by simpa using hp,fun x hx=>?_⟩
 rcases List.mem_or_eq_of_mem_set hx with hm | rfl
 ·rw [(List.mem_replicate.1 hm).2]; exact ⟨Int.le_refl _,by decide⟩
 ·exact hv
theorem gl {α:Type} (f:List Int -> Oa α):((mk 17 (0:Int)).bind fun xs42=>(xs42[16]?).bind fun _=>(put xs42 ((16:Nat):Int) (1:Int)).bind f) = f ((List.replicate 17 (0:Int)).set 16 1):=rfl
theorem dX (n m:Nat) (hm:m <= FB) (_h0:0 < m) (hn:20000 < n):ao_p n ((List.replicate 17 (0:Int)).set 16 1) (rd m) = some (rd (FB - m)):=by
 obtain ⟨w1,w2⟩:=oB 17 16 1 (by decide) (by decide)
 have e:dv ((List.replicate 17 (0:Int)).set 16 1) = FB:=by rw [w1,dV]; rfl
 have hl:(rd m).length <= 17:=cx (Nat.lt_of_le_of_lt hm (by rw [dV]; decide))
 rw [gB n _ _ w2 (aD _) (by rw [List.length_set,List.length_replicate]; exact hl) (by rw [e,aM]; exact hm) (by rw [List.length_set,List.length_replicate]; omega) (by rw [List.length_set,List.length_replicate]; omega),e,aM]
theorem jl (n:Nat) (z:Int) (h:Fw z) (hn:20000 < n):aq_p n (Wg z) = some (R8 z):=by
 have hf:=cU
 have hp:=bT
 have hl:(hvs (wv (Wg z))).length = 16:=iN _
 unfold aq_p
 rw [mR n _ (by omega),aa]
 by_cases hz:z < 0
 ·have hv:=kM h hz
  have h1:=h.1
  rw [if_neg (fun hc=>by have:=(nz _).1 hc; omega)]
  have hw:=gl (fun xs61=>(az_p n (hvs (wv (Wg z)))).bind fun y67=>(ao_p n xs61 y67).bind fun y76=>(aa_p n true y76).bind fun y90=>some y90)
  refine hw.trans ?_
  rw [dE n _ (jb _) (by omega) (by omega),aa,kK,dX n _ (by omega) (by omega) hn,aa,show FB - val (wv (Wg z)) = z.natAbs by omega,bZ n _ _ (aD _) (by have:=cx (m:=z.natAbs) (l:=17) (Nat.lt_of_le_of_lt (show z.natAbs <= FB by omega) (by rw [dV]; decide)); omega) (by have:=cx (m:=z.natAbs) (l:=17) (Nat.lt_of_le_of_lt (show z.natAbs <= FB by omega) (by rw [dV]; decide)); omega),aa,aM]
  unfold R8
  rw [decide_eq_true hz,decide_eq_true (show 0 < z.natAbs by omega)]
  rfl
 ·have hv:=ln h (by omega)
  have h1:=h.2
  rw [if_pos ((nz _).2 (by omega)),bZ n _ _ (jb _) (by omega) (by omega),aa,kK,hv]
  unfold R8
  rw [decide_eq_false hz]
  rfl
/-! ### Told -/
theorem wv_setA (t:T8) (m:Nat) (hm:m < 8) (v:Ua):wv (ax m 0 v t.1,ax m 1 v t.2.1,ax m 2 v t.2.2.1,ax m 3 v t.2.2.2.1,ax m 4 v t.2.2.2.2.1,ax m 5 v t.2.2.2.2.2.1,ax m 6 v t.2.2.2.2.2.2.1,ax m 7 v t.2.2.2.2.2.2.2) = (wv t).set m v:=by
 obtain ⟨t1,t2,t3,t4,t5,t6,t7,t8⟩:=t
 match m,hm with
 | 0,_=>rfl
 | 1,_=>rfl
 | 2,_=>rfl
 | 3,_=>rfl
 | 4,_=>rfl
 | 5,_=>rfl
 | 6,_=>rfl
 | 7,_=>rfl
theorem lE (m:Nat):4294967296 ^ (2 * m) = 18446744073709551616 ^ m:=by
 rw [Nat.pow_mul]
theorem ka (n:Nat) (ys:List Int) (hd:Dig ys) (hl:ys.length <= 16) (hn:20 < n):∃ t:T8,aj (aE_l2 n ys) n (0,(0:Ua),(0:Ua),(0:Ua),(0:Ua),(0:Ua),(0:Ua),(0:Ua),(0:Ua)) = some t/\val (wv t) = dv ys:=by
 refine ap (B:=aE_l2 n ys) (fun s:Nat × T8=>ys.length - s.1) (fun s=>s.1 <= ys.length/\val (wv s.2) = dv (ys.take s.1)/\(∀ k (h:k < (wv s.2).length),(s.1 + 1) / 2 <= k -> (wv s.2)[k] = 0)/\(s.1 % 2 = 1 -> ∀ (h:s.1 / 2 < (wv s.2).length),(wv s.2)[s.1 / 2].toNat < 4294967296)) (fun t=>val (wv t) = dv ys) ?_ n (0,((0,0,0,0,0,0,0,0):T8)) ⟨Nat.zero_le _,rfl,fun k hk _=>?_,fun h=>(by cases h)⟩ (by simp only; omega)
 ·rintro ⟨i,t⟩ J ⟨h1,h2,h3,h4⟩ hJ
  simp only at h1 h2 h3 h4 hJ
  obtain ⟨t1,t2,t3,t4,t5,t6,t7,t8⟩:=t
  have e8:(wv (t1,t2,t3,t4,t5,t6,t7,t8)).length = 8:=rfl
  unfold aE_l2
  simp only
  by_cases hi:i < ys.length
  ·have hm:i / 2 < (wv (t1,t2,t3,t4,t5,t6,t7,t8)).length:=by rw [e8]; omega
   have dy:=hd ys[i] (List.getElem_mem _)
   have hu:=gd dy
   have hset:=fun v=>wv_setA (t1,t2,t3,t4,t5,t6,t7,t8) (i / 2) (by omega) v
   rw [if_pos hi]
   show ∃ r,(((wv (t1,t2,t3,t4,t5,t6,t7,t8))[i / 2]?).bind fun z340=>(ys[i]?).bind fun x342=>(chk (32 * ((i % 2:Nat):Int))).bind fun s351=>(bG s351).bind fun k352=>J (i + 1,ax (i / 2) 0 (z340 + (shlU (ac x342) k352)) t1,ax (i / 2) 1 (z340 + (shlU (ac x342) k352)) t2,ax (i / 2) 2 (z340 + (shlU (ac x342) k352)) t3,ax (i / 2) 3 (z340 + (shlU (ac x342) k352)) t4,ax (i / 2) 4 (z340 + (shlU (ac x342) k352)) t5,ax (i / 2) 5 (z340 + (shlU (ac x342) k352)) t6,ax (i / 2) 6 (z340 + (shlU (ac x342) k352)) t7,ax (i / 2) 7 (z340 + (shlU (ac x342) k352)) t8)) = some r/\_
   have key:∀ v:Ua,(wv (t1,t2,t3,t4,t5,t6,t7,t8))[i / 2].toNat <= v.toNat -> 18446744073709551616 ^ (i / 2) * (v.toNat - (wv (t1,t2,t3,t4,t5,t6,t7,t8))[i / 2].toNat) = 4294967296 ^ i * ys[i].toNat -> (i % 2 = 0 -> v.toNat < 4294967296) -> ∃ r,J (i + 1,ax (i / 2) 0 v t1,ax (i / 2) 1 v t2,ax (i / 2) 2 v t3,ax (i / 2) 3 v t4,ax (i / 2) 4 v t5,ax (i / 2) 5 v t6,ax (i / 2) 6 v t7,ax (i / 2) 7 v t8) = some r/\val (wv r) = dv ys:=fun v hv1 hv2 hv3=>by
    refine hJ (i + 1,(ax (i / 2) 0 v t1,ax (i / 2) 1 v t2,ax (i / 2) 2 v t3,ax (i / 2) 3 v t4,ax (i / 2) 4 v t5,ax (i / 2) 5 v t6,ax (i / 2) 6 v t7,ax (i / 2) 7 v t8)) ⟨hi,?_,fun k hk hk2=>?_,fun hp hk=>?_⟩ (by simp only; omega)
    ·have hput:=dA (xs:=wv (t1,t2,t3,t4,t5,t6,t7,t8)) (j:=i / 2) v (by omega)
     have hs:=hset v
     simp only at hs ⊢
     rw [hs,bN ys hi,<- h2,<- hv2]
     have:=Nat.mul_sub (18446744073709551616 ^ (i / 2)) v.toNat (wv (t1,t2,t3,t4,t5,t6,t7,t8))[i / 2].toNat
     have:=Nat.mul_le_mul_left (18446744073709551616 ^ (i / 2)) hv1
     omega
    ·have hs:=hset v
     simp only at hs hk hk2 ⊢
     simp only [hs]
     rw [List.getElem_set_ne (by omega)]
     exact h3 k (by rw [hs,List.length_set] at hk; exact hk) (by omega)
    ·have hs:=hset v
     simp only at hs hk hp ⊢
     have hq:(i + 1) / 2 = i / 2:=by omega
     simp only [hs,hq]
     rw [List.getElem_set_self]
     exact hv3 (by omega)
   rw [geE (by omega),aa,geE hi,aa]
   rcases Nat.mod_two_eq_zero_or_one i with hp | hp
   ·have hw:=h3 (i / 2) (by omega) (by omega)
    rw [hp,show chk (32 * ((0:Nat):Int)) = some 0 from I,aa,show bG 0 = some 0 from I,aa,di]
    rw [hw] at key ⊢
    rw [UInt64.zero_add]
    refine key _ (by simp) ?_ fun _=>by rw [hu]; omega
    rw [hu,UInt64.toNat_zero,Nat.sub_zero,<- lE,show 2 * (i / 2) = i by omega]
   ·have hw:=h4 hp (by omega)
    rw [hp,show chk (32 * ((1:Nat):Int)) = some 32 from I,aa,show bG 32 = some 32 from I,aa]
    have hv:((wv (t1,t2,t3,t4,t5,t6,t7,t8))[i / 2] + shlU (ac ys[i]) 32).toNat = (wv (t1,t2,t3,t4,t5,t6,t7,t8))[i / 2].toNat + ys[i].toNat * 4294967296:=by
     rw [UInt64.toNat_add,dF _ (by decide),hu]
     omega
    refine key _ (by rw [hv]; omega) ?_ fun h=>by omega
    have hsub:(wv (t1,t2,t3,t4,t5,t6,t7,t8))[i / 2].toNat + ys[i].toNat * 4294967296 - (wv (t1,t2,t3,t4,t5,t6,t7,t8))[i / 2].toNat = ys[i].toNat * 4294967296:=Nat.add_sub_cancel_left ..
    have e:4294967296 ^ i = 18446744073709551616 ^ (i / 2) * 4294967296:=by
     conv=>lhs; rw [show i = 2 * (i / 2) + 1 by omega,Nat.pow_succ,lE]
    rw [hv,hsub,e,Nat.mul_assoc,Nat.mul_comm ys[i].toNat]
  ·rw [if_neg hi]
   refine ⟨_,I,?_⟩
   rw [h2,List.take_of_length_le (by omega)]
 ·match k,hk with
  | 0,_=>rfl
  | 1,_=>rfl
  | 2,_=>rfl
  | 3,_=>rfl
  | 4,_=>rfl
  | 5,_=>rfl
  | 6,_=>rfl
  | 7,_=>rfl
open Classical in
theorem lI (n l:Nat) (z:Int) (h:FtR l z) (hl:l < 10000) (hn:20000 < n):aE_p n (R8 z) = some (if Fw z then (Wg z,0) else ((0,0,0,0,0,0,0,0),6)):=by
 have hf:=cU
 have hp:=bT
 have hlen:=h.len
 obtain ⟨w1,w2⟩:=oB 16 15 2147483648 (by decide) (by decide)
 have hdv:dv ((List.replicate 16 (0:Int)).set 15 2147483648) = HB:=by rw [w1,HB_dig]; rfl
 have hnr:Nr ((List.replicate 16 (0:Int)).set 15 2147483648):=fun x hx=>by
  rw [show ((List.replicate 16 (0:Int)).set 15 2147483648).getLast? = some 2147483648 from I] at hx
  rw [<- Option.some.inj hx]; decide
 obtain ⟨c,e1,e2,e3⟩:=gT n (rd z.natAbs) ((List.replicate 16 (0:Int)).set 15 2147483648) (aD _) w2 (fT _) hnr (by omega) (by omega)
 rw [aM,hdv] at e2 e3
 have hlim:∀ {α:Type} (f:List Int -> Oa α),((mk 16 (0:Int)).bind fun xs21=>(xs21[15]?).bind fun _=>(put xs21 ((15:Nat):Int) (2147483648:Int)).bind f) = f ((List.replicate 16 (0:Int)).set 15 2147483648):=fun f=>rfl
 unfold aE_p
 refine (hlim _).trans ?_
 rw [show (R8 z).fD = rd z.natAbs from I,e1,aa]
 have l12:∀ ys,aE_l1 n ys = aE_l2 n ys:=fun _=>rfl
 have hneg:z < 0 -> Fw z -> ∃ t:T8,aj (aE_l2 n (rd (FB - z.natAbs))) n (0,(0:Ua),(0:Ua),(0:Ua),(0:Ua),(0:Ua),(0:Ua),(0:Ua),(0:Ua)) = some t/\t = Wg z:=fun hz hw=>by
  obtain ⟨t,e,hv⟩:=ka n (rd (FB - z.natAbs)) (aD _) (cx (by rw [<- dV]; omega)) (by omega)
  rw [aM] at hv
  refine ⟨t,e,iy ?_⟩
  have:=kM hw hz
  rw [hv,<- dY]
  omega
 by_cases c1:0 < c
 ·rw [if_pos c1,if_neg (fun hw=>by have:=hw.1; have:=hw.2; omega)]
 ·rw [if_neg c1]
  by_cases c0:c = 0
  ·rw [if_pos c0]
   have hz:=e3.1 c0
   by_cases hb:z < 0
   ·have hw:Fw z:=⟨by omega,by omega⟩
    obtain ⟨t,e,rfl⟩:=hneg hb hw
    rw [if_pos (show (R8 z).fe = true from decide_eq_true hb),if_pos hw]
    refine (gl _).trans ?_
    rw [dX n _ (by omega) (by omega) hn,aa,l12,e,aa]
   ·rw [if_neg (show ¬ (R8 z).fe = true from by simpa [R8] using hb),if_neg (fun hw=>by have:=hw.2; omega)]
  ·rw [if_neg c0]
   have hlt:z.natAbs < HB:=e2.1 (by omega)
   have hw:Fw z:=⟨by omega,by omega⟩
   unfold jn
   simp only
   rw [if_pos hw]
   by_cases hb:z < 0
   ·obtain ⟨t,e,rfl⟩:=hneg hb hw
    rw [if_pos (show (R8 z).fe = true from decide_eq_true hb)]
    refine (gl _).trans ?_
    rw [dX n _ (by omega) (by omega) hn,aa,e,aa]
   ·obtain ⟨t,e,hv⟩:=ka n (rd z.natAbs) (aD _) (cx (by rw [<- dV]; omega)) (by omega)
    rw [aM] at hv
    have:t = Wg z:=iy (by
     have:=ln hw (by omega)
     rw [hv,<- dY,this])
    subst this
    rw [if_neg (show ¬ (R8 z).fe = true from by simpa [R8] using hb),e,aa]
section
set_option maxRecDepth 8000
theorem div_num {a b:Int} (hb:b ≠ 0):(Rat.divInt a b).num * b = a * (Rat.divInt a b).den:=by
 have h:=Rat.num_divInt_den (Rat.divInt a b)
 exact (Rat.divInt_eq_divInt_iff FQ.ndnz hb).1 h
theorem kH {a b:Int} (hb:b ≠ 0):(Rat.divInt a b).num.natAbs <= a.natAbs/\(Rat.divInt a b).den <= b.natAbs:=by
 have h:=congrArg Int.natAbs (div_num (a:=a) hb)
 rw [Int.natAbs_mul,Int.natAbs_mul,Int.natAbs_natCast] at h
 have hc:=(Rat.divInt a b).reduced
 have hd:=(Rat.divInt a b).den_pos
 generalize (Rat.divInt a b).num.natAbs = x at *
 generalize (Rat.divInt a b).den = y at *
 have hbp:0 < b.natAbs:=by omega
 constructor
 ·by_cases h0:a.natAbs = 0
  ·rw [h0,Nat.zero_mul] at h
   rcases Nat.mul_eq_zero.1 h with h1 | h1
   ·omega
   ·omega
  ·exact Nat.le_of_dvd (by omega) (hc.dvd_of_dvd_mul_right (by rw [<- h]; exact Nat.dvd_mul_right ..))
 ·exact Nat.le_of_dvd hbp (hc.symm.dvd_of_dvd_mul_left (by rw [h]; exact Nat.dvd_mul_left ..))
def Bt (i j:Nat) (q:Rat):Prop:=q.num.natAbs < 2 ^ i/\q.den < 2 ^ j
theorem Bt.mono {i j i' j' : Nat} {q:Rat} (h:Bt i j q) (hi:i <= i') (hj:j <= j'):Bt i' j' q:=⟨Nat.lt_of_lt_of_le h.1 (Nat.pow_le_pow_right (by decide) hi),Nat.lt_of_lt_of_le h.2 (Nat.pow_le_pow_right (by decide) hj)⟩
theorem hb_pow (w:Nat):9223372036854775808 * 18446744073709551616 ^ w = 2 ^ (63 + 64 * w):=by
 rw [Nat.pow_add,<- dM]
def hbl:Nat:=511
theorem hb_pow' {w l:Nat} (h:l = 63 + 64 * w):9223372036854775808 * 18446744073709551616 ^ w = 2 ^ l:=by subst h; exact hb_pow w
theorem nX:HB = 2 ^ hbl:=hb_pow' (w:=7) (l:=hbl) rfl
theorem Bt.fq {i j:Nat} {q:Rat} (h:Bt i j q) (hi:i <= 500) (hj:j <= 500):FQ q:=by
 have e:hbl = 511:=rfl
 have h1:2 ^ i <= HB:=by rw [nX]; exact Nat.pow_le_pow_right (by decide) (by omega)
 have h2:2 ^ j <= HB:=by rw [nX]; exact Nat.pow_le_pow_right (by decide) (by omega)
 have h3:=h.1
 have h4:=h.2
 exact ⟨⟨by omega,by omega⟩,⟨by omega,by omega⟩⟩
theorem Bt.of {i j:Nat} {a b:Int} (hb:b ≠ 0) (h1:a.natAbs < 2 ^ i) (h2:b.natAbs < 2 ^ j):Bt i j (Rat.divInt a b):=by
 obtain ⟨d1,d2⟩:=kH (a:=a) hb
 exact ⟨by omega,by omega⟩
theorem ew {a b i j:Nat} (ha:a < 2 ^ i) (hb:b < 2 ^ j):a * b < 2 ^ (i + j):=by
 rw [Nat.pow_add]; exact Nat.mul_lt_mul'' ha hb
theorem Bt.div {i1 j1 i2 j2:Nat} {a b:Rat} (ha:Bt i1 j1 a) (hb:Bt i2 j2 b) (h0:b ≠ 0):Bt (i1 + j2) (j1 + i2) (a / b):=by
 have b0:b.num ≠ 0:=fun e=>h0 (Rat.num_eq_zero.1 e)
 have d0:(a.den:Int) * b.num ≠ 0:=Int.mul_ne_zero FQ.ndnz b0
 have e:a / b = Rat.divInt (a.num * b.den) (a.den * b.num):=by
  conv=>lhs; rw [Rat.div_def,<- Rat.num_divInt_den a,<- Rat.num_divInt_den b,Rat.inv_divInt]
  exact Rat.divInt_mul_divInt _ _
 rw [e]
 exact Bt.of d0 (by rw [Int.natAbs_mul,Int.natAbs_natCast]; exact ew ha.1 hb.2) (by rw [Int.natAbs_mul,Int.natAbs_natCast]; exact ew ha.2 hb.1)
theorem Bt.add {i1 j1 i2 j2 i:Nat} {a b:Rat} (ha:Bt i1 j1 a) (hb:Bt i2 j2 b) (h1:i1 + j2 + 1 <= i) (h2:i2 + j1 + 1 <= i):Bt i (j1 + j2) (a + b):=by
 have d0:(a.den:Int) * b.den ≠ 0:=Int.mul_ne_zero FQ.ndnz FQ.ndnz
 have e:a + b = Rat.divInt (a.num * b.den + b.num * a.den) (a.den * b.den):=by
  conv=>lhs; rw [<- Rat.num_divInt_den a,<- Rat.num_divInt_den b]
  exact Rat.divInt_add_divInt _ _ FQ.ndnz FQ.ndnz
 have m1:(a.num * b.den).natAbs < 2 ^ (i1 + j2):=by rw [Int.natAbs_mul,Int.natAbs_natCast]; exact ew ha.1 hb.2
 have m2:(b.num * a.den).natAbs < 2 ^ (i2 + j1):=by rw [Int.natAbs_mul,Int.natAbs_natCast]; exact ew hb.1 ha.2
 have p1:2 ^ (i1 + j2) <= 2 ^ (i - 1):=Nat.pow_le_pow_right (by decide) (by omega)
 have p2:2 ^ (i2 + j1) <= 2 ^ (i - 1):=Nat.pow_le_pow_right (by decide) (by omega)
 have p3:2 ^ i = 2 * 2 ^ (i - 1):=by rw [<- Nat.pow_succ']; congr 1; omega
 rw [e]
 exact Bt.of d0 (by omega) (by rw [Int.natAbs_mul,Int.natAbs_natCast,Int.natAbs_natCast]; exact ew ha.2 hb.2)
theorem Bt.neg {i j:Nat} {q:Rat} (h:Bt i j q):Bt i j (-q):=⟨by rw [Rat.neg_num,Int.natAbs_neg]; exact h.1,by rw [Rat.neg_den]; exact h.2⟩
theorem Bt.sub {i1 j1 i2 j2 i:Nat} {a b:Rat} (ha:Bt i1 j1 a) (hb:Bt i2 j2 b) (h1:i1 + j2 + 1 <= i) (h2:i2 + j1 + 1 <= i):Bt i (j1 + j2) (a - b):=by
 rw [Rat.sub_eq_add_neg]; exact Bt.add ha hb.neg h1 h2
section
variable {n:Nat} {a b:Rat}
theorem add_q (ha:FQ a) (hb:FQ b) (h:FQ (a + b)) (hn:18446744073709551616 < n):dS_p n (Sg a) (Sg b) = some (Sg (a + b),0):=by rw [addG n a b ha hb hn,if_pos h]
theorem sub_q (ha:FQ a) (hb:FQ b) (h:FQ (a - b)) (hn:18446744073709551616 < n):dR_p n (Sg a) (Sg b) = some (Sg (a - b),0):=by rw [subG n a b ha hb hn,if_pos h]
theorem div_q (ha:FQ a) (hb:FQ b) (h0:b ≠ 0) (h:FQ (a / b)) (hn:18446744073709551616 < n):dT_p n (Sg a) (Sg b) = some (Sg (a / b),0):=by rw [divG n a b ha hb h0 hn,if_pos h]
end
end
set_option maxRecDepth 8000
def RR (q:Rat):Th:=⟨R8 q.num,R8 (q.den:Int)⟩
theorem Fw.r {z:Int} (h:Fw z):FtR 16 z:=by
 have h1:=h.1
 have h2:=h.2
 have h3:=cU
 have hp:=bT
 unfold FtR
 rw [<- dV]
 omega
theorem FtR.of_le {l:Nat} {a b:Int} (h:FtR l b) (hl:a.natAbs <= b.natAbs):FtR l a:=Nat.lt_of_le_of_lt hl h
theorem Sm.r {z:Int} (h:Sm z):FtR 16 z:=(gJ h).r
theorem bQ (n:Nat) (q:Rat) (h:FQ q) (hn:20000 < n):aF_p n (Sg q) = some (RR q):=by
 unfold aF_p Sg
 simp only
 rw [jl n _ h.1 hn,aa,jl n _ h.2 hn,aa]
 rfl
theorem one_ok (n g:Nat):cL_p n ⟨false,rd g⟩ = some (decide (g = 1)):=by
 unfold cL_p
 simp only
 by_cases h:(rd g).length = 1
 ·have hg:=aM g
  rcases e:rd g with _ | ⟨x,_ | ⟨y,xs⟩⟩
  ·rw [e] at h; simp at h
  ·have hd:=aD g x (by rw [e]; exact List.mem_singleton_self _)
   rw [e] at hg
   simp only [dv,Nat.mul_zero,Nat.add_zero] at hg
   rw [if_pos (show ([x]:List Int).length = 1 from I),show ([x]:List Int)[0]? = some x from I,aa]
   by_cases hx:x = 1
   ·rw [if_pos hx,decide_eq_true (by omega)]; rfl
   ·rw [if_neg hx,decide_eq_false (by omega)]
  ·rw [e] at h; simp at h
 ·rw [if_neg h,decide_eq_false]
  rintro rfl
  exact h (by rw [iB (by decide),show (1:Nat) / 4294967296 = 0 from I,rd0]; rfl)
theorem mj (n:Nat) (x y:Int) (hx:Fw x) (hy:Fw y) (hn:18446744073709551616 < n):ar_p n ⟨Wg x,Wg y⟩ = some (decide (0 < y/\Nat.gcd x.natAbs y.natAbs = 1)):=by
 have lx:=hx.r.len
 have ly:=hy.r.len
 unfold ar_p
 simp only
 rw [jl n _ hx (by omega),aa,jl n _ hy (by omega),aa]
 by_cases h:y < 0
 ·rw [if_pos (show (R8 y).fe = true from decide_eq_true h),decide_eq_false (fun hc=>by omega)]
 ·rw [if_neg (show ¬ (R8 y).fe = true from by simpa [R8] using h)]
  by_cases h0:y = 0
  ·subst h0
   rw [if_neg (show ¬ 0 < (R8 0).fD.length from by show ¬ 0 < (rd 0).length; rw [rd0]; decide),decide_eq_false (fun hc=>by omega)]
  ·rw [if_pos (show 0 < (R8 y).fD.length from iT.2 (by omega))]
   rw [show R8 x = ⟨decide (x < 0),rd x.natAbs⟩ from I,show R8 y = ⟨decide (y < 0),rd y.natAbs⟩ from I,gO n _ _ _ _ (by omega) (by omega) hn,aa,one_ok,aa]
   exact congrArg some (decide_eq_decide.2 ⟨fun hg=>⟨by omega,hg⟩,fun hg=>hg.2⟩)
theorem aZ (n:Nat) (q:Rat) (h:FQ q) (hn:18446744073709551616 < n):ar_p n (Sg q) = some true:=by
 have hd:=q.den_pos
 have e:=mj n q.num (q.den:Int) h.1 h.2 hn
 rw [decide_eq_true (show 0 < (q.den:Int)/\Nat.gcd q.num.natAbs (q.den:Int).natAbs = 1 from ⟨by omega,q.reduced⟩)] at e
 exact e
open Classical in
theorem dG (n l:Nat) (q:Rat) (h1:FtR l q.num) (h2:FtR l (q.den:Int)) (hl:l < 10000) (hn:20000 < n):bp_p n (RR q) = some (if FQ q then (Sg q,0) else (noS,6)):=by
 unfold bp_p
 rw [show (RR q).fN = R8 q.num from I,show (RR q).fD = R8 (q.den:Int) from I,lI n l _ h1 hl hn,aa,lI n l _ h2 hl hn,aa]
 by_cases f1:Fw q.num
 ·by_cases f2:Fw (q.den:Int)
  ·rw [if_pos f1,if_pos f2,if_pos (show FQ q from ⟨f1,f2⟩)]; rfl
  ·rw [if_pos f1,if_neg f2,if_neg fun h:FQ q=>f2 h.2]; rfl
 ·rw [if_neg f1,if_neg fun h:FQ q=>f1 h.1]; rfl
theorem iV (n l:Nat) (a b:Int) (h0:b ≠ 0) (ha:FtR l a) (hb:FtR l b) (hl:l < 10000) (hn:18446744073709551616 < n):aZ_p n (R8 a) (R8 b) = some (RR (Rat.divInt a b))/\FtR l (Rat.divInt a b).num/\FtR l ((Rat.divInt a b).den:Int):=by
 obtain ⟨e,l1,l2⟩:=jd n a b h0 (Nat.lt_of_le_of_lt ha.len hl) (Nat.lt_of_le_of_lt hb.len hl) hn
 exact ⟨e,ha.of_le l1,hb.of_le (by omega)⟩
theorem kF (n:Nat) (a b:Rat) (ha:FQ a) (hb:FQ b) (hn:18446744073709551616 < n):bM_p n (RR a) (RR b) = some (RR (a + b))/\FtR 33 (a + b).num/\FtR 33 ((a + b).den:Int):=by
 have d0:(a.den:Int) * b.den ≠ 0:=Int.mul_ne_zero FQ.ndnz FQ.ndnz
 have e:a + b = Rat.divInt (a.num * b.den + b.num * a.den) (a.den * b.den):=by
  conv=>lhs; rw [<- Rat.num_divInt_den a,<- Rat.num_divInt_den b]
  exact Rat.divInt_add_divInt _ _ FQ.ndnz FQ.ndnz
 have x1:=ha.1.r.mul hb.2.r
 have x2:=hb.1.r.mul ha.2.r
 have x3:=ha.2.r.mul hb.2.r
 obtain ⟨f1,f2,f3⟩:=iV n 33 _ _ d0 (x1.add x2) (x3.mono (by decide)) (by decide) hn
 unfold bM_p RR
 simp only
 rw [bb n 16 16 _ _ ha.1.r hb.2.r (by omega) (by decide),aa,bb n 16 16 _ _ hb.1.r ha.2.r (by omega) (by decide),aa,gW n 32 _ _ x1 x2 (by omega) (by decide),aa,bb n 16 16 _ _ ha.2.r hb.2.r (by omega) (by decide),aa,f1,aa,e]
 exact ⟨I,f2,f3⟩
theorem li (n:Nat) (a b:Rat) (ha:FQ a) (hb:FQ b) (h0:b ≠ 0) (hn:18446744073709551616 < n):cF_p n (RR a) (RR b) = some (RR (a / b))/\FtR 33 (a / b).num/\FtR 33 ((a / b).den:Int):=by
 have b0:b.num ≠ 0:=fun e=>h0 (Rat.num_eq_zero.1 e)
 have d0:(a.den:Int) * b.num ≠ 0:=Int.mul_ne_zero FQ.ndnz b0
 have e:a / b = Rat.divInt (a.num * b.den) (a.den * b.num):=by
  conv=>lhs; rw [Rat.div_def,<- Rat.num_divInt_den a,<- Rat.num_divInt_den b,Rat.inv_divInt]
  exact Rat.divInt_mul_divInt _ _
 have x1:=ha.1.r.mul hb.2.r
 have x3:=ha.2.r.mul hb.1.r
 obtain ⟨f1,f2,f3⟩:=iV n 33 _ _ d0 (x1.mono (by decide)) (x3.mono (by decide)) (by decide) hn
 unfold cF_p RR
 simp only
 rw [bb n 16 16 _ _ ha.1.r hb.2.r (by omega) (by decide),aa,bb n 16 16 _ _ ha.2.r hb.1.r (by omega) (by decide),aa,f1,aa,e]
 exact ⟨I,f2,f3⟩
open Classical in
theorem mA (n:Nat) (a b:Rat) (ha:FQ a) (hb:FQ b) (hn:18446744073709551616 < n):cP_p n (Sg a) (Sg b) = some (if FQ (a + b) then (Sg (a + b),0) else (noS,6)):=by
 obtain ⟨f1,f2,f3⟩:=kF n a b ha hb hn
 unfold cP_p
 rw [aZ n a ha hn,aa,if_pos I,aZ n b hb hn,aa,if_pos I,bQ n a ha (by omega),aa,bQ n b hb (by omega),aa,f1,aa,dG n 33 _ f2 f3 (by decide) (by omega),aa]
open Classical in
theorem ml (n:Nat) (a b:Rat) (ha:FQ a) (hb:FQ b) (h0:b ≠ 0) (hn:18446744073709551616 < n):cO_p n (Sg a) (Sg b) = some (if FQ (a / b) then (Sg (a / b),0) else (noS,6)):=by
 have b0:b.num ≠ 0:=fun e=>h0 (Rat.num_eq_zero.1 e)
 obtain ⟨f1,f2,f3⟩:=li n a b ha hb h0 hn
 unfold cO_p dc_p
 rw [aZ n a ha hn,aa,if_pos I,aZ n b hb hn,aa,if_pos I,bQ n b hb (by omega),aa,aa,if_neg (by
  rw [decide_eq_true_eq]
  exact Nat.ne_of_gt (iT.2 (by omega))),bQ n a ha (by omega),aa,f1,aa,dG n 33 _ f2 f3 (by decide) (by omega),aa]
theorem refOfG (n:Nat) (a b:Int) (ha:Sm a) (hb:Sm b) (h0:b ≠ 0) (hn:18446744073709551616 < n):aI_p n a b = some (Sg (Rat.divInt a b)):=by
 obtain ⟨e,l1,l2⟩:=iV n 16 a b h0 ha.r hb.r (by decide) hn
 obtain ⟨d1,d2⟩:=kH (a:=a) h0
 have hq:FQ (Rat.divInt a b):=⟨gJ (by unfold Sm at *; omega),gJ (by unfold Sm at *; omega)⟩
 unfold aI_p dz_p
 rw [if_neg h0]
 unfold cS_p
 rw [jF n a ha (by omega),aa,jF n b hb (by omega),aa,e,aa,aa,dG n 16 _ l1 l2 (by decide) (by omega),aa,if_pos hq,aa]
end Go.Proofs.YthffdckehlgmgaaGreatDoor
