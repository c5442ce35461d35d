/- Plain laws: words, their value, and integers of any length: sum, difference, product. No program in sight but the printed functions. -/
import Derived.Test.YtfccehcnajelgaaGreatDoorUB9
import Derived.Test.YtfccehcnajelgaaGreatDoorUBase
import Derived.Test.YtfccehcnajelgaaGreatDoorUMp
import Derived.Lib.TrailingZeros
namespace Go.Proofs.YtfccehcnajelgaaGreatDoor
open Go
theorem aa {α β:Type} (x:α) (f:α -> Option β):(some x).bind f = f x:=Eq.trans (Eq.refl _) (Eq.refl _)
theorem aY {α β:Type} (B:(α -> Option β) -> α -> Option β) (n:Nat) (s:α):ah B (n + 1) s = B (ah B n) s:=rfl
theorem aj {α β:Type} {B:(α -> Option β) -> α -> Option β} (m:α -> Nat) (I:α -> Prop) (Q:β -> Prop)
  (step:∀ s J,I s -> (∀ s', I s' -> m s' < m s -> ∃ r,J s' = some r/\Q r) -> ∃ r,B J s = some r/\Q r):∀ n s,I s -> m s < n -> ∃ r,ah B n s = some r/\Q r:=by
 intro n
 induction n with
 | zero=>intro s _ h; omega
 | succ n ih=>intro s hI h; exact step s (ah B n) hI fun s' h1 h2=>ih s' h1 (by omega)
theorem aH {x:Int} (h1:-9223372036854775808 <= x) (h2:x <= 9223372036854775807):chk x = some x:=if_pos ⟨h1,h2⟩
theorem aM {α:Type} {xs:List α} {i:Int} (h0:0 <= i) (h:i.toNat < xs.length):idx xs i = some xs[i.toNat]:=by unfold idx; rw [if_pos h0,geE h]
theorem aR {α:Type} {xs:List α} {i:Nat} (x:α) (h:i < xs.length):put xs (i:Int) x = some (xs.set i x):=by
 unfold put; rw [if_pos ⟨Int.natCast_nonneg _,by omega⟩]; rfl
theorem kL {α:Type} {xs:List α} {z:Nat} (h:z <= xs.length):cut xs 0 (z:Int) = some (xs.take z):=by
 unfold cut; rw [if_pos ⟨Int.le_refl _,Int.natCast_nonneg _,by omega⟩]; rfl
theorem cy {α:Type} (n:Nat) (x:α) (h:n <= 4294967296):mk (n:Int) x = some (List.replicate n x):=by
 unfold mk; rw [if_pos ⟨Int.natCast_nonneg _,by omega⟩]; rfl
def val:List UInt64 -> Nat
 | []=>0
 | x :: xs=>x.toNat + 18446744073709551616 * val xs
theorem er (xs ys:List UInt64):val (xs ++ ys) = val xs + 18446744073709551616 ^ xs.length * val ys:=by
 induction xs with
 | nil=>simp [val]
 | cons x xs ih=>simp only [List.cons_append,val,ih,leC,Nat.pow_succ]; grind
theorem cx (xs:List UInt64):val xs < 18446744073709551616 ^ xs.length:=by
 induction xs with
 | nil=>simp [val]
 | cons x xs ih=>
  have:=x.toNat_lt
  have h2:18446744073709551616 * (val xs + 1) <= 18446744073709551616 * 18446744073709551616 ^ xs.length:=Nat.mul_le_mul_left _ ih
  simp only [val,leC,Nat.pow_succ]
  rw [Nat.mul_comm (_ ^ _)]
  omega
theorem bS (a:List UInt64) {i:Nat} (h:i < a.length):val (a.take (i + 1)) = val (a.take i) + 18446744073709551616 ^ i * a[i].toNat:=by
 rw [<- List.take_append_getElem h,er,List.length_take,Nat.min_eq_left (Nat.le_of_lt h)]
 simp [val]
theorem oC {xs:List UInt64} {i:Nat} (s:UInt64) (h:i < xs.length):(xs.set i s).take (i + 1) = xs.take i ++ [s]:=by
 rw [<- List.take_append_getElem (by simpa using h),List.take_set_of_le (Nat.le_refl _)]
 simp
theorem ek {xs:List UInt64} {i:Nat} (s:UInt64) (h:i < xs.length):val ((xs.set i s).take (i + 1)) = val (xs.take i) + 18446744073709551616 ^ i * s.toNat:=by
 rw [oC s h,er,List.length_take,Nat.min_eq_left (Nat.le_of_lt h)]
 simp [val]
theorem cd:∀ (xs:List UInt64),(∀ x ∈ xs,x = 0) -> val xs = 0
 | [],_=>rfl
 | x :: xs,h=>by
  have h1:=h x (List.mem_cons_self ..)
  have h2:=cd xs fun y hy=>h y (List.mem_cons_of_mem _ hy)
  subst h1; simp [val,h2]
def dg (m:Nat):List UInt64:=if m = 0 then [] else UInt64.ofNat m :: dg (m / 18446744073709551616)
termination_by m
decreasing_by exact Nat.div_lt_self (by omega) (by omega)
theorem dg0:dg 0 = []:=by unfold dg; simp
theorem iu {m:Nat} (h:m ≠ 0):dg m = UInt64.ofNat m :: dg (m / 18446744073709551616):=by rw [dg]; rw [if_neg h]
theorem aE (m:Nat):val (dg m) = m:=by
 induction m using Nat.strongRecOn with
 | _ m ih=>
  by_cases h:m = 0
  ·subst h; rw [dg0]; rfl
  ·rw [iu h]; simp only [val]
   rw [ih _ (Nat.div_lt_self (by omega) (by omega)),UInt64.toNat_ofNat']
   exact Nat.mod_add_div m 18446744073709551616
def Nm (xs:List UInt64):Prop:=∀ x,xs.getLast? = some x -> x ≠ 0
theorem Nm.tail {x y:UInt64} {xs:List UInt64} (h:Nm (x :: y :: xs)):Nm (y :: xs):=fun z hz=>h z (by rw [List.getLast?_cons_cons]; exact hz)
theorem gr:∀ {xs:List UInt64},Nm xs -> xs ≠ [] -> 0 < val xs
 | [],_,h=>absurd rfl h
 | [x],h,_=>by
  have h1:=h x rfl
  have:x.toNat ≠ 0:=fun e=>h1 (UInt64.toNat_inj.1 (by simpa using e))
  simp only [val]; omega
 | x :: y :: xs,h,_=>by
  have:=gr h.tail (by simp)
  simp only [val] at this ⊢
  omega
theorem jw:∀ {xs:List UInt64},Nm xs -> xs ≠ [] -> 18446744073709551616 ^ (xs.length - 1) <= val xs
 | [],_,h=>absurd rfl h
 | [x],h,_=>by
  have h1:=gr h (by simp)
  show 18446744073709551616 ^ 0 <= _
  rw [Nat.pow_zero]; exact h1
 | x :: y :: xs,h,_=>by
  have h1:=jw h.tail (by simp)
  have h2:18446744073709551616 * 18446744073709551616 ^ xs.length <= 18446744073709551616 * val (y :: xs):=Nat.mul_le_mul_left _ (by simpa using h1)
  show 18446744073709551616 ^ (xs.length + 1) <= x.toNat + 18446744073709551616 * val (y :: xs)
  rw [Nat.pow_succ,Nat.mul_comm]; omega
theorem od:∀ {xs:List UInt64},Nm xs -> dg (val xs) = xs
 | [],_=>dg0
 | x :: xs,h=>by
  have hp:=gr h (by simp)
  rw [iu (by omega)]
  have hx:=x.toNat_lt
  have h1:UInt64.ofNat (val (x :: xs)) = x:=UInt64.toNat_inj.1 (by rw [UInt64.toNat_ofNat']; simp only [val]; omega)
  have h2:val (x :: xs) / 18446744073709551616 = val xs:=by simp only [val]; omega
  have h3:Nm xs:=by
   cases xs with
   | nil=>intro z hz; simp at hz
   | cons y ys=>exact h.tail
  rw [h1,h2,od h3]
theorem gR (m:Nat):Nm (dg m):=by
 induction m using Nat.strongRecOn with
 | _ m ih=>
  intro x hx
  by_cases h:m = 0
  ·subst h; rw [dg0] at hx; cases hx
  ·rw [iu h] at hx
   by_cases h2:m / 18446744073709551616 = 0
   ·rw [h2,dg0] at hx
    simp at hx
    intro e; subst e
    have:=congrArg UInt64.toNat hx
    rw [UInt64.toNat_ofNat'] at this
    simp at this; omega
   ·have h3:=ih (m / 18446744073709551616) (Nat.div_lt_self (by omega) (by omega))
    rw [iu h2] at hx h3
    rw [List.getLast?_cons_cons] at hx
    exact h3 x hx
theorem gP {m l:Nat} (h:m < 18446744073709551616 ^ l):(dg m).length <= l:=by
 by_cases h0:dg m = []
 ·rw [h0]; simp
 ·have h1:=jw (gR m) h0
  rw [aE] at h1
  have h2:=Nat.lt_of_le_of_lt h1 h
  have h3:=(Nat.pow_lt_pow_iff_right (by omega)).1 h2
  omega
theorem aI (n:Nat) (b:Bool) (ws:List UInt64) (hn:ws.length < n) (hl:ws.length <= 4294967296):ax_p n b ws = some ⟨b && decide (0 < val ws),dg (val ws)⟩:=by
 have h:=aj (B:=ax_l1 n ws) (fun z:Int=>z.toNat) (fun z=>0 <= z/\z <= ws.length/\∀ i:Nat,z.toNat <= i -> ∀ h:i < ws.length,ws[i] = 0)
  (fun z=>∃ k:Nat,z = k/\k <= ws.length/\(∀ i:Nat,k <= i -> ∀ h:i < ws.length,ws[i] = 0)/\∀ h:0 < k,∀ h2:k - 1 < ws.length,ws[k - 1] ≠ 0) ?_ n (ws.length:Int) ⟨by omega,by omega,fun i h1 h2=>by omega⟩ (by simpa using hn)
 ·obtain ⟨z,hz,k,rfl,hk,hz0,hz1⟩:=h
  have e:val ws = val (ws.take k):=by
   conv=>lhs; rw [<- List.take_append_drop k ws,er]
   rw [cd (ws.drop k) fun x hx=>?_]
   ·simp
   ·obtain ⟨i,hi,rfl⟩:=List.getElem_of_mem hx
    rw [List.getElem_drop]
    exact hz0 _ (by omega) _
  have hnm:Nm (ws.take k):=by
   intro x hx
   rw [List.getLast?_eq_getElem?,List.length_take,Nat.min_eq_left hk] at hx
   obtain ⟨h1,rfl⟩:=List.getElem?_eq_some_iff.1 hx
   have h2:k - 1 < ws.length:=by rw [List.length_take] at h1; omega
   by_cases h0:0 < k
   ·rw [List.getElem_take]; exact hz1 h0 h2
   ·rw [List.length_take] at h1; omega
  have e2:dg (val ws) = ws.take k:=by rw [e]; exact od hnm
  have e3:decide (0 < val ws) = decide (0 < (k:Int)):=by
   rw [decide_eq_decide]
   constructor
   ·intro h0
    by_cases hk0:k = 0
    ·subst hk0; rw [e] at h0; simp [val] at h0
    ·omega
   ·intro h0; rw [e]; refine gr hnm fun h1=>?_
    have:=congrArg List.length h1
    rw [List.length_take,leN] at this; omega
  unfold ax_p jn
  simp only [hz,aa,kL hk]
  cases b
  ·simp [e2]
  ·simp [e2,e3]
 ·intro z J ⟨h1,h2,h3⟩ hJ
  unfold ax_l1
  simp only
  by_cases h0:0 < z
  ·rw [if_pos h0,aH (by omega) (by omega),aa,aM (by omega) (by omega),aa]
   split
   ·rename_i hx
    rw [aa]
    refine hJ (z - 1) ⟨by omega,by omega,fun i h4 h5=>?_⟩ (by omega)
    by_cases h6:i = (z - 1).toNat
    ·subst h6; exact hx
    ·exact h3 i (by omega) h5
   ·rename_i hx
    refine ⟨z,rfl,z.toNat,by omega,by omega,h3,fun h4 h5=>?_⟩
    have:(z - 1).toNat = z.toNat - 1:=by omega
    simp only [this] at hx
    exact hx
  ·rw [if_neg h0]
   exact ⟨z,rfl,0,by omega,by omega,fun i h4 h5=>h3 i (by omega) h5,fun h4=>by omega⟩
theorem gI (x y c:UInt64) (h:c.toNat <= 1):∃ s d:UInt64,add64 x y c = some (s,d)/\s.toNat + 18446744073709551616 * d.toNat = x.toNat + y.toNat + c.toNat/\d.toNat <= 1:=by
 refine ⟨_,_,if_pos h,?_⟩
 have hx:=x.toNat_lt
 have hy:=y.toNat_lt
 rw [UInt64.toNat_ofNat', UInt64.toNat_ofNat']
 omega
theorem bF (x y c:UInt64) (h:c.toNat <= 1):∃ s d:UInt64,sub64 x y c = some (s,d)/\s.toNat + y.toNat + c.toNat = x.toNat + 18446744073709551616 * d.toNat/\d.toNat <= 1:=by
 refine ⟨_,_,if_pos h,?_⟩
 have hx:=x.toNat_lt
 have hy:=y.toNat_lt
 rw [UInt64.toNat_ofNat']
 split <;> simp <;> omega
theorem bn {α:Type} {l:List α} {i:Nat} (h:l.length <= i):l.take i = l:=List.take_of_length_le h
theorem iN (b:List UInt64) (i:Nat):val (b.take (i + 1)) = val (b.take i) + 18446744073709551616 ^ i * (b[i]?.getD 0).toNat:=by
 by_cases h:i < b.length
 ·rw [bS b h,geE h]; rfl
 ·rw [bn (by omega),bn (by omega),List.getElem?_eq_none (by omega)]; simp
theorem lG (n:Nat) (a b:List UInt64) (hb:b.length <= a.length) (hn:a.length < n):∃ xs u,ah (cF_l1 n a b) n (0,0,List.replicate (a.length + 1) 0) = some (xs,u)/\xs.length = a.length + 1/\val (xs.take a.length) + 18446744073709551616 ^ a.length * u.toNat = val a + val b:=by
 have h:=aj (B:=cF_l1 n a b) (fun s:UInt64 × Nat × List UInt64=>a.length - s.2.1) (fun s=>s.2.1 <= a.length/\s.2.2.length = a.length + 1/\s.1.toNat <= 1/\val (s.2.2.take s.2.1) + 18446744073709551616 ^ s.2.1 * s.1.toNat = val (a.take s.2.1) + val (b.take s.2.1))
  (fun r:List UInt64 × UInt64=>r.1.length = a.length + 1/\val (r.1.take a.length) + 18446744073709551616 ^ a.length * r.2.toNat = val a + val b) ?_ n (0,0,List.replicate (a.length + 1) 0) ⟨by simp,by simp,by simp,by simp [val]⟩ (by simpa using hn)
 ·obtain ⟨⟨xs,u⟩,h1,h2,h3⟩:=h; exact ⟨xs,u,h1,h2,h3⟩
 ·rintro ⟨u,i,xs⟩ J ⟨h1,h2,h3,h4⟩ hJ
  simp only at h1 h2 h3 h4 hJ
  unfold cF_l1
  simp only
  by_cases hi:i < a.length
  ·rw [if_pos hi,geE hi,aa]
   have key:∀ y:UInt64,y = b[i]?.getD 0 -> ∃ r,((add64 a[i] y u).bind fun z198=>(xs[i]?).bind fun x199=>(put xs ((i:Nat):Int) z198.1).bind fun xs212=>J (z198.2,i + 1,xs212)) = some r/\r.1.length = a.length + 1/\val (r.1.take a.length) + 18446744073709551616 ^ a.length * r.2.toNat = val a + val b:=by
    intro y hy
    obtain ⟨s,d,e1,e2,e3⟩:=gI a[i] y u h3
    rw [e1,aa,geE (by omega),aa,aR _ (by omega),aa]
    refine hJ (d,i + 1,xs.set i s) ⟨by show i + 1 <= _; omega,by simpa using h2,e3,?_⟩ (by simp only; omega)
    simp only
    rw [ek s (by omega),bS a hi,iN b i,<- hy,Nat.pow_succ]
    grind
   unfold jn
   simp only
   by_cases hj:i < b.length
   ·rw [if_pos hj,geE hj,aa]; exact key _ (by rw [geE hj]; rfl)
   ·rw [if_neg hj]; exact key _ (by rw [List.getElem?_eq_none (by omega)]; rfl)
  ·rw [if_neg hi]
   have:i = a.length:=by omega
   subst this
   refine ⟨_,rfl,h2,?_⟩
   simp only
   rw [h4,List.take_length,bn hb]
theorem nY (n:Nat) (a b:List UInt64) (hn:a.length < n/\b.length < n) (hl:a.length < 4294967296/\b.length < 4294967296):∃ xs,cF_p n a b = some xs/\xs.length <= max a.length b.length + 1/\val xs = val a + val b:=by
 have key:∀ a b:List UInt64,b.length <= a.length -> a.length < n -> a.length < 4294967296 -> ∃ xs,((mk ((a.length + 1:Nat):Int) (0:UInt64)).bind fun xs17=>Option.bind (ah (cF_l1 n a b) n ((0:UInt64),0,xs17)) (fun (xs157,u155)=>(xs157[a.length]?).bind fun x229=>(put xs157 ((a.length:Nat):Int) u155).bind fun xs241=>some xs241)) = some xs/\xs.length = a.length + 1/\val xs = val a + val b:=by
  intro a b hb h1 h2
  obtain ⟨xs,u,e1,e2,e3⟩:=lG n a b hb h1
  rw [cy _ _ (by omega),aa,e1,aa]
  simp only
  rw [geE (by omega),aa,aR _ (by omega),aa]
  refine ⟨_,rfl,by simpa using e2,?_⟩
  rw [<- e3]
  conv=>lhs; rw [<- bn (l:=xs.set a.length u) (i:=a.length + 1) (by simp [e2])]
  exact ek u (by omega)
 unfold cF_p jn
 simp only
 by_cases h:a.length < b.length
 ·rw [if_pos h]
  obtain ⟨xs,e1,e2,e3⟩:=key b a (by omega) hn.2 hl.2
  exact ⟨xs,e1,by omega,by omega⟩
 ·rw [if_neg h]
  obtain ⟨xs,e1,e2,e3⟩:=key a b (by omega) hn.1 hl.1
  exact ⟨xs,e1,by omega,e3⟩
theorem ky (n:Nat) (a b:List UInt64) (hb:b.length <= a.length) (hv:val b <= val a) (hn:a.length < n) (hl:a.length < 4294967296):∃ xs,cq_p n a b = some xs/\xs.length = a.length/\val xs = val a - val b:=by
 have h:=aj (B:=cq_l1 n a b) (fun s:UInt64 × Nat × List UInt64=>a.length - s.2.1) (fun s=>s.2.1 <= a.length/\s.2.2.length = a.length/\s.1.toNat <= 1/\val (s.2.2.take s.2.1) + val (b.take s.2.1) = val (a.take s.2.1) + 18446744073709551616 ^ s.2.1 * s.1.toNat)
  (fun r:List UInt64=>r.length = a.length/\val r = val a - val b) ?_ n (0,0,List.replicate a.length 0) ⟨by simp,by simp,by simp,by simp [val]⟩ (by simpa using hn)
 ·obtain ⟨xs,h1,h2,h3⟩:=h
  refine ⟨xs,?_,h2,h3⟩
  unfold cq_p
  rw [cy _ _ (by omega),aa,h1,aa]
 ·rintro ⟨u,i,xs⟩ J ⟨h1,h2,h3,h4⟩ hJ
  simp only at h1 h2 h3 h4 hJ
  unfold cq_l1
  simp only
  by_cases hi:i < a.length
  ·rw [if_pos hi,geE hi,aa]
   have key:∀ y:UInt64,y = b[i]?.getD 0 -> ∃ r,((sub64 a[i] y u).bind fun z184=>(xs[i]?).bind fun x185=>(put xs ((i:Nat):Int) z184.1).bind fun xs198=>J (z184.2,i + 1,xs198)) = some r/\r.length = a.length/\val r = val a - val b:=by
    intro y hy
    obtain ⟨s,d,e1,e2,e3⟩:=bF a[i] y u h3
    rw [e1,aa,geE (by omega),aa,aR _ (by omega),aa]
    refine hJ (d,i + 1,xs.set i s) ⟨by show i + 1 <= _; omega,by simpa using h2,e3,?_⟩ (by simp only; omega)
    simp only
    rw [ek s (by omega),bS a hi,iN b i,<- hy,Nat.pow_succ]
    grind
   unfold jn
   simp only
   by_cases hj:i < b.length
   ·rw [if_pos hj,geE hj,aa]; exact key _ (by rw [geE hj]; rfl)
   ·rw [if_neg hj]; exact key _ (by rw [List.getElem?_eq_none (by omega)]; rfl)
  ·rw [if_neg hi]
   have:i = a.length:=by omega
   subst this
   rw [List.take_length,bn hb,bn (by omega)] at h4
   refine ⟨xs,rfl,h2,?_⟩
   have h5:=cx xs
   rw [h2] at h5
   by_cases hu:u.toNat = 0
   ·rw [hu] at h4; omega
   ·have:u.toNat = 1:=by omega
    rw [this] at h4; omega
end Go.Proofs.YtfccehcnajelgaaGreatDoor
namespace Go.Proofs.YtfccehcnajelgaaGreatDoor
open Go
theorem dq (a:List UInt64) {i:Nat} (h:i < a.length):val a = val (a.take i) + 18446744073709551616 ^ i * a[i].toNat + 18446744073709551616 ^ (i + 1) * val (a.drop (i + 1)):=by
 conv=>lhs; rw [<- List.take_append_drop (i + 1) a,er]
 rw [bS a h,List.length_take,Nat.min_eq_left (by omega)]
theorem oV {a b:List UInt64} (hb:Nm b) (h:a.length < b.length):val a < val b:=by
 have h1:=cx a
 have h2:=jw hb (by intro e; rw [e] at h; simp at h)
 have h3:18446744073709551616 ^ a.length <= 18446744073709551616 ^ (b.length - 1):=Nat.pow_le_pow_right (by omega) (by omega)
 omega
theorem gt {a b:List UInt64} {i:Nat} (ha:i < a.length) (hb:i < b.length) (hd:a.drop (i + 1) = b.drop (i + 1)) (h:a[i] < b[i]):val a < val b:=by
 rw [dq a ha,dq b hb,hd]
 have h1:=cx (a.take i)
 rw [List.length_take,Nat.min_eq_left (by omega)] at h1
 have h2:18446744073709551616 ^ i * (a[i].toNat + 1) <= 18446744073709551616 ^ i * b[i].toNat:=Nat.mul_le_mul_left _ (UInt64.lt_iff_toNat_lt.1 h)
 rw [Nat.mul_add] at h2
 omega
theorem gg (n:Nat) (a b:List UInt64) (ha:Nm a) (hb:Nm b) (hn:a.length < n) (hl:a.length < 4294967296):∃ c,ca_p n a b = some c/\(c < 0 ↔ val a < val b)/\(c = 0 ↔ val a = val b):=by
 unfold ca_p
 by_cases h:a.length = b.length
 ·rw [if_pos h]
  have hh:=aj (B:=ca_l1 n a b) (fun z:Int=>(z + 1).toNat) (fun z=>-1 <= z/\z < a.length/\a.drop (z + 1).toNat = b.drop (z + 1).toNat)
   (fun r=>(r = .inl (-1)/\val a < val b) ∨ (r = .inl 1/\val b < val a) ∨ (r = .inr ()/\a = b)) ?_ n ((a.length:Int) - 1) ⟨by omega,by omega,?_⟩ (by omega)
  ·obtain ⟨r,hr,h1 | h1 | h1⟩:=hh
   ·rw [hr,h1.1]; exact ⟨_,rfl,by have:=h1.2; omega,by have:=h1.2; omega⟩
   ·rw [hr,h1.1]; exact ⟨_,rfl,by have:=h1.2; omega,by have:=h1.2; omega⟩
   ·rw [hr,h1.1,h1.2]; exact ⟨_,rfl,by omega,by omega⟩
  ·intro z J ⟨h1,h2,h3⟩ hJ
   unfold ca_l1
   simp only
   by_cases h0:0 <= z
   ·have e1:(z + 1).toNat = z.toNat + 1:=by omega
    rw [e1] at h3
    rw [if_pos h0,aM h0 (by omega),aa,aM h0 (by omega),aa]
    split
    ·rename_i hlt; exact ⟨_,rfl,.inl ⟨rfl,gt (by omega) (by omega) h3 hlt⟩⟩
    ·rename_i h4
     split
     ·rename_i hlt; exact ⟨_,rfl,.inr (.inl ⟨rfl,gt (by omega) (by omega) h3.symm hlt⟩)⟩
     ·rename_i h5
      have he:a[z.toNat]'(by omega) = b[z.toNat]'(by omega):=UInt64.toNat_inj.1 (by rw [UInt64.lt_iff_toNat_lt] at h4 h5; omega)
      rw [aH (by omega) (by omega),aa]
      refine hJ (z - 1) ⟨by omega,by omega,?_⟩ (by omega)
      rw [show (z - 1 + 1).toNat = z.toNat by omega,List.drop_eq_getElem_cons (by omega),List.drop_eq_getElem_cons (l:=b) (by omega),h3,he]
   ·rw [if_neg h0]
    have e1:(z + 1).toNat = 0:=by omega
    rw [e1] at h3
    exact ⟨_,rfl,.inr (.inr ⟨rfl,by simpa using h3⟩)⟩
  ·rw [show ((a.length:Int) - 1 + 1).toNat = a.length by omega,List.drop_length,h,List.drop_length]
 ·rw [if_neg h]
  refine ⟨_,rfl,?_⟩
  by_cases h1:a.length < b.length
  ·have:=oV hb h1; omega
  ·have:=oV (a:=b) ha (by omega); omega
theorem lE (a:UInt64):(shrU a 32).toNat = a.toNat / 4294967296:=by
 unfold shrU; rw [if_pos (by decide),UInt64.toNat_ofNat']
 have:=a.toNat_lt
 omega
theorem oq (a:UInt64):(a &&& (4294967295:UInt64)).toNat = a.toNat % 4294967296:=by
 rw [UInt64.toNat_and]; exact Nat.and_two_pow_sub_one_eq_mod a.toNat 32
theorem nb (x1 x0 y1 y0:Nat) (h1:x1 < 4294967296) (h2:x0 < 4294967296) (h3:y1 < 4294967296) (h4:y0 < 4294967296) :
  ((x1 * y0 + x0 * y0 / 4294967296) < 18446744073709551616)/\((x1 * y0 + x0 * y0 / 4294967296) % 4294967296 + x0 * y1 < 18446744073709551616)/\
  x1 * y1 + (x1 * y0 + x0 * y0 / 4294967296) / 4294967296 + ((x1 * y0 + x0 * y0 / 4294967296) % 4294967296 + x0 * y1) / 4294967296 < 18446744073709551616/\
  (((x1 * 4294967296 + x0) * (y1 * 4294967296 + y0)) % 18446744073709551616) + 18446744073709551616 * (x1 * y1 + (x1 * y0 + x0 * y0 / 4294967296) / 4294967296 + ((x1 * y0 + x0 * y0 / 4294967296) % 4294967296 + x0 * y1) / 4294967296) = (x1 * 4294967296 + x0) * (y1 * 4294967296 + y0):=by
 have e:(x1 * 4294967296 + x0) * (y1 * 4294967296 + y0) = 18446744073709551616 * (x1 * y1) + 4294967296 * (x1 * y0 + x0 * y1) + x0 * y0:=by grind
 have b1:x1 * y1 <= 4294967295 * 4294967295:=Nat.mul_le_mul (by omega) (by omega)
 have b2:x1 * y0 <= 4294967295 * 4294967295:=Nat.mul_le_mul (by omega) (by omega)
 have b3:x0 * y1 <= 4294967295 * 4294967295:=Nat.mul_le_mul (by omega) (by omega)
 have b4:x0 * y0 <= 4294967295 * 4294967295:=Nat.mul_le_mul (by omega) (by omega)
 rw [e]
 generalize x1 * y1 = s at *
 generalize x1 * y0 = q at *
 generalize x0 * y1 = r at *
 generalize x0 * y0 = p at *
 clear e h1 h2 h3 h4
 refine ⟨by omega,by omega,by omega,by omega⟩
theorem oD (n:Nat) (x y:UInt64):∃ hi lo,dh_p n x y = some (hi,lo)/\lo.toNat + 18446744073709551616 * hi.toNat = x.toNat * y.toNat:=by
 refine ⟨_,_,rfl,?_⟩
 have hx:=x.toNat_lt
 have hy:=y.toNat_lt
 have ex:x.toNat = x.toNat / 4294967296 * 4294967296 + x.toNat % 4294967296:=by omega
 have ey:y.toNat = y.toNat / 4294967296 * 4294967296 + y.toNat % 4294967296:=by omega
 obtain ⟨h1,h2,h3,h4⟩:=nb (x.toNat / 4294967296) (x.toNat % 4294967296) (y.toNat / 4294967296) (y.toNat % 4294967296) (by omega) (by omega) (by omega) (by omega)
 rw [<- ex,<- ey] at h4
 have b1:x.toNat / 4294967296 * (y.toNat / 4294967296) < 18446744073709551616:=by omega
 have b2:x.toNat / 4294967296 * (y.toNat % 4294967296) < 18446744073709551616:=by omega
 have b3:x.toNat % 4294967296 * (y.toNat / 4294967296) < 18446744073709551616:=by omega
 have b4:x.toNat % 4294967296 * (y.toNat % 4294967296) < 18446744073709551616:=by
  have:x.toNat % 4294967296 * (y.toNat % 4294967296) <= 4294967295 * 4294967295:=Nat.mul_le_mul (by omega) (by omega)
  omega
 simp only [UInt64.toNat_add,UInt64.toNat_mul,lE,oq,show (2:Nat) ^ 64 = 18446744073709551616 from rfl]
 rw [Nat.mod_eq_of_lt b1,Nat.mod_eq_of_lt b2,Nat.mod_eq_of_lt b3,Nat.mod_eq_of_lt b4,Nat.mod_eq_of_lt h1,Nat.mod_eq_of_lt h2]
 rw [Nat.mod_eq_of_lt (a:=x.toNat / 4294967296 * (y.toNat / 4294967296) + _) (by omega),Nat.mod_eq_of_lt h3]
 exact h4
theorem mult_in (n:Nat) (b:List UInt64) (x:UInt64) (i:Nat) (xs0:List UInt64) (hi:i + b.length < xs0.length) (hn:b.length < n) :
  ∃ xs u,ah (bh_l1 n b x i) n (0,0,xs0) = some (xs,u)/\xs.length = xs0.length/\val (xs.take (i + b.length)) + 18446744073709551616 ^ (i + b.length) * u.toNat = val (xs0.take (i + b.length)) + x.toNat * val b * 18446744073709551616 ^ i:=by
 have h:=aj (B:=bh_l1 n b x i) (fun s:UInt64 × Nat × List UInt64=>b.length - s.2.1) (fun s=>s.2.1 <= b.length/\s.2.2.length = xs0.length/\(∀ k,i + s.2.1 <= k -> s.2.2[k]? = xs0[k]?)/\val (s.2.2.take (i + s.2.1)) + 18446744073709551616 ^ (i + s.2.1) * s.1.toNat = val (xs0.take (i + s.2.1)) + x.toNat * val (b.take s.2.1) * 18446744073709551616 ^ i)
  (fun r:List UInt64 × UInt64=>r.1.length = xs0.length/\val (r.1.take (i + b.length)) + 18446744073709551616 ^ (i + b.length) * r.2.toNat = val (xs0.take (i + b.length)) + x.toNat * val b * 18446744073709551616 ^ i) ?_ n (0,0,xs0) ⟨by simp,rfl,fun _ _=>rfl,by simp [val]⟩ (by simpa using hn)
 ·obtain ⟨⟨xs,u⟩,h1,h2,h3⟩:=h; exact ⟨xs,u,h1,h2,h3⟩
 ·rintro ⟨u,j,xs⟩ J ⟨h1,h2,h3,h4⟩ hJ
  simp only at h1 h2 h3 h4 hJ
  unfold bh_l1
  simp only
  by_cases hj:j < b.length
  ·obtain ⟨hi', lo,e1,e2⟩:=oD n x b[j]
   have hx0:xs[i + j]'(by omega) = xs0[i + j]'(by omega):=by
    have:=h3 (i + j) (by omega)
    rw [geE (by omega),geE (by omega)] at this
    exact Option.some.inj this
   rw [if_pos hj,geE hj,aa,e1,aa,geE (by omega),aa]
   obtain ⟨s,c,f1,f2,f3⟩:=gI (xs[i + j]'(by omega)) lo 0 (by simp)
   obtain ⟨s', c', g1,g2,g3⟩:=gI s u 0 (by simp)
   simp only [f1,aa,g1]
   rw [aR _ (by omega),aa]
   simp only [UInt64.toNat_zero,Nat.add_zero] at f2 g2
   have bx:x.toNat * b[j].toNat <= 18446744073709551615 * 18446744073709551615:=Nat.mul_le_mul (by have:=x.toNat_lt; omega) (by have:=b[j].toNat_lt; omega)
   have bo:=(xs[i + j]'(by omega)).toNat_lt
   have bu:=u.toNat_lt
   have e3:(hi' + c + c').toNat = hi'.toNat + c.toNat + c'.toNat:=by
    rw [UInt64.toNat_add,UInt64.toNat_add]; omega
   have e4:s'.toNat + 18446744073709551616 * (hi' + c + c').toNat = (xs[i + j]'(by omega)).toNat + x.toNat * b[j].toNat + u.toNat:=by rw [e3]; omega
   refine hJ (hi' + c + c', j + 1,xs.set (i + j) s') ⟨hj,by simpa using h2,fun k hk=>?_,?_⟩ (by simp only; omega)
   ·simp only at hk ⊢
    rw [List.getElem?_set_ne (by omega)]; exact h3 k (by omega)
   ·simp only
    rw [<- Nat.add_assoc,ek s' (by omega),bS xs0 (by omega),bS b hj,<- hx0,Nat.pow_succ]
    rw [Nat.pow_add] at h4 ⊢
    grind
  ·rw [if_neg hj]
   have:j = b.length:=by omega
   subst this
   refine ⟨_,rfl,h2,?_⟩
   simp only
   rw [h4,List.take_length]
theorem il (n:Nat) (a b:List UInt64) (hn:a.length < n/\b.length < n) (hl:a.length + b.length <= 4294967296):∃ xs,bh_p n a b = some xs/\xs.length = a.length + b.length/\val xs = val a * val b:=by
 have h:=aj (B:=bh_l2 n a b) (fun s:Nat × List UInt64=>a.length - s.1) (fun s=>s.1 <= a.length/\s.2.length = a.length + b.length/\val (s.2.take (s.1 + b.length)) = val (a.take s.1) * val b)
  (fun r:List UInt64=>r.length = a.length + b.length/\val r = val a * val b) ?_ n (0,List.replicate (a.length + b.length) 0) ⟨by simp,by simp,?_⟩ (by simpa using hn.1)
 ·obtain ⟨xs,h1,h2,h3⟩:=h
  refine ⟨xs,?_,h2,h3⟩
  unfold bh_p
  rw [cy _ _ hl,aa,h1,aa]
 ·rintro ⟨i,xs⟩ J ⟨h1,h2,h3⟩ hJ
  simp only at h1 h2 h3 hJ
  unfold bh_l2
  simp only
  by_cases hi:i < a.length
  ·obtain ⟨ys,u,e1,e2,e3⟩:=mult_in n b a[i] i xs (by omega) hn.2
   rw [if_pos hi,geE hi,aa,e1,aa]
   simp only
   rw [geE (by omega),aa,aR _ (by omega),aa]
   refine hJ (i + 1,ys.set (i + b.length) u) ⟨hi,by simp; omega,?_⟩ (by simp only; omega)
   simp only
   rw [show i + 1 + b.length = i + b.length + 1 by omega,ek u (by omega),bS a hi,e3,h3]
   grind
  ·rw [if_neg hi]
   have:i = a.length:=by omega
   subst this
   rw [List.take_length,bn (by omega)] at h3
   exact ⟨xs,rfl,h2,h3⟩
 ·simp only [List.take_zero,val,Nat.zero_mul]
  exact cd _ fun x hx=>(List.mem_replicate.1 (List.mem_of_mem_take hx)).2
def L (z:Int):Tf:=⟨decide (z < 0),dg z.natAbs⟩
def Fit (l:Nat) (z:Int):Prop:=z.natAbs < 18446744073709551616 ^ l
theorem Fit.len {l:Nat} {z:Int} (h:Fit l z):(dg z.natAbs).length <= l:=gP h
def sg (s:Bool) (m:Nat):Int:=if s = true then -(m:Int) else m
theorem mq (s:Bool) (m:Nat):(⟨s && decide (0 < m),dg m⟩:Tf) = L (sg s m):=by
 unfold L sg
 cases s
 ·simp
 ·simp
theorem mb (z:Int):z = sg (decide (z < 0)) z.natAbs:=by
 unfold sg; split <;> rename_i h <;> simp at h <;> omega
theorem ii (s:Bool) (m:Nat):(sg s m).natAbs = m:=by unfold sg; split <;> omega
theorem cA (n l:Nat) (z:Int) (h:Fit l z) (hn:l < n) (hl:l < 1000000):bZ_p n (L z) = some (L (-z)):=by
 unfold bZ_p
 have h1:=h.len
 rw [aI n _ _ (by show (dg z.natAbs).length < n; omega) (by show (dg z.natAbs).length <= _; omega),aa]
 show some (⟨!decide (z < 0) && decide (0 < val (dg z.natAbs)),dg (val (dg z.natAbs))⟩:Tf) = _
 rw [aE,mq]
 refine congrArg (fun x=>some (L x)) ?_
 unfold sg
 by_cases hz:z < 0 <;> simp [hz] <;> omega
theorem cb (n l m:Nat) (a b:Int) (ha:Fit l a) (hb:Fit m b) (hn:l + m < n) (hl:l + m < 1000000):bb_p n (L a) (L b) = some (L (a * b)):=by
 unfold bb_p
 have h1:=ha.len
 have h2:=hb.len
 obtain ⟨xs,e1,e2,e3⟩:=il n (L a).fu (L b).fu ⟨by show (dg a.natAbs).length < n; omega,by show (dg b.natAbs).length < n; omega⟩ (by show (dg a.natAbs).length + (dg b.natAbs).length <= _; omega)
 have e4:xs.length = (dg a.natAbs).length + (dg b.natAbs).length:=e2
 rw [e1,aa,aI n _ _ (by omega) (by omega),aa,e3]
 show some (⟨!(decide (a < 0) == decide (b < 0)) && decide (0 < val (dg a.natAbs) * val (dg b.natAbs)),dg (val (dg a.natAbs) * val (dg b.natAbs))⟩:Tf) = _
 rw [aE,aE,mq]
 refine congrArg (fun x=>some (L x)) ?_
 conv=>rhs; rw [mb a,mb b]
 unfold sg
 by_cases h3:a < 0 <;> by_cases h4:b < 0 <;> simp [h3,h4,Int.neg_mul,Int.mul_neg]
theorem gy {a b:Nat} (h:a <= b):(dg a).length <= (dg b).length:=gP (Nat.lt_of_le_of_lt h (by have:=cx (dg b); rwa [aE] at this))
theorem lO (n l a b:Nat) (s:Bool) (h:a <= b) (hl:(dg b).length <= l) (hn:l < n) (hl2:l < 1000000):((cq_p n (dg b) (dg a)).bind fun y67=>(ax_p n s y67).bind fun y75=>some y75) = some (L (sg s (b - a))):=by
 obtain ⟨xs,e1,e2,e3⟩:=ky n (dg b) (dg a) (gy h) (by rw [aE,aE]; exact h) (by omega) (by omega)
 rw [e1,aa,aI n _ _ (by omega) (by omega),aa,e3,aE,aE,mq]
theorem dF (n l:Nat) (a b:Int) (ha:Fit l a) (hb:Fit l b) (hn:l + 1 < n) (hl:l < 1000000):bY_p n (L a) (L b) = some (L (a + b)):=by
 unfold bY_p
 have h1:=ha.len
 have h2:=hb.len
 by_cases h:((L a).fc == (L b).fc) = true
 ·rw [if_pos h]
  obtain ⟨xs,e1,e2,e3⟩:=nY n (L a).fu (L b).fu ⟨by show (dg a.natAbs).length < n; omega,by show (dg b.natAbs).length < n; omega⟩ ⟨by show (dg a.natAbs).length < _; omega,by show (dg b.natAbs).length < _; omega⟩
  have e4:xs.length <= max (dg a.natAbs).length (dg b.natAbs).length + 1:=e2
  rw [e1,aa,aI n _ _ (by omega) (by omega),aa,e3]
  show some (⟨decide (a < 0) && decide (0 < val (dg a.natAbs) + val (dg b.natAbs)),dg (val (dg a.natAbs) + val (dg b.natAbs))⟩:Tf) = _
  rw [aE,aE,mq]
  refine congrArg (fun x=>some (L x)) ?_
  have h3:decide (a < 0) = decide (b < 0):=eq_of_beq h
  unfold sg
  by_cases h4:a < 0 <;> by_cases h5:b < 0 <;> simp [h4,h5] at h3 ⊢ <;> omega
 ·rw [if_neg h]
  obtain ⟨c,e1,e2,e3⟩:=gg n (L a).fu (L b).fu (gR _) (gR _) (by show (dg a.natAbs).length < n; omega) (by show (dg a.natAbs).length < _; omega)
  have h3:decide (a < 0) ≠ decide (b < 0):=fun e=>h (by rw [beq_iff_eq]; exact e)
  rw [e1,aa]
  unfold jn
  simp only
  have e4:c < 0 ↔ a.natAbs < b.natAbs:=by rw [e2]; show val (dg a.natAbs) < val (dg b.natAbs) ↔ _; rw [aE,aE]
  by_cases hc:c < 0
  ·rw [if_pos hc]
   show ((cq_p n (dg b.natAbs) (dg a.natAbs)).bind fun y67=>(ax_p n (decide (b < 0)) y67).bind fun y75=>some y75) = _
   rw [lO n l _ _ _ (by omega) h2 (by omega) hl]
   refine congrArg (fun x=>some (L x)) ?_
   unfold sg
   by_cases h4:a < 0 <;> by_cases h5:b < 0 <;> simp [h4,h5] at h3 ⊢ <;> omega
  ·rw [if_neg hc]
   show ((cq_p n (dg a.natAbs) (dg b.natAbs)).bind fun y67=>(ax_p n (decide (a < 0)) y67).bind fun y75=>some y75) = _
   rw [lO n l _ _ _ (by omega) h1 (by omega) hl]
   refine congrArg (fun x=>some (L x)) ?_
   unfold sg
   by_cases h4:a < 0 <;> by_cases h5:b < 0 <;> simp [h4,h5] at h3 ⊢ <;> omega
theorem Fit.neg {l:Nat} {z:Int} (h:Fit l z):Fit l (-z):=by unfold Fit at *; rwa [Int.natAbs_neg]
theorem oR (n l:Nat) (a b:Int) (ha:Fit l a) (hb:Fit l b) (hn:l + 1 < n) (hl:l < 1000000):dc_p n (L a) (L b) = some (L (a - b)):=by
 unfold dc_p
 rw [cA n l b hb (by omega) hl,aa,dF n l a (-b) ha hb.neg hn hl,aa,Int.sub_eq_add_neg]
theorem lM (n:Nat) (a:Int):cG_p n (L a) = some a.sign:=by
 unfold cG_p
 by_cases h:a < 0
 ·rw [if_pos (by simpa [L] using h),Int.sign_eq_neg_one_of_neg h]
 ·rw [if_neg (by simpa [L] using h)]
  by_cases h0:a = 0
  ·subst h0; rw [if_pos (by simp [L,dg0])]; rfl
  ·rw [if_neg,Int.sign_eq_one_of_pos (by omega)]
   show ¬ (dg a.natAbs).length = 0
   rw [iu (by omega)]; simp
end Go.Proofs.YtfccehcnajelgaaGreatDoor
namespace Go.Proofs.YtfccehcnajelgaaGreatDoor
open Go
theorem dp:∀ {xs:List UInt64} {j:Nat} (v:UInt64) (h:j < xs.length),val (xs.set j v) + 18446744073709551616 ^ j * xs[j].toNat = val xs + 18446744073709551616 ^ j * v.toNat
 | x :: xs,0,v,_=>by simp only [List.set_cons_zero,val,List.getElem_cons_zero,Nat.pow_zero]; omega
 | x :: xs,j + 1,v,h=>by
  have:=dp (xs:=xs) (j:=j) v (by simpa using h)
  simp only [List.set_cons_succ,val,List.getElem_cons_succ,Nat.pow_succ]
  grind
theorem lH {a b:UInt64} {s:Nat} (ha:a.toNat < 2 ^ s) (hb:2 ^ s ∣ b.toNat):(a ||| b).toNat = a.toNat + b.toNat:=by
 obtain ⟨y,e⟩:=hb
 rw [UInt64.toNat_or,e,Nat.or_comm,<- Nat.two_pow_add_eq_or_of_lt ha,Nat.add_comm]
theorem dP (w:Nat):18446744073709551616 ^ w = 2 ^ (64 * w):=by
 rw [show (18446744073709551616:Nat) = 2 ^ 64 from rfl,<- Nat.pow_mul]
theorem dI (x:UInt64) {s:Nat} (hs:s < 64):(shlU x s).toNat = x.toNat * 2 ^ s % 18446744073709551616:=by
 unfold shlU; rw [if_pos hs,UInt64.toNat_ofNat']
theorem bM (x:UInt64) {s:Nat} (hs:s < 64):(shrU x s).toNat = x.toNat / 2 ^ s:=by
 unfold shrU; rw [if_pos hs,UInt64.toNat_ofNat']
 exact Nat.mod_eq_of_lt (Nat.lt_of_le_of_lt (Nat.div_le_self _ _) x.toNat_lt)
theorem split64 {s:Nat} (hs:s <= 64):(18446744073709551616:Nat) = 2 ^ (64 - s) * 2 ^ s:=by
 rw [<- Nat.pow_add,show 64 - s + s = 64 by omega]
theorem iw (x:UInt64) {s:Nat} (h0:0 < s) (hs:s < 64):(shlU x s).toNat + 18446744073709551616 * (shrU x (64 - s)).toNat = x.toNat * 2 ^ s/\2 ^ s ∣ (shlU x s).toNat/\(shrU x (64 - s)).toNat < 2 ^ s:=by
 have e:=split64 (s:=s) (by omega)
 have e1:x.toNat * 2 ^ s / 18446744073709551616 = x.toNat / 2 ^ (64 - s):=by
  rw [e]; exact Nat.mul_div_mul_right _ _ (Nat.two_pow_pos s)
 have e2:x.toNat * 2 ^ s % 18446744073709551616 = x.toNat % 2 ^ (64 - s) * 2 ^ s:=by
  rw [e]; exact Nat.mul_mod_mul_right ..
 rw [dI x hs,bM x (by omega)]
 refine ⟨?_,?_,?_⟩
 ·rw [<- e1]; exact Nat.mod_add_div ..
 ·rw [e2]; exact Nat.dvd_mul_left ..
 ·refine Nat.div_lt_of_lt_mul ?_
  rw [<- e]; exact x.toNat_lt
theorem cV (x:UInt64):shlU x 0 = x:=by
 refine UInt64.toNat_inj.1 ?_
 rw [dI x (by decide),Nat.pow_zero,Nat.mul_one]
 exact Nat.mod_eq_of_lt x.toNat_lt
theorem eW (x:UInt64):(0:UInt64) ||| x = x:=by
 refine UInt64.toNat_inj.1 ?_
 rw [UInt64.toNat_or]; simp
theorem bit_add {q:List UInt64} {k:Nat} (h:k / 64 < q.length) (hd:2 ^ (k + 1) ∣ val q) (hb:(shlU 1 (k % 64)).toNat = 2 ^ (k % 64)):val (q.set (k / 64) (q[k / 64] ||| shlU 1 (k % 64))) = val q + 2 ^ k:=by
 have hs:=dq q h
 have hl:=cx (q.take (k / 64))
 rw [List.length_take,Nat.min_eq_left (by omega)] at hl
 have hk:k = 64 * (k / 64) + k % 64:=by omega
 have hm:k % 64 < 64:=by omega
 have e1:2 ^ (k + 1) = 18446744073709551616 ^ (k / 64) * 2 ^ (k % 64 + 1):=by rw [dP,<- Nat.pow_add]; congr 1; omega
 have e2:(18446744073709551616:Nat) = 2 ^ (k % 64 + 1) * 2 ^ (63 - k % 64):=by rw [<- Nat.pow_add,show k % 64 + 1 + (63 - k % 64) = 64 by omega]
 have h0:val (q.take (k / 64)) = 0:=by
  have h1:18446744073709551616 ^ (k / 64) ∣ val q:=Nat.dvd_trans ⟨_,e1⟩ hd
  rw [hs,Nat.pow_succ,Nat.mul_assoc,Nat.add_assoc,<- Nat.mul_add] at h1
  have h2:=(Nat.dvd_add_left (Nat.dvd_mul_right ..)).1 h1
  exact Nat.eq_zero_of_dvd_of_lt h2 hl
 have h3:2 ^ (k % 64 + 1) ∣ (q[k / 64]).toNat:=by
  rw [e1,hs,h0,Nat.zero_add,show (18446744073709551616:Nat) ^ (k / 64 + 1) = 18446744073709551616 ^ (k / 64) * 18446744073709551616 from Nat.pow_succ ..,Nat.mul_assoc (18446744073709551616 ^ (k / 64)) 18446744073709551616,<- Nat.mul_add] at hd
  have h4:=Nat.dvd_of_mul_dvd_mul_left (Nat.pow_pos (by decide)) hd
  have h5:2 ^ (k % 64 + 1) ∣ 18446744073709551616 * val (q.drop (k / 64 + 1)):=Nat.dvd_trans ⟨_,e2⟩ (Nat.dvd_mul_right ..)
  exact (Nat.dvd_add_left h5).1 h4
 have h6:(q[k / 64] ||| shlU 1 (k % 64)).toNat = 2 ^ (k % 64) + (q[k / 64]).toNat:=by
  rw [UInt64.or_comm]
  have:=lH (a:=shlU 1 (k % 64)) (b:=q[k / 64]) (s:=k % 64 + 1) (by rw [hb]; exact Nat.pow_lt_pow_right (by decide) (by omega)) h3
  rw [this,hb]
 have h7:=dp (q[k / 64] ||| shlU 1 (k % 64)) h
 have e3:2 ^ k = 18446744073709551616 ^ (k / 64) * 2 ^ (k % 64):=by rw [dP,<- Nat.pow_add]; congr 1
 rw [h6,Nat.mul_add,<- e3] at h7
 omega
theorem shl_one {s:Nat} (hs:s < 64):(shlU 1 s).toNat = 2 ^ s:=by
 rw [dI 1 hs]
 have:2 ^ s < 2 ^ 64:=Nat.pow_lt_pow_right (by decide) hs
 simp only [UInt64.toNat_one,Nat.one_mul]
 exact Nat.mod_eq_of_lt (by omega)
theorem nR {a b q r k:Nat} (h1:a = b * q + r) (h2:r < b * 2 ^ (k + 1)) (h3:2 ^ (k + 1) ∣ q) :
  (b * 2 ^ k <= r -> a = b * (q + 2 ^ k) + (r - b * 2 ^ k)/\r - b * 2 ^ k < b * 2 ^ k/\2 ^ k ∣ q + 2 ^ k)/\(r < b * 2 ^ k -> 2 ^ k ∣ q):=by
 have h4:2 ^ k ∣ q:=Nat.dvd_trans ⟨2,by rw [Nat.pow_succ]⟩ h3
 rw [Nat.pow_succ,<- Nat.mul_assoc] at h2
 refine ⟨fun h=>⟨?_,by omega,Nat.dvd_add h4 (Nat.dvd_refl _)⟩,fun _=>h4⟩
 rw [Nat.mul_add]; omega
def eu (x y:Nat):Nat:=if y = 0 then 0 else (if x < y then 1 else 0) + Nat.log2 (x * y) + 1
theorem lU {x y:Nat} (h:y ≠ 0):eu y (x % y) < eu x y:=by
 have hm:x % y < y:=Nat.mod_lt _ (by omega)
 unfold eu
 rw [if_neg h]
 by_cases h0:x % y = 0
 ·rw [if_pos h0]; omega
 ·rw [if_neg h0,if_neg (show ¬ y < x % y by omega)]
  by_cases h1:x < y
  ·rw [if_pos h1,Nat.mod_eq_of_lt h1,Nat.mul_comm y x]; omega
  ·rw [if_neg h1]
   have h2:2 * (x % y) < x ∨ 2 * (x % y) = x:=by
    have h3:=Nat.div_add_mod x y
    have h4:1 <= x / y:=Nat.div_pos (by omega) (by omega)
    have h5:y * 1 <= y * (x / y):=Nat.mul_le_mul_left _ h4
    omega
   have h6:2 * (y * (x % y)) <= x * y:=by
    rw [Nat.mul_comm x y,Nat.mul_left_comm]
    exact Nat.mul_le_mul_left _ (by omega)
   have h7:y * (x % y) ≠ 0:=Nat.mul_ne_zero h h0
   have h8:Nat.log2 (y * (x % y)) + 1 <= Nat.log2 (x * y):=by
    rw [Nat.le_log2 (by omega),Nat.pow_succ]
    have:=Nat.log2_self_le h7
    omega
   omega
theorem eu_le {x y l:Nat} (hx:x < 2 ^ l) (hy:y < 2 ^ l):eu x y <= 2 * l + 2:=by
 unfold eu
 split
 ·omega
 ·rename_i h
  have h1:Nat.log2 (x * y) <= 2 * l:=by
   by_cases h0:x * y = 0
   ·rw [h0]; simp
   ·have:Nat.log2 (x * y) < 2 * l:=by
     rw [Nat.log2_lt h0,Nat.two_mul,Nat.pow_add]
     exact Nat.mul_lt_mul'' hx hy
    omega
  split <;> omega
end Go.Proofs.YtfccehcnajelgaaGreatDoor
namespace Go.Proofs.YtfccehcnajelgaaGreatDoor
open Go
theorem dg1 {m:Nat} (h0:m ≠ 0) (h:m < 18446744073709551616):dg m = [UInt64.ofNat m]:=by
 rw [iu h0,show m / 18446744073709551616 = 0 by omega,dg0]
theorem kH {m:Nat} (h0:m ≠ 0) (h:m < 18446744073709551616):UInt64.ofNat m ≠ 0:=fun e=>by
 have:=congrArg UInt64.toNat e
 rw [UInt64.toNat_ofNat'] at this
 simp at this; omega
theorem bO {m:Nat} (h:m < 18446744073709551616):(UInt64.ofNat m).toNat = m:=by rw [UInt64.toNat_ofNat']; exact Nat.mod_eq_of_lt h
theorem oz (n:Nat) (x y:UInt64) (h:y ≠ 0):aW_p n 0 x y = some (x / y,x % y):=by
 unfold aW_p
 have h1:¬ y <= 0:=fun h1=>h (UInt64.toNat_inj.1 (by rw [UInt64.le_iff_toNat_le] at h1; simpa using h1))
 rw [if_neg h,if_neg h1,if_pos rfl]
 unfold jz jX
 rw [if_neg h,aa,if_neg h,aa]
theorem gH (n a b:Nat) (ha:a < 18446744073709551616) (hb:b < 18446744073709551616) (h0:b ≠ 0) (hn:4 < n):∃ q,ba_p n (dg a) (dg b) = some (q,dg (a % b))/\q.length <= 1/\val q = a / b:=by
 obtain ⟨k,rfl⟩:∃ k,n = k + 3:=⟨n - 3,by omega⟩
 rw [dg1 h0 hb]
 unfold ba_p
 by_cases h:a = 0
 ·subst h
  refine ⟨[],?_,by simp,by simp [val]⟩
  rw [dg0,Nat.zero_mod,dg0]
  rw [cy _ _ (by simp),aa,if_pos (show [UInt64.ofNat b].length = 1 from rfl),aY]
  unfold ba_l1
  simp only
  rw [if_neg (by decide),aa]
  simp only
  rw [aI _ _ _ (by simp) (by simp),aa]
  simp [val,dg0]
 ·have hm:a % b < 18446744073709551616:=Nat.lt_of_le_of_lt (Nat.mod_le _ _) ha
  have e2:(UInt64.ofNat a % UInt64.ofNat b).toNat = a % b:=by rw [UInt64.toNat_mod,bO ha,bO hb]
  refine ⟨[UInt64.ofNat a / UInt64.ofNat b],?_,by simp,?_⟩
  ·rw [dg1 h ha,cy _ _ (by simp),aa,if_pos (show [UInt64.ofNat b].length = 1 from rfl),aY]
   unfold ba_l1
   simp only
   rw [if_pos (show (0:Int) <= ((([UInt64.ofNat a]:List UInt64).length:Nat):Int) - 1 by simp),aM (by simp) (by simp),aa]
   simp only [leC,leN,List.getElem?_cons_zero,aa]
   show ((aW_p (k + 3) 0 (UInt64.ofNat a) (UInt64.ofNat b)).bind _).bind _ = _
   rw [oz _ _ _ (kH h0 hb),aa]
   show (((some (0:UInt64)).bind _)).bind _ = _
   rw [aa]
   show ((put [(0:UInt64)] ((0:Nat):Int) _).bind _).bind _ = _
   rw [aR _ (by decide),aa]
   show (((some (-1:Int)).bind _)).bind _ = _
   rw [aa,aY]
   simp only
   rw [if_neg (by decide),aa]
   simp only
   rw [aI _ _ _ (by simp) (by simp),aa]
   simp [val,e2]
  ·simp only [val]
   rw [UInt64.toNat_div,bO ha,bO hb]; simp
theorem dE {a b q r:Int} (h:a = b * q + r) (h0:0 <= r) (h1:r < b.natAbs):a / b = q/\a % b = r:=by
 by_cases hb:0 < b
 ·exact (Int.ediv_emod_unique hb).2 ⟨by rw [h]; omega,h0,by omega⟩
 ·have hb2:0 < -b:=by omega
  have h3:a = (-b) * (-q) + r:=by rw [h,Int.neg_mul_neg]
  obtain ⟨e1,e2⟩:=(Int.ediv_emod_unique (a:=a) (r:=r) (q:=-q) hb2).2 ⟨by rw [h3]; omega,h0,by omega⟩
  rw [Int.ediv_neg] at e1
  rw [Int.emod_neg] at e2
  exact ⟨by omega,e2⟩
def W1 (z:Int):Prop:=z.natAbs < 18446744073709551616
theorem jQ (n:Nat) (a b:Int) (ha:W1 a) (hb:W1 b) (h0:b ≠ 0) (hn:10 < n):ck_p n (L a) (L b) = some (L (a / b),L (a % b)):=by
 obtain ⟨q,e1,e2,e3⟩:=gH n a.natAbs b.natAbs ha hb (by omega) (by omega)
 have hm:a.natAbs % b.natAbs < b.natAbs:=Nat.mod_lt _ (by omega)
 have hl:(dg (a.natAbs % b.natAbs)).length <= 1:=gP (by rw [Nat.pow_one]; unfold W1 at hb; omega)
 have hdm:=Nat.div_add_mod a.natAbs b.natAbs
 have hq:a.natAbs / b.natAbs <= a.natAbs:=Nat.div_le_self _ _
 unfold ck_p
 rw [show (L a).fu = dg a.natAbs from rfl,show (L b).fu = dg b.natAbs from rfl,e1,aa]
 simp only
 rw [aI n _ _ (by omega) (by omega),aa,aI n _ _ (by omega) (by omega),aa,e3,aE]
 generalize hx:a.natAbs / b.natAbs = x at *
 generalize hy:a.natAbs % b.natAbs = y at *
 simp only [mq]
 show (if (decide (a < 0) && decide (0 < y)) = true then _ else _) = _
 unfold W1 at ha hb
 have hab:(b.natAbs:Int) * x + y = a.natAbs:=by exact_mod_cast hdm
 by_cases hr:a < 0/\0 < y
 ·obtain ⟨h1,h2⟩:=hr
  rw [if_pos (by simp [h1,h2])]
  have f1:(⟨false,dg b.natAbs⟩:Tf) = L b.natAbs:=by unfold L; simp
  have f2:(⟨!(L b).fc,([(1:UInt64)]:List UInt64)⟩:Tf) = L (if b < 0 then 1 else -1):=by
   unfold L
   by_cases hb0:b < 0 <;> simp [hb0] <;> rw [dg1 (by decide) (by decide)] <;> rfl
  rw [f1,f2,dF n 1 _ _ ?_ ?_ (by omega) (by omega),aa,dF n 1 _ _ ?_ ?_ (by omega) (by omega),aa]
  ·have e:sg (!(decide (a < 0) == decide (b < 0))) x + (if b < 0 then 1 else -1) = a / b/\sg (decide (a < 0)) y + b.natAbs = a % b:=by
    have:=dE (a:=a) (b:=b) (q:=sg (!(decide (a < 0) == decide (b < 0))) x + (if b < 0 then 1 else -1)) (r:=sg (decide (a < 0)) y + b.natAbs) ?_ ?_ ?_
    ·exact ⟨this.1.symm,this.2.symm⟩
    ·unfold sg
     by_cases hb0:b < 0
     ·have:(b.natAbs:Int) = -b:=by omega
      rw [this] at hab ⊢
      have h3:(a.natAbs:Int) = -a:=by omega
      simp [h1,hb0]
      rw [Int.mul_add]; grind
     ·have:(b.natAbs:Int) = b:=by omega
      rw [this] at hab ⊢
      have h3:(a.natAbs:Int) = -a:=by omega
      simp [h1,hb0]
      rw [Int.mul_add]; grind
    ·unfold sg; simp [h1]; omega
    ·unfold sg; simp [h1]; omega
   show some (L (sg (!(decide (a < 0) == decide (b < 0))) x + (if b < 0 then 1 else -1)),L (sg (decide (a < 0)) y + b.natAbs)) = _
   rw [e.1,e.2]
  ·unfold Fit; rw [Nat.pow_one,ii]; omega
  ·unfold Fit; rw [Nat.pow_one]; split <;> decide
  ·unfold Fit; rw [Nat.pow_one,ii]; omega
  ·unfold Fit; rw [Nat.pow_one]; omega
 ·rw [if_neg (by simpa using hr)]
  have e:=dE (a:=a) (b:=b) (q:=sg (!(decide (a < 0) == decide (b < 0))) x) (r:=sg (decide (a < 0)) y) ?_ ?_ ?_
  ·rw [e.1,e.2]; rfl
  ·unfold sg
   by_cases h1:a < 0
   ·have hy0:y = 0:=by omega
    have h3:(a.natAbs:Int) = -a:=by omega
    by_cases hb0:b < 0
    ·have:(b.natAbs:Int) = -b:=by omega
     rw [this] at hab; simp [h1,hb0,hy0] at hab ⊢; grind
    ·have:(b.natAbs:Int) = b:=by omega
     rw [this] at hab; simp [h1,hb0,hy0] at hab ⊢; grind
   ·have h3:(a.natAbs:Int) = a:=by omega
    by_cases hb0:b < 0
    ·have:(b.natAbs:Int) = -b:=by omega
     rw [this] at hab; simp [h1,hb0] at hab ⊢; grind
    ·have:(b.natAbs:Int) = b:=by omega
     rw [this] at hab; simp [h1,hb0] at hab ⊢; grind
  ·unfold sg
   by_cases h1:a < 0
   ·have hy0:y = 0:=by omega
    simp [hy0]
   ·simp [h1]
  ·unfold sg
   by_cases h1:a < 0
   ·have hy0:y = 0:=by omega
    simp [hy0]; omega
   ·simp [h1]; omega
theorem mW (n:Nat) (a b:Int) (ha:W1 a) (hb:W1 b) (hn:18446744073709551616 < n):aN_p n (L a) (L b) = some (L (Nat.gcd a.natAbs b.natAbs:Nat)):=by
 have h:=aj (B:=aN_l1 n) (fun s:List UInt64 × List UInt64=>val s.2) (fun s=>∃ x y,s = (dg x,dg y)/\x < 18446744073709551616/\y < 18446744073709551616/\Nat.gcd x y = Nat.gcd a.natAbs b.natAbs)
  (fun r=>r = dg (Nat.gcd a.natAbs b.natAbs)) ?_ n (dg a.natAbs,dg b.natAbs) ⟨_,_,rfl,ha,hb,rfl⟩ (by simp only [aE]; unfold W1 at hb; omega)
 ·obtain ⟨r,h1,rfl⟩:=h
  unfold aN_p
  rw [show (L a).fu = dg a.natAbs from rfl,show (L b).fu = dg b.natAbs from rfl,h1,aa]
  unfold L
  simp
 ·rintro _ J ⟨x,y,rfl,h1,h2,h3⟩ hJ
  unfold aN_l1
  simp only
  by_cases h0:y = 0
  ·subst h0
   rw [if_neg (by rw [dg0]; simp)]
   exact ⟨_,rfl,by rw [<- h3,Nat.gcd_zero_right]⟩
  ·obtain ⟨q,e1,_,_⟩:=gH n x y h1 h2 h0 (by omega)
   have hm:x % y < y:=Nat.mod_lt _ (by omega)
   rw [if_pos (by rw [dg1 h0 h2]; simp),e1,aa]
   simp only
   refine hJ (dg y,dg (x % y)) ⟨_,_,rfl,h2,by omega,?_⟩ (by simp only [aE]; exact hm)
   rw [<- h3,Nat.gcd_comm x y,Nat.gcd_rec y x,Nat.gcd_comm]
end Go.Proofs.YtfccehcnajelgaaGreatDoor
namespace Go.Proofs.YtfccehcnajelgaaGreatDoor
open Go
def W8 (z:Int):UInt64 × UInt64 × UInt64 × UInt64 × UInt64 × UInt64 × UInt64 × UInt64:=
 if z < 0 then (ab z,18446744073709551615,18446744073709551615,18446744073709551615,18446744073709551615,18446744073709551615,18446744073709551615,18446744073709551615) else (ab z,0,0,0,0,0,0,0)
def Sm (z:Int):Prop:=z.natAbs < 9223372036854775808
theorem Sm.w {z:Int} (h:Sm z):W1 z:=by unfold Sm W1 at *; omega
theorem eT {z:Int} (h:Sm z) (h0:z < 0):(ab z).toNat = 18446744073709551616 - z.natAbs:=by
 unfold ab Sm at *; rw [UInt64.toNat_ofNat']; omega
theorem ep {z:Int} (h:Sm z) (h0:¬ z < 0):ab z = UInt64.ofNat z.natAbs:=by
 unfold ab Sm at *; congr 1; omega
theorem oN (n:Nat) (z:Int) (hn:10 < n):dn_p n z = some (W8 z):=by
 obtain ⟨k,rfl⟩:∃ k,n = k + 9:=⟨n - 9,by omega⟩
 unfold dn_p W8
 by_cases h:z < 0
 ·rw [if_pos h,if_pos h]
  simp [aY,dn_l1,au]
 ·rw [if_neg h,if_neg h]
theorem sub_m1:sub64 0 18446744073709551615 1 = some (0,1):=rfl
theorem sub_01:sub64 0 0 1 = some (18446744073709551615,1):=rfl
theorem read_ok (n:Nat) (z:Int) (h:Sm z):dz_p n (W8 z) = some ⟨decide (z < 0),(UInt64.ofNat z.natAbs,0,0,0,0,0,0,0)⟩:=by
 unfold dz_p W8
 by_cases h0:z < 0
 ·rw [if_pos h0]
  have e:sub64 0 (ab z) 0 = some (UInt64.ofNat z.natAbs,1):=by
   unfold sub64
   rw [if_pos (by decide),eT h h0]
   unfold Sm at h
   rw [if_pos (by simp; omega)]
   congr 2
   simp; congr 1; omega
  rw [if_pos (show shrU 18446744073709551615 63 = 1 from rfl)]
  unfold bS_p
  simp only [e,aa,sub_m1]
  simp [h0]; rfl
 ·rw [if_neg h0]
  rw [if_neg (show ¬ shrU 0 63 = 1 from by decide),ep h h0]
  simp [h0]; decide
theorem eZ (n:Nat) (z:Int) (h:Sm z) (hn:10 < n):cd_p n (W8 z) = some (L z):=by
 unfold cd_p
 rw [read_ok n z h,aa]
 simp only
 rw [show app ([]:List UInt64) [UInt64.ofNat z.natAbs,0,0,0,0,0,0,0] = some [UInt64.ofNat z.natAbs,0,0,0,0,0,0,0] from rfl,aa,aI n _ _ (by simpa using by omega) (by simp),aa]
 have e:val [UInt64.ofNat z.natAbs,0,0,0,0,0,0,0] = z.natAbs:=by
  have:=h.w; unfold W1 at this
  simp only [val,bO this]; simp
 rw [e]
 unfold L
 by_cases h0:z < 0
 ·simp [h0]; omega
 ·simp [h0]
theorem from_ok (n:Nat) (z:Int) (h:Sm z) (hn:10 < n):dB_p n z = some (L z):=by
 unfold dB_p; rw [oN n z hn,aa,eZ n z h hn,aa]
theorem nn {m:Nat} (h:m < 18446744073709551616):aQ (dg m) 0 0 = UInt64.ofNat m:=by
 by_cases h0:m = 0
 ·subst h0; rw [dg0]; rfl
 ·rw [dg1 h0 h]; rfl
theorem cp {m:Nat} (j:Nat) (h:m < 18446744073709551616):aQ (dg m) (j + 1) 0 = 0:=by
 by_cases h0:m = 0
 ·subst h0; rw [dg0]; rfl
 ·rw [dg1 h0 h]; rfl
theorem lT (n:Nat) (z:Int) (h:Sm z) (hn:10 < n):cp_p n (L z) = some (W8 z,0):=by
 have hw:=h.w
 unfold W1 at hw
 have hl:¬ 8 < (L z).fu.length:=by
  have:(dg z.natAbs).length <= 1:=gP (by rw [Nat.pow_one]; exact hw)
  show ¬ 8 < (dg z.natAbs).length
  omega
 unfold cp_p
 rw [if_neg hl,show (L z).fu = dg z.natAbs from rfl,nn hw,cp 0 hw,cp 1 hw,cp 2 hw,cp 3 hw,cp 4 hw,cp 5 hw,cp 6 hw]
 unfold cE_p
 have ho:∀ x:UInt64,bv_p n (x,0,0,0,0,0,0,0) (0,0,0,0,0,0,0,9223372036854775808) = some (-1):=fun x=>by
  obtain ⟨k,rfl⟩:∃ k,n = k + 1:=⟨n - 1,by omega⟩
  unfold bv_p
  rw [aY]
  rfl
 rw [ho,aa,if_neg (by decide),if_neg (by decide)]
 unfold W8
 by_cases h0:z < 0
 ·have e:sub64 0 (UInt64.ofNat z.natAbs) 0 = some (ab z,1):=by
   unfold sub64
   rw [if_pos (by decide),bO hw]
   rw [if_pos (by simp; omega)]
   congr 2
   refine UInt64.toNat_inj.1 ?_
   rw [eT h h0,UInt64.toNat_ofNat']
   unfold Sm at h
   simp; omega
  rw [if_pos h0,if_pos (by simpa [L] using h0)]
  unfold bS_p
  simp only [e,aa,sub_01]
 ·rw [if_neg h0,if_neg (by simpa [L] using h0),aa,ep h h0]
def Rt (q:Rat):Ti:=⟨L q.num,L q.den⟩
def Sh (q:Rat):Tb:=⟨W8 q.num,W8 q.den⟩
theorem fW {x y:Int} (hy:0 < y) (hc:x.natAbs.Coprime y.natAbs):(Rat.divInt x y).num = x/\((Rat.divInt x y).den:Int) = y:=by
 have e:Rat.divInt x y = { num:=x,den:=y.natAbs,den_nz:=by omega,reduced:=hc }:=by
  rw [Rat.mk_eq_divInt]; congr 1; omega
 rw [e]; exact ⟨rfl,by simp only; omega⟩
theorem mZ (n:Nat) (a b:Int) (ha:W1 a) (hb:W1 b) (h0:b ≠ 0) (hn:18446744073709551616 < n) :
  ci_p n (L a) (L b) = some (Rt (Rat.divInt a b))/\(Rat.divInt a b).num.natAbs <= a.natAbs/\(Rat.divInt a b).den <= b.natAbs:=by
 have hg:0 < Nat.gcd a.natAbs b.natAbs:=Nat.gcd_pos_of_pos_right _ (by omega)
 have hgb:Nat.gcd a.natAbs b.natAbs <= b.natAbs:=Nat.gcd_le_right _ (by omega)
 have hgw:W1 ((Nat.gcd a.natAbs b.natAbs:Nat):Int):=by unfold W1 at *; omega
 obtain ⟨x,hx⟩:((Nat.gcd a.natAbs b.natAbs:Nat):Int) ∣ a:=Int.ofNat_dvd_left.2 (Nat.gcd_dvd_left _ _)
 obtain ⟨y,hy⟩:((Nat.gcd a.natAbs b.natAbs:Nat):Int) ∣ b:=Int.ofNat_dvd_left.2 (Nat.gcd_dvd_right _ _)
 have hco:=Nat.coprime_div_gcd_div_gcd hg
 generalize Nat.gcd a.natAbs b.natAbs = g at *
 have hg0:(g:Int) ≠ 0:=by omega
 have e1:a / (g:Int) = x:=by rw [hx]; exact Int.mul_ediv_cancel_left _ hg0
 have e2:b / (g:Int) = y:=by rw [hy]; exact Int.mul_ediv_cancel_left _ hg0
 have e3:a.natAbs = g * x.natAbs:=by rw [hx,Int.natAbs_mul]; rfl
 have e4:b.natAbs = g * y.natAbs:=by rw [hy,Int.natAbs_mul]; rfl
 have hc:x.natAbs.Coprime y.natAbs:=by
  rw [e3,e4,Nat.mul_div_cancel_left _ hg,Nat.mul_div_cancel_left _ hg] at hco; exact hco
 have hxl:x.natAbs <= a.natAbs:=by rw [e3]; exact Nat.le_mul_of_pos_left _ hg
 have hyl:y.natAbs <= b.natAbs:=by rw [e4]; exact Nat.le_mul_of_pos_left _ hg
 have hy0:y ≠ 0:=fun e=>h0 (by rw [hy,e,Int.mul_zero])
 have eq:Rat.divInt a b = Rat.divInt x y:=by
  conv=>lhs; rw [hx,hy]
  exact Rat.divInt_mul_left hg0
 have xw:Fit 1 x:=by unfold Fit; unfold W1 at ha; rw [Nat.pow_one]; omega
 have yw:Fit 1 y:=by unfold Fit; unfold W1 at hb; rw [Nat.pow_one]; omega
 have gc:aN_p n (L a) (L b) = some (L g):=by
  have:=mW n a b ha hb hn
  rw [this]
  have h5:Nat.gcd a.natAbs b.natAbs = g:=by
   rw [e3,e4,Nat.gcd_mul_left,show Nat.gcd x.natAbs y.natAbs = 1 from hc,Nat.mul_one]
  rw [h5]
 unfold ci_p
 rw [gc,aa,jQ n a g ha hgw hg0 (by omega),aa,jQ n b g hb hgw hg0 (by omega),aa,e1,e2]
 simp only
 rw [eq]
 by_cases hs:y < 0
 ·rw [if_pos (by simpa [L] using hs),cA n 1 x xw (by omega) (by omega),aa,cA n 1 y yw (by omega) (by omega),aa]
  have h5:=fW (x:=-x) (y:=-y) (by omega) (by rwa [Int.natAbs_neg,Int.natAbs_neg])
  rw [Rat.neg_divInt_neg] at h5
  unfold Rt
  rw [h5.1,h5.2]
  exact ⟨rfl,by rw [Int.natAbs_neg]; exact hxl,by have:=h5.2; omega⟩
 ·rw [if_neg (by simpa [L] using hs)]
  have h5:=fW (x:=x) (y:=y) (by omega) hc
  unfold Rt
  rw [h5.1,h5.2]
  exact ⟨rfl,hxl,by have:=h5.2; omega⟩
end Go.Proofs.YtfccehcnajelgaaGreatDoor
namespace Go.Proofs.YtfccehcnajelgaaGreatDoor
open Go
theorem W8_ne {z:Int} (h:Sm z) (h0:z ≠ 0):W8 z ≠ (0,0,0,0,0,0,0,0):=fun e=>by
 have e1:ab z = 0:=by
  have:=congrArg Prod.fst e
  unfold W8 at this
  split at this <;> exact this
 by_cases hz:z < 0
 ·have:=eT h hz
  rw [e1] at this; unfold Sm at h; simp at this; omega
 ·rw [ep h hz] at e1
  exact kH (by omega) h.w e1
theorem oJ (n:Nat) (q:Rat) (h1:Sm q.num) (h2:Sm (q.den:Int)) (hn:10 < n):bX_p n (Rt q) = some (Sh q,0):=by
 unfold bX_p
 rw [show (Rt q).fG = L q.num from rfl,show (Rt q).fy = L q.den from rfl,lT n _ h1 hn,aa,lT n _ h2 hn,aa]
 rfl
theorem kB (n:Nat) (a b:Int) (ha:Sm a) (hb:Sm b) (h0:b ≠ 0) (hn:18446744073709551616 < n):dp_p n a b = some (Sh (Rat.divInt a b),0):=by
 obtain ⟨e1,e2,e3⟩:=mZ n a b ha.w hb.w h0 hn
 unfold dp_p
 rw [oN n a (by omega),aa,oN n b (by omega),aa]
 unfold dA_p
 rw [if_neg (W8_ne hb h0),eZ n a ha (by omega),aa,eZ n b hb (by omega),aa,e1,aa,oJ n _ (by unfold Sm at *; omega) (by unfold Sm at *; omega) (by omega)]
 rfl
end Go.Proofs.YtfccehcnajelgaaGreatDoor
namespace Go.Proofs.YtfccehcnajelgaaGreatDoor
open Go
theorem bN {x y:Int} (h:y ≠ 0):bH x y = some (x.tmod y):=if_neg h
theorem bb {α:Type} (xs ys:List α) (h:xs.length + ys.length <= 1000000):app xs ys = some (xs ++ ys):=if_pos (Nat.le_trans h (by decide))
theorem nQ (n:Nat) (d:Tk) (i:Int) (h:0 <= i):∃ y,bR_p n d i = some y/\0 <= y/\y < 256:=by
 unfold bR_p
 split
 ·rw [aM h (by omega),aa]
  have:=(d.fLabels[i.toNat]'(by omega)).toNat_lt
  exact ⟨_,rfl,by omega,by omega⟩
 ·exact ⟨_,rfl,by omega,by omega⟩
theorem mY (n:Nat) (d:Tk) (hn:20 < n):∃ l,ah (ai_l2 n d) n (0,[]) = some l/\1 <= l.length/\l.length <= 9/\∀ x ∈ l,0 <= x/\x < 8:=by
 have hu:(d.fN % 9).toNat < 9:=by rw [UInt8.toNat_mod]; exact Nat.mod_lt _ (by decide)
 have hk:(d.fK % 8).toNat < 8:=by rw [UInt8.toNat_mod]; exact Nat.mod_lt _ (by decide)
 have h:=aj (B:=ai_l2 n d) (fun s:Int × List Int=>10 - s.1.toNat) (fun s=>0 <= s.1/\s.1 <= (1 + (d.fN % 9).toNat:Nat)/\s.2.length = s.1.toNat/\∀ x ∈ s.2,0 <= x/\x < 8)
  (fun l=>1 <= l.length/\l.length <= 9/\∀ x ∈ l,0 <= x/\x < 8) ?_ n (0,[]) ⟨by simp,by omega,by simp,by simp⟩ (by simp only; omega)
 ·obtain ⟨l,e,h⟩:=h; exact ⟨l,e,h⟩
 ·rintro ⟨z,xs⟩ J ⟨h1,h2,h3,h4⟩ hJ
  simp only at h1 h2 h3 h4 hJ
  unfold ai_l2 cg_p
  simp only [aa]
  split
  ·rename_i h5
   obtain ⟨y,e,y0,y1⟩:=nQ n d z h1
   rw [e,aa,bN (by omega),aa,bb _ _ (by simp only [leC,leN]; omega),aa,aH (by omega) (by omega),aa]
   refine hJ _ ⟨by simp only; omega,by simp only; omega,by simp only [List.length_append,leC,leN]; omega,fun x hx=>?_⟩ (by simp only; omega)
   rcases List.mem_append.1 hx with hx | hx
   ·exact h4 x hx
   ·rw [List.mem_singleton.1 hx,Int.tmod_eq_emod_of_nonneg y0]
    have a1:=Int.emod_nonneg y (b:=((1 + (d.fK % 8).toNat:Nat):Int)) (by omega)
    have a2:=Int.emod_lt_of_pos y (b:=((1 + (d.fK % 8).toNat:Nat):Int)) (by omega)
    omega
  ·rename_i h5
   exact ⟨_,rfl,by omega,by omega,h4⟩
theorem mQ (n:Nat) (l:List Int) (h1:1 <= l.length) (h2:l.length <= 9) (h:∀ x ∈ l,0 <= x/\x < 8) (hn:20 < n):bp_p n l 8 = some true:=by
 have hh:=aj (B:=bp_l1 n l 8) (fun i:Nat=>l.length - i) (fun i=>i <= l.length) (fun r=>r = .inr ()) ?_ n 0 (Nat.zero_le _) (by omega)
 ·obtain ⟨r,e,rfl⟩:=hh
  unfold bp_p
  rw [e]
  show (if 1 <= l.length then some (decide (l.length <= 64)) else some false) = _
  rw [if_pos h1,decide_eq_true (by omega)]
 ·intro i J hi hJ
  unfold bp_l1
  simp only
  split
  ·rename_i h0
   have:=h l[i] (List.getElem_mem _)
   rw [geE h0,aa,if_neg (by omega),if_neg (by omega)]
   exact hJ (i + 1) h0 (by omega)
  ·exact ⟨_,rfl,rfl⟩
def bT (p:List Int) (k:Int):Prop:=(∀ x ∈ p,0 <= x/\x < k)/\∀ d,0 <= d -> d < k -> d ∈ p
theorem nM (n:Nat) (l:List Int) (h1:1 <= l.length) (h2:l.length <= 9) (h:∀ x ∈ l,0 <= x/\x < 8) (hn:20 < n):∃ p z,bw_p n l = some (p,0)/\p.length = l.length/\bT p z/\z <= 8:=by
 have hh:=aj (B:=bw_l1 n l) (fun s:Int × Nat × List Int × List Int=>l.length - s.2.1)
  (fun s=>s.2.1 <= l.length/\s.2.2.1.length = s.2.1/\s.2.2.2.length = 8/\0 <= s.1/\s.1 + s.2.2.2.count (-1) = 8/\(∀ v ∈ s.2.2.2,v = -1 ∨ 0 <= v/\v < s.1)/\bT s.2.2.1 s.1)
  (fun p=>∃ z,p.length = l.length/\bT p z/\z <= 8) ?_ n (0,0,[],[-1,-1,-1,-1,-1,-1,-1,-1]) ⟨by simp,rfl,rfl,by simp,by decide,by simp,by simp,fun d h3 h4=>by simp only at h4; omega⟩ (by simp only; omega)
 ·obtain ⟨p,e,z,h3,h4,h5⟩:=hh
  refine ⟨p,z,?_,h3,h4,h5⟩
  unfold bw_p
  rw [mQ n l h1 h2 h hn,aa,if_pos rfl,e,aa]
 ·rintro ⟨z,i,xs,m⟩ J ⟨a1,a2,a3,a4,a5,a6,a7,a8⟩ hJ
  simp only at a1 a2 a3 a4 a5 a6 a7 a8 hJ
  unfold bw_l1
  simp only
  split
  ·rename_i hi
   have hx:=h l[i] (List.getElem_mem _)
   have hm:l[i].toNat < m.length:=by omega
   rw [geE hi,aa,aM hx.1 hm,aa]
   unfold jn
   simp only
   have hv:=a6 m[l[i].toNat] (List.getElem_mem _)
   by_cases hneg:m[l[i].toNat] < 0
   ·have hv1:m[l[i].toNat] = -1:=by omega
    have hc:0 < m.count (-1):=by rw [<- hv1]; exact List.count_pos_iff.2 (List.getElem_mem _)
    rw [if_pos hneg,aR _ hm,aa,aH (by omega) (by omega),aa,aM hx.1 (by simpa using hm),aa,List.getElem_set_self,bb _ _ (by simp only [leC,leN]; omega),aa]
    refine hJ _ ⟨by simp only; omega,by simp only [List.length_append,leC,leN]; omega,by simpa using a3,by simp only; omega,?_,?_,?_,?_⟩ (by simp only; omega)
    ·simp only
     rw [List.count_set hm,hv1]
     have:((z == (-1:Int)) = false):=by rw [beq_eq_false_iff_ne]; omega
     simp only [this]
     simp only [beq_self_eq_true,if_true]
     simp
     omega
    ·intro v hv2
     rcases List.mem_or_eq_of_mem_set hv2 with hv2 | rfl
     ·rcases a6 v hv2 with h5 | h5
      ·exact .inl h5
      ·exact .inr ⟨h5.1,by simp only; omega⟩
     ·exact .inr ⟨a4,by simp only; omega⟩
    ·intro x hx2
     simp only at hx2 ⊢
     rcases List.mem_append.1 hx2 with hx2 | hx2
     ·have:=a7 x hx2; omega
     ·rw [List.mem_singleton.1 hx2]; omega
    ·intro d d0 d1
     simp only at d1 ⊢
     by_cases hd:d = z
     ·subst hd; exact List.mem_append_right _ (List.mem_singleton.2 rfl)
     ·exact List.mem_append_left _ (a8 d d0 (by omega))
   ·rw [if_neg hneg,aM hx.1 hm,aa,bb _ _ (by simp only [leC,leN]; omega),aa]
    refine hJ _ ⟨by simp only; omega,by simp only [List.length_append,leC,leN]; omega,a3,a4,a5,a6,?_,?_⟩ (by simp only; omega)
    ·intro x hx2
     simp only at hx2 ⊢
     rcases List.mem_append.1 hx2 with hx2 | hx2
     ·exact a7 x hx2
     ·rw [List.mem_singleton.1 hx2]; omega
    ·intro d d0 d1
     exact List.mem_append_left _ (a8 d d0 d1)
  ·exact ⟨_,rfl,z,by omega,⟨a7,a8⟩,by omega⟩
theorem nF (n:Nat) (d:Tk) (hn:20 < n):∃ p k,ai_p n d = some (p,k)/\1 <= p.length/\p.length <= 9/\bT p k/\1 <= k/\k <= 8:=by
 obtain ⟨l,e1,l1,l2,l3⟩:=mY n d hn
 obtain ⟨p,z,e2,p1,p2,p3⟩:=nM n l l1 l2 l3 hn
 have hh:=aj (B:=ai_l1 n (p,0)) (fun s:Int × Nat=>p.length - s.2) (fun s=>s.2 <= p.length/\0 <= s.1/\s.1 <= 8/\(∀ j (h:j < p.length),j < s.2 -> p[j] + 1 <= s.1)/\(s.1 = 0/\s.2 = 0 ∨ s.1 - 1 ∈ p))
  (fun k=>1 <= k/\k <= 8/\(∀ x ∈ p,x < k)/\k - 1 ∈ p) ?_ n (0,0) ⟨by simp,by simp,by simp,fun j _ h=>by simp at h,.inl ⟨rfl,rfl⟩⟩ (by simp only; omega)
 ·obtain ⟨k,e3,k1,k2,k3,k4⟩:=hh
  refine ⟨p,k,?_,by omega,by omega,⟨fun x hx=>⟨(p2.1 x hx).1,k3 x hx⟩,fun d d0 d1=>p2.2 d d0 (by have:=(p2.1 _ k4).2; omega)⟩,k1,k2⟩
  unfold ai_p
  rw [e1,aa,e2,aa,e3,aa]
 ·rintro ⟨z', i⟩ J ⟨a1,a2,a3,a4,a5⟩ hJ
  simp only at a1 a2 a3 a4 a5 hJ
  unfold ai_l1
  simp only
  split
  ·rename_i hi
   have hx:=p2.1 p[i] (List.getElem_mem _)
   rw [geE hi,aa,aH (by omega) (by omega),aa]
   refine hJ _ ⟨hi,by simp only; omega,by simp only; omega,fun j hj h4=>?_,?_⟩ (by simp only; omega)
   ·simp only at h4 ⊢
    by_cases hj2:j = i
    ·subst hj2; omega
    ·have:=a4 j hj (by omega); omega
   ·right
    simp only
    by_cases hm:z' <= p[i] + 1
    ·rw [Int.max_eq_right hm,show p[i] + 1 - 1 = p[i] by omega]; exact List.getElem_mem _
    ·rw [Int.max_eq_left (by omega)]
     rcases a5 with ⟨h5,h6⟩ | h5
     ·omega
     ·exact h5
  ·rename_i hi
   rcases a5 with ⟨h5,h6⟩ | h5
   ·omega
   ·refine ⟨_,rfl,by have:=(p2.1 _ h5).1; omega,a3,fun x hx=>?_,h5⟩
    obtain ⟨j,hj,rfl⟩:=List.getElem_of_mem hx
    have:=a4 j hj (by omega); omega
end Go.Proofs.YtfccehcnajelgaaGreatDoor
namespace Go.Proofs.YtfccehcnajelgaaGreatDoor
open Go
def bln (m:Nat):Nat:=if m = 0 then 0 else Nat.log2 m + 1
theorem fO (m:Nat):m < 2 ^ bln m:=by
 unfold bln
 split
 ·rename_i h; rw [h]; decide
 ·rename_i h; exact Nat.lt_log2_self
theorem gA {m:Nat} (h:m ≠ 0):2 ^ (bln m - 1) <= m:=by
 unfold bln
 rw [if_neg h]
 exact Nat.log2_self_le h
theorem eU {m:Nat} (h:m ≠ 0):1 <= bln m:=by unfold bln; rw [if_neg h]; omega
theorem oS {m l:Nat} (h1:2 ^ l <= m) (h2:m < 2 ^ (l + 1)):bln m = l + 1:=by
 have h0:m ≠ 0:=fun e=>by have:=Nat.two_pow_pos l; omega
 have h3:=fO m
 have h4:=gA h0
 have h5:=eU h0
 have h6:=(Nat.pow_lt_pow_iff_right (by decide:1 < 2)).1 (Nat.lt_of_le_of_lt h1 h3)
 have h7:=(Nat.pow_lt_pow_iff_right (by decide:1 < 2)).1 (Nat.lt_of_le_of_lt h4 h2)
 omega
theorem dG {m s:Nat} (h:2 ^ s <= m):bln m = s + bln (m / 2 ^ s):=by
 have hp:=Nat.two_pow_pos s
 have h0:m / 2 ^ s ≠ 0:=fun e=>by have:=Nat.div_pos h hp; omega
 have h1:=fO (m / 2 ^ s)
 have h2:=gA h0
 have h3:=eU h0
 have e1:2 ^ (s + (bln (m / 2 ^ s) - 1)) <= m:=by
  rw [Nat.pow_add,Nat.mul_comm]
  exact (Nat.le_div_iff_mul_le hp).1 h2
 have e2:m < 2 ^ (s + bln (m / 2 ^ s)):=by
  rw [Nat.pow_add,Nat.mul_comm]
  exact (Nat.div_lt_iff_lt_mul hp).1 h1
 have:=oS (l:=s + (bln (m / 2 ^ s) - 1)) e1 (by rw [show s + (bln (m / 2 ^ s) - 1) + 1 = s + bln (m / 2 ^ s) by omega]; exact e2)
 omega
theorem bZ {m l:Nat} (h:m < 2 ^ l):bln m <= l:=by
 by_cases h0:m = 0
 ·subst h0; simp [bln]
 ·have h4:=gA h0
  have h7:=(Nat.pow_lt_pow_iff_right (by decide:1 < 2)).1 (Nat.lt_of_le_of_lt h4 h)
  have:=eU h0
  omega
theorem tab_all:(List.range 256).all (fun v=>decide (cU[v]? = some (UInt8.ofNat (bln v)))) = true:=by kernel_rfl
theorem tab_ok {v:Nat} (h:v < 256):cU[v]? = some (UInt8.ofNat (bln v)):=of_decide_eq_true (List.all_eq_true.1 tab_all v (List.mem_range.2 h))
theorem lV (u:UInt64) (z:Int) (h:u.toNat < 256) (hz:0 <= z/\z <= 64):((cU[(ff u).toNat]?).bind fun z27=>(chk (z + ((z27.toNat:Nat):Int))).bind fun s29=>some s29) = some (z + bln u.toNat):=by
 have hb:=bZ (l:=8) (m:=u.toNat) (by omega)
 have e:(ff u).toNat = u.toNat:=by unfold ff; rw [UInt8.toNat_ofNat']; omega
 have e2:(UInt8.ofNat (bln u.toNat)).toNat = bln u.toNat:=by rw [UInt8.toNat_ofNat']; omega
 rw [e,tab_ok h,aa,e2,aH (by omega) (by omega),aa]
theorem ku (n:Nat) (x:UInt64):cA_p n x = some (bln x.toNat:Int):=by
 have hx:=x.toNat_lt
 have k16:∀ (u:UInt64) (z:Int),u.toNat < 65536 -> (0 <= z/\z <= 48) -> ((if (256:UInt64) <= u then (chk (z + 8)).bind fun s31=>((cU[(ff (shrU u 8)).toNat]?).bind fun z27=>(chk (s31 + ((z27.toNat:Nat):Int))).bind fun s29=>some s29) else ((cU[(ff u).toNat]?).bind fun z27=>(chk (z + ((z27.toNat:Nat):Int))).bind fun s29=>some s29))) = some (z + bln u.toNat):=fun u z hu hz=>by
  by_cases c:(256:UInt64) <= u
  ·have c2:256 <= u.toNat:=by rw [UInt64.le_iff_toNat_le] at c; simpa using c
   rw [if_pos c,aH (by omega) (by omega),aa,lV _ _ (by rw [bM _ (by decide)]; omega) (by omega),bM _ (by decide),dG (m:=u.toNat) (s:=8) (by omega)]
   congr 1; omega
  ·have c2:u.toNat < 256:=by rw [UInt64.le_iff_toNat_le] at c; simpa using c
   rw [if_neg c,lV _ _ c2 (by omega)]
 have k32:∀ (u:UInt64) (z:Nat),u.toNat < 4294967296 -> z <= 32 -> ((if (65536:UInt64) <= u then (chk ((z:Int) + 16)).bind fun s33=>(if (256:UInt64) <= shrU u 16 then (chk (s33 + 8)).bind fun s31=>((cU[(ff (shrU (shrU u 16) 8)).toNat]?).bind fun z27=>(chk (s31 + ((z27.toNat:Nat):Int))).bind fun s29=>some s29) else ((cU[(ff (shrU u 16)).toNat]?).bind fun z27=>(chk (s33 + ((z27.toNat:Nat):Int))).bind fun s29=>some s29)) else (if (256:UInt64) <= u then (chk ((z:Int) + 8)).bind fun s31=>((cU[(ff (shrU u 8)).toNat]?).bind fun z27=>(chk (s31 + ((z27.toNat:Nat):Int))).bind fun s29=>some s29) else ((cU[(ff u).toNat]?).bind fun z27=>(chk ((z:Int) + ((z27.toNat:Nat):Int))).bind fun s29=>some s29)))) = some ((z:Int) + bln u.toNat):=fun u z hu hz=>by
  by_cases c:(65536:UInt64) <= u
  ·have c2:65536 <= u.toNat:=by rw [UInt64.le_iff_toNat_le] at c; simpa using c
   rw [if_pos c,aH (by omega) (by omega),aa,k16 _ _ (by rw [bM _ (by decide)]; omega) (by omega),bM _ (by decide),dG (m:=u.toNat) (s:=16) (by omega)]
   congr 1; omega
  ·have c2:u.toNat < 65536:=by rw [UInt64.le_iff_toNat_le] at c; simpa using c
   rw [if_neg c,k16 _ _ c2 (by omega)]
 unfold cA_p jn
 simp only
 by_cases c:(4294967296:UInt64) <= x
 ·have c2:4294967296 <= x.toNat:=by rw [UInt64.le_iff_toNat_le] at c; simpa using c
  rw [if_pos c]
  refine (k32 (shrU x 32) 32 (by rw [bM _ (by decide)]; omega) (by omega)).trans ?_
  rw [bM _ (by decide),dG (m:=x.toNat) (s:=32) (by omega)]
  congr 1
 ·have c2:x.toNat < 4294967296:=by rw [UInt64.le_iff_toNat_le] at c; simpa using c
  rw [if_neg c]
  refine (k32 x 0 c2 (by omega)).trans ?_
  congr 1; omega
theorem lz_ok (n:Nat) (x:UInt64):bB_p n x = some (64 - bln x.toNat:Int):=by
 have:=bZ (l:=64) (m:=x.toNat) (by have:=x.toNat_lt; omega)
 unfold bB_p
 rw [ku,aa,aH (by omega) (by omega),aa]
theorem div_top {m lo t l:Nat} (hv:m = lo + 18446744073709551616 ^ l * t) (hlow:lo < 18446744073709551616 ^ l):m / 2 ^ (64 * l) = t:=by
 rw [<- dP,hv,Nat.add_mul_div_left _ _ (Nat.lt_of_le_of_lt (Nat.zero_le _) hlow),Nat.div_eq_of_lt hlow,Nat.zero_add]
theorem iJ (n:Nat) (m:Nat) (hl:(dg m).length <= 1000000):di_p n (dg m) = some (bln m:Int):=by
 unfold di_p
 by_cases h0:m = 0
 ·subst h0
  rw [dg0,if_pos (show ([]:List UInt64).length = 0 from rfl)]
  unfold bln
  rw [if_pos rfl]; rfl
 ·have hne:dg m ≠ []:=fun e=>h0 (by have:=aE m; rw [e] at this; exact this.symm)
  obtain ⟨l,hl1⟩:∃ l,(dg m).length = l + 1:=⟨(dg m).length - 1,by cases h:dg m with | nil=>exact absurd h hne | cons x xs=>simp⟩
  have hlast:l < (dg m).length:=by omega
  have hv:=dq (dg m) hlast
  rw [List.drop_eq_nil_of_le (by omega),aE,show val ([]:List UInt64) = 0 from rfl,Nat.mul_zero,Nat.add_zero] at hv
  have hlow:=cx ((dg m).take l)
  rw [List.length_take,Nat.min_eq_left (by omega)] at hlow
  have htop:(dg m)[l] ≠ 0:=gR m _ (by rw [List.getLast?_eq_getElem?,hl1]; exact geE hlast)
  have ht0:((dg m)[l]).toNat ≠ 0:=fun e=>htop (UInt64.toNat_inj.1 (by simpa using e))
  have hb:bln m = 64 * l + bln ((dg m)[l]).toNat:=by
   have e:m / 2 ^ (64 * l) = ((dg m)[l]).toNat:=div_top hv hlow
   have:=dG (m:=m) (s:=64 * l) (by
    have h1:2 ^ (64 * l) * 1 <= 2 ^ (64 * l) * ((dg m)[l]).toNat:=Nat.mul_le_mul_left _ (by omega)
    rw [dP] at hv
    omega)
   rw [e] at this
   exact this
  have hbt:=bZ (l:=64) (m:=((dg m)[l]).toNat) (by have:=((dg m)[l]).toNat_lt; omega)
  have hi:((((dg m).length:Nat):Int) - 1).toNat = l:=by omega
  rw [if_neg (by omega),aH (by omega) (by omega),aa,aM (by omega) (by omega),aa]
  simp only [hi]
  rw [lz_ok,aa,aH (by omega) (by omega),aa,hb]
  congr 1; omega
theorem nV (k:Nat) (h:k < 1000000000):cG (k:Int) 64 = some ((k / 64:Nat):Int):=by
 unfold cG
 rw [if_neg (by decide),Int.tdiv_eq_ediv_of_nonneg (by omega),aH (by omega) (by omega)]
 congr 1
theorem rem64 (k:Nat):bH (k:Int) 64 = some ((k % 64:Nat):Int):=by
 rw [bN (by decide),Int.tmod_eq_emod_of_nonneg (by omega)]
 congr 1
theorem fQ (k:Nat):aT (k:Int) = some k:=by unfold aT; rw [if_pos (Int.natCast_nonneg _),Int.toNat_natCast]
theorem idxN {α:Type} {xs:List α} {i:Nat} (h:i < xs.length):idx xs (i:Int) = some xs[i]:=by
 rw [aM (by omega) (by rw [Int.toNat_natCast]; exact h)]
 simp only [Int.toNat_natCast]
theorem putN {α:Type} {xs:List α} {i:Nat} (x:α) (h:i < xs.length):put xs ((((i:Nat):Int).toNat:Nat):Int) x = some (xs.set i x):=by rw [Int.toNat_natCast]; exact aR x h
theorem nH (n:Nat) (a:List UInt64) (k:Nat) (hk:k < 1000000) (hl:a.length < 100000) (hn:200000 < n):cX_p n a (k:Int) = some (dg (val a * 2 ^ k)):=by
 have hkw:2 ^ k = 18446744073709551616 ^ (k / 64) * 2 ^ (k % 64):=by rw [dP,<- Nat.pow_add]; congr 1; omega
 have hs:k % 64 < 64:=Nat.mod_lt _ (by decide)
 have hh:=aj (B:=cX_l1 n a (k:Int)) (fun s:Nat × List UInt64=>a.length - s.1) (fun s=>s.1 <= a.length/\∃ hx:s.2.length = a.length + k / 64 + 1,val s.2 = val (a.take s.1) * 2 ^ k/\(∀ j (h:j < s.2.length),s.1 + k / 64 < j -> s.2[j] = 0)/\(s.2[s.1 + k / 64]?.getD 0).toNat < 2 ^ (k % 64))
  (fun xs=>xs.length = a.length + k / 64 + 1/\val xs = val a * 2 ^ k) ?_ n (0,List.replicate (a.length + k / 64 + 1) 0) ⟨Nat.zero_le _,by simp,?_,fun j h _=>by simp,?_⟩ (by simp only; omega)
 ·obtain ⟨xs,e,h1,h2⟩:=hh
  unfold cX_p
  rw [nV k (by omega),aa,aH (by omega) (by omega),aa,aH (by omega) (by omega),aa,show ((a.length:Nat):Int) + ((k / 64:Nat):Int) + 1 = ((a.length + k / 64 + 1:Nat):Int) by omega,cy _ _ (by omega),aa,e,aa,aI n false xs (by omega) (by omega),aa,h2]
 ·rintro ⟨i,xs⟩ J ⟨a1,a2,a3,a4,a5⟩ hJ
  simp only at a1 a2 a3 a4 a5 hJ
  unfold cX_l1
  simp only
  by_cases hi:i < a.length
  ·have hw:i + k / 64 < xs.length:=by omega
   have hw1:i + k / 64 + 1 < xs.length:=by omega
   rw [geE hw] at a5
   have a5' : (xs[i + k / 64]).toNat < 2 ^ (k % 64):=a5
   rw [if_pos hi,geE hi,aa,nV k (by omega),aa,aH (by omega) (by omega),aa,show ((i:Nat):Int) + ((k / 64:Nat):Int) = ((i + k / 64:Nat):Int) by omega,idxN hw,aa,rem64,aa,fQ,aa,putN _ hw,aa,aa]
   have e0:val (a.take (i + 1)) * 2 ^ k = val (a.take i) * 2 ^ k + 18446744073709551616 ^ (i + k / 64) * (a[i].toNat * 2 ^ (k % 64)):=by
    rw [bS a hi,Nat.add_mul,hkw,Nat.pow_add]
    congr 1
    grind
   by_cases c:0 < k % 64
   ·obtain ⟨s1,s2,s3⟩:=iw a[i] c hs
    have hor:=lH (a:=xs[i + k / 64]) (b:=shlU a[i] (k % 64)) a5' s2
    have v1:=dp (xs[i + k / 64] ||| shlU a[i] (k % 64)) hw
    rw [hor,Nat.mul_add] at v1
    generalize hys:xs.set (i + k / 64) (xs[i + k / 64] ||| shlU a[i] (k % 64)) = ys at *
    have hyl:ys.length = xs.length:=by rw [<- hys,List.length_set]
    have hy1:i + k / 64 + 1 < ys.length:=by omega
    have hy0:ys[i + k / 64 + 1] = 0:=by
     have:=a4 (i + k / 64 + 1) hw1 (by omega)
     simp only [<- hys]
     rw [List.getElem_set_ne (by omega)]; exact this
    have v2:=dp (shrU a[i] (64 - k % 64)) hy1
    rw [hy0] at v2
    rw [if_pos (by omega),aa,aH (by omega) (by omega),aa,aH (by omega) (by omega),aa,aa,aH (by omega) (by omega),aa,show (64:Int) - ((k % 64:Nat):Int) = ((64 - k % 64:Nat):Int) by omega,fQ,aa,show ((i:Nat):Int) + ((k / 64:Nat):Int) + 1 = ((i + k / 64 + 1:Nat):Int) by omega,idxN hy1,aa,putN _ hy1,aa]
    refine hJ _ ⟨hi,by simp only [List.length_set]; omega,?_,fun j hj hlt=>?_,?_⟩ (by simp only; omega)
    ·simp only
     rw [e0,<- s1,Nat.mul_add,<- Nat.mul_assoc,<- Nat.pow_succ]
     simp only [UInt64.toNat_zero,Nat.mul_zero,Nat.add_zero] at v2
     rw [v2,<- a3]
     show val ys + 18446744073709551616 ^ (i + k / 64 + 1) * _ = val xs + (_ + 18446744073709551616 ^ (i + k / 64 + 1) * _)
     omega
    ·simp only at hj hlt ⊢
     rw [List.getElem_set_ne (by omega)]
     simp only [<- hys]
     rw [List.getElem_set_ne (by omega)]
     exact a4 j (by simpa [<- hys] using hj) (by omega)
    ·simp only
     rw [show i + 1 + k / 64 = i + k / 64 + 1 by omega,List.getElem?_set_self hy1]
     exact s3
   ·have c0:k % 64 = 0:=by omega
    rw [c0,Nat.pow_zero] at a5'
    have hz:xs[i + k / 64] = 0:=UInt64.toNat_inj.1 (by simp; omega)
    have v1:=dp (xs[i + k / 64] ||| shlU a[i] (k % 64)) hw
    rw [hz,eW,c0,cV] at v1
    rw [if_neg (by omega),hz,eW,c0,cV]
    refine hJ _ ⟨hi,by simp only [List.length_set]; omega,?_,fun j hj hlt=>?_,?_⟩ (by simp only; omega)
    ·simp only
     rw [e0,c0,Nat.pow_zero,Nat.mul_one,<- a3]
     simp only [UInt64.toNat_zero,Nat.mul_zero,Nat.add_zero] at v1
     exact v1
    ·simp only at hj hlt ⊢
     rw [List.getElem_set_ne (by omega)]
     exact a4 j (by simpa using hj) (by omega)
    ·simp only
     rw [show i + 1 + k / 64 = i + k / 64 + 1 by omega,List.getElem?_set_ne (by omega),geE hw1,a4 _ hw1 (by omega),c0]
     decide
  ·rw [if_neg hi]
   rw [List.take_of_length_le (by omega)] at a3
   exact ⟨_,rfl,a2,a3⟩
 ·simp only [List.take_zero,val,Nat.zero_mul]
  exact cd _ fun x hx=>(List.mem_replicate.1 hx).2
 ·simp only
  rw [List.getElem?_replicate]
  split <;> simp <;> exact Nat.two_pow_pos _
end Go.Proofs.YtfccehcnajelgaaGreatDoor
namespace Go.Proofs.YtfccehcnajelgaaGreatDoor
open Go
set_option maxRecDepth 8000
theorem mL {B:(UInt64 × UInt64 -> Option UInt64) -> UInt64 × UInt64 -> Option UInt64} {y1 y0 un:UInt64}
  (hB:∀ J q rh,B J (q,rh) = if (4294967296:UInt64) <= q then (if (4294967296:UInt64) <= rh + y1 then some (q - 1) else J (q - 1,rh + y1)) else (if 4294967296 * rh + un < q * y0 then (if (4294967296:UInt64) <= rh + y1 then some (q - 1) else J (q - 1,rh + y1)) else some q))
  {U:Nat} (h1:2147483648 <= y1.toNat) (h1' : y1.toNat < 4294967296) (h0:y0.toNat < 4294967296) (hu:un.toNat < 4294967296) (hU:U < y1.toNat * 4294967296 + y0.toNat) (q0 r0:UInt64) (e:U = q0.toNat * y1.toNat + r0.toNat) (hr:r0.toNat < y1.toNat) (n:Nat) (hn:4294967300 < n) :
  ∃ q:UInt64,ah B n (q0,r0) = some q/\q.toNat = (U * 4294967296 + un.toNat) / (y1.toNat * 4294967296 + y0.toNat):=by
 obtain ⟨V,hV⟩:∃ V,y1.toNat * 4294967296 + y0.toNat = V:=⟨_,rfl⟩
 obtain ⟨N,hN⟩:∃ N,U * 4294967296 + un.toNat = N:=⟨_,rfl⟩
 rw [hV] at hU
 rw [hV,hN]
 have hVp:0 < V:=by omega
 obtain ⟨D,hD⟩:∃ D,N / V = D:=⟨_,rfl⟩
 have hle:∀ x,x <= D ↔ x * V <= N:=fun x=>by rw [<- hD]; exact Nat.le_div_iff_mul_le hVp
 have hlt:∀ x,D < x ↔ N < x * V:=fun x=>by rw [<- hD]; exact Nat.div_lt_iff_lt_mul hVp
 rw [hD]
 have hNV:D < 4294967296:=by
  rw [hlt]
  omega
 have hq0:q0.toNat <= 4294967297:=by
  have h2:q0.toNat * 2147483648 <= q0.toNat * y1.toNat:=Nat.mul_le_mul_left _ h1
  by_cases h3:q0.toNat <= 4294967297
  ·exact h3
  ·exfalso
   have h4:4294967298 * y1.toNat <= q0.toNat * y1.toNat:=Nat.mul_le_mul_right _ (by omega)
   omega
 have up:D <= q0.toNat:=by
  rw [<- hD]
  have h3:N / V <= N / (y1.toNat * 4294967296):=Nat.div_le_div_left (by omega) (by omega)
  have h4:N / (y1.toNat * 4294967296) = U / y1.toNat:=by
   rw [Nat.mul_comm,<- Nat.div_div_eq_div_mul]
   congr 1
   omega
  have h5:U / y1.toNat = q0.toNat:=by
   rw [e,Nat.mul_comm,Nat.add_comm,Nat.add_mul_div_left _ _ (by omega),Nat.div_eq_of_lt hr,Nat.zero_add]
  rw [h4,h5] at h3
  exact h3
 refine aj (B:=B) (fun s:UInt64 × UInt64=>s.1.toNat) (fun s=>U = s.1.toNat * y1.toNat + s.2.toNat/\s.2.toNat < 4294967296/\D <= s.1.toNat/\s.1.toNat <= 4294967297) (fun q=>q.toNat = D) ?_ n (q0,r0) ⟨e,by simp only; omega,up,hq0⟩ (by simp only; omega)
 rintro ⟨q,rh⟩ J ⟨i1,i2,i3,i4⟩ hJ
 simp only at i1 i2 i3 i4 hJ
 rw [hB]
 have c32:(4294967296:UInt64).toNat = 4294967296:=rfl
 have hrh:(rh + y1).toNat = rh.toNat + y1.toNat:=by rw [UInt64.toNat_add]; omega
 -- what follows once the guess is too great
 have over:D + 1 <= q.toNat -> ∃ r,(if (4294967296:UInt64) <= rh + y1 then some (q - 1) else J (q - 1,rh + y1)) = some r/\r.toNat = D:=fun ho=>by
  have hq1:(q - 1).toNat = q.toNat - 1:=by
   rw [UInt64.toNat_sub]
   have:=q.toNat_lt
   simp only [UInt64.toNat_one]
   omega
  have e1:q.toNat * y1.toNat = (q.toNat - 1) * y1.toNat + y1.toNat:=by
   rw [<- Nat.succ_mul]; congr 1; omega
  split
  ·rename_i hbig
   rw [UInt64.le_iff_toNat_le,c32,hrh] at hbig
   refine ⟨_,rfl,?_⟩
   rw [hq1]
   refine Nat.le_antisymm ?_ (by omega)
   rw [hle,<- hV,Nat.mul_add,<- Nat.mul_assoc]
   have h5:(q.toNat - 1) * y0.toNat <= 4294967296 * 4294967295:=Nat.mul_le_mul (by omega) (by omega)
   omega
  ·rename_i hbig
   rw [UInt64.le_iff_toNat_le,c32,hrh] at hbig
   exact hJ _ ⟨by simp only; rw [hq1,hrh]; omega,by simp only; rw [hrh]; omega,by simp only; rw [hq1]; omega,by simp only; rw [hq1]; omega⟩ (by simp only; rw [hq1]; omega)
 by_cases c:(4294967296:UInt64) <= q
 ·rw [if_pos c]
  rw [UInt64.le_iff_toNat_le,c32] at c
  exact over (by omega)
 ·rw [if_neg c]
  rw [UInt64.le_iff_toNat_le,c32] at c
  have m1:(4294967296 * rh + un).toNat = 4294967296 * rh.toNat + un.toNat:=by
   rw [UInt64.toNat_add,UInt64.toNat_mul,c32]; omega
  have m2:(q * y0).toNat = q.toNat * y0.toNat:=by
   rw [UInt64.toNat_mul]
   have:q.toNat * y0.toNat <= 4294967295 * 4294967295:=Nat.mul_le_mul (by omega) (by omega)
   omega
  have eqV:q.toNat * V = q.toNat * y1.toNat * 4294967296 + q.toNat * y0.toNat:=by rw [<- hV,Nat.mul_add,<- Nat.mul_assoc]
  by_cases c2:4294967296 * rh + un < q * y0
  ·rw [if_pos c2]
   rw [UInt64.lt_iff_toNat_lt,m1,m2] at c2
   refine over ?_
   have:D < q.toNat:=by
    rw [hlt,eqV]
    omega
   omega
  ·rw [if_neg c2]
   rw [UInt64.lt_iff_toNat_lt,m1,m2] at c2
   refine ⟨_,rfl,Nat.le_antisymm ?_ i3⟩
   rw [hle,eqV]
   omega
theorem lQ {N M R:Nat} (h:N = M + R) (hR:R < 18446744073709551616):(18446744073709551616 - M % 18446744073709551616 + N % 18446744073709551616) % 18446744073709551616 = R:=by omega
theorem glue2 {hi lo p u t w:Nat} (t1:u = hi * p + t) (t2:w + 18446744073709551616 * t = lo * p):(hi * 18446744073709551616 + lo) * p = u * 18446744073709551616 + w:=by
 rw [Nat.add_mul,Nat.mul_right_comm hi 18446744073709551616 p,t1,<- t2]
 generalize hi * p = z
 omega
theorem glue {P Q R1 R0 u w:Nat} (h1:P + R1 = u * 4294967296 + w / 4294967296) (h2:Q + R0 = R1 * 4294967296 + w % 4294967296):u * 18446744073709551616 + w = P * 4294967296 + Q + R0:=by omega
theorem ne (n:Nat) (hi lo y:UInt64) (h:hi.toNat < y.toNat) (hn:4294967300 < n):∃ q r:UInt64,aW_p n hi lo y = some (q,r)/\hi.toNat * 18446744073709551616 + lo.toNat = q.toNat * y.toNat + r.toNat/\r.toNat < y.toNat:=by
 have hy:=y.toNat_lt
 have hlo:=lo.toNat_lt
 have hy0:y ≠ 0:=fun e=>by rw [e] at h; simp at h
 unfold aW_p
 rw [if_neg hy0,if_neg (by rw [UInt64.le_iff_toNat_le]; omega)]
 by_cases h0:hi = 0
 ·subst h0
  rw [if_pos rfl]
  unfold jz jX
  rw [if_neg hy0,aa,if_neg hy0,aa]
  refine ⟨_,_,rfl,?_,?_⟩
  ·rw [UInt64.toNat_div,UInt64.toNat_mod]
   have:=Nat.div_add_mod lo.toNat y.toNat
   rw [Nat.mul_comm] at this
   simp; omega
  ·rw [UInt64.toNat_mod]; exact Nat.mod_lt _ (by omega)
 ·rw [if_neg h0,lz_ok,aa]
  have hyn:y.toNat ≠ 0:=by omega
  have b1:=eU hyn
  have b2:=bZ (l:=64) (m:=y.toNat) (by omega)
  have b3:=fO y.toNat
  have b4:=gA hyn
  obtain ⟨s,hs⟩:∃ s,s = 64 - bln y.toNat:=⟨_,rfl⟩
  have e1:(ab (64 - (bln y.toNat:Int))).toNat = s:=by unfold ab; rw [UInt64.toNat_ofNat']; omega
  have e2:((64:UInt64) - ab (64 - (bln y.toNat:Int))).toNat = 64 - s:=by
   rw [UInt64.toNat_sub,e1]
   simp only [show (64:UInt64).toNat = 64 from rfl]
   omega
  have hs64:s < 64:=by omega
  have hps:=Nat.two_pow_pos s
  -- the divisor,moved
  have v2:y.toNat * 2 ^ s < 18446744073709551616:=by
   have:y.toNat * 2 ^ s < 2 ^ bln y.toNat * 2 ^ s:=Nat.mul_lt_mul_of_pos_right b3 hps
   rw [<- Nat.pow_add,show bln y.toNat + s = 64 by omega] at this
   exact this
  have v1:9223372036854775808 <= y.toNat * 2 ^ s:=by
   have:2 ^ (bln y.toNat - 1) * 2 ^ s <= y.toNat * 2 ^ s:=Nat.mul_le_mul_right _ b4
   rw [<- Nat.pow_add,show bln y.toNat - 1 + s = 63 by omega] at this
   exact this
  have hyv:(shlU y s).toNat = y.toNat * 2 ^ s:=by rw [dI y hs64,Nat.mod_eq_of_lt v2]
  have hhi:hi.toNat * 2 ^ s < 18446744073709551616:=Nat.lt_of_le_of_lt (Nat.mul_le_mul_right _ (Nat.le_of_lt h)) v2
  have hhv:(shlU hi s).toNat = hi.toNat * 2 ^ s:=by rw [dI hi hs64,Nat.mod_eq_of_lt hhi]
  -- the dividend,moved
  have hun:∃ t:Nat,(shlU hi s ||| shrU lo (64 - s)).toNat = hi.toNat * 2 ^ s + t/\(shlU lo s).toNat + 18446744073709551616 * t = lo.toNat * 2 ^ s:=by
   by_cases s0:s = 0
   ·subst s0
    refine ⟨0,?_,by rw [cV]; simp⟩
    rw [cV,show shrU lo (64 - 0) = 0 from by unfold shrU; rw [if_neg (by decide)],UInt64.toNat_or]
    simp
   ·obtain ⟨t1,t2,t3⟩:=iw lo (by omega) hs64
    refine ⟨(shrU lo (64 - s)).toNat,?_,t1⟩
    rw [UInt64.or_comm,lH t3 (by rw [hhv]; exact Nat.dvd_mul_left ..),hhv,Nat.add_comm]
  obtain ⟨t,t1,t2⟩:=hun
  rw [e1,e2]
  generalize hyy:shlU y s = yy at *
  generalize hun32:shlU hi s ||| shrU lo (64 - s) = un32 at *
  generalize hun10:shlU lo s = un10 at *
  have hun10l:=un10.toNat_lt
  have hun32l:=un32.toNat_lt
  -- both halves of the divisor
  have w1:(shrU yy 32).toNat = yy.toNat / 4294967296:=lE yy
  have w0:(yy &&& (4294967295:UInt64)).toNat = yy.toNat % 4294967296:=oq yy
  have x1:(shrU un10 32).toNat = un10.toNat / 4294967296:=lE un10
  have x0:(un10 &&& (4294967295:UInt64)).toNat = un10.toNat % 4294967296:=oq un10
  have hyyl:=yy.toNat_lt
  have hV:(shrU yy 32).toNat * 4294967296 + (yy &&& (4294967295:UInt64)).toNat = yy.toNat:=by rw [w1,w0]; omega
  have hy1:2147483648 <= (shrU yy 32).toNat:=by rw [w1]; omega
  have hy1' : (shrU yy 32).toNat < 4294967296:=by rw [w1]; omega
  have hy0' : (yy &&& (4294967295:UInt64)).toNat < 4294967296:=by rw [w0]; omega
  have hne:shrU yy 32 ≠ 0:=fun e=>by rw [e] at hy1; simp at hy1
  have hUV:un32.toNat < yy.toNat:=by
   have h5:(hi.toNat * 18446744073709551616 + lo.toNat) * 2 ^ s < y.toNat * 18446744073709551616 * 2 ^ s:=Nat.mul_lt_mul_of_pos_right (by omega) hps
   rw [Nat.add_mul,Nat.mul_right_comm,Nat.mul_right_comm y.toNat] at h5
   omega
  -- the first digit
  have d1:∀ (U:UInt64) (hU:U.toNat < yy.toNat) (un:UInt64) (hu:un.toNat < 4294967296) (B:(UInt64 × UInt64 -> Option UInt64) -> UInt64 × UInt64 -> Option UInt64) (hB:∀ J q rh,B J (q,rh) = if (4294967296:UInt64) <= q then (if (4294967296:UInt64) <= rh + shrU yy 32 then some (q - 1) else J (q - 1,rh + shrU yy 32)) else (if 4294967296 * rh + un < q * (yy &&& (4294967295:UInt64)) then (if (4294967296:UInt64) <= rh + shrU yy 32 then some (q - 1) else J (q - 1,rh + shrU yy 32)) else some q)),
    ∃ q:UInt64,ah B n (U / shrU yy 32,U - U / shrU yy 32 * shrU yy 32) = some q/\q.toNat = (U.toNat * 4294967296 + un.toNat) / yy.toNat:=fun U hU un hu B hB=>by
   have hm:=Nat.div_add_mod U.toNat (shrU yy 32).toNat
   have hml:=Nat.mod_lt U.toNat (show 0 < (shrU yy 32).toNat by omega)
   have hUl:=U.toNat_lt
   have e3:(U - U / shrU yy 32 * shrU yy 32).toNat = U.toNat % (shrU yy 32).toNat:=by
    rw [UInt64.toNat_sub,UInt64.toNat_mul,UInt64.toNat_div]
    rw [Nat.mul_comm] at hm
    have:U.toNat / (shrU yy 32).toNat * (shrU yy 32).toNat <= U.toNat:=by omega
    rw [Nat.mod_eq_of_lt (a:=U.toNat / (shrU yy 32).toNat * (shrU yy 32).toNat) (by omega)]
    omega
   obtain ⟨q,a1,a2⟩:=mL hB (U:=U.toNat) hy1 hy1' hy0' hu (by rw [hV]; exact hU) (U / shrU yy 32) (U - U / shrU yy 32 * shrU yy 32) (by rw [UInt64.toNat_div,e3,Nat.mul_comm]; exact hm.symm) (by rw [e3]; exact hml) n hn
   exact ⟨q,a1,by rw [a2,hV]⟩
  obtain ⟨q1,l2,q1v⟩:=d1 un32 hUV (shrU un10 32) (by rw [x1]; omega) (aW_l2 n y (64 - (bln y.toNat:Int)) lo) (fun J q rh=>by unfold aW_l2; simp only [e1,hyy,hun10])
  have hm1:=Nat.div_add_mod (un32.toNat * 4294967296 + (shrU un10 32).toNat) yy.toNat
  have hml1:=Nat.mod_lt (un32.toNat * 4294967296 + (shrU un10 32).toNat) (show 0 < yy.toNat by omega)
  rw [<- q1v] at hm1
  generalize hR1:(un32.toNat * 4294967296 + (shrU un10 32).toNat) % yy.toNat = R1 at hm1 hml1
  have u21:(un32 * 4294967296 + shrU un10 32 - q1 * yy).toNat = R1:=by
   rw [UInt64.toNat_sub,UInt64.toNat_add,UInt64.toNat_mul,UInt64.toNat_mul]
   rw [show (4294967296:UInt64).toNat = 4294967296 from rfl]
   have:=lQ (N:=un32.toNat * 4294967296 + (shrU un10 32).toNat) (M:=q1.toNat * yy.toNat) (R:=R1) (by rw [Nat.mul_comm q1.toNat]; exact hm1.symm) (by omega)
   generalize q1.toNat * yy.toNat = M at *
   omega
  obtain ⟨q0,l1,q0v⟩:=d1 (un32 * 4294967296 + shrU un10 32 - q1 * yy) (by rw [u21]; exact hml1) (un10 &&& (4294967295:UInt64)) (by rw [x0]; omega) (aW_l1 n y (64 - (bln y.toNat:Int)) lo) (fun J q rh=>by unfold aW_l1; simp only [e1,hyy,hun10])
  rw [u21] at q0v
  have hm0:=Nat.div_add_mod (R1 * 4294967296 + (un10 &&& (4294967295:UInt64)).toNat) yy.toNat
  have hml0:=Nat.mod_lt (R1 * 4294967296 + (un10 &&& (4294967295:UInt64)).toNat) (show 0 < yy.toNat by omega)
  rw [<- q0v] at hm0
  generalize hR0:(R1 * 4294967296 + (un10 &&& (4294967295:UInt64)).toNat) % yy.toNat = R0 at hm0 hml0
  have u00:((un32 * 4294967296 + shrU un10 32 - q1 * yy) * 4294967296 + (un10 &&& (4294967295:UInt64)) - q0 * yy).toNat = R0:=by
   rw [UInt64.toNat_sub,UInt64.toNat_add,UInt64.toNat_mul,UInt64.toNat_mul,u21]
   rw [show (4294967296:UInt64).toNat = 4294967296 from rfl]
   have:=lQ (N:=R1 * 4294967296 + (un10 &&& (4294967295:UInt64)).toNat) (M:=q0.toNat * yy.toNat) (R:=R0) (by rw [Nat.mul_comm q0.toNat]; exact hm0.symm) (by omega)
   generalize q0.toNat * yy.toNat = M at *
   omega
  have q1l:q1.toNat < 4294967296:=by
   rw [q1v,Nat.div_lt_iff_lt_mul (by omega)]; rw [x1]; omega
  have q0l:q0.toNat < 4294967296:=by
   rw [q0v,Nat.div_lt_iff_lt_mul (by omega)]; rw [x0]; omega
  -- all together
  have all:(hi.toNat * 18446744073709551616 + lo.toNat) * 2 ^ s = (q1.toNat * 4294967296 + q0.toNat) * y.toNat * 2 ^ s + R0:=by
   have a1:(hi.toNat * 18446744073709551616 + lo.toNat) * 2 ^ s = un32.toNat * 18446744073709551616 + un10.toNat:=by
    exact glue2 t1 t2
   have a2:(q1.toNat * 4294967296 + q0.toNat) * y.toNat * 2 ^ s = yy.toNat * q1.toNat * 4294967296 + yy.toNat * q0.toNat:=by
    rw [Nat.mul_assoc,<- hyv]; grind
   rw [a1,a2]
   rw [x1] at hm1
   rw [x0] at hm0
   exact glue hm1 hm0
  have hq:(q1 * 4294967296 + q0).toNat = q1.toNat * 4294967296 + q0.toNat:=by
   rw [UInt64.toNat_add,UInt64.toNat_mul,show (4294967296:UInt64).toNat = 4294967296 from rfl]; omega
  have hd:2 ^ s ∣ R0:=by
   have:=(Nat.dvd_add_right (Nat.dvd_mul_left (2 ^ s) ((q1.toNat * 4294967296 + q0.toNat) * y.toNat))).1 (by rw [<- all]; exact Nat.dvd_mul_left ..)
   exact this
  obtain ⟨rr,hrr⟩:=hd
  have hrv:(shrU ((un32 * 4294967296 + shrU un10 32 - q1 * yy) * 4294967296 + (un10 &&& (4294967295:UInt64)) - q0 * yy) s).toNat = rr:=by
   rw [bM _ hs64,u00,hrr,Nat.mul_div_cancel_left _ hps]
  unfold jn jz
  rw [if_neg hne,aa,aa]
  dsimp only
  rw [l2,aa,aa,if_neg hne,aa,aa]
  try dsimp only
  rw [l1,aa,aa,aa]
  refine ⟨_,_,rfl,?_,?_⟩
  ·rw [hq,hrv]
   rw [hrr,Nat.mul_comm (2 ^ s) rr,<- Nat.add_mul] at all
   exact Nat.mul_right_cancel hps all
  ·rw [hrv]
   rw [hrr,Nat.mul_comm,hyv] at hml0
   exact Nat.lt_of_mul_lt_mul_right hml0
end Go.Proofs.YtfccehcnajelgaaGreatDoor
namespace Go.Proofs.YtfccehcnajelgaaGreatDoor
open Go
set_option maxRecDepth 8000
theorem nr (a:Nat):bln a <= 64 * (dg a).length:=bZ (by
 have:=cx (dg a)
 rw [aE,dP] at this
 exact this)
theorem dg_one {m:Nat} (h:(dg m).length = 1):∃ y:UInt64,dg m = [y]/\y.toNat = m:=by
 rcases e:dg m with _ | ⟨y,_ | ⟨z,zs⟩⟩
 ·rw [e] at h; simp at h
 ·refine ⟨y,rfl,?_⟩
  have:=aE m
  rw [e] at this
  simp only [val] at this
  omega
 ·rw [e] at h; simp at h
theorem ip {xs:List UInt64} {i:Nat} (v:UInt64) (h:i < xs.length):(xs.set i v).drop i = v :: xs.drop (i + 1):=by
 rw [List.drop_eq_getElem_cons (by simpa using h),List.getElem_set_self,List.drop_set_of_lt (by omega)]
theorem kY (n:Nat) (a:List UInt64) (y:UInt64) (hy:0 < y.toNat) (hl:a.length < 100000) (hn:4294967300 < n):∃ u xs,ah (ba_l1 n a [y]) n (0,((a.length:Nat):Int) - 1,List.replicate a.length 0) = some (u,xs)/\xs.length = a.length/\val a = val xs * y.toNat + u.toNat/\u.toNat < y.toNat:=by
 have hh:=aj (B:=ba_l1 n a [y]) (fun s:UInt64 × Int × List UInt64=>(s.2.1 + 1).toNat) (fun s=>(-1 <= s.2.1/\s.2.1 < a.length)/\s.2.2.length = a.length/\val (a.drop (s.2.1 + 1).toNat) = val (s.2.2.drop (s.2.1 + 1).toNat) * y.toNat + s.1.toNat/\s.1.toNat < y.toNat)
  (fun r=>r.2.length = a.length/\val a = val r.2 * y.toNat + r.1.toNat/\r.1.toNat < y.toNat) ?_ n (0,((a.length:Nat):Int) - 1,List.replicate a.length 0) ⟨by simp only; omega,by simp,?_,by simpa using hy⟩ (by simp only; omega)
 ·obtain ⟨⟨u,xs⟩,e,h1,h2,h3⟩:=hh; exact ⟨u,xs,e,h1,h2,h3⟩
 ·rintro ⟨u,z,xs⟩ J ⟨a1,a2,a3,a4⟩ hJ
  simp only at a1 a2 a3 a4 hJ
  unfold ba_l1
  simp only
  by_cases hz:0 <= z
  ·obtain ⟨k,rfl⟩:∃ k:Nat,z = k:=⟨z.toNat,by omega⟩
   have e0:(((k:Int) + 1).toNat) = k + 1:=by omega
   rw [e0] at a3
   have hka:k < a.length:=by omega
   have hkx:k < xs.length:=by omega
   obtain ⟨q,r,d1,d2,d3⟩:=ne n u a[k] y a4 hn
   rw [if_pos hz,idxN hka,aa]
   simp only [List.getElem?_cons_zero,aa]
   rw [d1,aa,idxN hkx,aa,putN _ hkx,aa,aH (by omega) (by omega),aa]
   have eN:(((k:Int) - 1 + 1)).toNat = k:=by omega
   refine hJ (_,_,_) ⟨by simp only; omega,by simpa using a2,?_,d3⟩ (by simp only; omega)
   simp only
   rw [eN,ip q hkx,List.drop_eq_getElem_cons hka]
   simp only [val]
   rw [a3,Nat.add_mul,Nat.mul_add,<- Nat.mul_assoc]
   omega
  ·rw [if_neg hz]
   have e0:(z + 1).toNat = 0:=by omega
   rw [e0] at a3
   exact ⟨_,rfl,a2,by simpa using a3,a4⟩
 ·simp only
  rw [show ((((a.length:Nat):Int) - 1 + 1)).toNat = a.length by omega,List.drop_length,List.drop_eq_nil_of_le (by simp)]
  simp [val]
theorem jM (n:Nat) (a b:Nat) (h0:b ≠ 0) (ha:(dg a).length < 10000) (hb:(dg b).length < 10000) (hn:18446744073709551616 < n):∃ q,ba_p n (dg a) (dg b) = some (q,dg (a % b))/\q.length <= (dg a).length/\val q = a / b:=by
 unfold ba_p
 rw [cy _ _ (by omega),aa]
 by_cases h1:(dg b).length = 1
 ·obtain ⟨y,e,hy⟩:=dg_one h1
  obtain ⟨u,xs,l1,l2,l3,l4⟩:=kY n (dg a) y (by omega) (by omega) (by omega)
  rw [e,if_pos (show ([y]:List UInt64).length = 1 from rfl),l1,aa]
  simp only
  rw [aI n false _ (by simp only [leC,leN]; omega) (by simp),aa]
  rw [aE,hy] at l3
  rw [hy] at l4
  have hu:=(Nat.div_mod_unique (a:=a) (b:=b) (c:=u.toNat) (d:=val xs) (by omega)).2 ⟨by rw [Nat.mul_comm]; omega,l4⟩
  refine ⟨xs,?_,by omega,hu.1.symm⟩
  simp only [val,Nat.mul_zero,Nat.add_zero]
  rw [hu.2]
 ·rw [if_neg h1,iJ n a (by omega),aa,iJ n b (by omega),aa]
  have bla:=nr a
  have blb:=nr b
  rw [aH (by omega) (by omega),aa]
  have hbp:=eU h0
  have hbg:=gA h0
  have hal:=fO a
  by_cases hK:(bln a:Int) - bln b < 0
  ·obtain ⟨m,rfl⟩:∃ m,n = m + 1:=⟨n - 1,by omega⟩
   have hab:a < b:=Nat.lt_of_lt_of_le hal (Nat.le_trans (Nat.pow_le_pow_right (by decide) (by omega)) hbg)
   rw [aY]
   unfold ba_l2
   simp only
   rw [if_neg (by omega),aa]
   refine ⟨_,by rw [Nat.mod_eq_of_lt hab],by simp,?_⟩
   rw [Nat.div_eq_of_lt hab]
   exact cd _ fun x hx=>(List.mem_replicate.1 hx).2
  ·obtain ⟨K,hKe⟩:∃ K:Nat,(bln a:Int) - bln b = K:=⟨bln a - bln b,by omega⟩
   rw [hKe]
   have hstart:a < b * 2 ^ (K + 1):=by
    have h2:2 ^ bln a <= b * 2 ^ (K + 1):=by
     have:2 ^ (bln b - 1) * 2 ^ (K + 1) <= b * 2 ^ (K + 1):=Nat.mul_le_mul_right _ hbg
     rw [<- Nat.pow_add,show bln b - 1 + (K + 1) = bln a by omega] at this
     exact this
    omega
   have hh:=aj (B:=ba_l2 n (dg b)) (fun s:List UInt64 × Int × List UInt64=>(s.2.1 + 1).toNat)
    (fun s=>(-1 <= s.2.1/\s.2.1 <= K)/\s.2.2.length = (dg a).length/\∃ R,s.1 = dg R/\R <= a/\a = b * val s.2.2 + R/\R < b * 2 ^ (s.2.1 + 1).toNat/\2 ^ (s.2.1 + 1).toNat ∣ val s.2.2)
    (fun r=>r.1.length = (dg a).length/\val r.1 = a / b/\r.2 = dg (a % b)) ?_ n (dg a,(K:Int),List.replicate (dg a).length 0)
    ⟨by simp only; omega,by simp,a,rfl,Nat.le_refl _,?_,?_,?_⟩ (by simp only; omega)
   ·obtain ⟨⟨q,r⟩,e,e1,e2,e3⟩:=hh
    simp only at e1 e2 e3
    rw [e,aa]
    simp only
    rw [e3]
    exact ⟨q,rfl,by omega,e2⟩
   ·rintro ⟨rw_,z,q⟩ J ⟨a1,a2,R,rfl,a3,a4,a5,a6⟩ hJ
    simp only at a1 a2 a3 a4 a5 a6 hJ
    unfold ba_l2
    simp only
    by_cases hz:0 <= z
    ·obtain ⟨k,rfl⟩:∃ k:Nat,z = k:=⟨z.toNat,by omega⟩
     have e0:(((k:Int) + 1).toNat) = k + 1:=by omega
     rw [e0] at a5 a6
     have eN:(((k:Int) - 1 + 1)).toNat = k:=by omega
     have hRl:=gy a3
     obtain ⟨st1,st2⟩:=nR a4 a5 a6
     rw [if_pos hz,nH n (dg b) k (by omega) (by omega) (by omega),aa,aE]
     obtain ⟨c,ec,c1,c2⟩:=gg n (dg R) (dg (b * 2 ^ k)) (gR _) (gR _) (by omega) (by omega)
     rw [aE,aE] at c1 c2
     rw [ec,aa]
     unfold jn
     simp only
     by_cases hc:0 <= c
     ·have hge:b * 2 ^ k <= R:=by omega
      obtain ⟨g1,g2,g3⟩:=st1 hge
      obtain ⟨xs,t1,t2,t3⟩:=ky n (dg R) (dg (b * 2 ^ k)) (gy hge) (by rw [aE,aE]; exact hge) (by omega) (by omega)
      rw [aE,aE] at t3
      have hkq:k / 64 < q.length:=by
       have h2:2 ^ k < 2 ^ (64 * (dg a).length):=by
        have h3:=cx (dg a)
        rw [aE,dP] at h3
        have h4:1 * 2 ^ k <= b * 2 ^ k:=Nat.mul_le_mul_right _ (by omega)
        omega
       have h5:=(Nat.pow_lt_pow_iff_right (by decide:1 < 2)).1 h2
       omega
      have hbit:=bit_add hkq a6 (shl_one (Nat.mod_lt _ (by decide)))
      rw [if_pos hc,t1,aa,aI n false xs (by omega) (by omega),aa,nV k (by omega),aa,idxN hkq,aa,rem64,aa,fQ,aa,putN _ hkq,aa]
      simp only
      rw [aH (by omega) (by omega),aa,t3]
      refine hJ (_,_,_) ⟨by simp only; omega,by simpa using a2,R - b * 2 ^ k,rfl,by omega,?_,?_,?_⟩ (by simp only; omega)
      ·simp only; rw [hbit]; exact g1
      ·simp only; rw [eN]; exact g2
      ·simp only; rw [eN,hbit]; exact g3
     ·rw [if_neg hc,aH (by omega) (by omega),aa]
      refine hJ (_,_,_) ⟨by simp only; omega,a2,R,rfl,a3,a4,?_,?_⟩ (by simp only; omega)
      ·simp only; rw [eN]; omega
      ·simp only; rw [eN]; exact st2 (by omega)
    ·rw [if_neg hz]
     have e0:(z + 1).toNat = 0:=by omega
     rw [e0,Nat.pow_zero,Nat.mul_one] at a5
     have hu:=(Nat.div_mod_unique (a:=a) (b:=b) (c:=R) (d:=val q) (by omega)).2 ⟨by omega,a5⟩
     exact ⟨_,rfl,a2,hu.1.symm,by simp only; rw [hu.2]⟩
   ·simp only
    rw [cd _ fun x hx=>(List.mem_replicate.1 hx).2]; omega
   ·simp only
    rw [show (((K:Int) + 1).toNat) = K + 1 by omega]
    exact hstart
   ·simp only
    rw [cd _ fun x hx=>(List.mem_replicate.1 hx).2]
    exact Nat.dvd_zero _
theorem oe (n l:Nat) (a b:Int) (ha:Fit l a) (hb:Fit l b) (h0:b ≠ 0) (hl:l < 5000) (hn:18446744073709551616 < n):ck_p n (L a) (L b) = some (L (a / b),L (a % b)):=by
 have hal:=ha.len
 have hbl:=hb.len
 obtain ⟨q,e1,e2,e3⟩:=jM n a.natAbs b.natAbs (by omega) (by omega) (by omega) hn
 have hm:a.natAbs % b.natAbs < b.natAbs:=Nat.mod_lt _ (by omega)
 have hl2:(dg (a.natAbs % b.natAbs)).length <= l:=gP (Nat.lt_trans hm hb)
 have hdm:=Nat.div_add_mod a.natAbs b.natAbs
 have hq:a.natAbs / b.natAbs <= a.natAbs:=Nat.div_le_self _ _
 unfold ck_p
 rw [show (L a).fu = dg a.natAbs from rfl,show (L b).fu = dg b.natAbs from rfl,e1,aa]
 simp only
 rw [aI n _ _ (by omega) (by omega),aa,aI n _ _ (by omega) (by omega),aa,e3,aE]
 generalize hx:a.natAbs / b.natAbs = x at *
 generalize hy:a.natAbs % b.natAbs = y at *
 simp only [mq]
 show (if (decide (a < 0) && decide (0 < y)) = true then _ else _) = _
 have hqf:x < 18446744073709551616 ^ l:=Nat.lt_of_le_of_lt hq ha
 have hyf:y < 18446744073709551616 ^ l:=Nat.lt_trans hm hb
 have hpw:2 * 18446744073709551616 ^ l <= 18446744073709551616 ^ (l + 1):=by rw [Nat.pow_succ,Nat.mul_comm]; exact Nat.mul_le_mul_left _ (by decide)
 have hp1:1 <= 18446744073709551616 ^ l:=Nat.pow_pos (by decide)
 have hbb:b.natAbs < 18446744073709551616 ^ l:=hb
 have hab:(b.natAbs:Int) * x + y = a.natAbs:=by exact_mod_cast hdm
 by_cases hr:a < 0/\0 < y
 ·obtain ⟨h1,h2⟩:=hr
  rw [if_pos (by simp [h1,h2])]
  have f1:(⟨false,dg b.natAbs⟩:Tf) = L b.natAbs:=by unfold L; simp
  have f2:(⟨!(L b).fc,([(1:UInt64)]:List UInt64)⟩:Tf) = L (if b < 0 then 1 else -1):=by
   unfold L
   by_cases hb0:b < 0 <;> simp [hb0] <;> rw [dg1 (by decide) (by decide)] <;> rfl
  rw [f1,f2,dF n (l + 1) _ _ ?_ ?_ (by omega) (by omega),aa,dF n (l + 1) _ _ ?_ ?_ (by omega) (by omega),aa]
  ·have e:sg (!(decide (a < 0) == decide (b < 0))) x + (if b < 0 then 1 else -1) = a / b/\sg (decide (a < 0)) y + b.natAbs = a % b:=by
    have:=dE (a:=a) (b:=b) (q:=sg (!(decide (a < 0) == decide (b < 0))) x + (if b < 0 then 1 else -1)) (r:=sg (decide (a < 0)) y + b.natAbs) ?_ ?_ ?_
    ·exact ⟨this.1.symm,this.2.symm⟩
    ·unfold sg
     by_cases hb0:b < 0
     ·have:(b.natAbs:Int) = -b:=by omega
      rw [this] at hab ⊢
      have h3:(a.natAbs:Int) = -a:=by omega
      simp [h1,hb0]
      rw [Int.mul_add]; grind
     ·have:(b.natAbs:Int) = b:=by omega
      rw [this] at hab ⊢
      have h3:(a.natAbs:Int) = -a:=by omega
      simp [h1,hb0]
      rw [Int.mul_add]; grind
    ·unfold sg; simp [h1]; omega
    ·unfold sg; simp [h1]; omega
   show some (L (sg (!(decide (a < 0) == decide (b < 0))) x + (if b < 0 then 1 else -1)),L (sg (decide (a < 0)) y + b.natAbs)) = _
   rw [e.1,e.2]
  ·unfold Fit; rw [ii]; omega
  ·unfold Fit; split <;> simp <;> omega
  ·unfold Fit; rw [ii]; omega
  ·unfold Fit; rw [Int.natAbs_natCast]; omega
 ·rw [if_neg (by simpa using hr)]
  have e:=dE (a:=a) (b:=b) (q:=sg (!(decide (a < 0) == decide (b < 0))) x) (r:=sg (decide (a < 0)) y) ?_ ?_ ?_
  ·rw [e.1,e.2]; rfl
  ·unfold sg
   by_cases h1:a < 0
   ·have hy0:y = 0:=by omega
    have h3:(a.natAbs:Int) = -a:=by omega
    by_cases hb0:b < 0
    ·have:(b.natAbs:Int) = -b:=by omega
     rw [this] at hab; simp [h1,hb0,hy0] at hab ⊢; grind
    ·have:(b.natAbs:Int) = b:=by omega
     rw [this] at hab; simp [h1,hb0,hy0] at hab ⊢; grind
   ·have h3:(a.natAbs:Int) = a:=by omega
    by_cases hb0:b < 0
    ·have:(b.natAbs:Int) = -b:=by omega
     rw [this] at hab; simp [h1,hb0] at hab ⊢; grind
    ·have:(b.natAbs:Int) = b:=by omega
     rw [this] at hab; simp [h1,hb0] at hab ⊢; grind
  ·unfold sg
   by_cases h1:a < 0
   ·have hy0:y = 0:=by omega
    simp [hy0]
   ·simp [h1]
  ·unfold sg
   by_cases h1:a < 0
   ·have hy0:y = 0:=by omega
    simp [hy0]; omega
   ·simp [h1]; omega
theorem lL (n l:Nat) (a b:Int) (ha:Fit l a) (hb:Fit l b) (hl:l < 5000) (hn:18446744073709551616 < n):aN_p n (L a) (L b) = some (L (Nat.gcd a.natAbs b.natAbs:Nat)):=by
 obtain ⟨M,hM⟩:∃ M:Nat,M = 64 * l:=⟨_,rfl⟩
 have hx2:a.natAbs < 2 ^ M:=by unfold Fit at ha; rw [dP,<- hM] at ha; exact ha
 have hy2:b.natAbs < 2 ^ M:=by unfold Fit at hb; rw [dP,<- hM] at hb; exact hb
 have he:=eu_le hx2 hy2
 have h:=aj (B:=aN_l1 n) (fun s:List UInt64 × List UInt64=>eu (val s.1) (val s.2)) (fun s=>∃ x y,s = (dg x,dg y)/\(dg x).length < 10000/\(dg y).length < 10000/\Nat.gcd x y = Nat.gcd a.natAbs b.natAbs)
  (fun r=>r = dg (Nat.gcd a.natAbs b.natAbs)) ?_ n (dg a.natAbs,dg b.natAbs) ⟨_,_,rfl,by have:=ha.len; omega,by have:=hb.len; omega,rfl⟩ (by simp only [aE]; omega)
 ·obtain ⟨r,h1,rfl⟩:=h
  unfold aN_p
  rw [show (L a).fu = dg a.natAbs from rfl,show (L b).fu = dg b.natAbs from rfl,h1,aa]
  unfold L
  simp
 ·rintro _ J ⟨x,y,rfl,h1,h2,h3⟩ hJ
  unfold aN_l1
  simp only
  by_cases h0:y = 0
  ·subst h0
   rw [if_neg (by rw [dg0]; simp)]
   exact ⟨_,rfl,by rw [<- h3,Nat.gcd_zero_right]⟩
  ·obtain ⟨q,e1,_,_⟩:=jM n x y h0 h1 h2 hn
   have hm:x % y < y:=Nat.mod_lt _ (by omega)
   have hyl:0 < (dg y).length:=by
    rcases e:dg y with _ | ⟨z,zs⟩
    ·have:=aE y; rw [e] at this; exact absurd this.symm h0
    ·simp
   rw [if_pos hyl,e1,aa]
   simp only
   refine hJ (dg y,dg (x % y)) ⟨_,_,rfl,h2,Nat.lt_of_le_of_lt (gy (Nat.le_of_lt hm)) h2,?_⟩ (by simp only [aE]; exact lU h0)
   rw [<- h3,Nat.gcd_comm x y,Nat.gcd_rec y x,Nat.gcd_comm]
theorem je (n l:Nat) (a b:Int) (ha:Fit l a) (hb:Fit l b) (h0:b ≠ 0) (hl:l < 5000) (hn:18446744073709551616 < n) :
  ci_p n (L a) (L b) = some (Rt (Rat.divInt a b))/\(Rat.divInt a b).num.natAbs <= a.natAbs/\(Rat.divInt a b).den <= b.natAbs:=by
 have hg:0 < Nat.gcd a.natAbs b.natAbs:=Nat.gcd_pos_of_pos_right _ (by omega)
 have hgb:Nat.gcd a.natAbs b.natAbs <= b.natAbs:=Nat.gcd_le_right _ (by omega)
 have hgw:Fit l ((Nat.gcd a.natAbs b.natAbs:Nat):Int):=by unfold Fit at *; rw [Int.natAbs_natCast]; omega
 obtain ⟨x,hx⟩:((Nat.gcd a.natAbs b.natAbs:Nat):Int) ∣ a:=Int.ofNat_dvd_left.2 (Nat.gcd_dvd_left _ _)
 obtain ⟨y,hy⟩:((Nat.gcd a.natAbs b.natAbs:Nat):Int) ∣ b:=Int.ofNat_dvd_left.2 (Nat.gcd_dvd_right _ _)
 have hco:=Nat.coprime_div_gcd_div_gcd hg
 generalize Nat.gcd a.natAbs b.natAbs = g at *
 have hg0:(g:Int) ≠ 0:=by omega
 have e1:a / (g:Int) = x:=by rw [hx]; exact Int.mul_ediv_cancel_left _ hg0
 have e2:b / (g:Int) = y:=by rw [hy]; exact Int.mul_ediv_cancel_left _ hg0
 have e3:a.natAbs = g * x.natAbs:=by rw [hx,Int.natAbs_mul]; rfl
 have e4:b.natAbs = g * y.natAbs:=by rw [hy,Int.natAbs_mul]; rfl
 have hc:x.natAbs.Coprime y.natAbs:=by
  rw [e3,e4,Nat.mul_div_cancel_left _ hg,Nat.mul_div_cancel_left _ hg] at hco; exact hco
 have hxl:x.natAbs <= a.natAbs:=by rw [e3]; exact Nat.le_mul_of_pos_left _ hg
 have hyl:y.natAbs <= b.natAbs:=by rw [e4]; exact Nat.le_mul_of_pos_left _ hg
 have hy0:y ≠ 0:=fun e=>h0 (by rw [hy,e,Int.mul_zero])
 have eq:Rat.divInt a b = Rat.divInt x y:=by
  conv=>lhs; rw [hx,hy]
  exact Rat.divInt_mul_left hg0
 have xw:Fit l x:=Nat.lt_of_le_of_lt hxl ha
 have yw:Fit l y:=Nat.lt_of_le_of_lt hyl hb
 have gc:aN_p n (L a) (L b) = some (L g):=by
  have:=lL n l a b ha hb hl hn
  rw [this]
  have h5:Nat.gcd a.natAbs b.natAbs = g:=by
   rw [e3,e4,Nat.gcd_mul_left,show Nat.gcd x.natAbs y.natAbs = 1 from hc,Nat.mul_one]
  rw [h5]
 unfold ci_p
 rw [gc,aa,oe n l a g ha hgw hg0 hl hn,aa,oe n l b g hb hgw hg0 hl hn,aa,e1,e2]
 simp only
 rw [eq]
 by_cases hs:y < 0
 ·rw [if_pos (by simpa [L] using hs),cA n l x xw (by omega) (by omega),aa,cA n l y yw (by omega) (by omega),aa]
  have h5:=fW (x:=-x) (y:=-y) (by omega) (by rwa [Int.natAbs_neg,Int.natAbs_neg])
  rw [Rat.neg_divInt_neg] at h5
  unfold Rt
  rw [h5.1,h5.2]
  exact ⟨rfl,by rw [Int.natAbs_neg]; exact hxl,by have:=h5.2; omega⟩
 ·rw [if_neg (by simpa [L] using hs)]
  have h5:=fW (x:=x) (y:=y) (by omega) hc
  unfold Rt
  rw [h5.1,h5.2]
  exact ⟨rfl,hxl,by have:=h5.2; omega⟩
end Go.Proofs.YtfccehcnajelgaaGreatDoor
namespace Go.Proofs.YtfccehcnajelgaaGreatDoor
open Go
set_option maxRecDepth 8000
abbrev T8:=UInt64 × UInt64 × UInt64 × UInt64 × UInt64 × UInt64 × UInt64 × UInt64
def wv (t:T8):List UInt64:=[t.1,t.2.1,t.2.2.1,t.2.2.2.1,t.2.2.2.2.1,t.2.2.2.2.2.1,t.2.2.2.2.2.2.1,t.2.2.2.2.2.2.2]
theorem mj:∀ {xs ys:List UInt64},xs.length = ys.length -> val xs = val ys -> xs = ys
 | [],[],_,_=>rfl
 | x :: xs,[],h,_=>by simp at h
 | [],y :: ys,h,_=>by simp at h
 | x :: xs,y :: ys,h,e=>by
  simp only [val] at e
  have hx:=x.toNat_lt
  have hy:=y.toNat_lt
  have e1:x = y:=UInt64.toNat_inj.1 (by omega)
  have e2:val xs = val ys:=by omega
  rw [e1,mj (by simpa using h) e2]
theorem wv_inj {s t:T8} (h:val (wv s) = val (wv t)):s = t:=by
 have:=mj (by rfl) h
 unfold wv at this
 obtain ⟨s1,s2,s3,s4,s5,s6,s7,s8⟩:=s
 obtain ⟨t1,t2,t3,t4,t5,t6,t7,t8⟩:=t
 simp only [List.cons.injEq,and_true] at this
 simp only [Prod.mk.injEq]
 exact this
def HB:Nat:=9223372036854775808 * 18446744073709551616 ^ 7
def FB:Nat:=18446744073709551616 ^ 8
theorem cW:FB = 2 * HB:=by unfold FB HB; rfl
theorem bU:0 < HB:=by unfold HB; decide
theorem wv_lt (t:T8):val (wv t) < FB:=cx (wv t)
def Wn (m:Nat):T8:=(UInt64.ofNat m,UInt64.ofNat (m / 18446744073709551616),UInt64.ofNat (m / 18446744073709551616 / 18446744073709551616),UInt64.ofNat (m / 18446744073709551616 / 18446744073709551616 / 18446744073709551616),UInt64.ofNat (m / 18446744073709551616 / 18446744073709551616 / 18446744073709551616 / 18446744073709551616),UInt64.ofNat (m / 18446744073709551616 / 18446744073709551616 / 18446744073709551616 / 18446744073709551616 / 18446744073709551616),UInt64.ofNat (m / 18446744073709551616 / 18446744073709551616 / 18446744073709551616 / 18446744073709551616 / 18446744073709551616 / 18446744073709551616),UInt64.ofNat (m / 18446744073709551616 / 18446744073709551616 / 18446744073709551616 / 18446744073709551616 / 18446744073709551616 / 18446744073709551616 / 18446744073709551616))
theorem cg (m:Nat) (xs:List UInt64) (h:val xs = m / 18446744073709551616):val (UInt64.ofNat m :: xs) = m:=by
 simp only [val]
 rw [UInt64.toNat_ofNat', h]
 exact Nat.mod_add_div m 18446744073709551616
theorem Wn_val {m:Nat} (h:m < FB):val (wv (Wn m)) = m:=by
 unfold wv Wn
 refine cg _ _ (cg _ _ (cg _ _ (cg _ _ (cg _ _ (cg _ _ (cg _ _ ?_))))))
 simp only [val]
 rw [UInt64.toNat_ofNat', Nat.mul_zero,Nat.add_zero]
 refine Nat.mod_eq_of_lt ?_
 simp only [Nat.div_div_eq_div_mul]
 refine Nat.div_lt_of_lt_mul ?_
 exact h
def Fw (z:Int):Prop:=-(HB:Int) <= z/\z < HB
def Wg (z:Int):T8:=Wn (z % (FB:Int)).toNat
theorem ea (z:Int):(val (wv (Wg z)):Int) = z % (FB:Int):=by
 have hp:=bU
 have hf:=cW
 have h0:=Int.emod_nonneg z (b:=(FB:Int)) (by omega)
 have h1:=Int.emod_lt_of_pos z (b:=(FB:Int)) (by omega)
 unfold Wg
 rw [Wn_val (by omega)]
 omega
theorem lu {z:Int} (h:Fw z) (h0:0 <= z):val (wv (Wg z)) = z.natAbs:=by
 have hp:=bU
 have hf:=cW
 have:=ea z
 rw [Int.emod_eq_of_lt h0 (by have:=h.2; omega)] at this
 omega
theorem kS {z:Int} (h:Fw z) (h0:z < 0):val (wv (Wg z)) + z.natAbs = FB:=by
 have hp:=bU
 have hf:=cW
 have:=ea z
 have e:z % (FB:Int) = z + FB:=by
  rw [<- Int.add_emod_right]
  exact Int.emod_eq_of_lt (by have:=h.1; omega) (by omega)
 rw [e] at this
 have:=h.1
 omega
theorem bQ {s b c a c1 c2 Vs Vb Va K:Nat} (h1:s + b + c = a + 18446744073709551616 * c1) (h2:Vs + Vb + c1 = Va + K * c2):(s + 18446744073709551616 * Vs) + (b + 18446744073709551616 * Vb) + c = (a + 18446744073709551616 * Va) + 18446744073709551616 * K * c2:=by
 rw [Nat.mul_assoc]
 have:=congrArg (18446744073709551616 * ·) h2
 simp only [Nat.mul_add] at this
 omega
theorem iI (n:Nat) (a b:T8):∃ s c,bS_p n a b = some (s,c)/\val (wv s) + val (wv b) = val (wv a) + FB * c.toNat/\c.toNat <= 1:=by
 obtain ⟨a1,a2,a3,a4,a5,a6,a7,a8⟩:=a
 obtain ⟨b1,b2,b3,b4,b5,b6,b7,b8⟩:=b
 obtain ⟨s1,c1,e1,f1,g1⟩:=bF a1 b1 0 (by decide)
 obtain ⟨s2,c2,e2,f2,g2⟩:=bF a2 b2 c1 g1
 obtain ⟨s3,c3,e3,f3,g3⟩:=bF a3 b3 c2 g2
 obtain ⟨s4,c4,e4,f4,g4⟩:=bF a4 b4 c3 g3
 obtain ⟨s5,c5,e5,f5,g5⟩:=bF a5 b5 c4 g4
 obtain ⟨s6,c6,e6,f6,g6⟩:=bF a6 b6 c5 g5
 obtain ⟨s7,c7,e7,f7,g7⟩:=bF a7 b7 c6 g6
 obtain ⟨s8,c8,e8,f8,g8⟩:=bF a8 b8 c7 g7
 refine ⟨(s1,s2,s3,s4,s5,s6,s7,s8),c8,?_,?_,g8⟩
 ·unfold bS_p
  simp only [e1,e2,e3,e4,e5,e6,e7,e8,aa]
 ·have hFB:FB = 18446744073709551616 * (18446744073709551616 * (18446744073709551616 * (18446744073709551616 * (18446744073709551616 * (18446744073709551616 * (18446744073709551616 * (18446744073709551616 * 1))))))):=rfl
  have:=bQ f1 (bQ f2 (bQ f3 (bQ f4 (bQ f5 (bQ f6 (bQ f7 (bQ f8 (show 0 + 0 + c8.toNat = 0 + 1 * c8.toNat by omega))))))))
  rw [<- hFB,show (0:UInt64).toNat = 0 from rfl,Nat.add_zero] at this
  simp only [wv,val]
  exact this
theorem mF (n:Nat) (a b:T8) (hn:10 < n):∃ c,bv_p n a b = some c/\(c < 0 ↔ val (wv a) < val (wv b))/\(c = 0 ↔ val (wv a) = val (wv b)):=by
 have hh:=aj (B:=bv_l1 n a b) (fun z:Int=>(z + 1).toNat) (fun z=>-1 <= z/\z < 8/\(wv a).drop (z + 1).toNat = (wv b).drop (z + 1).toNat)
  (fun r=>(r = .inl (-1)/\val (wv a) < val (wv b)) ∨ (r = .inl 1/\val (wv b) < val (wv a)) ∨ (r = .inr ()/\wv a = wv b)) ?_ n 7 ⟨by omega,by omega,rfl⟩ (by omega)
 ·obtain ⟨r,hr,h1 | h1 | h1⟩:=hh
  ·unfold bv_p
   rw [hr,h1.1]; exact ⟨_,rfl,by have:=h1.2; omega,by have:=h1.2; omega⟩
  ·unfold bv_p
   rw [hr,h1.1]; exact ⟨_,rfl,by have:=h1.2; omega,by have:=h1.2; omega⟩
  ·unfold bv_p
   rw [hr,h1.1,h1.2]; exact ⟨_,rfl,by omega,by omega⟩
 ·intro z J ⟨h1,h2,h3⟩ hJ
  unfold bv_l1
  simp only
  have la:(wv a).length = 8:=rfl
  have lb:(wv b).length = 8:=rfl
  by_cases h0:0 <= z
  ·have e1:(z + 1).toNat = z.toNat + 1:=by omega
   rw [e1] at h3
   rw [if_pos h0]
   show ∃ r,((idx (wv a) z).bind fun z64=>(idx (wv b) z).bind fun z68=>if z64 = z68 then (chk (z - 1)).bind fun s73=>J s73 else if z64 < z68 then some (Sum.inl (-1:Int)) else some (Sum.inl (1:Int))) = some r/\_
   rw [aM h0 (by omega),aa,aM h0 (by omega),aa]
   split
   ·rename_i he
    rw [aH (by omega) (by omega),aa]
    refine hJ (z - 1) ⟨by omega,by omega,?_⟩ (by omega)
    rw [show (z - 1 + 1).toNat = z.toNat by omega,List.drop_eq_getElem_cons (by omega),List.drop_eq_getElem_cons (l:=wv b) (by omega),h3,he]
   ·rename_i hne
    split
    ·rename_i hlt; exact ⟨_,rfl,.inl ⟨rfl,gt (by omega) (by omega) h3 hlt⟩⟩
    ·rename_i h5
     refine ⟨_,rfl,.inr (.inl ⟨rfl,gt (by omega) (by omega) h3.symm ?_⟩)⟩
     rw [UInt64.lt_iff_toNat_lt] at h5 ⊢
     have:((wv a)[z.toNat]'(by omega)).toNat ≠ ((wv b)[z.toNat]'(by omega)).toNat:=fun e=>hne (UInt64.toNat_inj.1 e)
     omega
  ·rw [if_neg h0]
   have e1:(z + 1).toNat = 0:=by omega
   rw [e1] at h3
   exact ⟨_,rfl,.inr (.inr ⟨rfl,by simpa using h3⟩)⟩
theorem gq (t:T8):shrU t.2.2.2.2.2.2.2 63 = 1 ↔ HB <= val (wv t):=by
 obtain ⟨t1,t2,t3,t4,t5,t6,t7,t8⟩:=t
 have h1:=cx [t1,t2,t3,t4,t5,t6,t7]
 have e:val (wv (t1,t2,t3,t4,t5,t6,t7,t8)) = val [t1,t2,t3,t4,t5,t6,t7] + 18446744073709551616 ^ 7 * t8.toNat:=by
  have:=er [t1,t2,t3,t4,t5,t6,t7] [t8]
  simp only [leC,leN] at this
  show val ([t1,t2,t3,t4,t5,t6,t7] ++ [t8]) = _
  rw [this]
  simp [val]
 rw [e]
 simp only [leC,leN] at h1
 have h8:=t8.toNat_lt
 have hs:(shrU t8 63).toNat = t8.toNat / 9223372036854775808:=bM t8 (by decide)
 have hsw:shrU t8 63 = 1 ↔ 9223372036854775808 <= t8.toNat:=by
  constructor
  ·intro h
   have:=congrArg UInt64.toNat h
   rw [hs] at this
   simp only [UInt64.toNat_one] at this
   omega
  ·intro h
   refine UInt64.toNat_inj.1 ?_
   rw [hs]
   simp only [UInt64.toNat_one]
   omega
 show shrU t8 63 = 1 ↔ _
 rw [hsw]
 unfold HB
 generalize val [t1,t2,t3,t4,t5,t6,t7] = lo at *
 generalize hP:(18446744073709551616:Nat) ^ 7 = P at *
 constructor
 ·intro h
  have:=Nat.mul_le_mul_left P h
  rw [Nat.mul_comm] at this
  omega
 ·intro h
  by_cases c:9223372036854775808 <= t8.toNat
  ·exact c
  ·exfalso
   have:=Nat.mul_le_mul_left P (show t8.toNat + 1 <= 9223372036854775808 by omega)
   rw [Nat.mul_add,Nat.mul_comm P 9223372036854775808] at this
   omega
theorem lI (n:Nat) (z:Int) (h:Fw z) (hn:10 < n):cd_p n (Wg z) = some (L z):=by
 have hp:=bU
 have hf:=cW
 have fin:∀ (b:Bool) (t:T8),val (wv t) = z.natAbs -> (b && decide (0 < z.natAbs)) = decide (z < 0) -> ((app ([]:List UInt64) ([t.1,t.2.1,t.2.2.1,t.2.2.2.1,t.2.2.2.2.1,t.2.2.2.2.2.1,t.2.2.2.2.2.2.1,t.2.2.2.2.2.2.2]:List UInt64)).bind fun xs=>(ax_p n b xs).bind fun y=>some y) = some (L z):=fun b t hv hb=>by
  show ((app ([]:List UInt64) (wv t)).bind fun xs=>(ax_p n b xs).bind fun y=>some y) = some (L z)
  rw [bb [] (wv t) (by show 0 + 8 <= 1000000; decide),aa,List.nil_append,aI n b (wv t) (by show 8 < n; omega) (by show 8 <= 4294967296; decide),aa,hv,hb]
  rfl
 unfold cd_p dz_p
 by_cases h0:z < 0
 ·have hv:=kS h h0
  have hge:HB <= val (wv (Wg z)):=by have:=h.1; omega
  obtain ⟨s,c,e,e2,e3⟩:=iI n (0,0,0,0,0,0,0,0) (Wg z)
  have hz:val (wv ((0,0,0,0,0,0,0,0):T8)) = 0:=rfl
  rw [hz] at e2
  have hs:=wv_lt s
  have hc:c.toNat = 1:=by
   by_cases hc0:c.toNat = 0
   ·rw [hc0] at e2; omega
   ·omega
  rw [hc] at e2
  rw [if_pos ((gq _).2 hge),e,aa,aa]
  exact fin _ s (by omega) (by rw [decide_eq_true ((gq _).2 hge),decide_eq_true (by omega:0 < z.natAbs),decide_eq_true h0]; rfl)
 ·have hv:=lu h (by omega)
  have hlt:¬ shrU (Wg z).2.2.2.2.2.2.2 63 = 1:=fun e=>by have:=(gq _).1 e; have:=h.2; omega
  rw [if_neg hlt,aa]
  exact fin _ (Wg z) hv (by rw [decide_eq_false hlt,decide_eq_false h0]; rfl)
theorem iG {z:Int} {t:T8} (h:(val (wv t):Int) = z % (FB:Int)):t = Wg z:=wv_inj (by have:=ea z; omega)
theorem oM {ws:List UInt64} (h:ws.length <= 8):val (wv (aQ ws 0 0,aQ ws 1 0,aQ ws 2 0,aQ ws 3 0,aQ ws 4 0,aQ ws 5 0,aQ ws 6 0,aQ ws 7 0)) = val ws:=by
 unfold wv aQ
 rcases ws with _ | ⟨a,_ | ⟨b,_ | ⟨c,_ | ⟨d,_ | ⟨e,_ | ⟨f,_ | ⟨g,_ | ⟨i,_ | ⟨j,xs⟩⟩⟩⟩⟩⟩⟩⟩⟩
 any_goals simp [val]
 simp only [leC] at h
 omega
open Classical in
theorem toldG (n:Nat) (z:Int) (hn:10 < n):cp_p n (L z) = some (if Fw z then (Wg z,0) else ((0,0,0,0,0,0,0,0),6)):=by
 have hp:=bU
 have hf:=cW
 have hdg:=aE z.natAbs
 unfold cp_p
 by_cases hl:8 < (dg z.natAbs).length
 ·have h1:=jw (gR z.natAbs) (by intro e; rw [e] at hl; simp at hl)
  have h2:18446744073709551616 ^ 8 <= 18446744073709551616 ^ ((dg z.natAbs).length - 1):=Nat.pow_le_pow_right (by decide) (by omega)
  have hbig:FB <= z.natAbs:=by unfold FB; omega
  rw [if_pos (show 8 < (L z).fu.length from hl),if_neg fun h:Fw z=>by have:=h.1; have:=h.2; omega]
 ·have hv:=oM (ws:=dg z.natAbs) (by omega)
  rw [if_neg (show ¬ 8 < (L z).fu.length from hl)]
  show ((cE_p n ⟨decide (z < 0),(aQ (dg z.natAbs) 0 0,aQ (dg z.natAbs) 1 0,aQ (dg z.natAbs) 2 0,aQ (dg z.natAbs) 3 0,aQ (dg z.natAbs) 4 0,aQ (dg z.natAbs) 5 0,aQ (dg z.natAbs) 6 0,aQ (dg z.natAbs) 7 0)⟩).bind _) = _
  generalize hT:((aQ (dg z.natAbs) 0 0,aQ (dg z.natAbs) 1 0,aQ (dg z.natAbs) 2 0,aQ (dg z.natAbs) 3 0,aQ (dg z.natAbs) 4 0,aQ (dg z.natAbs) 5 0,aQ (dg z.natAbs) 6 0,aQ (dg z.natAbs) 7 0):T8) = t at *
  rw [hdg] at hv
  unfold cE_p
  obtain ⟨c,ec,c1,c2⟩:=mF n t (0,0,0,0,0,0,0,9223372036854775808) hn
  have hlim:val (wv ((0,0,0,0,0,0,0,9223372036854775808):T8)) = HB:=by decide
  rw [hlim,hv] at c1 c2
  simp only
  rw [ec,aa]
  obtain ⟨s,cc,e,e2,e3⟩:=iI n (0,0,0,0,0,0,0,0) t
  have hz:val (wv ((0,0,0,0,0,0,0,0):T8)) = 0:=rfl
  rw [hz,hv] at e2
  have hs:=wv_lt s
  have neg:z < 0 -> Fw z -> s = Wg z:=fun h0 hw=>by
   refine iG ?_
   have hc:cc.toNat = 1:=by
    by_cases hc0:cc.toNat = 0
    ·rw [hc0] at e2; omega
    ·omega
   rw [hc] at e2
   have e5:z % (FB:Int) = z + FB:=by
    rw [<- Int.add_emod_right]
    exact Int.emod_eq_of_lt (by have:=hw.1; omega) (by omega)
   rw [e5]; omega
  by_cases g1:0 < c
  ·rw [if_pos g1,aa,if_neg fun h:Fw z=>by have:=h.1; have:=h.2; omega]
  ·rw [if_neg g1]
   by_cases g2:c = 0
   ·rw [if_pos g2]
    by_cases h0:z < 0
    ·have hw:Fw z:=⟨by omega,by omega⟩
     rw [if_pos (decide_eq_true h0),e,aa,aa,if_pos hw,neg h0 hw]
    ·rw [if_neg (by simpa using h0),aa,if_neg fun h:Fw z=>by have:=h.2; omega]
   ·rw [if_neg g2]
    by_cases h0:z < 0
    ·have hw:Fw z:=⟨by omega,by omega⟩
     rw [if_pos (decide_eq_true h0),e,aa,aa,if_pos hw,neg h0 hw]
    ·have hw:Fw z:=⟨by omega,by omega⟩
     rw [if_neg (by simpa using h0),aa,if_pos hw]
     rw [show t = Wg z from iG (by rw [Int.emod_eq_of_lt (by omega) (by have:=hw.2; omega)]; omega)]
end Go.Proofs.YtfccehcnajelgaaGreatDoor
namespace Go.Proofs.YtfccehcnajelgaaGreatDoor
open Go
set_option maxRecDepth 8000
def Sg (q:Rat):Tb:=⟨Wg q.num,Wg q.den⟩
def FQ (q:Rat):Prop:=Fw q.num/\Fw (q.den:Int)
def noS:Tb:=⟨(0,0,0,0,0,0,0,0),(0,0,0,0,0,0,0,0)⟩
theorem Fw.fit {z:Int} (h:Fw z):Fit 8 z:=by
 have h1:=cW
 have h2:=bU
 unfold Fit
 show z.natAbs < FB
 have:=h.1
 have:=h.2
 omega
theorem FQ.n {q:Rat} (h:FQ q):Fit 8 q.num:=h.1.fit
theorem FQ.d {q:Rat} (h:FQ q):Fit 8 (q.den:Int):=h.2.fit
theorem FQ.ndnz {q:Rat}:(q.den:Int) ≠ 0:=by have:=q.den_pos; omega
theorem gX {z:Int} (h:Sm z):Fw z:=by
 have:9223372036854775808 <= HB:=by unfold HB; decide
 unfold Sm at h
 exact ⟨by omega,by omega⟩
theorem W8_Wg {z:Int} (h:Sm z):W8 z = Wg z:=by
 have hp:9223372036854775808 <= HB:=by unfold HB; decide
 have hf:=cW
 refine iG ?_
 unfold W8
 by_cases h0:z < 0
 ·have e5:z % (FB:Int) = z + FB:=by
   rw [<- Int.add_emod_right]
   exact Int.emod_eq_of_lt (by unfold Sm at h; omega) (by omega)
  rw [if_pos h0,e5]
  have hv:val (wv ((ab z,18446744073709551615,18446744073709551615,18446744073709551615,18446744073709551615,18446744073709551615,18446744073709551615,18446744073709551615):T8)) = (ab z).toNat + 18446744073709551616 * val [18446744073709551615,18446744073709551615,18446744073709551615,18446744073709551615,18446744073709551615,18446744073709551615,18446744073709551615]:=rfl
  have hc:18446744073709551616 * val [18446744073709551615,18446744073709551615,18446744073709551615,18446744073709551615,18446744073709551615,18446744073709551615,18446744073709551615] + 18446744073709551616 = FB:=by decide
  rw [hv,eT h h0]
  unfold Sm at h
  omega
 ·rw [if_neg h0,Int.emod_eq_of_lt (by omega) (by unfold Sm at h; omega)]
  have hv:val (wv ((ab z,0,0,0,0,0,0,0):T8)) = (ab z).toNat:=by unfold wv; simp [val]
  rw [hv,ep h h0,bO h.w]
  omega
theorem Sh_Sg {q:Rat} (h1:Sm q.num) (h2:Sm (q.den:Int)):Sh q = Sg q:=by unfold Sh Sg; rw [W8_Wg h1,W8_Wg h2]
theorem Wg_inj {x y:Int} (hx:Fw x) (hy:Fw y) (e:Wg x = Wg y):x = y:=by
 have h1:=ea x
 have h2:=ea y
 rw [e,h2] at h1
 have hf:=cW
 have hp:=bU
 have a:=hx.1; have b:=hx.2; have c:=hy.1; have d:=hy.2
 have e3:=Int.emod_eq_emod_iff_emod_sub_eq_zero.1 h1
 obtain ⟨k,hk⟩:=Int.dvd_of_emod_eq_zero e3
 by_cases k0:k = 0
 ·rw [k0,Int.mul_zero] at hk; omega
 ·by_cases kp:1 <= k
  ·have:(FB:Int) * 1 <= FB * k:=Int.mul_le_mul_of_nonneg_left kp (by omega)
   omega
  ·have:(FB:Int) * k <= FB * (-1):=Int.mul_le_mul_of_nonneg_left (show k <= -1 by omega) (by omega)
   omega
theorem dU (n:Nat) (q:Rat) (h:FQ q) (hn:10 < n):bN_p n (Sg q) = some (Rt q):=by
 unfold bN_p
 rw [show (Sg q).fN = Wg q.num from rfl,show (Sg q).fD = Wg q.den from rfl,lI n _ h.1 hn,aa,lI n _ h.2 hn,aa]
 rfl
open Classical in
theorem rtoldG (n:Nat) (q:Rat) (hn:10 < n):bX_p n (Rt q) = some (if FQ q then (Sg q,0) else (noS,6)):=by
 unfold bX_p
 rw [show (Rt q).fG = L q.num from rfl,show (Rt q).fy = L q.den from rfl,toldG n _ hn,aa,toldG n _ hn,aa]
 by_cases h1:Fw q.num
 ·by_cases h2:Fw (q.den:Int)
  ·rw [if_pos h1,if_pos h2,if_pos (show FQ q from ⟨h1,h2⟩)]
   rfl
  ·rw [if_pos h1,if_neg h2,if_neg fun h:FQ q=>h2 h.2]
   rfl
 ·rw [if_neg h1,if_neg fun h:FQ q=>h1 h.1]
  rfl
theorem checkG (n:Nat) (q:Rat) (h:FQ q) (hn:18446744073709551616 < n):dw_p n (Sg q) = some 0:=by
 have hd:=q.den_pos
 unfold dw_p
 rw [from_ok n 1 (by unfold Sm; decide) (by omega),aa,dU n q h (by omega),aa,show (Rt q).fG = L q.num from rfl,show (Rt q).fy = L q.den from rfl,lM,aa,Int.sign_eq_one_of_pos (by omega),if_neg (by decide)]
 rw [lL n 8 _ _ h.n h.d (by decide) hn,aa,show Nat.gcd q.num.natAbs (q.den:Int).natAbs = 1 from q.reduced]
 unfold dq_p
 rw [oR n 1 _ _ (by unfold Fit; decide) (by unfold Fit; decide) (by omega) (by omega),aa,lM]
 rfl
theorem valid1G (n:Nat) (q:Rat) (h:FQ q) (hn:18446744073709551616 < n):dj_p n (Sg q) = some true:=by
 unfold dj_p; rw [checkG n q h hn]; rfl
theorem validG (n:Nat) (l:List Rat) (h:∀ q ∈ l,FQ q) (hl:l.length < n) (hn:18446744073709551616 < n):bK_p n (l.map Sg) = some true:=by
 have hh:=aj (B:=bK_l1 n (l.map Sg)) (fun i:Nat=>l.length - i) (fun i=>i <= l.length) (fun r=>r = .inr ()) ?_ n 0 (Nat.zero_le _) (by simpa using hl)
 ·obtain ⟨r,e,rfl⟩:=hh
  unfold bK_p
  rw [e]; rfl
 ·intro i J hi hJ
  unfold bK_l1
  simp only
  by_cases h0:i < l.length
  ·rw [if_pos (by simpa using h0),geE (by simpa using h0),aa,List.getElem_map]
   rw [valid1G n _ (h l[i] (List.getElem_mem _)) hn,aa,if_pos rfl]
   exact hJ (i + 1) h0 (by omega)
  ·rw [if_neg (by simpa using h0)]
   exact ⟨_,rfl,rfl⟩
theorem iZ (n:Nat) (a b:Rat) (ha:FQ a) (hb:FQ b) (hn:18446744073709551616 < n):bK_p n [Sg a,Sg b] = some true:=
 validG n [a,b] (fun q hq=>by
  rcases List.mem_cons.1 hq with rfl | hq
  ·exact ha
  ·rw [List.mem_singleton.1 hq]; exact hb) (by simp only [leC,leN]; omega) hn
theorem Fit.mul {l m:Nat} {a b:Int} (ha:Fit l a) (hb:Fit m b):Fit (l + m) (a * b):=by
 unfold Fit at *
 rw [Int.natAbs_mul,Nat.pow_add]
 exact Nat.mul_lt_mul'' ha hb
theorem Fit.add {l:Nat} {a b:Int} (ha:Fit l a) (hb:Fit l b):Fit (l + 1) (a + b):=by
 unfold Fit at *
 have:2 * 18446744073709551616 ^ l <= 18446744073709551616 ^ (l + 1):=by rw [Nat.pow_succ,Nat.mul_comm]; exact Nat.mul_le_mul_left _ (by decide)
 omega
theorem Fit.mono {l m:Nat} {a:Int} (ha:Fit l a) (h:l <= m):Fit m a:=Nat.lt_of_lt_of_le ha (Nat.pow_le_pow_right (by decide) h)
structure RF (l:Nat) (q:Rat):Prop where
 n:Fit l q.num
 d:Fit l (q.den:Int)
theorem FQ.rf {q:Rat} (h:FQ q):RF 8 q:=⟨h.n,h.d⟩
theorem RF.of {l:Nat} {a b:Int} (ha:Fit l a) (hb:Fit l b) (h1:(Rat.divInt a b).num.natAbs <= a.natAbs) (h2:(Rat.divInt a b).den <= b.natAbs):RF l (Rat.divInt a b):=
 ⟨Nat.lt_of_le_of_lt h1 ha,by unfold Fit; rw [Int.natAbs_natCast]; exact Nat.lt_of_le_of_lt h2 hb⟩
theorem plusG (n l:Nat) (a b:Rat) (ha:RF l a) (hb:RF l b) (hl:l < 1000) (hn:18446744073709551616 < n):cR_p n (Rt a) (Rt b) = some (Rt (a + b))/\RF (l + l + 1) (a + b):=by
 have d0:(a.den:Int) * b.den ≠ 0:=Int.mul_ne_zero FQ.ndnz FQ.ndnz
 have e:a + b = Rat.divInt (a.num * b.den + b.num * a.den) (a.den * b.den):=by
  conv=>lhs; rw [<- Rat.num_divInt_den a,<- Rat.num_divInt_den b]
  exact Rat.divInt_add_divInt _ _ FQ.ndnz FQ.ndnz
 have f1:=(ha.n.mul hb.d).add (hb.n.mul ha.d)
 have f2:=(ha.d.mul hb.d).mono (show l + l <= l + l + 1 by omega)
 obtain ⟨e1,e2,e3⟩:=je n (l + l + 1) _ _ f1 f2 d0 (by omega) hn
 rw [<- e] at e1 e2 e3
 refine ⟨?_,?_⟩
 ·unfold cR_p Rt
  rw [cb n l l _ _ ha.n hb.d (by omega) (by omega),aa,cb n l l _ _ hb.n ha.d (by omega) (by omega),aa,dF n (l + l) _ _ (ha.n.mul hb.d) (hb.n.mul ha.d) (by omega) (by omega),aa,cb n l l _ _ ha.d hb.d (by omega) (by omega),aa,e1]
  rfl
 ·rw [e]; rw [e] at e2 e3; exact RF.of f1 f2 e2 e3
theorem timesG (n l:Nat) (a b:Rat) (ha:RF l a) (hb:RF l b) (hl:l < 1000) (hn:18446744073709551616 < n):cH_p n (Rt a) (Rt b) = some (Rt (a * b))/\RF (l + l) (a * b):=by
 have d0:(a.den:Int) * b.den ≠ 0:=Int.mul_ne_zero FQ.ndnz FQ.ndnz
 have e:a * b = Rat.divInt (a.num * b.num) (a.den * b.den):=by
  conv=>lhs; rw [<- Rat.num_divInt_den a,<- Rat.num_divInt_den b]
  exact Rat.divInt_mul_divInt _ _
 have f1:=ha.n.mul hb.n
 have f2:=ha.d.mul hb.d
 obtain ⟨e1,e2,e3⟩:=je n (l + l) _ _ f1 f2 d0 (by omega) hn
 rw [<- e] at e1 e2 e3
 refine ⟨?_,?_⟩
 ·unfold cH_p Rt
  rw [cb n l l _ _ ha.n hb.n (by omega) (by omega),aa,cb n l l _ _ ha.d hb.d (by omega) (by omega),aa,e1]
  rfl
 ·rw [e]; rw [e] at e2 e3; exact RF.of f1 f2 e2 e3
theorem overG (n l:Nat) (a b:Rat) (ha:RF l a) (hb:RF l b) (h0:b ≠ 0) (hl:l < 1000) (hn:18446744073709551616 < n):ct_p n (Rt a) (Rt b) = some (Rt (a / b))/\RF (l + l) (a / b):=by
 have b0:b.num ≠ 0:=fun e=>h0 (Rat.num_eq_zero.1 e)
 have d0:(a.den:Int) * b.num ≠ 0:=Int.mul_ne_zero FQ.ndnz b0
 have e:a / b = Rat.divInt (a.num * b.den) (a.den * b.num):=by
  conv=>lhs; rw [Rat.div_def,<- Rat.num_divInt_den a,<- Rat.num_divInt_den b,Rat.inv_divInt]
  exact Rat.divInt_mul_divInt _ _
 have f1:=ha.n.mul hb.d
 have f2:=ha.d.mul hb.n
 obtain ⟨e1,e2,e3⟩:=je n (l + l) _ _ f1 f2 d0 (by omega) hn
 rw [<- e] at e1 e2 e3
 refine ⟨?_,?_⟩
 ·unfold ct_p Rt
  rw [cb n l l _ _ ha.n hb.d (by omega) (by omega),aa,cb n l l _ _ ha.d hb.n (by omega) (by omega),aa,e1]
  rfl
 ·rw [e]; rw [e] at e2 e3; exact RF.of f1 f2 e2 e3
open Classical in
theorem kO (n:Nat) (q:Rat) (hn:10 < n):bT_p n (Rt q) 0 = some (if FQ q then (Sg q,0) else (noS,6)):=by
 unfold bT_p
 rw [if_pos rfl,rtoldG n q hn]
 rfl
open Classical in
theorem addG (n:Nat) (a b:Rat) (ha:FQ a) (hb:FQ b) (hn:18446744073709551616 < n):dD_p n (Sg a) (Sg b) = some (if FQ (a + b) then (Sg (a + b),0) else (noS,6)):=by
 obtain ⟨e1,_⟩:=plusG n 8 a b ha.rf hb.rf (by decide) hn
 unfold dD_p
 rw [iZ n a b ha hb hn,aa,if_pos rfl,dU n a ha (by omega),aa,dU n b hb (by omega),aa,e1,aa,kO n _ (by omega)]
 rfl
open Classical in
theorem mulG (n:Nat) (a b:Rat) (ha:FQ a) (hb:FQ b) (hn:18446744073709551616 < n):dC_p n (Sg a) (Sg b) = some (if FQ (a * b) then (Sg (a * b),0) else (noS,6)):=by
 obtain ⟨e1,_⟩:=timesG n 8 a b ha.rf hb.rf (by decide) hn
 unfold dC_p
 rw [iZ n a b ha hb hn,aa,if_pos rfl,dU n a ha (by omega),aa,dU n b hb (by omega),aa,e1,aa,kO n _ (by omega)]
 rfl
theorem Wg_zero:Wg 0 = (0,0,0,0,0,0,0,0):=(iG (by decide)).symm
open Classical in
theorem divG (n:Nat) (a b:Rat) (ha:FQ a) (hb:FQ b) (h0:b ≠ 0) (hn:18446744073709551616 < n):dE_p n (Sg a) (Sg b) = some (if FQ (a / b) then (Sg (a / b),0) else (noS,6)):=by
 obtain ⟨e1,_⟩:=overG n 8 a b ha.rf hb.rf h0 (by decide) hn
 have hz:Fw 0:=⟨by have:=bU; omega,by have:=bU; omega⟩
 unfold dE_p
 rw [iZ n a b ha hb hn,aa,if_pos rfl,if_neg (show ¬ (Sg b).fN = (0,0,0,0,0,0,0,0) from fun e=>h0 (Rat.num_eq_zero.1 (Wg_inj hb.1 hz (e.trans Wg_zero.symm)))),aa,if_pos rfl,dU n a ha (by omega),aa,dU n b hb (by omega),aa,e1,aa,kO n _ (by omega)]
 rfl
end Go.Proofs.YtfccehcnajelgaaGreatDoor
namespace Go.Proofs.YtfccehcnajelgaaGreatDoor
open Go
set_option maxRecDepth 8000
theorem div_num {a b:Int} (hb:b ≠ 0):(Rat.divInt a b).num * b = a * (Rat.divInt a b).den:=by
 have h:=Rat.num_divInt_den (Rat.divInt a b)
 exact (Rat.divInt_eq_divInt_iff FQ.ndnz hb).1 h
theorem kX {a b:Int} (hb:b ≠ 0):(Rat.divInt a b).num.natAbs <= a.natAbs/\(Rat.divInt a b).den <= b.natAbs:=by
 have h:=congrArg Int.natAbs (div_num (a:=a) hb)
 rw [Int.natAbs_mul,Int.natAbs_mul,Int.natAbs_natCast] at h
 have hc:=(Rat.divInt a b).reduced
 have hd:=(Rat.divInt a b).den_pos
 generalize (Rat.divInt a b).num.natAbs = x at *
 generalize (Rat.divInt a b).den = y at *
 have hbp:0 < b.natAbs:=by omega
 constructor
 ·by_cases h0:a.natAbs = 0
  ·rw [h0,Nat.zero_mul] at h
   rcases Nat.mul_eq_zero.1 h with h1 | h1
   ·omega
   ·omega
  ·exact Nat.le_of_dvd (by omega) (hc.dvd_of_dvd_mul_right (by rw [<- h]; exact Nat.dvd_mul_right ..))
 ·exact Nat.le_of_dvd hbp (hc.symm.dvd_of_dvd_mul_left (by rw [h]; exact Nat.dvd_mul_left ..))
def Bt (i j:Nat) (q:Rat):Prop:=q.num.natAbs < 2 ^ i/\q.den < 2 ^ j
theorem hb_pow (w:Nat):9223372036854775808 * 18446744073709551616 ^ w = 2 ^ (63 + 64 * w):=by
 rw [Nat.pow_add,<- dP]
def hbl:Nat:=511
theorem hb_pow' {w l:Nat} (h:l = 63 + 64 * w):9223372036854775808 * 18446744073709551616 ^ w = 2 ^ l:=by subst h; exact hb_pow w
theorem ou:HB = 2 ^ hbl:=hb_pow' (w:=7) (l:=hbl) rfl
theorem Bt.fq {i j:Nat} {q:Rat} (h:Bt i j q) (hi:i <= 500) (hj:j <= 500):FQ q:=by
 have e:hbl = 511:=rfl
 have h1:2 ^ i <= HB:=by rw [ou]; exact Nat.pow_le_pow_right (by decide) (by omega)
 have h2:2 ^ j <= HB:=by rw [ou]; exact Nat.pow_le_pow_right (by decide) (by omega)
 have h3:=h.1
 have h4:=h.2
 exact ⟨⟨by omega,by omega⟩,⟨by omega,by omega⟩⟩
theorem Bt.of {i j:Nat} {a b:Int} (hb:b ≠ 0) (h1:a.natAbs < 2 ^ i) (h2:b.natAbs < 2 ^ j):Bt i j (Rat.divInt a b):=by
 obtain ⟨d1,d2⟩:=kX (a:=a) hb
 exact ⟨by omega,by omega⟩
section
variable {n:Nat} {a b:Rat}
end
end Go.Proofs.YtfccehcnajelgaaGreatDoor
namespace Go.Proofs.YtfccehcnajelgaaGreatDoor
open Go
set_option maxRecDepth 8000
def FU:Nat:=18446744073709552000
theorem aO:(1000000:Nat) < FU:=by decide
theorem co:(18446744073709551616:Nat) < FU:=by decide
theorem fR {κ ν:Type} [DecidableEq κ]:∀ (D:List (κ × ν)) (k x:κ) (v:ν),hZ (bh D k v) x = if x = k then some v else hZ D x
 | [],k,x,v=>by simp [bh,hZ]
 | e :: D,k,x,v=>by
  unfold bh
  split
  ·rename_i h; subst h; simp only [hZ]; split <;> rfl
  ·rename_i h
   simp only [hZ]
   rw [fR D k x v]
   by_cases h1:x = k
   ·subst h1; simp [h]
   ·simp [h1]
theorem sof {a b:Int} (h0:b ≠ 0) (ha:Sm a) (hb:Sm b):dp_p FU a b = some (Sg (Rat.divInt a b),0):=by
 obtain ⟨d1,d2⟩:=kX (a:=a) h0
 rw [kB FU a b ha hb h0 co,Sh_Sg (by unfold Sm at *; omega) (by unfold Sm at *; omega)]
theorem cO {z:Int} (h:z.natAbs < 1000000):Sm z:=by unfold Sm; omega
theorem jh {n d:Int} (h0:n.natAbs < 1000000) (hd:d ≠ 0) (h1:d.natAbs < 1000000):FQ (Rat.divInt n d):=(Bt.of (i:=20) (j:=20) hd (by omega) (by omega)).fq (by decide) (by decide)
end Go.Proofs.YtfccehcnajelgaaGreatDoor
namespace Go.Proofs.YtfccehcnajelgaaGreatDoor
open Go
set_option maxRecDepth 8000
def pc:Nat -> Nat -> Nat
 | 0,_=>0
 | k + 1,x=>x % 2 + pc k (x / 2)
theorem nX:∀ (k x:Nat),pc k (x % 2 ^ k) = pc k x
 | 0,_=>rfl
 | k + 1,x=>by
  have e1:x % 2 ^ (k + 1) % 2 = x % 2:=by rw [Nat.pow_succ,Nat.mul_comm,Nat.mod_mul_right_mod]
  have e2:x % 2 ^ (k + 1) / 2 = x / 2 % 2 ^ k:=by rw [Nat.pow_succ,Nat.mul_comm,Nat.mod_mul_right_div_self]
  rw [pc,pc,e1,e2,nX k]
theorem cH:∀ (a k x:Nat),pc (a + k) x = pc a x + pc k (x / 2 ^ a)
 | 0,k,x=>by simp [pc]
 | a + 1,k,x=>by
  rw [show a + 1 + k = (a + k) + 1 by omega,pc,pc,cH a k (x / 2),Nat.div_div_eq_div_mul,Nat.pow_succ,Nat.mul_comm 2]
  omega
theorem eY:∀ (k x:Nat),pc k x <= k
 | 0,_=>Nat.le_refl _
 | k + 1,x=>by rw [pc]; have:=eY k (x / 2); omega
/-! ### Bytes -/
def mk8 (c:Nat):Nat -> Nat
 | 0=>0
 | k + 1=>c + 256 * mk8 c k
def by8 (f:Nat -> Nat):Nat -> Nat -> Nat
 | 0,_=>0
 | k + 1,x=>f (x % 256) + 256 * by8 f k (x / 256)
theorem dm {c:Nat} (hc:c < 256) (k x:Nat):x &&& mk8 c (k + 1) = (x % 256 &&& c) + 256 * (x / 256 &&& mk8 c k):=by
 have e1:mk8 c (k + 1) % 2 ^ 8 = c:=by rw [mk8]; omega
 have e2:mk8 c (k + 1) / 2 ^ 8 = mk8 c k:=by rw [mk8]; omega
 have h1:=Nat.and_mod_two_pow (a:=x) (b:=mk8 c (k + 1)) (n:=8)
 have h2:=Nat.and_div_two_pow (a:=x) (b:=mk8 c (k + 1)) (n:=8)
 rw [e1] at h1
 rw [e2] at h2
 have:=Nat.mod_add_div (x &&& mk8 c (k + 1)) (2 ^ 8)
 rw [h1,h2] at this
 exact this.symm
theorem tabA:∀ b,b < 256 -> ∀ e,e < 2 -> (b / 2 + 128 * e) &&& 85 = b / 2 &&& 85:=by decide +kernel
theorem tabB:∀ b,b < 256 -> ∀ e,e < 4 -> (b / 4 + 64 * e) &&& 51 = b / 4 &&& 51:=by decide +kernel
def fA (b:Nat):Nat:=(b / 2 &&& 85) + (b &&& 85)
def fB (b:Nat):Nat:=(b / 4 &&& 51) + (b &&& 51)
def fC (b:Nat):Nat:=(b / 16 + b) &&& 15
theorem swA:∀ (k x:Nat),(x / 2 &&& mk8 85 k) + (x &&& mk8 85 k) = by8 fA k x
 | 0,x=>by simp [mk8,by8]
 | k + 1,x=>by
  rw [dm (by decide),dm (by decide),by8,<- swA k (x / 256)]
  have e1:x / 2 / 256 = x / 256 / 2:=by omega
  have e2:x / 2 % 256 = x % 256 / 2 + 128 * (x / 256 % 2):=by omega
  rw [e1,e2,tabA _ (by omega) _ (by omega),fA]
  omega
theorem swB:∀ (k x:Nat),(x / 4 &&& mk8 51 k) + (x &&& mk8 51 k) = by8 fB k x
 | 0,x=>by simp [mk8,by8]
 | k + 1,x=>by
  rw [dm (by decide),dm (by decide),by8,<- swB k (x / 256)]
  have e1:x / 4 / 256 = x / 256 / 4:=by omega
  have e2:x / 4 % 256 = x % 256 / 4 + 64 * (x / 256 % 4):=by omega
  rw [e1,e2,tabB _ (by omega) _ (by omega),fB]
  omega
theorem tabC:∀ b,b < 69 -> ∀ e,e < 5 -> (b / 16 + b + 16 * e) &&& 15 = (b / 16 + b) &&& 15:=by decide +kernel
theorem swC {g:Nat -> Nat} (hg:∀ b,b < 256 -> g b < 69/\g b % 16 < 5):∀ (k x:Nat),(by8 g k x / 16 + by8 g k x) &&& mk8 15 k = by8 (fun b=>fC (g b)) k x
 | 0,x=>by simp [mk8,by8]
 | k + 1,x=>by
  rw [dm (by decide)]
  have h0:=hg (x % 256) (by omega)
  have ih:=swC hg k (x / 256)
  have hb:by8 g (k + 1) x = g (x % 256) + 256 * by8 g k (x / 256):=rfl
  have he:by8 g k (x / 256) % 16 < 5:=by
   cases k with
   | zero=>simp [by8]
   | succ k=>have:=hg (x / 256 % 256) (by omega); rw [by8]; omega
  rw [hb]
  generalize by8 g k (x / 256) = y at *
  have e1:((g (x % 256) + 256 * y) / 16 + (g (x % 256) + 256 * y)) % 256 = g (x % 256) / 16 + g (x % 256) + 16 * (y % 16):=by omega
  have e2:((g (x % 256) + 256 * y) / 16 + (g (x % 256) + 256 * y)) / 256 = y / 16 + y:=by omega
  rw [e1,e2,ih,tabC _ h0.1 _ he,by8,fC]
theorem hH {f g:Nat -> Nat} (hg:∀ b,b < 256 -> g b < 256):∀ (k x:Nat),by8 f k (by8 g k x) = by8 (fun b=>f (g b)) k x
 | 0,_=>rfl
 | k + 1,x=>by
  have h0:=hg (x % 256) (by omega)
  rw [by8,by8,by8]
  have e1:(g (x % 256) + 256 * by8 g k (x / 256)) % 256 = g (x % 256):=by omega
  have e2:(g (x % 256) + 256 * by8 g k (x / 256)) / 256 = by8 g k (x / 256):=by omega
  rw [e1,e2,hH hg k]
theorem mI:∀ b,b < 256 -> fA b < 256/\fB (fA b) < 69/\fB (fA b) % 16 < 5/\fC (fB (fA b)) = pc 8 b:=by decide +kernel
theorem nP {f g:Nat -> Nat} (h:∀ b,b < 256 -> f b = g b):∀ (k x:Nat),by8 f k x = by8 g k x
 | 0,_=>rfl
 | k + 1,x=>by rw [by8,by8,h _ (by omega),nP h k]
theorem swar (x:Nat):(by8 fB 8 (by8 fA 8 x) / 16 + by8 fB 8 (by8 fA 8 x)) &&& mk8 15 8 = by8 (pc 8) 8 x:=by
 rw [hH (fun b hb=>(mI b hb).1),swC fun b hb=>⟨(mI b hb).2.1,(mI b hb).2.2.1⟩]
 exact nP (fun b hb=>(mI b hb).2.2.2) 8 x
theorem pc8 (x:Nat):pc 8 (x % 256) = pc 8 x:=nX 8 x
theorem pc64 (x:Nat):pc 64 x = pc 8 (x % 256) + pc 8 (x / 256 % 256) + pc 8 (x / 65536 % 256) + pc 8 (x / 16777216 % 256) + pc 8 (x / 4294967296 % 256) + pc 8 (x / 1099511627776 % 256) + pc 8 (x / 281474976710656 % 256) + pc 8 (x / 72057594037927936 % 256):=by
 simp only [pc8]
 rw [show (64:Nat) = 8 + (8 + (8 + (8 + (8 + (8 + (8 + 8)))))) from rfl,cH,cH,cH,cH,cH,cH,cH]
 simp only [Nat.div_div_eq_div_mul,Nat.reducePow,Nat.reduceMul]
 omega
theorem sdv1 {a c:Nat} (h:a < 256):(a + 256 * c) / 256 = c:=by omega
theorem dv2 {a b c:Nat} (h:a + 256 * b < 65536):(a + 256 * (b + 256 * c)) / 65536 = c:=by omega
theorem dv4 {a b c d e:Nat} (h:a + 256 * b + 65536 * c + 16777216 * d < 4294967296):(a + 256 * (b + 256 * (c + 256 * (d + 256 * e)))) / 4294967296 = e:=by omega
theorem md1 {a b c d:Nat} (h:a + c < 128):((a + 256 * b) + (c + 256 * d)) % 128 = a + c:=by omega
theorem le1 {a t B:Nat} (ha:a <= 8) (ht:t <= B):a + 256 * t <= 8 + 256 * B:=by omega
theorem fold8 (p0 p1 p2 p3 p4 p5 p6 p7:Nat) (b0:p0 <= 8) (b1:p1 <= 8) (b2:p2 <= 8) (b3:p3 <= 8) (b4:p4 <= 8) (b5:p5 <= 8) (b6:p6 <= 8) (b7:p7 <= 8) {y z v:Nat} (hy:y = p0 + 256 * (p1 + 256 * (p2 + 256 * (p3 + 256 * (p4 + 256 * (p5 + 256 * (p6 + 256 * (p7 + 256 * 0)))))))) (hz:z = y + y / 256) (hv:v = z + z / 65536):y <= 578721382704613384/\(v + v / 4294967296) % 128 = p0 + p1 + p2 + p3 + p4 + p5 + p6 + p7:=by
 refine ⟨by rw [hy]; exact le1 b0 (le1 b1 (le1 b2 (le1 b3 (le1 b4 (le1 b5 (le1 b6 (le1 b7 (Nat.le_refl 0)))))))),?_⟩
 have e1:y / 256 = p1 + 256 * (p2 + 256 * (p3 + 256 * (p4 + 256 * (p5 + 256 * (p6 + 256 * (p7 + 256 * 0)))))):=by rw [hy]; exact sdv1 (by omega)
 have ez:z = (p0 + p1) + 256 * ((p1 + p2) + 256 * ((p2 + p3) + 256 * ((p3 + p4) + 256 * ((p4 + p5) + 256 * ((p5 + p6) + 256 * ((p6 + p7) + 256 * p7)))))):=by rw [hz,e1,hy]; clear hz e1 hy; omega
 clear hy e1 hz
 have e2:z / 65536 = (p2 + p3) + 256 * ((p3 + p4) + 256 * ((p4 + p5) + 256 * ((p5 + p6) + 256 * ((p6 + p7) + 256 * p7)))):=by rw [ez]; exact dv2 (by omega)
 have ev:v = (p0 + p1 + p2 + p3) + 256 * ((p1 + p2 + p3 + p4) + 256 * ((p2 + p3 + p4 + p5) + 256 * ((p3 + p4 + p5 + p6) + 256 * ((p4 + p5 + p6 + p7) + 256 * ((p5 + p6 + p7) + 256 * ((p6 + p7) + 256 * p7)))))):=by rw [hv,e2,ez]; clear hv e2 ez; omega
 clear hv e2 ez
 have e3:v / 4294967296 = (p4 + p5 + p6 + p7) + 256 * ((p5 + p6 + p7) + 256 * ((p6 + p7) + 256 * p7)):=by rw [ev]; exact dv4 (by omega)
 rw [e3,ev,md1 (by omega)]
 omega
theorem fold64 (x:Nat):∃ y,y = by8 (pc 8) 8 x/\y < 18446744073709551616/\y + y / 256 < 18446744073709551616/\(y + y / 256) + (y + y / 256) / 65536 < 18446744073709551616/\((y + y / 256) + (y + y / 256) / 65536) + ((y + y / 256) + (y + y / 256) / 65536) / 4294967296 < 9223372036854775808/\(((y + y / 256) + (y + y / 256) / 65536) + ((y + y / 256) + (y + y / 256) / 65536) / 4294967296) % 128 = pc 64 x:=by
 refine ⟨_,rfl,?_⟩
 rw [pc64]
 have hy:by8 (pc 8) 8 x = pc 8 (x % 256) + 256 * (pc 8 (x / 256 % 256) + 256 * (pc 8 (x / 65536 % 256) + 256 * (pc 8 (x / 16777216 % 256) + 256 * (pc 8 (x / 4294967296 % 256) + 256 * (pc 8 (x / 1099511627776 % 256) + 256 * (pc 8 (x / 281474976710656 % 256) + 256 * (pc 8 (x / 72057594037927936 % 256) + 256 * 0))))))):=by
  simp only [by8,Nat.div_div_eq_div_mul,Nat.reduceMul]
 obtain ⟨h1,h2⟩:=fold8 _ _ _ _ _ _ _ _ (eY 8 _) (eY 8 _) (eY 8 _) (eY 8 _) (eY 8 _) (eY 8 _) (eY 8 _) (eY 8 _) hy rfl rfl
 rw [h2]
 clear h2 hy
 generalize by8 (pc 8) 8 x = y at *
 refine ⟨by omega,by omega,by omega,by omega,rfl⟩
def rp8:Nat -> Nat
 | 0=>0
 | k + 1=>1 + 256 * rp8 k
theorem jy {f:Nat -> Nat} {c:Nat} (h:∀ b,b < 256 -> f b <= c):∀ (k x:Nat),by8 f k x <= c * rp8 k
 | 0,_=>Nat.zero_le _
 | k + 1,x=>by
  have h1:=h (x % 256) (by omega)
  have h2:=jy h k (x / 256)
  have e:c * rp8 (k + 1) = c + 256 * (c * rp8 k):=by rw [rp8,Nat.mul_add,Nat.mul_one,Nat.mul_left_comm]
  rw [by8,e]; omega
theorem oG:∀ b,b < 256 -> fA b <= 170/\fB b <= 102:=by decide +kernel
/-! ### Masks -/
end Go.Proofs.YtfccehcnajelgaaGreatDoor
namespace Go.Proofs.YtfccehcnajelgaaGreatDoor
open Go
set_option maxRecDepth 8000
theorem bA (u:UInt64) {k:Nat} (h:k < 64):(shrU u k).toNat = u.toNat / 2 ^ k:=by
 unfold shrU
 rw [if_pos h]
 exact UInt64.toNat_ofNat_of_lt' (Nat.lt_of_le_of_lt (Nat.div_le_self _ _) u.toNat_lt)
theorem andI127 (w:Nat) (h:w < 9223372036854775808):andI (w:Int) 127 = ((w % 128:Nat):Int):=by
 unfold andI
 have e:(BitVec.ofInt 64 (w:Int) &&& BitVec.ofInt 64 127).toNat = w % 128:=by
  rw [BitVec.toNat_and]
  have h1:(BitVec.ofInt 64 (w:Int)).toNat = w:=by
   rw [BitVec.toNat_ofInt]; omega
  rw [h1,show (BitVec.ofInt 64 127).toNat = 2 ^ 7 - 1 from rfl,Nat.and_two_pow_sub_one_eq_mod]
 rw [e]
 exact IntWalk.i64_in _ (by omega)
theorem ones_ok (n:Nat) (u:UInt64):aT_p n u = some ((pc 64 u.toNat:Nat):Int):=by
 unfold aT_p
 have hu:=u.toNat_lt
 have e1:(((shrU u 1) &&& (6148914691236517205:UInt64)) + (u &&& (6148914691236517205:UInt64))).toNat = by8 fA 8 u.toNat:=by
  rw [UInt64.toNat_add,UInt64.toNat_and,UInt64.toNat_and,bA u (by decide),show (6148914691236517205:UInt64).toNat = mk8 85 8 from rfl,Nat.pow_one,swA]
  have:=jy (fun b hb=>(oG b hb).1) 8 u.toNat
  exact Nat.mod_eq_of_lt (Nat.lt_of_le_of_lt this (by decide))
 generalize ((shrU u 1) &&& (6148914691236517205:UInt64)) + (u &&& (6148914691236517205:UInt64)) = u1 at *
 rw [aa]
 have e2:(((shrU u1 2) &&& (3689348814741910323:UInt64)) + (u1 &&& (3689348814741910323:UInt64))).toNat = by8 fB 8 (by8 fA 8 u.toNat):=by
  rw [UInt64.toNat_add,UInt64.toNat_and,UInt64.toNat_and,bA u1 (by decide),show (3689348814741910323:UInt64).toNat = mk8 51 8 from rfl,e1,show (2:Nat) ^ 2 = 4 from rfl,swB]
  have:=jy (fun b hb=>(oG b hb).2) 8 (by8 fA 8 u.toNat)
  exact Nat.mod_eq_of_lt (Nat.lt_of_le_of_lt this (by decide))
 generalize ((shrU u1 2) &&& (3689348814741910323:UInt64)) + (u1 &&& (3689348814741910323:UInt64)) = u2 at *
 rw [aa]
 have hb2:u2.toNat <= 68 * 72340172838076673:=by
  rw [e2,hH (fun b hb=>(mI b hb).1)]
  exact jy (fun b hb=>by have:=(mI b hb).2.1; omega) 8 u.toNat
 have e3:(((shrU u2 4) + u2) &&& (1085102592571150095:UInt64)).toNat = by8 (pc 8) 8 u.toNat:=by
  rw [UInt64.toNat_and,UInt64.toNat_add,bA u2 (by decide),show (1085102592571150095:UInt64).toNat = mk8 15 8 from rfl,show (2:Nat) ^ 4 = 16 from rfl,Nat.mod_eq_of_lt (by omega),e2,swar]
 generalize ((shrU u2 4) + u2) &&& (1085102592571150095:UInt64) = u3 at *
 obtain ⟨y,hy,b1,b2,b3,b4,b5⟩:=fold64 u.toNat
 rw [<- e3] at hy
 have e4:(u3 + shrU u3 8).toNat = y + y / 256:=by
  rw [UInt64.toNat_add,bA u3 (by decide),<- hy,show (2:Nat) ^ 8 = 256 from rfl]
  exact Nat.mod_eq_of_lt b2
 generalize hu4:u3 + shrU u3 8 = u4 at *
 have e5:(u4 + shrU u4 16).toNat = (y + y / 256) + (y + y / 256) / 65536:=by
  rw [UInt64.toNat_add,bA u4 (by decide),e4,show (2:Nat) ^ 16 = 65536 from rfl]
  exact Nat.mod_eq_of_lt b3
 have e6:((u4 + shrU u4 16) + shrU (u4 + shrU u4 16) 32).toNat = ((y + y / 256) + (y + y / 256) / 65536) + ((y + y / 256) + (y + y / 256) / 65536) / 4294967296:=by
  rw [UInt64.toNat_add,bA _ (by decide),e5,show (2:Nat) ^ 32 = 4294967296 from rfl]
  exact Nat.mod_eq_of_lt (by omega)
 rw [aa]
 generalize (u4 + shrU u4 16) + shrU (u4 + shrU u4 16) 32 = u6 at *
 unfold az
 rw [if_pos (by omega),andI127 _ (by omega),e6,b5]
theorem works27:cN_p FU = some true:=by kernel_rfl
end Go.Proofs.YtfccehcnajelgaaGreatDoor
namespace Go.Proofs.YtfccehcnajelgaaGreatDoor
open Go
set_option maxRecDepth 8000
theorem jx {α β:Type} (x:β) (K:β -> Option α):thn (some (Sum.inr x)) K = K x:=rfl
def NmB (s:ByteArray):Prop:=∀ (i:Nat) (h:i < s.data.size),32 <= s.data[i].toNat/\s.data[i].toNat <= 126
theorem sidx_ok {s:ByteArray} {i:Nat} (h:i < s.data.size):fV s (i:Int) = some s.data[i]:=by
 unfold fV
 rw [if_pos (by omega),Int.toNat_natCast,Array.getElem?_eq_getElem h]
theorem gY (c:Ta) (hs:c.ft.size <= 1000):∃ y,ah (bW_l1 FU c) FU 0 = some y/\(y = .inr ()/\NmB c.ft ∨ y = .inl false/\¬ NmB c.ft):=by
 have hF:=aO
 have hsz:c.ft.size = c.ft.data.size:=rfl
 refine aj (B:=bW_l1 FU c) (fun z:Int=>c.ft.size - z.toNat) (fun z=>0 <= z/\z <= c.ft.size/\∀ (i:Nat) (h:i < c.ft.data.size),(i:Int) < z -> 32 <= c.ft.data[i].toNat/\c.ft.data[i].toNat <= 126) _ ?_ FU 0 ⟨by omega,by omega,fun i _ h=>by omega⟩ (by omega)
 rintro z J ⟨z0,z1,z2⟩ hJ
 obtain ⟨i,rfl⟩:∃ i:Nat,z = (i:Int):=⟨z.toNat,by omega⟩
 unfold bW_l1
 simp only
 by_cases hi:(i:Int) < c.ft.size
 ·have hi2:i < c.ft.data.size:=by omega
  rw [if_pos (by omega),sidx_ok hi2,aa]
  by_cases c1:c.ft.data[i].toNat < 32
  ·rw [if_pos c1]; exact ⟨_,rfl,.inr ⟨rfl,fun h=>by have:=h i hi2; omega⟩⟩
  ·rw [if_neg c1,aa]
   by_cases c2:126 < c.ft.data[i].toNat
   ·rw [if_pos c2]; exact ⟨_,rfl,.inr ⟨rfl,fun h=>by have:=h i hi2; omega⟩⟩
   ·rw [if_neg c2,aH (by omega) (by omega),aa]
    refine hJ _ ⟨by omega,by omega,fun j hj hjz=>?_⟩ (by omega)
    by_cases e:j = i
    ·subst e; omega
    ·exact z2 j hj (by omega)
 ·rw [if_neg (by omega)]
  exact ⟨_,rfl,.inl ⟨rfl,fun j hj=>z2 j hj (by omega)⟩⟩
theorem lw (s:ByteArray) (hs:s.size <= 1000):∃ y,ah (bG_l1 FU s) FU 0 = some y/\(y = .inr ()/\NmB s ∨ y = .inl false/\¬ NmB s):=
 gY ⟨s,0,0⟩ hs
def CV (n:Int) (c:Ta):Prop:=(NmB c.ft/\1 <= c.ft.size/\c.ft.size <= 24)/\0 <= c.fE/\c.fE <= 1000/\c.fm ≠ 0/\(bln c.fm.toNat:Int) <= n
theorem iF (s:ByteArray):s = ⟨#[]⟩ ↔ s.size = 0:=by
 constructor
 ·rintro rfl; rfl
 ·intro h
  cases s with
  | mk d=>exact congrArg ByteArray.mk (Array.eq_empty_of_size_eq_zero h)
open Classical in
theorem mV (n:Int) (c:Ta) (hs:c.ft.size <= 1000):bW_p FU c n = some (decide (CV n c)):=by
 obtain ⟨y,e,hy⟩:=gY c hs
 unfold bW_p
 rw [e]
 rcases hy with ⟨rfl,h⟩ | ⟨rfl,h⟩
 ·show (if c.ft = ⟨#[]⟩ then some false else _) = _
  by_cases h1:c.ft = ⟨#[]⟩
  ·rw [if_pos h1,decide_eq_false fun hc=>by have:=(iF _).1 h1; have:=hc.1.2.1; omega]
  have h1' : 1 <= c.ft.size:=Nat.pos_of_ne_zero fun e=>h1 ((iF _).2 e)
  rw [if_neg h1]
  by_cases h2:c.ft.size <= 24
  ·rw [if_pos h2]
   by_cases h3:0 <= c.fE
   ·rw [if_pos h3]
    by_cases h4:c.fE <= 1000
    ·rw [if_pos h4]
     by_cases h5:c.fm = 0
     ·rw [if_pos h5,decide_eq_false fun hc=>hc.2.2.2.1 h5]
     ·rw [if_neg h5,ku,aa]
      exact congrArg some (decide_eq_decide.2 ⟨fun h6=>⟨⟨h,h1', h2⟩,h3,h4,h5,h6⟩,fun hc=>hc.2.2.2.2⟩)
    ·rw [if_neg h4,decide_eq_false fun hc=>h4 hc.2.2.1]
   ·rw [if_neg h3,decide_eq_false fun hc=>h3 hc.2.1]
  ·rw [if_neg h2,decide_eq_false fun hc=>h2 hc.1.2.2]
 ·show some false = _
  rw [decide_eq_false fun hc=>h hc.1.1]
open Classical in
theorem na (s:ByteArray) (hs:s.size <= 1000):bG_p FU s = some (decide (NmB s/\1 <= s.size/\s.size <= 24)):=by
 obtain ⟨y,e,hy⟩:=lw s hs
 unfold bG_p
 rw [e]
 rcases hy with ⟨rfl,h⟩ | ⟨rfl,h⟩
 ·show (if 1 <= s.size then some (decide (s.size <= 24)) else some false) = _
  by_cases h1:1 <= s.size
  ·rw [if_pos h1]; exact congrArg some (decide_eq_decide.2 ⟨fun h2=>⟨h,h1,h2⟩,fun hc=>hc.2.2⟩)
  ·rw [if_neg h1,decide_eq_false fun hc=>h1 hc.2.1]
 ·show some false = _
  rw [decide_eq_false fun hc=>h hc.1]
theorem ov (u:UInt64) (k:Nat) (hk:k < 64):bM_p FU u (k:Int) = some (decide (u.toNat / 2 ^ k % 2 = 1)):=by
 unfold bM_p aT
 rw [if_pos (by omega),aa,Int.toNat_natCast]
 refine congrArg some (decide_eq_decide.2 ?_)
 rw [<- UInt64.toNat_inj,UInt64.toNat_mod,bA u hk]
 rfl
theorem mp {x n:Nat}:∀ (d:Nat),x < 2 ^ (n + d) -> (∀ k,n <= k -> k < n + d -> ¬ x / 2 ^ k % 2 = 1) -> x < 2 ^ n
 | 0,h,_=>h
 | d + 1,h,hb=>by
  refine mp d ?_ fun k k1 k2=>hb k k1 (by omega)
  have h1:=hb (n + d) (by omega) (by omega)
  have hp:=Nat.two_pow_pos (n + d)
  have h2:x / 2 ^ (n + d) < 2:=(Nat.div_lt_iff_lt_mul hp).2 (by rw [Nat.mul_comm,<- Nat.pow_succ]; exact h)
  have h3:x / 2 ^ (n + d) = 0:=(show ∀ q,q < 2 -> ¬ q % 2 = 1 -> q = 0 by omega) _ h2 h1
  exact (Nat.div_eq_zero_iff_lt hp).1 h3
theorem jO (c:Ta) {n:Int} (h1:1 <= n) (h2:n <= 64):∃ y,ah (ah_l2 FU c) FU n = some y/\(y = .inr ()/\(bln c.fm.toNat:Int) <= n ∨ y = .inl (.inl 270)/\¬ (bln c.fm.toNat:Int) <= n):=by
 have hF:=aO
 have hu:=c.fm.toNat_lt
 refine aj (B:=ah_l2 FU c) (fun z:Int=>64 - z.toNat) (fun z=>n <= z/\z <= 64/\∀ k:Nat,n <= k -> (k:Int) < z -> ¬ c.fm.toNat / 2 ^ k % 2 = 1) _ ?_ FU n ⟨by omega,by omega,fun k _ h=>by omega⟩ (by omega)
 rintro z J ⟨z0,z1,z2⟩ hJ
 obtain ⟨i,rfl⟩:∃ i:Nat,z = (i:Int):=⟨z.toNat,by omega⟩
 unfold ah_l2
 simp only
 by_cases hi:(i:Int) < 64
 ·rw [if_pos hi,ov _ _ (by omega),aa]
  by_cases hb:c.fm.toNat / 2 ^ i % 2 = 1
  ·rw [if_pos (decide_eq_true hb)]
   refine ⟨_,rfl,.inr ⟨rfl,fun hc=>?_⟩⟩
   have h3:=fO c.fm.toNat
   have h4:c.fm.toNat < 2 ^ i:=Nat.lt_of_lt_of_le h3 (Nat.pow_le_pow_right (by decide) (by omega))
   rw [Nat.div_eq_of_lt h4] at hb
   cases hb
  ·rw [if_neg (by simpa using hb),aH (by omega) (by omega),aa]
   refine hJ _ ⟨by omega,by omega,fun k k1 k2=>?_⟩ (by omega)
   by_cases e:k = i
   ·subst e; exact hb
   ·exact z2 k k1 (by omega)
 ·rw [if_neg hi]
  refine ⟨_,rfl,.inl ⟨rfl,?_⟩⟩
  have:=mp (x:=c.fm.toNat) (n:=n.toNat) (64 - n.toNat) (by rw [show n.toNat + (64 - n.toNat) = 64 by omega]; exact hu) fun k k1 k2=>z2 k (by omega) (by omega)
  have:=bZ this
  omega
structure IV (n:Int) (l:List Ta):Prop where
 u:∀ i (h:i < l.length),CV n l[i]
 d:∀ i (h:i < l.length) j (h' : j < i),l[j].ft ≠ l[i].ft
open Classical in
theorem mt (n:Int) (l:List Ta) (hs:∀ c ∈ l,c.ft.size <= 1000):a9_p FU n l = some (if n < 1 then 2 else if 64 < n then 2 else if 20 < l.length then 3 else if IV n l then 0 else 270):=by
 have hF:=aO
 unfold a9_p
 by_cases c1:n < 1
 ·rw [if_pos c1,if_pos c1]
 by_cases c2:64 < n
 ·rw [if_neg c1,if_neg c1,if_pos c2,if_pos c2]
 by_cases c3:20 < l.length
 ·rw [if_neg c1,if_neg c1,if_neg c2,if_neg c2,if_pos c3,if_pos c3]
 rw [if_neg c1,if_neg c1,if_neg c2,if_neg c2,if_neg c3,if_neg c3]
 have hh:=aj (B:=a9_l1 FU l n) (fun s:Nat × List (ByteArray × Bool)=>l.length - s.1)
  (fun s=>s.1 <= l.length/\(∀ x,aB s.2 x false = true ↔ ∃ j,∃ hj:j < l.length,j < s.1/\l[j].ft = x)/\(∀ i (h:i < l.length),i < s.1 -> CV n l[i])/\(∀ i (h:i < l.length) j (h' : j < i),i < s.1 -> l[j].ft ≠ l[i].ft))
  (fun y=>y = .inr ()/\IV n l ∨ y = .inl 270/\¬ IV n l) ?_ FU (0,[]) ⟨Nat.zero_le _,fun x=>⟨fun hx=>by simp [aB,hZ] at hx,fun ⟨j,_,hj,_⟩=>by simp at hj⟩,fun i _ hi=>by simp at hi,fun i _ j _ hi=>by simp at hi⟩ (by simp only; omega)
 ·obtain ⟨y,e,hy⟩:=hh
  rw [e]
  rcases hy with ⟨rfl,hv⟩ | ⟨rfl,hv⟩
  ·rw [if_pos hv]; rfl
  ·rw [if_neg hv]; rfl
 ·rintro ⟨i,D⟩ J ⟨a1,a2,a3,a4⟩ hJ
  simp only at a1 a2 a3 a4 hJ
  unfold a9_l1
  simp only
  by_cases hi:i < l.length
  ·rw [if_pos hi,geE hi,aa]
   by_cases hd:aB D l[i].ft false = true
   ·rw [if_pos hd]
    obtain ⟨j,hj,hji,e⟩:=(a2 _).1 hd
    exact ⟨_,rfl,.inr ⟨rfl,fun hc=>hc.d i hi j hji e⟩⟩
   ·rw [if_neg hd,mV n _ (hs _ (List.getElem_mem _)),aa]
    by_cases hv:CV n l[i]
    ·rw [if_pos (decide_eq_true hv)]
     refine hJ _ ⟨hi,fun x=>?_,fun k hk hki=>?_,fun k hk j hj hki=>?_⟩ (by simp only; omega)
     ·simp only
      unfold aB
      rw [fR]
      by_cases e:x = l[i].ft
      ·rw [if_pos e]
       exact ⟨fun _=>⟨i,hi,by omega,e.symm⟩,fun _=>rfl⟩
      ·rw [if_neg e]
       have:=a2 x
       unfold aB at this
       rw [this]
       exact ⟨fun ⟨j,h1,h2,h3⟩=>⟨j,h1,by omega,h3⟩,fun ⟨j,h1,h2,h3⟩=>⟨j,h1,by
        have:j ≠ i:=fun e2=>by subst e2; exact e h3.symm
        omega,h3⟩⟩
     ·by_cases e:k = i
      ·subst e; exact hv
      ·exact a3 k hk (by simp only at hki; omega)
     ·by_cases e:k = i
      ·subst e
       exact fun e2=>hd ((a2 _).2 ⟨j,by omega,hj,e2⟩)
      ·exact a4 k hk j hj (by simp only at hki; omega)
    ·rw [if_neg (by simpa using hv)]
     exact ⟨_,rfl,.inr ⟨rfl,fun hc=>hv (hc.u i hi)⟩⟩
  ·rw [if_neg hi]
   exact ⟨_,rfl,.inl ⟨rfl,fun k hk=>a3 k hk (by omega),fun k hk j hj=>a4 k hk j hj (by omega)⟩⟩
theorem kK (l:List Ta) (i:Nat) (hi:i < l.length) (hl:l.length <= 1000):∃ y,ah (ah_l1 FU i l l[i]) FU 0 = some y/\(y = .inr ()/\(∀ j (h' : j < i),l[j].ft ≠ l[i].ft) ∨ y = .inl (.inl 270)/\¬ ∀ j (h' : j < i),l[j].ft ≠ l[i].ft):=by
 have hF:=aO
 refine aj (B:=ah_l1 FU i l l[i]) (fun j:Nat=>i - j) (fun k=>k <= i/\∀ j (h' : j < i),j < k -> l[j].ft ≠ l[i].ft) _ ?_ FU 0 ⟨Nat.zero_le _,fun j _ h=>by omega⟩ (by omega)
 rintro k J ⟨k1,k2⟩ hJ
 unfold ah_l1
 simp only
 by_cases hk:k < i
 ·rw [if_pos hk,geE (by omega),aa]
  by_cases e:l[k].ft = l[i].ft
  ·rw [if_pos e]; exact ⟨_,rfl,.inr ⟨rfl,fun hc=>hc k hk e⟩⟩
  ·rw [if_neg e]
   refine hJ _ ⟨hk,fun j hj hjk=>?_⟩ (by omega)
   by_cases e2:j = k
   ·subst e2; exact e
   ·exact k2 j hj (by omega)
 ·rw [if_neg hk]
  exact ⟨_,rfl,.inl ⟨rfl,fun j hj=>k2 j hj (by omega)⟩⟩
open Classical in
theorem ld (n:Int) (l:List Ta) (hs:∀ c ∈ l,c.ft.size <= 1000):ah_p FU n l = some (if n < 1 then 2 else if 64 < n then 2 else if 20 < l.length then 3 else if IV n l then 0 else 270):=by
 have hF:=aO
 unfold ah_p
 by_cases c1:n < 1
 ·rw [if_pos c1,if_pos c1]
 by_cases c2:64 < n
 ·rw [if_neg c1,if_neg c1,if_pos c2,if_pos c2]
 by_cases c3:20 < l.length
 ·rw [if_neg c1,if_neg c1,if_neg c2,if_neg c2,if_pos c3,if_pos c3]
 rw [if_neg c1,if_neg c1,if_neg c2,if_neg c2,if_neg c3,if_neg c3]
 have hh:=aj (B:=ah_l3 FU l n) (fun i:Nat=>l.length - i)
  (fun k=>k <= l.length/\(∀ i (h:i < l.length),i < k -> CV n l[i])/\(∀ i (h:i < l.length) j (h' : j < i),i < k -> l[j].ft ≠ l[i].ft))
  (fun y=>y = .inr ()/\IV n l ∨ y = .inl 270/\¬ IV n l) ?_ FU 0 ⟨Nat.zero_le _,fun i _ hi=>by omega,fun i _ j _ hi=>by omega⟩ (by omega)
 ·obtain ⟨y,e,hy⟩:=hh
  rw [e]
  rcases hy with ⟨rfl,hv⟩ | ⟨rfl,hv⟩
  ·rw [if_pos hv]; rfl
  ·rw [if_neg hv]; rfl
 ·rintro i J ⟨a1,a3,a4⟩ hJ
  unfold ah_l3
  simp only
  by_cases hi:i < l.length
  ·rw [if_pos hi,geE hi,aa,na _ (hs _ (List.getElem_mem _)),aa]
   by_cases h1:NmB l[i].ft/\1 <= l[i].ft.size/\l[i].ft.size <= 24
   ·rw [if_pos (decide_eq_true h1)]
    by_cases h2:l[i].fE < 0
    ·rw [if_pos h2]; exact ⟨_,rfl,.inr ⟨rfl,fun hc=>by have:=(hc.u i hi).2.1; omega⟩⟩
    rw [if_neg h2]
    by_cases h3:1000 < l[i].fE
    ·rw [if_pos h3]; exact ⟨_,rfl,.inr ⟨rfl,fun hc=>by have:=(hc.u i hi).2.2.1; omega⟩⟩
    rw [if_neg h3]
    by_cases h4:l[i].fm = 0
    ·rw [if_pos h4]; exact ⟨_,rfl,.inr ⟨rfl,fun hc=>(hc.u i hi).2.2.2.1 h4⟩⟩
    rw [if_neg h4]
    obtain ⟨y,e,hy⟩:=jO l[i] (n:=n) (by omega) (by omega)
    rw [e]
    rcases hy with ⟨rfl,hb⟩ | ⟨rfl,hb⟩
    ·obtain ⟨y,e,hy⟩:=kK l i hi (by omega)
     rw [jx,e]
     rcases hy with ⟨rfl,hd⟩ | ⟨rfl,hd⟩
     ·rw [jx]
      refine hJ _ ⟨hi,fun k hk hki=>?_,fun k hk j hj hki=>?_⟩ (by omega)
      ·by_cases e:k = i
       ·subst e; exact ⟨h1,by omega,by omega,h4,hb⟩
       ·exact a3 k hk (by omega)
      ·by_cases e:k = i
       ·subst e; exact hd j hj
       ·exact a4 k hk j hj (by omega)
     ·exact ⟨_,rfl,.inr ⟨rfl,fun hc=>hd fun j hj=>hc.d i hi j hj⟩⟩
    ·exact ⟨_,rfl,.inr ⟨rfl,fun hc=>hb (hc.u i hi).2.2.2.2⟩⟩
   ·rw [if_neg (by simpa using h1)]
    exact ⟨_,rfl,.inr ⟨rfl,fun hc=>h1 (hc.u i hi).1⟩⟩
  ·rw [if_neg hi]
   exact ⟨_,rfl,.inl ⟨rfl,fun k hk=>a3 k hk (by omega),fun k hk j hj=>a4 k hk j hj (by omega)⟩⟩
end Go.Proofs.YtfccehcnajelgaaGreatDoor
namespace Go.Proofs.YtfccehcnajelgaaGreatDoor
open Go
def bit (u:UInt64) (k:Nat):Bool:=u.toNat.testBit k
theorem bit_big {u:UInt64} {k:Nat} (h:64 <= k):bit u k = false:=by
 unfold bit
 apply Nat.testBit_lt_two_pow
 exact Nat.lt_of_lt_of_le (bv u) (Nat.pow_le_pow_right (by decide) h:2 ^ 64 <= 2 ^ k)
theorem jt {u:UInt64} {k:Nat} (h:bit u k = true):k < 64:=by
 rcases Nat.lt_or_ge k 64 with h1 | h1
 ·exact h1
 ·rw [bit_big h1] at h; cases h
theorem lS {u v:UInt64} (h:∀ k,bit u k = bit v k):u = v:=by
 apply UInt64.toNat_inj.1
 exact Nat.eq_of_testBit_eq h
theorem eA (k:Nat):bit 0 k = false:=by unfold bit; simp
theorem om (u v:UInt64) (k:Nat):bit (u ||| v) k = (bit u k || bit v k):=by unfold bit; rw [UInt64.toNat_or,Nat.testBit_or]
theorem bit_and (u v:UInt64) (k:Nat):bit (u &&& v) k = (bit u k && bit v k):=by unfold bit; rw [UInt64.toNat_and,Nat.testBit_and]
theorem kD {k:Nat} (h:k < 64):(shlU 1 k).toNat = 2 ^ k:=by
 unfold shlU
 rw [if_pos h]
 rw [show (1:UInt64).toNat = 1 from rfl,Nat.one_mul]
 exact UInt64.toNat_ofNat_of_lt' (Nat.pow_lt_pow_right (by decide) h:2 ^ k < 2 ^ 64)
theorem mh {k j:Nat} (h:k < 64):bit (shlU 1 k) j = decide (j = k):=by
 unfold bit
 rw [kD h,Nat.testBit_two_pow]
 exact decide_eq_decide.2 eq_comm
theorem jK {u:UInt64} (h:u ≠ 0):∃ k,bit u k = true:=by
 apply Classical.byContradiction
 intro hn
 apply h
 apply lS
 intro k
 rw [eA]
 cases hk:bit u k with
 | false=>rfl
 | true=>exact absurd ⟨k,hk⟩ hn
def bV (u:UInt64):List Nat:=(List.range 64).filter (bit u ·)
theorem bK {u:UInt64} {k:Nat}:k ∈ bV u ↔ bit u k = true:=by
 unfold bV
 rw [List.mem_filter,List.mem_range]
 exact ⟨fun h=>h.2,fun h=>⟨jt h,h⟩⟩
theorem fP (u:UInt64):(bV u).length <= 64:=by
 unfold bV
 exact Nat.le_trans (List.length_filter_le _ _) (by simp)
theorem gN:bV 0 = []:=by
 unfold bV
 rw [List.filter_eq_nil_iff]
 intro k _
 rw [eA]; simp
def low (u:UInt64):Nat:=Lib.ctz 64 u.toNat
theorem gL {u:UInt64} (h:u ≠ 0):∃ m,u.toNat = 2 ^ low u * (2 * m + 1)/\low u < 64:=by
 have h0:u.toNat ≠ 0:=fun e=>h (UInt64.toNat_inj.1 e)
 obtain ⟨m,h1,h2⟩:=Lib.ctzFrom_spec 64 u.toNat (by omega) (bv u)
 have e:low u = Lib.ctzFrom 64 u.toNat:=by simp [low,Lib.ctz,h0]
 rw [e]
 exact ⟨m,h1,h2⟩
theorem ib {t m i:Nat} {u:UInt64} (h:u.toNat = 2 ^ t * (2 * m + 1)):bit u i = (decide (t <= i) && (2 * m + 1).testBit (i - t)):=by
 unfold bit
 rw [h,Nat.mul_comm,Nat.testBit_mul_two_pow]
theorem iQ {u:UInt64} (h:u ≠ 0):bit u (low u) = true:=by
 obtain ⟨m,h1,_⟩:=gL h
 rw [ib h1,Nat.sub_self,Nat.testBit_zero]
 simp
theorem low_lt {u:UInt64} {k:Nat} (h:u ≠ 0) (hk:k < low u):bit u k = false:=by
 obtain ⟨m,h1,_⟩:=gL h
 rw [ib h1]
 simp; omega
theorem mR {u:UInt64} (h:u ≠ 0):u &&& (-u) = shlU 1 (low u):=by
 have h0:u.toNat ≠ 0:=fun e=>h (UInt64.toNat_inj.1 e)
 obtain ⟨h1,h2⟩:=Lib.lowest_bit 64 u.toNat h0 (bv u)
 apply UInt64.toNat_inj.1
 rw [UInt64.toNat_and,kD (show low u < 64 from h2)]
 have e:(-u).toNat = 2 ^ 64 - u.toNat:=by
  rw [UInt64.toNat_neg]
  have:=bv u
  show (18446744073709551616 - u.toNat) % 18446744073709551616 = 18446744073709551616 - u.toNat
  omega
 rw [e]
 exact h1
theorem oF {u:UInt64} (h:u ≠ 0) (k:Nat):bit (u &&& (u - 1)) k = (bit u k && decide (k ≠ low u)):=by
 obtain ⟨m,h1,h2⟩:=gL h
 have e:(u - 1).toNat = u.toNat - 1:=by
  rw [UInt64.toNat_sub_of_le]
  ·rfl
  ·rw [UInt64.le_iff_toNat_le]
   have:u.toNat ≠ 0:=fun e=>h (UInt64.toNat_inj.1 e)
   show 1 <= _
   omega
 generalize ht:low u = t at *
 have hp:0 < 2 ^ t:=Nat.two_pow_pos t
 have e2:u.toNat - 1 = 2 ^ t * (2 * m) + (2 ^ t - 1):=by
  rw [h1,Nat.mul_add,Nat.mul_one]; omega
 have hb:(u - 1).toNat.testBit k = if k < t then true else (2 * m).testBit (k - t):=by
  rw [e,e2,Nat.testBit_two_pow_mul_add _ (by omega)]
  by_cases hk:k < t
  ·rw [if_pos hk,if_pos hk,Nat.testBit_two_pow_sub_one]; simp [hk]
  ·rw [if_neg hk,if_neg hk]
 rw [bit_and]
 show (bit u k && (u - 1).toNat.testBit k) = _
 rw [hb,ib h1]
 by_cases hk:k < t
 ·have:¬ t <= k:=by omega
  simp [this]
 ·rw [if_neg hk]
  by_cases hkt:k = t
  ·subst hkt; simp
  ·obtain ⟨j,rfl⟩:∃ j,k = t + (j + 1):=⟨k - t - 1,by omega⟩
   rw [show t + (j + 1) - t = j + 1 by omega,Nat.testBit_succ,Nat.testBit_succ]
   rw [show (2 * m + 1) / 2 = m by omega,show 2 * m / 2 = m by omega]
   have h3:t <= t + (j + 1):=by omega
   have h4:t + (j + 1) ≠ t:=by omega
   simp [h3]
theorem eK {p:Nat -> Bool}:∀ (l:List Nat) (t:Nat),l.Pairwise (· < ·) -> t ∈ l -> p t = true -> (∀ k,k < t -> p k = false) -> l.filter p = t :: l.filter (fun k=>p k && decide (k ≠ t))
 | [],t,_,h,_,_=>by cases h
 | x :: l,t,hp,hm,ht,hlow=>by
  have hx:=List.pairwise_cons.1 hp
  by_cases hxt:x = t
  ·subst hxt
   rw [List.filter_cons_of_pos ht,List.filter_cons_of_neg (by simp)]
   congr 1
   apply List.filter_congr
   intro k hk
   have:k ≠ x:=by have:=hx.1 k hk; omega
   simp [this]
  ·have hm' : t ∈ l:=(List.mem_cons.1 hm).resolve_left (fun e=>hxt e.symm)
   have hlt:=hx.1 t hm'
   have hpx:p x = false:=hlow x hlt
   rw [List.filter_cons_of_neg (by simp [hpx]),List.filter_cons_of_neg (by simp [hpx])]
   exact eK l t hx.2 hm' ht hlow
theorem dV {u:UInt64} (h:u ≠ 0):bV u = low u :: bV (u &&& (u - 1)):=by
 unfold bV
 rw [eK (List.range 64) (low u) List.pairwise_lt_range (List.mem_range.2 (jt (iQ h))) (iQ h) (fun k hk=>low_lt h hk)]
 congr 1
 apply List.filter_congr
 intro k _
 rw [oF h]
theorem nJ {u:UInt64} {N:Nat}:u.toNat < 2 ^ N ↔ ∀ k,bit u k = true -> k < N:=by
 constructor
 ·intro h k hk
  rcases Nat.lt_or_ge k N with h1 | h1
  ·exact h1
  ·unfold bit at hk
   rw [Nat.testBit_lt_two_pow (Nat.lt_of_lt_of_le h (Nat.pow_le_pow_right (by decide) h1))] at hk
   cases hk
 ·intro h
  apply Nat.lt_pow_two_of_testBit
  intro k hk
  cases hb:u.toNat.testBit k with
  | false=>rfl
  | true=>have:=h k hb; omega
end Go.Proofs.YtfccehcnajelgaaGreatDoor
namespace Go.Proofs.YtfccehcnajelgaaGreatDoor
open Go
set_option maxRecDepth 8000
theorem tz_tab:∀ t,t < 64 -> tab0[(shrU (shlU 1 t * (285870213051353865:UInt64)) 58).toNat]? = some (UInt8.ofNat t):=by decide +kernel
theorem tz_eq (n:Nat) {u:UInt64} (h:u ≠ 0):br_p n u = some ((low u:Nat):Int):=by
 unfold br_p
 have hl:low u < 64:=jt (iQ h)
 rw [if_neg h,mR h,tz_tab _ hl]
 simp only [aa]
 rw [UInt8.toNat_ofNat_of_lt' (by show _ < 256; omega)]
theorem iM {σ β:Type} {B:(UInt64 × σ -> Option β) -> UInt64 × σ -> Option β} (R:σ -> β) (F:Nat -> σ -> Option σ) (hB:∀ J (u:UInt64) s,B J (u,s) = if u = 0 then some (R s) else (F (low u) s).bind fun s' =>J (u &&& (u - 1),s')) :
  ∀ (m n:Nat) (u:UInt64) (s:σ),(bV u).length <= m -> m < n -> ah B n (u,s) = ((bV u).foldlM (fun s t=>F t s) s).map R:=by
 intro m
 induction m with
 | zero=>
  intro n u s hm hn
  obtain ⟨k,rfl⟩:∃ k,n = k + 1:=⟨n - 1,by omega⟩
  have hu:u = 0:=Classical.byContradiction fun hne=>by rw [dV hne] at hm; simp at hm
  show B (ah B k) (u,s) = _
  rw [hB,if_pos hu,hu,gN]
  rfl
 | succ m ih=>
  intro n u s hm hn
  obtain ⟨k,rfl⟩:∃ k,n = k + 1:=⟨n - 1,by omega⟩
  show B (ah B k) (u,s) = _
  rw [hB]
  by_cases hu:u = 0
  ·rw [if_pos hu,hu,gN]; rfl
  ·rw [if_neg hu,dV hu,List.foldlM_cons]
   have hl:(bV (u &&& (u - 1))).length <= m:=by rw [dV hu] at hm; simpa using hm
   cases F (low u) s with
   | none=>rfl
   | some s' =>exact ih k _ s' hl (by omega)
def pmf (p:List Int) (d:Int) (is:List Nat) (m:UInt64):UInt64:=is.foldl (fun m i=>if p[i]? = some d then m ||| shlU 1 i else m) m
theorem mg (p:List Int) (d:Int) (j:Nat):∀ (is:List Nat) (m:UInt64),(∀ i ∈ is,i < 64) -> bit (pmf p d is m) j = (bit m j || (decide (j ∈ is) && decide (p[j]? = some d)))
 | [],m,_=>by simp [pmf]
 | i :: is,m,h=>by
  have hi:=h i (List.mem_cons_self ..)
  have ih:=mg p d j is (if p[i]? = some d then m ||| shlU 1 i else m) fun x hx=>h x (List.mem_cons_of_mem _ hx)
  show bit (pmf p d is (if p[i]? = some d then m ||| shlU 1 i else m)) j = _
  rw [ih]
  by_cases hp:p[i]? = some d
  ·rw [if_pos hp,om,mh hi]
   by_cases e:j = i
   ·subst e; simp [hp]
   ·simp [e]
  ·rw [if_neg hp]
   by_cases e:j = i
   ·subst e; simp [hp]
   ·simp [e]
def pm (u:UInt64) (p:List Int) (d:Int):UInt64:=pmf p d (bV u) 0
theorem oH (u:UInt64) (p:List Int) (d:Int) (j:Nat):bit (pm u p d) j = (bit u j && decide (p[j]? = some d)):=by
 unfold pm
 rw [mg p d j _ _ fun i hi=>jt (bK.1 hi),eA,Bool.false_or]
 congr 1
 rw [Bool.eq_iff_iff,decide_eq_true_eq]
 exact bK
def prt (u:UInt64) (p:List Int) (k:Nat):List UInt64:=((List.range k).map fun d:Nat=>pm u p (d:Int)).filter fun m=>decide (m ≠ 0)
theorem gT (p:List Int) (k:Nat) (hp:∀ x ∈ p,0 <= x/\x < (k:Int)):∀ (is:List Nat) (f:Nat -> UInt64),(∀ i ∈ is,i < p.length) ->
  is.foldlM (fun (xs:List UInt64) (t:Nat)=>(idx p ((t:Nat):Int)).bind fun x341=>(idx xs x341).bind fun x353=>(aT ((t:Nat):Int)).bind fun k368=>put xs ((x341.toNat:Nat):Int) (x353 ||| (shlU (1:UInt64) k368))) ((List.range k).map f) = some ((List.range k).map fun d:Nat=>pmf p (d:Int) is (f d))
 | [],f,_=>rfl
 | i :: is,f,h=>by
  have hi:=h i (List.mem_cons_self ..)
  obtain ⟨x0,x1⟩:=hp p[i] (List.getElem_mem hi)
  obtain ⟨d,hd⟩:∃ d:Nat,p[i] = (d:Int):=⟨p[i].toNat,by omega⟩
  have hdk:d < k:=by omega
  have hl:d < ((List.range k).map f).length:=by simpa using hdk
  have hn:aT (i:Int) = some i:=by unfold aT; rw [if_pos (by omega),Int.toNat_natCast]
  rw [List.foldlM_cons]
  have e1:idx p (i:Int) = some (d:Int):=by rw [<- hd]; exact aM (i:=(i:Int)) (by omega) hi
  have e2:idx ((List.range k).map f) (d:Int) = some (f d):=by
   rw [aM (i:=(d:Int)) (by omega) hl]; simp
  rw [e1,aa,e2,aa,hn,aa,Int.toNat_natCast,aR _ hl]
  have e3:((List.range k).map f).set d (f d ||| shlU 1 i) = (List.range k).map fun e:Nat=>if p[i]? = some (e:Int) then f e ||| shlU 1 i else f e:=by
   refine List.ext_getElem (by simp) fun j h1 h2=>?_
   rw [List.getElem_set]
   simp only [List.getElem_map,List.getElem_range]
   rw [geE hi,hd]
   by_cases e:d = j
   ·subst e; simp
   ·rw [if_neg e,if_neg (by simp only [Option.some.injEq]; omega)]
  rw [e3]
  exact gT p k hp is _ fun x hx=>h x (List.mem_cons_of_mem _ hx)
theorem cY (r:Te) (p:List Int) (k:Nat) (c:Ta) (hk:k <= 8) (hp:∀ x ∈ p,0 <= x/\x < (k:Int)) (hu:∀ i,bit c.fm i = true -> i < p.length):am_p FU ⟨r,p,(k:Int)⟩ c = some (prt c.fm p k):=by
 have hF:=aO
 unfold am_p
 simp only
 rw [cy k _ (by omega),aa]
 have h1:=iM (B:=am_l2 FU ⟨r,p,(k:Int)⟩) (fun s:List UInt64=>s) (fun (t:Nat) (xs:List UInt64)=>(idx p ((t:Nat):Int)).bind fun x341=>(idx xs x341).bind fun x353=>(aT ((t:Nat):Int)).bind fun k368=>put xs ((x341.toNat:Nat):Int) (x353 ||| (shlU (1:UInt64) k368))) (fun J u s=>by
  unfold am_l2
  simp only
  by_cases h0:u = 0
  ·rw [if_pos h0,if_pos h0]
  ·rw [if_neg h0,if_neg h0,tz_eq FU h0,aa]
   cases idx p ((low u:Nat):Int) with
   | none=>rfl
   | some x=>simp only [aa]; cases idx s x with
    | none=>rfl
    | some y=>rfl) 64 FU c.fm (List.replicate k 0) (fP _) (by omega)
 have e0:List.replicate k (0:UInt64) = (List.range k).map fun _=>0:=by
  refine List.ext_getElem (by simp) fun j h1 h2=>by simp
 rw [h1,e0,gT p k hp _ _ fun i hi=>hu i (bK.1 hi)]
 show Option.bind (some ((List.range k).map fun d:Nat=>pm c.fm p (d:Int))) _ = _
 rw [aa]
 unfold prt
 generalize hX:((List.range k).map fun d:Nat=>pm c.fm p (d:Int)) = X
 have hXl:X.length = k:=by rw [<- hX]; simp
 clear hX h1 e0
 have hh:=aj (B:=am_l1 FU X) (fun s:Nat × List UInt64=>X.length - s.1) (fun s=>s.1 <= X.length/\s.2 = (X.take s.1).filter fun m=>decide (m ≠ 0)) (fun y=>y = X.filter fun m=>decide (m ≠ 0)) ?_ FU (0,[]) ⟨Nat.zero_le _,rfl⟩ (by simp only; omega)
 ·obtain ⟨y,e,rfl⟩:=hh
  rw [e,aa]
 ·rintro ⟨i,xs⟩ J ⟨a1,a2⟩ hJ
  simp only at a1 a2 hJ
  subst a2
  unfold am_l1
  simp only
  by_cases hi:i < X.length
  ·have hlen:((X.take i).filter fun m=>decide (m ≠ 0)).length <= 8:=Nat.le_trans (List.length_filter_le ..) (by rw [List.length_take]; omega)
   have next:=hJ (i + 1,(X.take (i + 1)).filter fun m=>decide (m ≠ 0)) ⟨hi,rfl⟩ (by simp only; omega)
   rw [List.take_succ_eq_append_getElem hi,List.filter_append] at next
   rw [if_pos hi,geE hi,aa]
   by_cases h0:X[i] = 0
   ·rw [if_pos h0]
    rw [List.filter_cons_of_neg (by simpa using h0),List.filter_nil,List.append_nil] at next
    exact next
   ·rw [if_neg h0,bb _ _ (by simp only [leC,leN]; omega),aa]
    rw [List.filter_cons_of_pos (by simpa using h0),List.filter_nil] at next
    exact next
  ·rw [if_neg hi]
   exact ⟨_,rfl,by rw [List.take_of_length_le (by omega)]⟩
def ws (w:Nat -> Int) (u:UInt64):Int:=((bV u).map w).sum
theorem sum_nn {l:List Nat} {w:Nat -> Int} (h:∀ i ∈ l,0 <= w i):0 <= (l.map w).sum:=by
 induction l with
 | nil=>simp
 | cons i l ih=>
  have h1:=h i (List.mem_cons_self ..)
  have h2:=ih fun x hx=>h x (List.mem_cons_of_mem _ hx)
  rw [List.map_cons,List.sum_cons]; omega
theorem sum_le {l:List Nat} {w:Nat -> Int} {B:Int} (h:∀ i ∈ l,w i <= B):(l.map w).sum <= B * l.length:=by
 induction l with
 | nil=>simp
 | cons i l ih=>
  have h1:=h i (List.mem_cons_self ..)
  have h2:=ih fun x hx=>h x (List.mem_cons_of_mem _ hx)
  rw [List.map_cons,List.sum_cons,leC]
  have:B * ((l.length + 1:Nat):Int) = B * l.length + B:=by rw [Int.natCast_add,Int.mul_add]; omega
  omega
theorem oP {w:Nat -> Int} {u:UInt64} (h:∀ i,bit u i = true -> 0 <= w i):0 <= ws w u:=sum_nn fun i hi=>h i (bK.1 hi)
theorem ws_le {w:Nat -> Int} {u:UInt64} {B:Int} (hB:0 <= B) (h:∀ i,bit u i = true -> w i <= B):ws w u <= B * 64:=by
 have h1:=sum_le (l:=bV u) (w:=w) (B:=B) fun i hi=>h i (bK.1 hi)
 have h2:=fP u
 have h3:B * ((bV u).length:Int) <= B * 64:=Int.mul_le_mul_of_nonneg_left (by omega) hB
 unfold ws
 omega
def ppo (r:Te) (i:Nat):Int:=((r.fm[i]?).map (·.fx)).getD 0
theorem gl (r:Te) (hp:∀ u ∈ r.fm,0 <= u.fx/\u.fx <= 1000000000):∀ (is:List Nat) (s:Int),(∀ i ∈ is,i < r.fm.length) -> 0 <= s -> s + 1000000000 * is.length <= 1000000000000 ->
  is.foldlM (fun (z:Int) (t:Nat)=>(idx r.fm ((t:Nat):Int)).bind fun x152=>(chk (z + x152.fx)).bind fun s169=>some s169) s = some (s + (is.map (ppo r)).sum)
 | [],s,_,_,_=>by simp
 | i :: is,s,h,h0,h1=>by
  have hi:=h i (List.mem_cons_self ..)
  obtain ⟨p0,p1⟩:=hp r.fm[i] (List.getElem_mem hi)
  have e1:idx r.fm (i:Int) = some r.fm[i]:=aM (i:=(i:Int)) (by omega) hi
  have e2:ppo r i = r.fm[i].fx:=by unfold ppo; rw [geE hi]; rfl
  rw [leC] at h1
  rw [List.foldlM_cons,e1,aa,aH (by omega) (by omega),aa]
  show is.foldlM _ (s + r.fm[i].fx) = _
  rw [gl r hp is _ (fun x hx=>h x (List.mem_cons_of_mem _ hx)) (by omega) (by omega),List.map_cons,List.sum_cons,e2]
  congr 1; omega
theorem gd (r:Te) (p:List Int) (k:Int) (m:UInt64) (hp:∀ u ∈ r.fm,0 <= u.fx/\u.fx <= 1000000000) (hm:∀ i,bit m i = true -> i < r.fm.length):aA_p FU m ⟨r,p,k⟩ = some (ws (ppo r) m):=by
 have hF:=aO
 have hl:=fP m
 unfold aA_p
 have h1:=iM (B:=aA_l1 FU ⟨r,p,k⟩) (fun s:Int=>s) (fun (t:Nat) (z:Int)=>(idx r.fm ((t:Nat):Int)).bind fun x152=>(chk (z + x152.fx)).bind fun s169=>some s169) (fun J u s=>by
  unfold aA_l1
  simp only
  by_cases h0:u = 0
  ·rw [if_pos h0,if_pos h0]
  ·rw [if_neg h0,if_neg h0,tz_eq FU h0,aa]
   cases idx r.fm ((low u:Nat):Int) with
   | none=>rfl
   | some x=>simp only [aa]; cases chk (s + x.fx) with
    | none=>rfl
    | some y=>rfl) 64 FU m 0 hl (by omega)
 rw [h1,gl r hp _ 0 (fun i hi=>hm i (bK.1 hi)) (by omega) (by omega)]
 show Option.bind (some (0 + ws (ppo r) m)) _ = _
 rw [aa,Int.zero_add]
theorem nj (i x:Nat):pc (i + 1) x = pc i x + x / 2 ^ i % 2:=by
 rw [cH]; rfl
theorem iy (x:Nat):∀ i,pc i x = ((List.range i).filter fun j=>x.testBit j).length
 | 0=>rfl
 | i + 1=>by
  rw [nj,iy x i,List.range_succ,List.filter_append,List.length_append]
  congr 1
  by_cases hb:x / 2 ^ i % 2 = 1
  ·rw [List.filter_cons_of_pos (by rw [Nat.testBit_eq_decide_div_mod_eq]; simpa using hb),hb]; rfl
  ·rw [List.filter_cons_of_neg (by rw [Nat.testBit_eq_decide_div_mod_eq]; simpa using hb)]
   exact (Nat.mod_two_eq_zero_or_one _).resolve_right hb
theorem pc_bits (u:UInt64):((pc 64 u.toNat:Nat):Int) = ws (fun _=>1) u:=by
 rw [iy]
 have key:∀ l:List Nat,(l.map fun _=>(1:Int)).sum = l.length:=fun l=>by
  induction l with
  | nil=>rfl
  | cons i l ih=>rw [List.map_cons,List.sum_cons,ih,leC]; omega
 unfold ws
 rw [key]
 rfl
theorem oW (u:UInt64):aT_p FU u = some (ws (fun _=>1) u):=by rw [ones_ok,pc_bits]
/-! ### Sums over the parts -/
end Go.Proofs.YtfccehcnajelgaaGreatDoor
namespace Go.Proofs.YtfccehcnajelgaaGreatDoor
open Go
set_option maxRecDepth 8000
theorem cN {ε α β:Type} (x:α) (f:α -> Option β) (g:ε -> Option β):exc (.ok x) f g = f x:=rfl
theorem iof {a b:Int} (h0:b ≠ 0) (ha:Sm a) (hb:Sm b):bO_p FU a b = some (.ok (Sg (Rat.divInt a b))):=by
 unfold bO_p ao_p
 rw [sof h0 ha hb]; rfl
def bP (w:Nat -> Int) (l:List UInt64):Int:=l.foldl (fun z m=>max z (ws w m)) 0
theorem kw (w:Nat -> Int):∀ (l:List UInt64) (z:Int),z <= l.foldl (fun z m=>max z (ws w m)) z/\(∀ m ∈ l,ws w m <= l.foldl (fun z m=>max z (ws w m)) z)/\(l.foldl (fun z m=>max z (ws w m)) z = z ∨ ∃ m ∈ l,l.foldl (fun z m=>max z (ws w m)) z = ws w m)
 | [],z=>⟨Int.le_refl _,(fun m hm=>by cases hm),.inl rfl⟩
 | m :: l,z=>by
  obtain ⟨h1,h2,h3⟩:=kw w l (max z (ws w m))
  rw [List.foldl_cons]
  refine ⟨by omega,fun x hx=>?_,?_⟩
  ·rcases List.mem_cons.1 hx with rfl | hx
   ·omega
   ·exact h2 x hx
  ·rcases h3 with h3 | ⟨x,hx,h3⟩
   ·by_cases hz:ws w m <= z
    ·exact .inl (by rw [h3]; omega)
    ·exact .inr ⟨m,List.mem_cons_self ..,by rw [h3]; omega⟩
   ·exact .inr ⟨x,List.mem_cons_of_mem _ hx,h3⟩
theorem dW (w:Nat -> Int) (l:List UInt64) (m:UInt64):bP w (l ++ [m]) = max (bP w l) (ws w m):=by
 unfold bP; rw [List.foldl_append]; rfl
def wt (r:Te) (u:UInt64):Nat -> Int:=if ws (ppo r) u = 0 then fun _=>1 else ppo r
structure VC (r:Te) (p:List Int) (k:Nat) (c:Ta):Prop where
 k8:k <= 8
 pk:∀ x ∈ p,0 <= x/\x < (k:Int)
 ub:∀ i,bit c.fm i = true -> i < p.length
 n:p.length <= r.fm.length
 h:∀ u ∈ r.fm,0 <= u.fx/\u.fx <= 1000000000
 z:c.fm ≠ 0
theorem prt_mem {u:UInt64} {p:List Int} {k:Nat} {m:UInt64} (h:m ∈ prt u p k):m ≠ 0/\∃ d,d < k/\m = pm u p (d:Int):=by
 unfold prt at h
 obtain ⟨h1,h2⟩:=List.mem_filter.1 h
 obtain ⟨d,hd,rfl⟩:=List.mem_map.1 h1
 exact ⟨by simpa using h2,d,List.mem_range.1 hd,rfl⟩
theorem mm {u:UInt64} {p:List Int} {k:Nat} {m:UInt64} (h:m ∈ prt u p k) {i:Nat} (hb:bit m i = true):bit u i = true:=by
 obtain ⟨_,d,_,rfl⟩:=prt_mem h
 rw [oH,Bool.and_eq_true] at hb
 exact hb.1
section
variable {r:Te} {p:List Int} {k:Nat} {c:Ta} (v:VC r p k c)
include v
theorem kM (i:Nat):0 <= ppo r i/\ppo r i <= 1000000000:=by
 unfold ppo
 by_cases hi:i < r.fm.length
 ·rw [geE hi]; exact v.h _ (List.getElem_mem hi)
 ·rw [List.getElem?_eq_none (by omega)]; exact ⟨Int.le_refl _,by decide⟩
theorem wt_ok (i:Nat):0 <= wt r c.fm i/\wt r c.fm i <= 1000000000:=by
 unfold wt
 split
 ·exact ⟨show (0:Int) <= 1 by decide,show (1:Int) <= 1000000000 by decide⟩
 ·exact kM v i
theorem ln:0 < ws (wt r c.fm) c.fm:=by
 unfold wt
 by_cases h:ws (ppo r) c.fm = 0
 ·rw [if_pos h]
  obtain ⟨i,hi⟩:=jK v.z
  have key:∀ l:List Nat,(l.map fun _=>(1:Int)).sum = l.length:=fun l=>by
   induction l with
   | nil=>rfl
   | cons i l ih=>rw [List.map_cons,List.sum_cons,ih,leC]; omega
  unfold ws
  rw [key]
  have:=List.length_pos_of_mem (bK.2 hi)
  omega
 ·rw [if_neg h]
  have:=oP (w:=ppo r) (u:=c.fm) fun i _=>(kM v i).1
  omega
theorem eB (m:UInt64):0 <= ws (wt r c.fm) m/\ws (wt r c.fm) m <= 64000000000:=by
 refine ⟨oP fun i _=>(wt_ok v i).1,?_⟩
 have:=ws_le (w:=wt r c.fm) (u:=m) (B:=1000000000) (by decide) fun i _=>(wt_ok v i).2
 omega
theorem dR (l:List UInt64):0 <= bP (wt r c.fm) l/\bP (wt r c.fm) l <= 64000000000:=by
 obtain ⟨h1,_,h3⟩:=kw (wt r c.fm) l 0
 refine ⟨h1,?_⟩
 unfold bP
 rcases h3 with h3 | ⟨m,_,h3⟩
 ·rw [h3]; decide
 ·rw [h3]; exact (eB v m).2
theorem jJ:av_p FU ⟨r,p,(k:Int)⟩ c = some (.ok (Sg (Rat.divInt (bP (wt r c.fm) (prt c.fm p k)) (ws (wt r c.fm) c.fm)))):=by
 have hF:=aO
 have hb:=dR v (prt c.fm p k)
 have hw:=eB v c.fm
 have hp:=ln v
 have hun:∀ i,bit c.fm i = true -> i < r.fm.length:=fun i hi=>Nat.lt_of_lt_of_le (v.ub i hi) v.n
 unfold av_p
 have hpl:(prt c.fm p k).length <= 8:=by
  unfold prt
  refine Nat.le_trans (List.length_filter_le ..) ?_
  rw [List.length_map,List.length_range]; exact v.k8
 rw [gd r p k c.fm v.h hun,aa,cY r p k c v.k8 v.pk v.ub]
 have hsub:∀ m ∈ prt c.fm p k,∀ i,bit m i = true -> i < r.fm.length:=fun m hm i hi=>hun i (mm hm hi)
 unfold wt at *
 by_cases h0:ws (ppo r) c.fm = 0
 ·rw [if_pos h0] at hb hw hp
  rw [if_pos h0,if_pos h0,aa]
  generalize prt c.fm p k = P at *
  have hh:=aj (B:=av_l1 FU P) (fun s:Int × Nat=>P.length - s.2) (fun s=>s.2 <= P.length/\s.1 = bP (fun _=>1) (P.take s.2)) (fun y=>y = bP (fun _=>1) P) ?_ FU (0,0) ⟨Nat.zero_le _,rfl⟩ (by simp only; omega)
  ·obtain ⟨y,e,rfl⟩:=hh
   rw [e,aa,oW,aa,iof (by omega) (by unfold Sm; omega) (by unfold Sm; omega),aa,cN]
  ·rintro ⟨z,i⟩ J ⟨a1,a2⟩ hJ
   simp only at a1 a2 hJ
   subst a2
   unfold av_l1
   simp only
   by_cases hi:i < P.length
   ·have next:=hJ (bP (fun _=>1) (P.take (i + 1)),i + 1) ⟨hi,rfl⟩ (by simp only; omega)
    rw [List.take_succ_eq_append_getElem hi,dW] at next
    rw [if_pos hi,geE hi,aa,oW,aa]
    exact next
   ·rw [if_neg hi]
    exact ⟨_,rfl,by rw [List.take_of_length_le (by omega)]⟩
 ·rw [if_neg h0] at hb hw hp
  rw [if_neg h0,if_neg h0,aa]
  generalize prt c.fm p k = P at *
  have hh:=aj (B:=av_l2 FU P ⟨r,p,(k:Int)⟩) (fun s:Int × Nat=>P.length - s.2) (fun s=>s.2 <= P.length/\s.1 = bP (ppo r) (P.take s.2)) (fun y=>y = bP (ppo r) P) ?_ FU (0,0) ⟨Nat.zero_le _,rfl⟩ (by simp only; omega)
  ·obtain ⟨y,e,rfl⟩:=hh
   rw [e,aa,aa,iof (by omega) (by unfold Sm; omega) (by unfold Sm; omega),aa,cN]
  ·rintro ⟨z,i⟩ J ⟨a1,a2⟩ hJ
   simp only at a1 a2 hJ
   subst a2
   unfold av_l2
   simp only
   by_cases hi:i < P.length
   ·have next:=hJ (bP (ppo r) (P.take (i + 1)),i + 1) ⟨hi,rfl⟩ (by simp only; omega)
    rw [List.take_succ_eq_append_getElem hi,dW] at next
    rw [if_pos hi,geE hi,aa,gd r p k _ v.h (hsub _ (List.getElem_mem hi)),aa]
    exact next
   ·rw [if_neg hi]
    exact ⟨_,rfl,by rw [List.take_of_length_le (by omega)]⟩
end
end Go.Proofs.YtfccehcnajelgaaGreatDoor
namespace Go.Proofs.YtfccehcnajelgaaGreatDoor
open Go
set_option maxRecDepth 8000
/-! ### What is told of each -/
structure VLs (r:Te) (p:List Int) (k:Nat) (l:List Ta):Prop where
 b:cb_p FU r p k = some 0
 c:a9_p FU (p.length:Int) l = some 0
 n:l.length <= 20
 v:∀ c ∈ l,VC r p k c
def kp (p:List Int) (k:Nat) (c:Ta):Bool:=decide ((prt c.fm p k).length = 1)
section
variable {r:Te} {p:List Int} {k:Nat} {l:List Ta} (h:VLs r p k l)
include h
theorem parts27:bs_p FU l r p k = some (l.map fun c=>prt c.fm p k,0):=by
 have hF:=aO
 have hn:=h.n
 unfold bs_p aC_p
 rw [h.b,aa,if_pos rfl,aa,cN,h.c,aa,if_pos rfl,aa,cN]
 have hh:=aj (B:=bs_l1 FU l r p k) (fun s:Nat × List (List UInt64)=>l.length - s.1) (fun s=>s.1 <= l.length/\s.2 = (l.take s.1).map fun c=>prt c.fm p k) (fun y=>y = l.map fun c=>prt c.fm p k) ?_ FU (0,[]) ⟨Nat.zero_le _,rfl⟩ (by simp only; omega)
 ·obtain ⟨y,e,rfl⟩:=hh
  rw [e,aa]
 ·rintro ⟨i,xs⟩ J ⟨a1,a2⟩ hJ
  simp only at a1 a2 hJ
  subst a2
  unfold bs_l1
  simp only
  by_cases hi:i < l.length
  ·have v:=h.v _ (List.getElem_mem hi)
   have next:=hJ (i + 1,(l.take (i + 1)).map fun c=>prt c.fm p k) ⟨hi,rfl⟩ (by simp only; omega)
   rw [List.take_succ_eq_append_getElem hi,List.map_append] at next
   rw [if_pos hi,geE hi,aa,cY r p k _ v.k8 v.pk v.ub,aa,bb _ _ (by simp only [List.length_map,List.length_take,leC,leN]; omega),aa]
   exact next
  ·rw [if_neg hi]
   exact ⟨_,rfl,by rw [List.take_of_length_le (by omega)]⟩
theorem kept27:bD_p FU l r p k = some (l.map (kp p k),0):=by
 have hF:=aO
 have hn:=h.n
 unfold bD_p aC_p
 rw [h.b,aa,if_pos rfl,aa,cN,h.c,aa,if_pos rfl,aa,cN]
 have hh:=aj (B:=bD_l1 FU l r p k) (fun s:Nat × List Bool=>l.length - s.1) (fun s=>s.1 <= l.length/\s.2 = (l.take s.1).map (kp p k)) (fun y=>y = l.map (kp p k)) ?_ FU (0,[]) ⟨Nat.zero_le _,rfl⟩ (by simp only; omega)
 ·obtain ⟨y,e,rfl⟩:=hh
  rw [e,aa]
 ·rintro ⟨i,xs⟩ J ⟨a1,a2⟩ hJ
  simp only at a1 a2 hJ
  subst a2
  unfold bD_l1 cS_p
  simp only
  by_cases hi:i < l.length
  ·have v:=h.v _ (List.getElem_mem hi)
   have next:=hJ (i + 1,(l.take (i + 1)).map (kp p k)) ⟨hi,rfl⟩ (by simp only; omega)
   rw [List.take_succ_eq_append_getElem hi,List.map_append] at next
   rw [if_pos hi,geE hi,aa,cY r p k _ v.k8 v.pk v.ub,aa,aa,bb _ _ (by simp only [List.length_map,List.length_take,leC,leN]; omega),aa]
   exact next
  ·rw [if_neg hi]
   exact ⟨_,rfl,by rw [List.take_of_length_le (by omega)]⟩
def lsh (r:Te) (p:List Int) (k:Nat) (c:Ta):Rat:=Rat.divInt (bP (wt r c.fm) (prt c.fm p k)) (ws (wt r c.fm) c.fm)
theorem iv:aO_p FU l r p k = some (l.map fun c=>Sg (lsh r p k c),0):=by
 have hF:=aO
 have hn:=h.n
 unfold aO_p aC_p
 rw [h.b,aa,if_pos rfl,aa,cN,h.c,aa,if_pos rfl,aa,cN]
 have hh:=aj (B:=aO_l1 FU l r p k) (fun s:Nat × List Tb=>l.length - s.1) (fun s=>s.1 <= l.length/\s.2 = (l.take s.1).map fun c=>Sg (lsh r p k c)) (fun y=>y = .inr (l.map fun c=>Sg (lsh r p k c))) ?_ FU (0,[]) ⟨Nat.zero_le _,rfl⟩ (by simp only; omega)
 ·obtain ⟨y,e,rfl⟩:=hh
  rw [e,jx]
 ·rintro ⟨i,xs⟩ J ⟨a1,a2⟩ hJ
  simp only at a1 a2 hJ
  subst a2
  unfold aO_l1
  simp only
  by_cases hi:i < l.length
  ·have v:=h.v _ (List.getElem_mem hi)
   have next:=hJ (i + 1,(l.take (i + 1)).map fun c=>Sg (lsh r p k c)) ⟨hi,rfl⟩ (by simp only; omega)
   rw [List.take_succ_eq_append_getElem hi,List.map_append] at next
   rw [if_pos hi,geE hi,aa,jJ v,aa,cN,bb _ _ (by simp only [List.length_map,List.length_take,leC,leN]; omega),aa]
   exact next
  ·rw [if_neg hi]
   exact ⟨_,rfl,by rw [List.take_of_length_le (by omega)]⟩
end
end Go.Proofs.YtfccehcnajelgaaGreatDoor
namespace Go.Proofs.YtfccehcnajelgaaGreatDoor
open Go
def nm (i:Nat):ByteArray:=⟨#[117,UInt8.ofNat (97 + i),97]⟩
theorem oT (n:Nat) (l:List Bool) (h:∀ b ∈ l,b = true) (hn:l.length < n):bJ_p n l = some true:=by
 have hh:=aj (B:=aM_l1 n l false) (fun i:Nat=>l.length - i) (fun i=>i <= l.length) (fun r=>r = .inr ()) ?_ n 0 (Nat.zero_le _) (by omega)
 ·obtain ⟨r,e,rfl⟩:=hh
  unfold bJ_p bQ_p aM_p
  rw [e]
  rfl
 ·intro i J hi hJ
  unfold aM_l1
  simp only
  split
  ·rename_i h0
   rw [geE h0,aa,h l[i] (List.getElem_mem _),if_neg (by decide)]
   exact hJ (i + 1) h0 (by omega)
  ·exact ⟨_,rfl,rfl⟩
theorem kT (n:Nat) (d:Tj) (i:Int) (h:0 <= i):∃ y,bf_p n d i = some y/\0 <= y/\y <= 255:=by
 unfold bf_p
 split
 ·exact ⟨_,rfl,by omega,by omega⟩
 ·rename_i h0
  have h1:=Int.emod_nonneg i (b:=(d.fNums.length:Int)) (by omega)
  have h2:=Int.emod_lt_of_pos i (b:=(d.fNums.length:Int)) (by omega)
  rw [bN (by omega),aa,Int.tmod_eq_emod_of_nonneg h,aM h1 (by omega),aa]
  have:=(d.fNums[(i % (d.fNums.length:Int)).toNat]'(by omega)).toNat_lt
  exact ⟨_,rfl,by omega,by omega⟩
theorem jU (n:Nat) (d:Tj) (c at_ ba:Int) (h0:0 <= c) (h1:c <= 100) (h2:0 <= at_) (h3:at_ <= 1000) (h4:0 <= ba) (hn:200 < n):∃ l,aH_p n d c at_ ba = some l/\(l.length:Int) = c/\∀ x ∈ l,0 <= x/\x <= ba/\x <= 255:=by
 have hh:=aj (B:=aH_l1 n c at_ d ba) (fun s:Int × List Int=>101 - s.1.toNat) (fun s=>0 <= s.1/\s.1 <= c/\(s.2.length:Int) = s.1/\∀ x ∈ s.2,0 <= x/\x <= ba/\x <= 255)
  (fun l=>(l.length:Int) = c/\∀ x ∈ l,0 <= x/\x <= ba/\x <= 255) ?_ n (0,[]) ⟨by simp,h0,by simp,by simp⟩ (by simp only; omega)
 ·obtain ⟨l,e,h⟩:=hh
  refine ⟨l,?_,h⟩
  unfold aH_p
  rw [e,aa]
 ·rintro ⟨z,xs⟩ J ⟨a1,a2,a3,a4⟩ hJ
  simp only at a1 a2 a3 a4 hJ
  unfold aH_l1
  simp only
  split
  ·obtain ⟨y,e,y0,y1⟩:=kT n d (at_ + z) (by omega)
   rw [aH (by omega) (by omega),aa,e,aa,bb _ _ (by simp only [leC,leN]; omega),aa,aH (by omega) (by omega),aa]
   refine hJ _ ⟨by simp only; omega,by simp only; omega,by simp only [List.length_append,leC,leN]; omega,fun x hx=>?_⟩ (by simp only; omega)
   rcases List.mem_append.1 hx with hx | hx
   ·exact a4 x hx
   ·rw [List.mem_singleton.1 hx]; omega
  ·exact ⟨_,rfl,by omega,a4⟩
def UnitOk (G P L:Int) (u:Tc):Prop:=u.fv = false/\(0 <= u.fx/\u.fx <= 255)/\((u.fh.length:Int) = G/\∀ x ∈ u.fh,0 <= x/\x <= u.fx)/\((u.fM.length:Int) = P/\∀ x ∈ u.fM,0 <= x/\x <= 255)/\((u.fI.length:Int) = L/\∀ x ∈ u.fI,0 <= x/\x <= 63)
def sea (G P L:Int):Tc:=⟨⟨#[115,101,97]⟩,0,List.replicate G.toNat 0,List.replicate P.toNat 0,List.replicate L.toNat 0,true⟩
structure RollOk (r:Te) (us:List Tc):Prop where
 g:0 <= r.fh/\r.fh <= 2
 p:0 <= r.fe/\r.fe <= 3
 l:0 <= r.fj/\r.fj <= 2
 len:1 <= us.length/\us.length <= 9
 land:∀ i (h:i < us.length),us[i].ft = nm i/\UnitOk r.fh r.fe r.fj us[i]
 all:r.fm = us ∨ r.fm = us ++ [sea r.fh r.fe r.fj]
end Go.Proofs.YtfccehcnajelgaaGreatDoor
namespace Go.Proofs.YtfccehcnajelgaaGreatDoor
open Go
def tot (us:List Tc):Int:=(us.map (·.fx)).sum
end Go.Proofs.YtfccehcnajelgaaGreatDoor
namespace Go.Proofs.YtfccehcnajelgaaGreatDoor
open Go
theorem fX {κ ν:Type} [DecidableEq κ]:∀ (D:List (κ × ν)) (k:κ) (v:ν),(bh D k v).map Prod.fst = if k ∈ D.map Prod.fst then D.map Prod.fst else D.map Prod.fst ++ [k]
 | [],k,v=>by simp [bh]
 | e :: D,k,v=>by
  unfold bh
  by_cases h:k = e.1
  ·rw [if_pos h]; simp [h]
  ·rw [if_neg h]
   simp only [List.map_cons,fX D k v,List.mem_cons]
   by_cases h2:k ∈ D.map Prod.fst
   ·simp [h2]
   ·rw [if_neg h2,if_neg (by rintro (h3 | h3); exact h h3; exact h2 h3)]; rfl
theorem mu {l:List Int} {k:Int} (hk:0 <= k) (hn:l.Nodup) (h:∀ x,x ∈ l ↔ 0 <= x/\x < k):(l.length:Int) = k:=by
 have h2:((List.range k.toNat).map fun i:Nat=>(i:Int)).Nodup:=by
  unfold List.Nodup
  exact List.Pairwise.map _ (fun a b hab=>by omega) List.nodup_range
 have h3:l.length <= ((List.range k.toNat).map fun i:Nat=>(i:Int)).length:=hn.length_le_of_subset fun x hx=>List.mem_map.2 ⟨x.toNat,List.mem_range.2 (by have:=(h x).1 hx; omega),by have:=(h x).1 hx; omega⟩
 have h4:((List.range k.toNat).map fun i:Nat=>(i:Int)).length <= l.length:=h2.length_le_of_subset fun x hx=>by
  obtain ⟨i,hi,rfl⟩:=List.mem_map.1 hx
  have:=List.mem_range.1 hi
  exact (h _).2 ⟨by omega,by omega⟩
 rw [List.length_map,List.length_range] at h3 h4
 omega
end Go.Proofs.YtfccehcnajelgaaGreatDoor
namespace Go.Proofs.YtfccehcnajelgaaGreatDoor
open Go
set_option maxRecDepth 8000
theorem lsh_fq {r:Te} {p:List Int} {k:Nat} {c:Ta} (v:VC r p k c):FQ (lsh r p k c):=by
 have h1:=dR v (prt c.fm p k)
 have h2:=eB v c.fm
 have h3:=ln v
 unfold lsh
 exact (Bt.of (i:=40) (j:=40) (by omega) (by omega) (by omega)).fq (by decide) (by decide)
end Go.Proofs.YtfccehcnajelgaaGreatDoor
namespace Go.Proofs.YtfccehcnajelgaaGreatDoor
open Go
set_option maxRecDepth 8000
def dL (l:List Ta):Int:=(l.map (·.fE)).sum
theorem ir (l:List Ta) (c:Ta):dL (l ++ [c]) = dL l + c.fE:=by unfold dL; rw [List.map_append,List.sum_append]; simp
theorem fY {l:List Ta} (hw:∀ c ∈ l,0 <= c.fE/\c.fE <= 1000):∀ i,i <= l.length -> 0 <= dL (l.take i)/\dL (l.take i) <= 1000 * i
 | 0,_=>⟨by simp [dL],by simp [dL]⟩
 | i + 1,hi=>by
  have ih:=fY hw i (by omega)
  have h1:=hw _ (List.getElem_mem (l:=l) (n:=i) (by omega))
  rw [List.take_succ_eq_append_getElem (by omega),ir]
  omega
theorem iX {l:List Ta} (hl:l.length <= 20) (hw:∀ c ∈ l,0 <= c.fE/\c.fE <= 1000):ah (aG_l2 FU l) FU (0,0) = some (dL l):=by
 have hF:=aO
 have hh:=aj (B:=aG_l2 FU l) (fun s:Int × Nat=>l.length - s.2) (fun s=>s.2 <= l.length/\s.1 = dL (l.take s.2)) (fun y=>y = dL l) ?_ FU (0,0) ⟨Nat.zero_le _,rfl⟩ (by simp only; omega)
 ·obtain ⟨y,e,rfl⟩:=hh; exact e
 ·rintro ⟨z,i⟩ J ⟨a1,a2⟩ hJ
  simp only at a1 a2 hJ
  subst a2
  unfold aG_l2
  simp only
  by_cases hi:i < l.length
  ·have b1:=fY hw i (by omega)
   have b2:=hw _ (List.getElem_mem hi)
   have next:=hJ (dL (l.take (i + 1)),i + 1) ⟨hi,rfl⟩ (by simp only; omega)
   rw [List.take_succ_eq_append_getElem hi,ir] at next
   rw [if_pos hi,geE hi,aa,aH (by omega) (by omega),aa]
   exact next
  ·rw [if_neg hi]
   exact ⟨_,rfl,by rw [List.take_of_length_le (by omega)]⟩
abbrev S16:Type:=UInt64 × UInt64 × UInt64 × UInt64 × UInt64 × UInt64 × UInt64 × UInt64 × UInt64 × UInt64 × UInt64 × UInt64 × UInt64 × UInt64 × UInt64 × UInt64
def un16:S16 -> Tb:=fun (a1,a2,a3,a4,a5,a6,a7,a8,b1,b2,b3,b4,b5,b6,b7,b8)=>⟨(a1,a2,a3,a4,a5,a6,a7,a8),(b1,b2,b3,b4,b5,b6,b7,b8)⟩
end Go.Proofs.YtfccehcnajelgaaGreatDoor
namespace Go.Proofs.YtfccehcnajelgaaGreatDoor
open Go
def dv:List Int -> Nat
 | []=>0
 | x :: xs=>x.toNat + 4294967296 * dv xs
def Dig (xs:List Int):Prop:=∀ x ∈ xs,0 <= x/\x < 4294967296
theorem eF:Dig []:=fun x hx=>by cases hx
theorem ij (xs ys:List Int):dv (xs ++ ys) = dv xs + 4294967296 ^ xs.length * dv ys:=by
 induction xs with
 | nil=>simp [dv]
 | cons x xs ih=>simp only [List.cons_append,dv,ih,leC,Nat.pow_succ]; grind
theorem Dig.tl {x:Int} {xs:List Int} (h:Dig (x :: xs)):Dig xs:=fun y hy=>h y (List.mem_cons_of_mem _ hy)
theorem cE:∀ {xs:List Int},Dig xs -> dv xs < 4294967296 ^ xs.length
 | [],_=>by simp [dv]
 | x :: xs,h=>by
  have h1:=h x (List.mem_cons_self ..)
  have h2:4294967296 * (dv xs + 1) <= 4294967296 * 4294967296 ^ xs.length:=Nat.mul_le_mul_left _ (cE h.tl)
  simp only [dv,leC,Nat.pow_succ]
  rw [Nat.mul_comm (_ ^ _)]
  omega
theorem bL (a:List Int) {i:Nat} (h:i < a.length):dv (a.take (i + 1)) = dv (a.take i) + 4294967296 ^ i * a[i].toNat:=by
 rw [<- List.take_append_getElem h,ij,List.length_take,Nat.min_eq_left (Nat.le_of_lt h)]
 simp [dv]
theorem eR (b:List Int) (i:Nat):dv (b.take (i + 1)) = dv (b.take i) + 4294967296 ^ i * (b[i]?.getD 0).toNat:=by
 by_cases h:i < b.length
 ·rw [bL b h,geE h]; rfl
 ·rw [bn (by omega),bn (by omega),List.getElem?_eq_none (by omega)]; simp
theorem gB (a:List Int) {i:Nat} (h:i < a.length):dv a = dv (a.take i) + 4294967296 ^ i * a[i].toNat + 4294967296 ^ (i + 1) * dv (a.drop (i + 1)):=by
 conv=>lhs; rw [<- List.take_append_drop (i + 1) a,ij]
 rw [bL a h,List.length_take,Nat.min_eq_left (by omega)]
theorem lB:∀ {xs:List Int} {j:Nat} (v:Int) (h:j < xs.length),dv (xs.set j v) + 4294967296 ^ j * xs[j].toNat = dv xs + 4294967296 ^ j * v.toNat
 | x :: xs,0,v,_=>by simp only [List.set_cons_zero,dv,List.getElem_cons_zero,Nat.pow_zero]; omega
 | x :: xs,j + 1,v,h=>by
  have:=lB (xs:=xs) (j:=j) v (by simpa using h)
  simp only [List.set_cons_succ,dv,List.getElem_cons_succ,Nat.pow_succ]
  grind
theorem ew:∀ (xs:List Int),(∀ x ∈ xs,x = 0) -> dv xs = 0
 | [],_=>rfl
 | x :: xs,h=>by
  have h1:=h x (List.mem_cons_self ..)
  have h2:=ew xs fun y hy=>h y (List.mem_cons_of_mem _ hy)
  subst h1; simp [dv,h2]
def rd (m:Nat):List Int:=if m = 0 then [] else ((m % 4294967296:Nat):Int) :: rd (m / 4294967296)
termination_by m
decreasing_by exact Nat.div_lt_self (by omega) (by omega)
theorem rd0:rd 0 = []:=by unfold rd; simp
theorem iL {m:Nat} (h:m ≠ 0):rd m = ((m % 4294967296:Nat):Int) :: rd (m / 4294967296):=by rw [rd]; rw [if_neg h]
theorem aL (m:Nat):dv (rd m) = m:=by
 induction m using Nat.strongRecOn with
 | _ m ih=>
  by_cases h:m = 0
  ·subst h; rw [rd0]; rfl
  ·rw [iL h]; simp only [dv]
   rw [ih _ (Nat.div_lt_self (by omega) (by omega)),Int.toNat_natCast]
   exact Nat.mod_add_div m 4294967296
theorem aC (m:Nat):Dig (rd m):=by
 induction m using Nat.strongRecOn with
 | _ m ih=>
  by_cases h:m = 0
  ·subst h; rw [rd0]; intro x hx; cases hx
  ·rw [iL h]
   intro x hx
   rcases List.mem_cons.1 hx with rfl | hx
   ·omega
   ·exact ih _ (Nat.div_lt_self (by omega) (by omega)) x hx
def Nr (xs:List Int):Prop:=∀ x,xs.getLast? = some x -> x ≠ 0
theorem Nr.tail {x y:Int} {xs:List Int} (h:Nr (x :: y :: xs)):Nr (y :: xs):=fun z hz=>h z (by rw [List.getLast?_cons_cons]; exact hz)
theorem jL:∀ {xs:List Int},Dig xs -> Nr xs -> xs ≠ [] -> 4294967296 ^ (xs.length - 1) <= dv xs
 | [],_,_,h=>absurd rfl h
 | [x],hd,h,_=>by
  have h1:=h x rfl
  have h2:=hd x (List.mem_cons_self ..)
  simp only [dv,leC,leN]
  show 4294967296 ^ 0 <= _
  rw [Nat.pow_zero]; omega
 | x :: y :: xs,hd,h,_=>by
  have h1:=jL hd.tl h.tail (by simp)
  have h2:4294967296 * 4294967296 ^ xs.length <= 4294967296 * dv (y :: xs):=Nat.mul_le_mul_left _ (by simpa using h1)
  show 4294967296 ^ (xs.length + 1) <= x.toNat + 4294967296 * dv (y :: xs)
  rw [Nat.pow_succ,Nat.mul_comm]; omega
theorem dv_pos {xs:List Int} (hd:Dig xs) (h:Nr xs) (h0:xs ≠ []):0 < dv xs:=by
 have:=jL hd h h0
 have h2:0 < 4294967296 ^ (xs.length - 1):=Nat.pow_pos (by decide)
 omega
theorem oQ:∀ {xs:List Int},Dig xs -> Nr xs -> rd (dv xs) = xs
 | [],_,_=>rd0
 | x :: xs,hd,h=>by
  have hp:=dv_pos hd h (by simp)
  have hx:=hd x (List.mem_cons_self ..)
  rw [iL (by omega)]
  have h1:((dv (x :: xs) % 4294967296:Nat):Int) = x:=by simp only [dv]; omega
  have h2:dv (x :: xs) / 4294967296 = dv xs:=by simp only [dv]; omega
  have h3:Nr xs:=by
   cases xs with
   | nil=>intro z hz; simp at hz
   | cons y ys=>exact h.tail
  rw [h1,h2,oQ hd.tl h3]
theorem gk (m:Nat):Nr (rd m):=by
 induction m using Nat.strongRecOn with
 | _ m ih=>
  intro x hx
  by_cases h:m = 0
  ·subst h; rw [rd0] at hx; cases hx
  ·rw [iL h] at hx
   by_cases h2:m / 4294967296 = 0
   ·rw [h2,rd0] at hx
    simp at hx
    omega
   ·have h3:=ih (m / 4294967296) (Nat.div_lt_self (by omega) (by omega))
    rw [iL h2] at hx h3
    rw [List.getLast?_cons_cons] at hx
    exact h3 x hx
theorem cu {m l:Nat} (h:m < 4294967296 ^ l):(rd m).length <= l:=by
 by_cases h0:rd m = []
 ·rw [h0]; simp
 ·have h1:=jL (aC m) (gk m) h0
  rw [aL] at h1
  have h2:=Nat.lt_of_le_of_lt h1 h
  have h3:=(Nat.pow_lt_pow_iff_right (by omega)).1 h2
  omega
theorem kN {m:Nat}:rd m = [] ↔ m = 0:=⟨fun h=>by have:=aL m; rw [h] at this; exact this.symm,fun h=>by rw [h]; exact rd0⟩
theorem cJ {a b:Nat} (h:a <= b):(rd a).length <= (rd b).length:=cu (Nat.lt_of_le_of_lt h (by have:=cE (aC b); rwa [aL] at this))
theorem dK (n:Nat) (ws:List Int) (hd:Dig ws) (hn:ws.length < n) (hl:ws.length <= 1000000):az_p n ws = some (rd (dv ws)):=by
 have h:=aj (B:=az_l1 n ws) (fun z:Int=>z.toNat) (fun z=>0 <= z/\z <= ws.length/\∀ i:Nat,z.toNat <= i -> ∀ h:i < ws.length,ws[i] = 0)
  (fun z=>∃ k:Nat,z = k/\k <= ws.length/\(∀ i:Nat,k <= i -> ∀ h:i < ws.length,ws[i] = 0)/\∀ h:0 < k,∀ h2:k - 1 < ws.length,ws[k - 1] ≠ 0) ?_ n (ws.length:Int) ⟨by omega,by omega,fun i h1 h2=>by omega⟩ (by simpa using hn)
 ·obtain ⟨z,hz,k,rfl,hk,hz0,hz1⟩:=h
  have e:dv ws = dv (ws.take k):=by
   conv=>lhs; rw [<- List.take_append_drop k ws,ij]
   rw [ew (ws.drop k) fun x hx=>?_]
   ·simp
   ·obtain ⟨i,hi,rfl⟩:=List.getElem_of_mem hx
    rw [List.getElem_drop]
    exact hz0 _ (by omega) _
  have hnm:Nr (ws.take k):=by
   intro x hx
   rw [List.getLast?_eq_getElem?,List.length_take,Nat.min_eq_left hk] at hx
   obtain ⟨h1,rfl⟩:=List.getElem?_eq_some_iff.1 hx
   have h2:k - 1 < ws.length:=by rw [List.length_take] at h1; omega
   by_cases h0:0 < k
   ·rw [List.getElem_take]; exact hz1 h0 h2
   ·rw [List.length_take] at h1; omega
  have e2:rd (dv ws) = ws.take k:=by rw [e]; exact oQ (fun x hx=>hd x (List.mem_of_mem_take hx)) hnm
  unfold az_p jn
  simp only [hz,aa,kL hk,e2]
 ·intro z J ⟨h1,h2,h3⟩ hJ
  unfold az_l1
  simp only
  by_cases h0:0 < z
  ·rw [if_pos h0,aH (by omega) (by omega),aa,aM (by omega) (by omega),aa]
   split
   ·rename_i hx
    rw [aa]
    refine hJ (z - 1) ⟨by omega,by omega,fun i h4 h5=>?_⟩ (by omega)
    by_cases h6:i = (z - 1).toNat
    ·subst h6; exact hx
    ·exact h3 i (by omega) h5
   ·rename_i hx
    refine ⟨z,rfl,z.toNat,by omega,by omega,h3,fun h4 h5=>?_⟩
    have:(z - 1).toNat = z.toNat - 1:=by omega
    simp only [this] at hx
    exact hx
  ·rw [if_neg h0]
   exact ⟨z,rfl,0,by omega,by omega,fun i h4 h5=>h3 i (by omega) h5,fun h4=>by omega⟩
theorem md {a b:List Int} (ha:Dig a) (hbd:Dig b) (hb:Nr b) (h:a.length < b.length):dv a < dv b:=by
 have h1:=cE ha
 have h2:=jL hbd hb (by intro e; rw [e] at h; simp at h)
 have h3:4294967296 ^ a.length <= 4294967296 ^ (b.length - 1):=Nat.pow_le_pow_right (by omega) (by omega)
 omega
theorem jV {a b:List Int} {i:Nat} (hda:Dig a) (hdb:Dig b) (ha:i < a.length) (hb:i < b.length) (hd:a.drop (i + 1) = b.drop (i + 1)) (h:a[i] < b[i]):dv a < dv b:=by
 rw [gB a ha,gB b hb,hd]
 have h1:=cE (xs:=a.take i) fun x hx=>hda x (List.mem_of_mem_take hx)
 rw [List.length_take,Nat.min_eq_left (by omega)] at h1
 have h3:=hda a[i] (List.getElem_mem _)
 have h4:=hdb b[i] (List.getElem_mem _)
 have h2:4294967296 ^ i * (a[i].toNat + 1) <= 4294967296 ^ i * b[i].toNat:=Nat.mul_le_mul_left _ (by omega)
 rw [Nat.mul_add] at h2
 omega
theorem gJ (n:Nat) (a b:List Int) (hda:Dig a) (hdb:Dig b) (ha:Nr a) (hb:Nr b) (hn:a.length < n) (hl:a.length < 1000000):∃ c,aQ_p n a b = some c/\(c < 0 ↔ dv a < dv b)/\(c = 0 ↔ dv a = dv b):=by
 unfold aQ_p
 by_cases h:a.length = b.length
 ·rw [if_pos h]
  have hh:=aj (B:=aQ_l1 n a b) (fun z:Int=>(z + 1).toNat) (fun z=>-1 <= z/\z < a.length/\a.drop (z + 1).toNat = b.drop (z + 1).toNat)
   (fun r=>(∃ c,r = .inl c/\(c < 0/\dv a < dv b ∨ 0 < c/\dv b < dv a)) ∨ (r = .inr ()/\a = b)) ?_ n ((a.length:Int) - 1) ⟨by omega,by omega,?_⟩ (by omega)
  ·obtain ⟨r,hr,⟨c,h1,h2⟩ | h1⟩:=hh
   ·rw [hr,h1]; exact ⟨_,rfl,by omega,by omega⟩
   ·rw [hr,h1.1,h1.2]; exact ⟨_,rfl,by omega,by omega⟩
  ·intro z J ⟨h1,h2,h3⟩ hJ
   unfold aQ_l1
   simp only
   by_cases h0:0 <= z
   ·have e1:(z + 1).toNat = z.toNat + 1:=by omega
    rw [e1] at h3
    have d1:=hda (a[z.toNat]'(by omega)) (List.getElem_mem _)
    have d2:=hdb (b[z.toNat]'(by omega)) (List.getElem_mem _)
    rw [if_pos h0,aM h0 (by omega),aa,aM h0 (by omega),aa]
    split
    ·rename_i he
     rw [aH (by omega) (by omega),aa]
     refine hJ (z - 1) ⟨by omega,by omega,?_⟩ (by omega)
     rw [show (z - 1 + 1).toNat = z.toNat by omega,List.drop_eq_getElem_cons (by omega),List.drop_eq_getElem_cons (l:=b) (by omega),h3,he]
    ·rename_i hne
     rw [aH (by omega) (by omega),aa]
     by_cases hlt:a[z.toNat]'(by omega) < b[z.toNat]'(by omega)
     ·exact ⟨_,rfl,.inl ⟨_,rfl,.inl ⟨by omega,jV hda hdb (by omega) (by omega) h3 hlt⟩⟩⟩
     ·exact ⟨_,rfl,.inl ⟨_,rfl,.inr ⟨by omega,jV hdb hda (by omega) (by omega) h3.symm (by omega)⟩⟩⟩
   ·rw [if_neg h0]
    have e1:(z + 1).toNat = 0:=by omega
    rw [e1] at h3
    exact ⟨_,rfl,.inr ⟨rfl,by simpa using h3⟩⟩
  ·rw [show ((a.length:Int) - 1 + 1).toNat = a.length by omega,List.drop_length,h,List.drop_length]
 ·rw [if_neg h]
  refine ⟨_,rfl,?_⟩
  by_cases h1:a.length < b.length
  ·have:=md hda hdb hb h1; omega
  ·have:=md (a:=b) hdb hda ha (by omega); omega
theorem di {xs:List Int} {x:Int} (h:Dig xs) (hx:0 <= x/\x < 4294967296):Dig (xs ++ [x]):=fun y hy=>(List.mem_append.1 hy).elim (h y) fun e=>by rw [List.mem_singleton.1 e]; exact hx
theorem ei (xs:List Int) (x:Int):dv (xs ++ [x]) = dv xs + 4294967296 ^ xs.length * x.toNat:=by rw [ij]; simp [dv]
theorem gz (n:Nat) (a b:List Int) (hda:Dig a) (hdb:Dig b) (hb:b.length <= a.length) (hv:dv b <= dv a) (hn:a.length < n) (hl:a.length < 100000):al_p n a b = some (rd (dv a - dv b)):=by
 have h:=aj (B:=al_l1 n a b) (fun s:Nat × Nat × List Int=>a.length - s.2.1) (fun s=>s.2.1 <= a.length/\s.2.2.length = s.2.1/\s.1 <= 1/\Dig s.2.2/\dv s.2.2 + dv (b.take s.2.1) = dv (a.take s.2.1) + 4294967296 ^ s.2.1 * s.1)
  (fun r:List Int=>r.length = a.length/\Dig r/\dv r = dv a - dv b) ?_ n (0,0,[]) ⟨by simp,by simp,by simp,eF,by simp [dv]⟩ (by simpa using hn)
 ·obtain ⟨xs,h1,h2,h3,h4⟩:=h
  unfold al_p
  rw [h1,aa,dK n xs h3 (by omega) (by omega),aa,h4]
 ·rintro ⟨u,i,xs⟩ J ⟨h1,h2,h3,h4,h5⟩ hJ
  simp only at h1 h2 h3 h4 h5 hJ
  unfold al_l1
  simp only
  by_cases hi:i < a.length
  ·have da:=hda a[i] (List.getElem_mem _)
   rw [if_pos hi,geE hi,aa,aH (by omega) (by omega),aa]
   have key:∀ y:Int,0 <= y -> y < 4294967296 -> y.toNat = (b[i]?.getD 0).toNat -> ∃ r,(if a[i] - (u:Int) - y < 0 then (chk (a[i] - (u:Int) - y + 4294967296)).bind fun s245=>(app xs ([s245]:List Int)).bind fun xs230=>J (1,i + 1,xs230) else (app xs ([a[i] - (u:Int) - y]:List Int)).bind fun xs230=>J (0,i + 1,xs230)) = some r/\r.length = a.length/\Dig r/\dv r = dv a - dv b:=by
    intro y y0 y1 hy
    split
    ·rename_i hneg
     rw [aH (by omega) (by omega),aa,bb _ _ (by simp only [leC,leN]; omega),aa]
     have e:dv (xs ++ [a[i] - (u:Int) - y + 4294967296]) + dv (b.take (i + 1)) = dv (a.take (i + 1)) + 4294967296 ^ (i + 1) * 1:=by
      rw [ei,h2,bL a hi,eR b i,<- hy,Nat.pow_succ]
      have e1:(a[i] - (u:Int) - y + 4294967296).toNat + u + y.toNat = a[i].toNat + 4294967296:=by omega
      have e2:=congrArg (4294967296 ^ i * ·) e1
      simp only [Nat.mul_add] at e2
      omega
     refine hJ (1,i + 1,_) ⟨hi,by simp only [List.length_append,leC,leN]; omega,by simp,di h4 (by omega),by simpa using e⟩ (by simp only; omega)
    ·rename_i hneg
     rw [bb _ _ (by simp only [leC,leN]; omega),aa]
     have e:dv (xs ++ [a[i] - (u:Int) - y]) + dv (b.take (i + 1)) = dv (a.take (i + 1)) + 4294967296 ^ (i + 1) * 0:=by
      rw [ei,h2,bL a hi,eR b i,<- hy,Nat.mul_zero]
      have e1:(a[i] - (u:Int) - y).toNat + u + y.toNat = a[i].toNat:=by omega
      have e2:=congrArg (4294967296 ^ i * ·) e1
      simp only [Nat.mul_add] at e2
      omega
     refine hJ (0,i + 1,_) ⟨hi,by simp only [List.length_append,leC,leN]; omega,by simp,di h4 (by omega),by simpa using e⟩ (by simp only; omega)
   unfold jn
   simp only
   by_cases hj:i < b.length
   ·have db:=hdb b[i] (List.getElem_mem _)
    rw [if_pos hj,geE hj,aa,aH (by omega) (by omega),aa]
    exact key b[i] db.1 db.2 (by rw [geE hj]; rfl)
   ·rw [if_neg hj]
    have:=key 0 (by decide) (by decide) (by rw [List.getElem?_eq_none (by omega)]; rfl)
    rwa [Int.sub_zero] at this
  ·rw [if_neg hi]
   have:i = a.length:=by omega
   subst this
   rw [List.take_length,bn hb] at h5
   refine ⟨xs,rfl,h2,h4,?_⟩
   have h6:=cE h4
   rw [h2] at h6
   by_cases hu:u = 0
   ·rw [hu] at h5; omega
   ·have:u = 1:=by omega
    rw [this] at h5; omega
theorem mE (n:Nat) (a:List Int) (bit:Int) (hda:Dig a) (h0:0 <= bit/\bit <= 1) (hn:a.length + 1 < n) (hl:a.length < 100000):bA_p n a bit = some (rd (2 * dv a + bit.toNat)):=by
 have h:=aj (B:=bA_l1 n a) (fun s:Int × Nat × List Int=>a.length - s.2.1) (fun s=>s.2.1 <= a.length/\s.2.2.length = s.2.1/\(0 <= s.1/\s.1 <= 1)/\Dig s.2.2/\dv s.2.2 + 4294967296 ^ s.2.1 * s.1.toNat = 2 * dv (a.take s.2.1) + bit.toNat)
  (fun r:List Int × Int=>r.1.length = a.length/\Dig r.1/\(0 <= r.2/\r.2 <= 1)/\dv r.1 + 4294967296 ^ a.length * r.2.toNat = 2 * dv a + bit.toNat) ?_ n (bit,0,[]) ⟨by simp,by simp,h0,eF,by simp [dv]⟩ (by simp only; omega)
 ·obtain ⟨⟨xs,c⟩,h1,h2,h3,h4,h5⟩:=h
  simp only at h2 h3 h4 h5
  unfold bA_p
  rw [h1,aa]
  simp only
  rw [bb _ _ (by simp only [leC,leN]; omega),aa,dK n _ (di h3 (by omega)) (by simp only [List.length_append,leC,leN]; omega) (by simp only [List.length_append,leC,leN]; omega),aa,ei,h2,h5]
 ·rintro ⟨c,i,xs⟩ J ⟨h1,h2,h3,h4,h5⟩ hJ
  simp only at h1 h2 h3 h4 h5 hJ
  unfold bA_l1
  simp only
  by_cases hi:i < a.length
  ·have da:=hda a[i] (List.getElem_mem _)
   have q0:Int.tdiv (2 * a[i] + c) 4294967296 = (2 * a[i] + c) / 4294967296:=Int.tdiv_eq_ediv_of_nonneg (by omega)
   have m0:Int.tmod (2 * a[i] + c) 4294967296 = (2 * a[i] + c) % 4294967296:=Int.tmod_eq_emod_of_nonneg (by omega)
   rw [if_pos hi,geE hi,aa,aH (by omega) (by omega),aa,aH (by omega) (by omega),aa,bN (by decide),aa,m0,bb _ _ (by simp only [leC,leN]; omega),aa]
   unfold cG
   rw [if_neg (by decide),q0,aH (by omega) (by omega),aa]
   refine hJ (_,i + 1,_) ⟨hi,by simp only [List.length_append,leC,leN]; omega,by simp only; omega,di h4 (by omega),?_⟩ (by simp only; omega)
   simp only
   rw [ei,h2,bL a hi,Nat.pow_succ]
   have e1:((2 * a[i] + c) % 4294967296).toNat + 4294967296 * ((2 * a[i] + c) / 4294967296).toNat = 2 * a[i].toNat + c.toNat:=by omega
   have e2:=congrArg (4294967296 ^ i * ·) e1
   simp only [Nat.mul_add] at e2
   rw [Nat.mul_assoc]
   have e3:4294967296 ^ i * (2 * a[i].toNat) = 2 * (4294967296 ^ i * a[i].toNat):=Nat.mul_left_comm ..
   omega
  ·rw [if_neg hi]
   have:i = a.length:=by omega
   subst this
   rw [List.take_length] at h5
   exact ⟨_,rfl,h2,h4,h3,h5⟩
end Go.Proofs.YtfccehcnajelgaaGreatDoor
namespace Go.Proofs.YtfccehcnajelgaaGreatDoor
open Go
theorem oA:(List.range 32).all (fun k=>decide (shlS 1 k = (2:Int) ^ k)) = true:=by kernel_rfl
theorem shlS_ok {k:Nat} (h:k < 32):shlS 1 k = (2:Int) ^ k:=of_decide_eq_true (List.all_eq_true.1 oA k (List.mem_range.2 h))
theorem kb (k:Nat):(2:Int) ^ k = ((2 ^ k:Nat):Int):=by norm_cast
theorem bit_ok {x:Int} {k:Nat} (hx:0 <= x) (hk:k < 32):bH (shrS x k) 2 = some ((x.toNat / 2 ^ k % 2:Nat):Int):=by
 obtain ⟨m,rfl⟩:=Int.eq_ofNat_of_zero_le hx
 unfold shrS
 rw [Nat.min_eq_left (by omega),kb,Int.fdiv_eq_ediv_of_nonneg _ (Int.natCast_nonneg _),bN (by decide),<- Int.natCast_ediv,Int.tmod_eq_emod_of_nonneg (Int.natCast_nonneg _),Int.toNat_natCast]
 congr 1
theorem iz (w:Nat):4294967296 ^ w = 2 ^ (32 * w):=by
 rw [show (4294967296:Nat) = 2 ^ 32 from rfl,<- Nat.pow_mul]
theorem ow {xs:List Int} (h:Dig xs) (i:Nat) (hi:i <= xs.length):dv xs / 4294967296 ^ i = dv (xs.drop i):=by
 have h1:=cE (xs:=xs.take i) fun x hx=>h x (List.mem_of_mem_take hx)
 rw [List.length_take,Nat.min_eq_left hi] at h1
 have e:dv xs = dv (xs.take i) + 4294967296 ^ i * dv (xs.drop i):=by
  conv=>lhs; rw [<- List.take_append_drop i xs,ij,List.length_take,Nat.min_eq_left hi]
 rw [e,Nat.add_mul_div_left _ _ (Nat.pow_pos (by decide)),Nat.div_eq_of_lt h1,Nat.zero_add]
theorem mS (a i k:Nat) (hk:k < 32) (hi:i < (rd a).length):(rd a)[i].toNat / 2 ^ k % 2 = a / 2 ^ (32 * i + k) % 2:=by
 have h1:=ow (aC a) i (by omega)
 rw [aL,List.drop_eq_getElem_cons hi] at h1
 simp only [dv] at h1
 rw [Nat.pow_add,<- iz,<- Nat.div_div_eq_div_mul,h1]
 have e:(4294967296:Nat) = 2 ^ k * (2 * 2 ^ (31 - k)):=by
  rw [<- Nat.pow_succ', <- Nat.pow_add,show k + (31 - k).succ = 32 by omega]
 generalize dv (List.drop (i + 1) (rd a)) = r
 rw [e,Nat.mul_assoc,Nat.add_mul_div_left _ _ (Nat.two_pow_pos k),Nat.mul_assoc]
 omega
theorem dig_dvd {q:List Int} {i k:Nat} (hd:Dig q) (h:i < q.length) (hk:k < 32) (hv:2 ^ (32 * i + k + 1) ∣ dv q):2 ^ (k + 1) ∣ q[i].toNat:=by
 have hs:=gB q h
 have hl:=cE (xs:=q.take i) fun x hx=>hd x (List.mem_of_mem_take hx)
 rw [List.length_take,Nat.min_eq_left (by omega)] at hl
 have e1:2 ^ (32 * i + k + 1) = 4294967296 ^ i * 2 ^ (k + 1):=by rw [iz,<- Nat.pow_add]; congr 1
 have e2:(4294967296:Nat) = 2 ^ (k + 1) * 2 ^ (31 - k):=by rw [<- Nat.pow_add,show k + 1 + (31 - k) = 32 by omega]
 have h0:dv (q.take i) = 0:=by
  have h1:4294967296 ^ i ∣ dv q:=Nat.dvd_trans ⟨_,e1⟩ hv
  rw [hs,Nat.pow_succ,Nat.mul_assoc,Nat.add_assoc,<- Nat.mul_add] at h1
  have h2:=(Nat.dvd_add_left (Nat.dvd_mul_right ..)).1 h1
  exact Nat.eq_zero_of_dvd_of_lt h2 hl
 rw [e1,hs,h0,Nat.zero_add,show (4294967296:Nat) ^ (i + 1) = 4294967296 ^ i * 4294967296 from Nat.pow_succ ..,Nat.mul_assoc (4294967296 ^ i) 4294967296,<- Nat.mul_add] at hv
 have h4:=Nat.dvd_of_mul_dvd_mul_left (Nat.pow_pos (by decide)) hv
 have h5:2 ^ (k + 1) ∣ 4294967296 * dv (q.drop (i + 1)):=Nat.dvd_trans ⟨_,e2⟩ (Nat.dvd_mul_right ..)
 exact (Nat.dvd_add_left h5).1 h4
theorem dig_set {q:List Int} {i:Nat} {v:Int} (h:Dig q) (hv:0 <= v/\v < 4294967296):Dig (q.set i v):=fun x hx=>(List.mem_or_eq_of_mem_set hx).elim (h x) fun e=>e ▸ hv
theorem lc {t k:Nat} (hk:k < 32) (ht:t < 4294967296) (hd:2 ^ (k + 1) ∣ t):t + 2 ^ k < 4294967296:=by
 obtain ⟨c,rfl⟩:=hd
 have e2:(4294967296:Nat) = 2 ^ (k + 1) * 2 ^ (31 - k):=by rw [<- Nat.pow_add,show k + 1 + (31 - k) = 32 by omega]
 rw [e2] at ht
 have h1:=Nat.lt_of_mul_lt_mul_left ht
 have h2:2 ^ (k + 1) * (c + 1) <= 2 ^ (k + 1) * 2 ^ (31 - k):=Nat.mul_le_mul_left _ h1
 rw [<- e2,Nat.mul_add,Nat.pow_succ] at h2
 have:=Nat.two_pow_pos k
 rw [Nat.pow_succ]
 omega
theorem nI (n:Nat) (a b i:Nat) (q:List Int) (hb:(rd b).length < 10000) (hi:i < (rd a).length) (hq:i < q.length) (hqd:Dig q) (Q R:Nat) (h1:dv q = 2 ^ (32 * i + 32) * Q) (h2:a / 2 ^ (32 * i + 32) = b * Q + R) (h3:R < b) (hn:20000 < n) :
  ∃ q' Q' R', ah (aB_l1 n (rd a) (i:Int) (rd b)) n (rd R,31,q) = some (rd R', q')/\q'.length = q.length/\Dig q' /\dv q' = 2 ^ (32 * i) * Q' /\a / 2 ^ (32 * i) = b * Q' + R' /\R' < b:=by
 have hh:=aj (B:=aB_l1 n (rd a) (i:Int) (rd b)) (fun s:List Int × Int × List Int=>(s.2.1 + 1).toNat)
  (fun s=>(-1 <= s.2.1/\s.2.1 <= 31)/\s.2.2.length = q.length/\Dig s.2.2/\∃ Q R,s.1 = rd R/\dv s.2.2 = 2 ^ (32 * i + (s.2.1 + 1).toNat) * Q/\a / 2 ^ (32 * i + (s.2.1 + 1).toNat) = b * Q + R/\R < b)
  (fun y=>y.2.length = q.length/\Dig y.2/\∃ Q R,y.1 = rd R/\dv y.2 = 2 ^ (32 * i) * Q/\a / 2 ^ (32 * i) = b * Q + R/\R < b) ?_ n (rd R,31,q) ⟨by simp,rfl,hqd,Q,R,rfl,h1,h2,h3⟩ (by simp only; omega)
 ·obtain ⟨⟨x,q'⟩,e,e1,e2,Q', R', e3,e4,e5,e6⟩:=hh
  simp only at e3
  subst e3
  exact ⟨q', Q', R', e,e1,e2,e4,e5,e6⟩
 ·rintro ⟨xs,z,q⟩ J ⟨a1,a2,a3,Q,R,rfl,a4,a5,a6⟩ hJ
  simp only at a1 a2 a3 a4 a5 hJ
  unfold aB_l1
  simp only
  by_cases hz:0 <= z
  ·obtain ⟨k,rfl⟩:∃ k:Nat,z = k:=⟨z.toNat,by omega⟩
   have hk:k < 32:=by omega
   have e0:(((k:Int) + 1).toNat) = k + 1:=by omega
   rw [e0] at a4 a5
   have hdi:=aC a (rd a)[i] (List.getElem_mem _)
   have hRl:=cJ (Nat.le_of_lt a6)
   rw [if_pos hz,aM (by omega) (by rw [Int.toNat_natCast]; exact hi),aa,show aT (k:Int) = some k from by unfold aT; rw [if_pos hz,Int.toNat_natCast],aa]
   simp only [Int.toNat_natCast]
   rw [bit_ok hdi.1 hk,aa,mS a i k hk hi,mE n _ _ (aC R) (by omega) (by omega) (by omega),aa,aL,Int.toNat_natCast]
   have hbit:a / 2 ^ (32 * i + k) % 2 < 2:=Nat.mod_lt _ (by decide)
   have hab:a / 2 ^ (32 * i + k) = b * (2 * Q) + (2 * R + a / 2 ^ (32 * i + k) % 2):=by
    have:a / 2 ^ (32 * i + (k + 1)) = a / 2 ^ (32 * i + k) / 2:=by rw [<- Nat.add_assoc,Nat.pow_succ,Nat.div_div_eq_div_mul]
    rw [this] at a5
    rw [Nat.mul_left_comm]; omega
   have hdq:dv q = 2 ^ (32 * i + k) * (2 * Q):=by rw [a4,<- Nat.add_assoc,Nat.pow_succ,Nat.mul_assoc]
   generalize a / 2 ^ (32 * i + k) % 2 = t at hbit hab ⊢
   obtain ⟨c,ec,c1,c2⟩:=gJ n (rd (2 * R + t)) (rd b) (aC _) (aC _) (gk _) (gk _) (by have:=cu (m:=2 * R + t) (l:=(rd b).length + 1) (by have:=cE (aC b); rw [aL] at this; rw [Nat.pow_succ]; omega); omega) (by have:=cu (m:=2 * R + t) (l:=(rd b).length + 1) (by have:=cE (aC b); rw [aL] at this; rw [Nat.pow_succ]; omega); omega)
   rw [aL,aL] at c1 c2
   have hl2:(rd (2 * R + t)).length < 10002:=by have:=cu (m:=2 * R + t) (l:=(rd b).length + 1) (by have:=cE (aC b); rw [aL] at this; rw [Nat.pow_succ]; omega); omega
   rw [ec,aa]
   unfold jn
   simp only
   have eN:(((k:Int) - 1 + 1)).toNat = k:=by omega
   by_cases hc:0 <= c
   ·have hge:b <= 2 * R + t:=by omega
    have hdd:=dig_dvd a3 (by omega:i < q.length) hk (by rw [a4]; exact Nat.dvd_mul_right ..)
    have hqi:=a3 (q[i]'(by omega)) (List.getElem_mem _)
    have hroom:=lc hk (by omega) hdd
    have hk2:(2:Nat) ^ k < 4294967296:=by have:=Nat.zero_le (q[i]'(by omega)).toNat; omega
    rw [if_pos hc,gz n _ _ (aC _) (aC _) (cJ hge) (by rw [aL,aL]; exact hge) (by omega) (by omega),aa,aL,aL,aM (by omega) (by rw [Int.toNat_natCast]; omega),aa]
    simp only [Int.toNat_natCast]
    rw [aa,shlS_ok hk,kb,aH (by omega) (by omega),aa,aR _ (by omega),aa,aH (by omega) (by omega),aa]
    refine hJ (_,_,_) ⟨by simp only; omega,by simpa using a2,dig_set a3 (by omega),2 * Q + 1,2 * R + t - b,rfl,?_,?_,by omega⟩ (by simp only; omega)
    ·simp only
     rw [eN]
     have hp:=lB ((q[i]'(by omega)) + ((2 ^ k:Nat):Int)) (by omega:i < q.length)
     rw [show ((q[i]'(by omega)) + ((2 ^ k:Nat):Int)).toNat = (q[i]'(by omega)).toNat + 2 ^ k by omega,Nat.mul_add] at hp
     have e5:2 ^ (32 * i + k) = 4294967296 ^ i * 2 ^ k:=by rw [iz,<- Nat.pow_add]
     rw [Nat.mul_add,Nat.mul_one,<- hdq,e5]
     omega
    ·simp only
     rw [eN,hab,Nat.mul_add]; omega
   ·rw [if_neg hc,aH (by omega) (by omega),aa]
    refine hJ (_,_,_) ⟨by simp only; omega,a2,a3,2 * Q,2 * R + t,rfl,?_,?_,by omega⟩ (by simp only; omega)
    ·simp only; rw [eN]; exact hdq
    ·simp only; rw [eN]; exact hab
  ·rw [if_neg hz]
   have e0:(z + 1).toNat = 0:=by omega
   rw [e0] at a4 a5
   exact ⟨_,rfl,a2,a3,Q,R,rfl,a4,a5,a6⟩
theorem iE (n:Nat) (a b:Nat) (h0:b ≠ 0) (ha:(rd a).length < 10000) (hb:(rd b).length < 10000) (hn:20000 < n):aB_p n (rd a) (rd b) = some (rd (a / b),rd (a % b)):=by
 have hbn:rd b ≠ []:=fun e=>h0 (kN.1 e)
 have hbp:=jL (aC b) (gk b) hbn
 have hal:=cE (aC a)
 rw [aL] at hbp hal
 have hb1:1 <= (rd b).length:=by
  rcases h:rd b with _ | ⟨x,xs⟩
  ·exact absurd h hbn
  ·simp
 unfold aB_p
 by_cases hc:(((rd a).length:Nat):Int) <= (((rd b).length:Nat):Int) - 1
 ·have hab:a < b:=Nat.lt_of_lt_of_le hal (Nat.le_trans (Nat.pow_le_pow_right (by decide) (by omega)) hbp)
  rw [if_pos hc,bb _ _ (by simp only [leN]; omega),aa,List.nil_append,Nat.div_eq_of_lt hab,Nat.mod_eq_of_lt hab,rd0]
 ·obtain ⟨lq,hlq⟩:∃ lq:Nat,(((rd a).length:Nat):Int) - ((((rd b).length:Nat):Int) - 1) = lq:=⟨(rd a).length - ((rd b).length - 1),by omega⟩
  have hdr:(rd a).drop lq = rd (a / 2 ^ (32 * lq)):=by
   have h1:=ow (aC a) lq (by omega)
   rw [aL,iz] at h1
   rw [h1]
   refine (oQ (fun x hx=>aC a x (List.mem_of_mem_drop hx)) fun x hx=>?_).symm
   rw [List.getLast?_drop] at hx
   split at hx
   ·cases hx
   ·exact gk a x hx
  have hR:a / 2 ^ (32 * lq) < b:=by
   rw [<- iz]
   refine Nat.lt_of_lt_of_le ?_ hbp
   refine Nat.div_lt_of_lt_mul ?_
   rw [<- Nat.pow_add,show lq + ((rd b).length - 1) = (rd a).length by omega]
   exact hal
  rw [if_neg hc,hlq,cy _ _ (by omega),aa]
  rw [show cut (rd a) (lq:Int) (((rd a).length:Nat):Int) = some ((rd a).drop lq) from by unfold cut; rw [if_pos ⟨by omega,by omega,by omega⟩,Int.toNat_natCast,Int.toNat_natCast,List.take_length],aa,bb _ _ (by rw [List.length_drop]; simp only [leN]; omega),aa,List.nil_append,hdr,List.length_replicate]
  have hh:=aj (B:=aB_l2 n (rd a) (rd b)) (fun s:List Int × Int × List Int=>(s.2.1 + 1).toNat)
   (fun s=>(-1 <= s.2.1/\s.2.1 < lq)/\s.2.2.length = lq/\Dig s.2.2/\∃ Q R,s.1 = rd R/\dv s.2.2 = 2 ^ (32 * (s.2.1 + 1).toNat) * Q/\a / 2 ^ (32 * (s.2.1 + 1).toNat) = b * Q + R/\R < b)
   (fun y=>y.1.length = lq/\Dig y.1/\dv y.1 = a / b/\y.2 = rd (a % b)) ?_ n (rd (a / 2 ^ (32 * lq)),(lq:Int) - 1,List.replicate lq 0)
   ⟨by simp only; omega,by simp,fun x hx=>by rw [(List.mem_replicate.1 hx).2]; decide,0,a / 2 ^ (32 * lq),rfl,by simp only [Nat.mul_zero]; exact ew _ fun x hx=>(List.mem_replicate.1 hx).2,by simp only [Nat.mul_zero,Nat.zero_add]; congr 2; omega,hR⟩ (by simp only; omega)
  ·obtain ⟨⟨q,r⟩,e,e1,e2,e3,e4⟩:=hh
   simp only at e1 e2 e3 e4
   rw [e,aa]
   simp only
   rw [dK n q e2 (by omega) (by omega),aa,e3,e4]
  ·rintro ⟨xs,z,q⟩ J ⟨a1,a2,a3,Q,R,rfl,a4,a5,a6⟩ hJ
   simp only at a1 a2 a3 a4 a5 hJ
   unfold aB_l2
   simp only
   by_cases hz:0 <= z
   ·obtain ⟨k,rfl⟩:∃ k:Nat,z = k:=⟨z.toNat,by omega⟩
    have e0:32 * (((k:Int) + 1).toNat) = 32 * k + 32:=by omega
    rw [e0] at a4 a5
    obtain ⟨q', Q', R', e,e1,e2,e3,e4,e5⟩:=nI n a b k q hb (by omega) (by omega) a3 Q R a4 a5 a6 hn
    rw [if_pos hz,e,aa]
    simp only
    rw [aH (by omega) (by omega),aa]
    have eN:(((k:Int) - 1 + 1)).toNat = k:=by omega
    refine hJ (_,_,_) ⟨by simp only; omega,by simp only; omega,e2,Q', R', rfl,by simp only; rw [eN]; exact e3,by simp only; rw [eN]; exact e4,e5⟩ (by simp only; omega)
   ·rw [if_neg hz]
    have e0:(z + 1).toNat = 0:=by omega
    rw [e0,Nat.mul_zero,Nat.pow_zero] at a4 a5
    rw [Nat.div_one] at a5
    rw [Nat.one_mul] at a4
    have hu:=(Nat.div_mod_unique (a:=a) (b:=b) (c:=R) (d:=Q) (by omega)).2 ⟨by omega,a6⟩
    exact ⟨_,rfl,a2,a3,by simp only; rw [a4,hu.1],by simp only; rw [hu.2]⟩
theorem ic (n:Nat) (x y:Nat) (s t:Bool) (hx:(rd x).length < 10000) (hy:(rd y).length < 10000) (hn:18446744073709551616 < n):aU_p n ⟨s,rd x⟩ ⟨t,rd y⟩ = some ⟨false,rd (Nat.gcd x y)⟩:=by
 have hxl:=cE (aC x)
 have hyl:=cE (aC y)
 rw [aL,iz] at hxl hyl
 obtain ⟨M,hM⟩:∃ M:Nat,M = 320000:=⟨_,rfl⟩
 have hx2:x < 2 ^ M:=Nat.lt_of_lt_of_le hxl (Nat.pow_le_pow_right (by decide) (by omega))
 have hy2:y < 2 ^ M:=Nat.lt_of_lt_of_le hyl (Nat.pow_le_pow_right (by decide) (by omega))
 have he:=eu_le hx2 hy2
 have hh:=aj (B:=aU_l1 n) (fun s:List Int × List Int=>eu (dv s.1) (dv s.2)) (fun s=>∃ a b,s = (rd a,rd b)/\(rd a).length < 10000/\(rd b).length < 10000/\Nat.gcd a b = Nat.gcd x y)
  (fun r=>r = rd (Nat.gcd x y)) ?_ n (rd x,rd y) ⟨_,_,rfl,hx,hy,rfl⟩ (by simp only [aL]; omega)
 ·obtain ⟨r,h1,rfl⟩:=hh
  unfold aU_p
  simp only
  rw [h1,aa]
 ·rintro _ J ⟨a,b,rfl,h1,h2,h3⟩ hJ
  unfold aU_l1
  simp only
  by_cases h0:b = 0
  ·subst h0
   rw [if_neg (by rw [rd0]; simp)]
   exact ⟨_,rfl,by rw [<- h3,Nat.gcd_zero_right]⟩
  ·have hm:a % b < b:=Nat.mod_lt _ (by omega)
   have hbl:0 < (rd b).length:=by
    rcases h:rd b with _ | ⟨z,zs⟩
    ·exact absurd (kN.1 h) h0
    ·simp
   rw [if_pos hbl,iE n a b h0 h1 h2 (by omega),aa]
   simp only
   refine hJ (rd b,rd (a % b)) ⟨_,_,rfl,h2,Nat.lt_of_le_of_lt (cJ (Nat.le_of_lt hm)) h2,?_⟩ (by simp only [aL]; exact lU h0)
   rw [<- h3,Nat.gcd_comm a b,Nat.gcd_rec b a,Nat.gcd_comm]
end Go.Proofs.YtfccehcnajelgaaGreatDoor
namespace Go.Proofs.YtfccehcnajelgaaGreatDoor
open Go
theorem kP {m:Nat}:0 < (rd m).length ↔ 0 < m:=by
 constructor
 ·intro h
  by_cases h0:m = 0
  ·rw [h0,rd0] at h; simp at h
  ·omega
 ·intro h
  rcases e:rd m with _ | ⟨x,xs⟩
  ·have:=kN.1 e; omega
  ·simp
theorem bW (n:Nat) (b:Bool) (ws:List Int) (hd:Dig ws) (hn:ws.length < n) (hl:ws.length <= 1000000):aa_p n b ws = some ⟨b && decide (0 < dv ws),rd (dv ws)⟩:=by
 unfold aa_p
 rw [dK n ws hd hn hl,aa]
 cases b
 ·simp
 ·rw [if_pos rfl,decide_eq_decide.2 kP,Bool.true_and]
def R8 (z:Int):Td:=⟨decide (z < 0),rd z.natAbs⟩
theorem nT (s:Bool) (m:Nat):(⟨s && decide (0 < m),rd m⟩:Td) = R8 (sg s m):=by
 unfold R8
 rw [ii]
 cases s
 ·simp [sg]
 ·simp [sg]
theorem kG (n:Nat) (z:Int) (h:Sm z) (hn:10 < n):bm_p n z = some (R8 z):=by
 have key:∀ u:UInt64,u.toNat = z.natAbs -> ((aa_p n (decide (z < 0)) ([az (u % (4294967296:UInt64)),az (u / (4294967296:UInt64))]:List Int)).bind fun y28=>some y28) = some (R8 z):=fun u hu=>by
  unfold Sm at h
  have h1:az (u % (4294967296:UInt64)) = ((z.natAbs % 4294967296:Nat):Int):=by
   unfold az
   rw [UInt64.toNat_mod,hu]
   rw [if_pos (by simp; omega)]
   rfl
  have h2:az (u / (4294967296:UInt64)) = ((z.natAbs / 4294967296:Nat):Int):=by
   unfold az
   rw [UInt64.toNat_div,hu]
   rw [if_pos (by simp; omega)]
   rfl
  rw [h1,h2,bW n _ _ (fun x hx=>by
   rcases List.mem_cons.1 hx with rfl | hx
   ·omega
   ·rw [List.mem_singleton.1 hx]; omega) (by simp only [leC,leN]; omega) (by simp),aa]
  have e:dv [((z.natAbs % 4294967296:Nat):Int),((z.natAbs / 4294967296:Nat):Int)] = z.natAbs:=by
   simp only [dv,Int.toNat_natCast]; omega
  rw [e]
  unfold R8
  congr 2
  by_cases hz:z < 0
  ·simp [hz]; omega
  ·simp [hz]
 unfold bm_p jn
 simp only
 by_cases hz:z < 0
 ·rw [if_pos hz]
  refine key _ ?_
  rw [UInt64.toNat_neg,eT h hz,show UInt64.size = 18446744073709551616 from rfl]
  unfold Sm at h
  omega
 ·rw [if_neg hz]
  refine key _ ?_
  rw [ep h hz,bO h.w]
theorem nN (n:Nat) (z:Int) (h:(rd z.natAbs).length < 10000) (hn:20000 < n):cj_p n (R8 z) = some (R8 (-z)):=by
 unfold cj_p
 rw [show (R8 z).fD = rd z.natAbs from rfl,bW n _ _ (aC _) (by omega) (by omega),aa,aL]
 unfold R8
 rw [Int.natAbs_neg]
 congr 2
 show (!decide (z < 0) && decide (0 < z.natAbs)) = decide (-z < 0)
 by_cases hz:z < 0
 ·rw [decide_eq_true hz,decide_eq_false (show ¬ -z < 0 by omega)]; rfl
 ·rw [decide_eq_false hz]
  by_cases h0:z = 0
  ·subst h0; rfl
  ·rw [decide_eq_true (by omega),decide_eq_true (by omega)]; rfl
theorem sg_mul (g x:Int) (hg:g ≠ 0):sg (!(decide (g * x < 0) == decide (g < 0))) x.natAbs = x:=by
 unfold sg
 by_cases h1:g < 0
 ·by_cases h2:x < 0
  ·have:=Int.mul_pos_of_neg_of_neg h1 h2
   rw [decide_eq_true h1,decide_eq_false (by omega)]; simp; omega
  ·by_cases h3:x = 0
   ·subst h3; simp
   ·have:=Int.mul_neg_of_neg_of_pos h1 (by omega:0 < x)
    rw [decide_eq_true h1,decide_eq_true this]; simp; omega
 ·by_cases h2:x < 0
  ·have:=Int.mul_neg_of_pos_of_neg (by omega:0 < g) h2
   rw [decide_eq_false h1,decide_eq_true this]; simp; omega
  ·have:=Int.mul_nonneg (by omega:0 <= g) (by omega:0 <= x)
   rw [decide_eq_false h1,decide_eq_false (by omega)]; simp; omega
theorem iU (n:Nat) (a g x:Int) (e:a = g * x) (hg:g ≠ 0) (ha:(rd a.natAbs).length < 10000) (hl:(rd g.natAbs).length < 10000) (hn:20000 < n):bH_p n (R8 a) (R8 g) = some (R8 x,R8 0):=by
 subst e
 have hd:(g * x).natAbs / g.natAbs = x.natAbs:=by rw [Int.natAbs_mul]; exact Nat.mul_div_cancel_left _ (by omega)
 have hm:(g * x).natAbs % g.natAbs = 0:=by rw [Int.natAbs_mul]; exact Nat.mul_mod_right ..
 have hx:(rd x.natAbs).length < 10000:=Nat.lt_of_le_of_lt (cJ (by rw [Int.natAbs_mul]; exact Nat.le_mul_of_pos_left _ (by omega))) ha
 unfold bH_p
 rw [show (R8 (g * x)).fD = rd (g * x).natAbs from rfl,show (R8 g).fD = rd g.natAbs from rfl,iE n _ _ (by omega) ha hl hn,aa,hd,hm]
 simp only
 rw [bW n _ _ (aC _) (by omega) (by omega),aa,aL,rd0,bW n _ [] eF (by simp; omega) (by simp),aa]
 show (if ((decide (g * x < 0)) && decide (0 < 0)) = true then _ else _) = _
 rw [if_neg (by simp)]
 rw [show (R8 (g * x)).fc = decide (g * x < 0) from rfl,show (R8 g).fc = decide (g < 0) from rfl,nT,sg_mul g x hg,show dv [] = 0 from rfl,nT]
 congr 2
 congr 1
 unfold sg; split <;> simp
theorem jm (n:Nat) (a b:Int) (h0:b ≠ 0) (ha:(rd a.natAbs).length < 10000) (hb:(rd b.natAbs).length < 10000) (hn:18446744073709551616 < n) :
  aZ_p n (R8 a) (R8 b) = some ⟨R8 (Rat.divInt a b).num,R8 ((Rat.divInt a b).den:Int)⟩/\(Rat.divInt a b).num.natAbs <= a.natAbs/\(Rat.divInt a b).den <= b.natAbs:=by
 have hg:0 < Nat.gcd a.natAbs b.natAbs:=Nat.gcd_pos_of_pos_right _ (by omega)
 have hgl:(rd (Nat.gcd a.natAbs b.natAbs)).length < 10000:=Nat.lt_of_le_of_lt (cJ (Nat.gcd_le_right _ (by omega))) hb
 obtain ⟨x,hx⟩:((Nat.gcd a.natAbs b.natAbs:Nat):Int) ∣ a:=Int.ofNat_dvd_left.2 (Nat.gcd_dvd_left _ _)
 obtain ⟨y,hy⟩:((Nat.gcd a.natAbs b.natAbs:Nat):Int) ∣ b:=Int.ofNat_dvd_left.2 (Nat.gcd_dvd_right _ _)
 have hco:=Nat.coprime_div_gcd_div_gcd hg
 unfold aZ_p
 rw [show R8 a = ⟨decide (a < 0),rd a.natAbs⟩ from rfl,show R8 b = ⟨decide (b < 0),rd b.natAbs⟩ from rfl,ic n _ _ _ _ ha hb hn,aa,<- show R8 a = ⟨decide (a < 0),rd a.natAbs⟩ from rfl,<- show R8 b = ⟨decide (b < 0),rd b.natAbs⟩ from rfl]
 generalize Nat.gcd a.natAbs b.natAbs = g at *
 have hg0:(g:Int) ≠ 0:=by omega
 have e3:a.natAbs = g * x.natAbs:=by rw [hx,Int.natAbs_mul]; rfl
 have e4:b.natAbs = g * y.natAbs:=by rw [hy,Int.natAbs_mul]; rfl
 have hc:x.natAbs.Coprime y.natAbs:=by
  rw [e3,e4,Nat.mul_div_cancel_left _ hg,Nat.mul_div_cancel_left _ hg] at hco; exact hco
 have hxl:x.natAbs <= a.natAbs:=by rw [e3]; exact Nat.le_mul_of_pos_left _ hg
 have hyl:y.natAbs <= b.natAbs:=by rw [e4]; exact Nat.le_mul_of_pos_left _ hg
 have hy0:y ≠ 0:=fun e=>h0 (by rw [hy,e,Int.mul_zero])
 have eq:Rat.divInt a b = Rat.divInt x y:=by
  conv=>lhs; rw [hx,hy]
  exact Rat.divInt_mul_left hg0
 rw [eq]
 have egR:(⟨false,rd g⟩:Td) = R8 (g:Int):=by unfold R8; simp
 unfold jn
 simp only
 by_cases hs:b < 0
 ·have hyn:y < 0:=by
   by_cases hy1:y < 0
   ·exact hy1
   ·have:=Int.mul_nonneg (by omega:(0:Int) <= g) (by omega:0 <= y); omega
  rw [if_pos (show (R8 b).fc = true from decide_eq_true hs),egR,nN n _ (by simpa using hgl) (by omega),aa]
  show (bH_p n (R8 a) (R8 (-(g:Int)))).bind _ = _/\_
  rw [iU n a (-(g:Int)) (-x) (by rw [Int.neg_mul_neg]; exact hx) (by omega) ha (by rw [Int.natAbs_neg]; simpa using hgl) (by omega),aa,iU n b (-(g:Int)) (-y) (by rw [Int.neg_mul_neg]; exact hy) (by omega) hb (by rw [Int.natAbs_neg]; simpa using hgl) (by omega),aa]
  have h5:=fW (x:=-x) (y:=-y) (by omega) (by rwa [Int.natAbs_neg,Int.natAbs_neg])
  rw [Rat.neg_divInt_neg] at h5
  rw [h5.1,h5.2]
  exact ⟨rfl,by rw [Int.natAbs_neg]; exact hxl,by have:=h5.2; omega⟩
 ·have hyp:0 < y:=by
   by_cases hy1:0 < y
   ·exact hy1
   ·have:=Int.mul_neg_of_pos_of_neg (by omega:(0:Int) < g) (by omega:y < 0); omega
  rw [if_neg (show ¬ (R8 b).fc = true from by simpa [R8] using hs)]
  show (bH_p n (R8 a) (⟨false,rd g⟩:Td)).bind _ = _/\_
  rw [egR,iU n a g x hx hg0 ha (by simpa using hgl) (by omega),aa,iU n b g y hy hg0 hb (by simpa using hgl) (by omega),aa]
  have h5:=fW (x:=x) (y:=y) hyp hc
  rw [h5.1,h5.2]
  exact ⟨rfl,hxl,by have:=h5.2; omega⟩
end Go.Proofs.YtfccehcnajelgaaGreatDoor
namespace Go.Proofs.YtfccehcnajelgaaGreatDoor
open Go
set_option maxRecDepth 8000
theorem quoI_ok {x y:Int} (h:y ≠ 0) (h1:-9223372036854775808 <= x.tdiv y) (h2:x.tdiv y <= 9223372036854775807):cG x y = some (x.tdiv y):=by
 unfold cG; rw [if_neg h,aH h1 h2]
theorem oa (n:Nat) (a b:List Int) (hda:Dig a) (hdb:Dig b) (hn:a.length + 1 < n/\b.length + 1 < n) (hl:a.length < 100000/\b.length < 100000):∃ xs,bF_p n a b = some xs/\Dig xs/\xs.length <= max a.length b.length + 1/\dv xs = dv a + dv b:=by
 have h:=aj (B:=bF_l1 n a b) (fun s:Int × Int × List Int=>max a.length b.length + 1 - s.2.2.length)
  (fun s=>s.2.1 = (s.2.2.length:Int)/\s.2.2.length <= max a.length b.length + 1/\(0 <= s.1/\s.1 <= 1)/\Dig s.2.2/\dv s.2.2 + 4294967296 ^ s.2.2.length * s.1.toNat = dv (a.take s.2.2.length) + dv (b.take s.2.2.length)/\(s.2.2.length = max a.length b.length + 1 -> s.1 = 0))
  (fun xs:List Int=>Dig xs/\xs.length <= max a.length b.length + 1/\dv xs = dv a + dv b) ?_ n (0,0,[]) ⟨rfl,by simp,by simp,eF,by simp [dv],fun _=>rfl⟩ (by simp only [leN]; omega)
 ·obtain ⟨xs,e,h⟩:=h
  unfold bF_p
  rw [e,aa]
  exact ⟨xs,rfl,h⟩
 ·rintro ⟨c,z,xs⟩ J ⟨h1,h2,h3,h4,h5,h6⟩ hJ
  simp only at h1 h2 h3 h4 h5 h6 hJ
  subst h1
  unfold bF_l1 jn
  simp only
  have step:∀ v:Int,0 <= v -> v < 8589934592 -> v.toNat = c.toNat + (a[xs.length]?.getD 0).toNat + (b[xs.length]?.getD 0).toNat -> xs.length <= max a.length b.length -> (xs.length = max a.length b.length -> v <= 1) -> ∃ r,J (v / 4294967296,((xs.length:Nat):Int) + 1,xs ++ [v % 4294967296]) = some r/\Dig r/\r.length <= max a.length b.length + 1/\dv r = dv a + dv b:=fun v v0 v1 hv hk hc=>by
   refine hJ _ ⟨by simp,by simp only [List.length_append,leC,leN]; omega,by simp only; omega,di h4 (by omega),?_,fun e=>?_⟩ (by simp only [List.length_append,leC,leN]; omega)
   ·simp only [List.length_append,leC,leN,Nat.zero_add]
    rw [ei,eR a,eR b,Nat.pow_succ]
    have e1:(v % 4294967296).toNat + 4294967296 * (v / 4294967296).toNat = c.toNat + (a[xs.length]?.getD 0).toNat + (b[xs.length]?.getD 0).toNat:=by omega
    have e2:=congrArg (4294967296 ^ xs.length * ·) e1
    simp only [Nat.mul_add] at e2
    rw [Nat.mul_assoc]
    omega
   ·simp only [List.length_append,leC,leN] at e
    have:=hc (by omega)
    simp only; omega
  have q0:∀ v:Int,0 <= v -> v < 8589934592 -> cG v 4294967296 = some (v / 4294967296):=fun v v0 v1=>by
   have e:v.tdiv 4294967296 = v / 4294967296:=Int.tdiv_eq_ediv_of_nonneg v0
   rw [quoI_ok (by decide) (by rw [e]; omega) (by rw [e]; omega),e]
  have m0:∀ v:Int,0 <= v -> bH v 4294967296 = some (v % 4294967296):=fun v v0=>by
   rw [bN (by decide),Int.tmod_eq_emod_of_nonneg v0]
  have hlen:xs.length + 1 <= 1000000:=by omega
  by_cases ha:xs.length < a.length
  ·have da:=hda a[xs.length] (List.getElem_mem _)
   rw [if_pos (by omega),aM (by omega) (by simpa using ha),aa]
   simp only [Int.toNat_natCast]
   rw [aH (by omega) (by omega),aa]
   by_cases hb:xs.length < b.length
   ·have db:=hdb b[xs.length] (List.getElem_mem _)
    rw [if_pos (by omega),aM (by omega) (by simpa using hb),aa]
    simp only [Int.toNat_natCast]
    rw [aH (by omega) (by omega),aa,m0 _ (by omega),aa,bb _ _ (by simpa using hlen),aa,q0 _ (by omega) (by omega),aa,aH (by omega) (by omega),aa]
    exact step _ (by omega) (by omega) (by rw [geE ha,geE hb]; simp only [Option.getD_some]; omega) (by omega) (by omega)
   ·rw [if_neg (by omega),m0 _ (by omega),aa,bb _ _ (by simpa using hlen),aa,q0 _ (by omega) (by omega),aa,aH (by omega) (by omega),aa]
    exact step _ (by omega) (by omega) (by rw [geE ha,List.getElem?_eq_none (by omega)]; simp only [Option.getD_some,Option.getD_none]; omega) (by omega) (by omega)
  ·rw [if_neg (by omega)]
   by_cases hb:xs.length < b.length
   ·have db:=hdb b[xs.length] (List.getElem_mem _)
    rw [if_pos (by omega),aM (by omega) (by simpa using hb),aa]
    simp only [Int.toNat_natCast]
    rw [aH (by omega) (by omega),aa,m0 _ (by omega),aa,bb _ _ (by simpa using hlen),aa,q0 _ (by omega) (by omega),aa]
    exact step _ (by omega) (by omega) (by rw [List.getElem?_eq_none (by omega),geE hb]; simp only [Option.getD_some,Option.getD_none]; omega) (by omega) (by omega)
   ·rw [if_neg (by omega)]
    by_cases hc:0 < c
    ·rw [if_pos hc,m0 _ (by omega),aa,bb _ _ (by simpa using hlen),aa,q0 _ (by omega) (by omega),aa,aH (by omega) (by omega),aa]
     exact step _ (by omega) (by omega) (by rw [List.getElem?_eq_none (by omega),List.getElem?_eq_none (by omega)]; simp only [Option.getD_none]; omega) (by omega) (by omega)
    ·rw [if_neg hc]
     have c0:c = 0:=by omega
     rw [c0,List.take_of_length_le (by omega),List.take_of_length_le (by omega)] at h5
     exact ⟨_,rfl,h4,h2,by simpa using h5⟩
def FtR (l:Nat) (z:Int):Prop:=z.natAbs < 4294967296 ^ l
theorem FtR.len {l:Nat} {z:Int} (h:FtR l z):(rd z.natAbs).length <= l:=cu h
theorem FtR.mono {l m:Nat} {z:Int} (h:FtR l z) (hm:l <= m):FtR m z:=Nat.lt_of_lt_of_le h (Nat.pow_le_pow_right (by decide) hm)
theorem FtR.mul {l m:Nat} {a b:Int} (ha:FtR l a) (hb:FtR m b):FtR (l + m) (a * b):=by
 unfold FtR at *
 rw [Int.natAbs_mul,Nat.pow_add]
 exact Nat.mul_lt_mul'' ha hb
theorem FtR.add {l:Nat} {a b:Int} (ha:FtR l a) (hb:FtR l b):FtR (l + 1) (a + b):=by
 unfold FtR at *
 rw [Nat.pow_succ]
 omega
theorem jP (n l a b:Nat) (s:Bool) (h:a <= b) (hl:(rd b).length <= l) (hn:l < n) (hl2:l < 10000):((al_p n (rd b) (rd a)).bind fun y67=>(aa_p n s y67).bind fun y75=>some y75) = some (R8 (sg s (b - a:Nat))):=by
 have hle:=Nat.le_trans (cJ (Nat.sub_le b a)) hl
 rw [gz n (rd b) (rd a) (aC _) (aC _) (cJ h) (by rw [aL,aL]; exact h) (by omega) (by omega),aa,aL,aL,bW n _ _ (aC _) (by omega) (by omega),aa,aL,nT]
theorem ot (n l:Nat) (a b:Int) (ha:FtR l a) (hb:FtR l b) (hn:l + 1 < n) (hl:l < 10000):bt_p n (R8 a) (R8 b) = some (R8 (a + b)):=by
 unfold bt_p
 have h1:=ha.len
 have h2:=hb.len
 by_cases h:((R8 a).fc == (R8 b).fc) = true
 ·rw [if_pos h]
  obtain ⟨xs,e1,e4,e2,e3⟩:=oa n (rd a.natAbs) (rd b.natAbs) (aC _) (aC _) ⟨by omega,by omega⟩ ⟨by omega,by omega⟩
  rw [show (R8 a).fD = rd a.natAbs from rfl,show (R8 b).fD = rd b.natAbs from rfl,e1,aa,bW n _ _ e4 (by omega) (by omega),aa,e3,aL,aL,nT]
  refine congrArg (fun x=>some (R8 x)) ?_
  have h3:decide (a < 0) = decide (b < 0):=eq_of_beq h
  show sg (decide (a < 0)) _ = _
  unfold sg
  by_cases h4:a < 0 <;> by_cases h5:b < 0 <;> simp [h4,h5] at h3 ⊢ <;> omega
 ·rw [if_neg h]
  obtain ⟨c,e1,e2,e3⟩:=gJ n (rd a.natAbs) (rd b.natAbs) (aC _) (aC _) (gk _) (gk _) (by omega) (by omega)
  have h3:decide (a < 0) ≠ decide (b < 0):=fun e=>h (by rw [beq_iff_eq]; exact e)
  rw [aL,aL] at e2
  rw [show (R8 a).fD = rd a.natAbs from rfl,show (R8 b).fD = rd b.natAbs from rfl,e1,aa]
  by_cases hc:0 <= c
  ·rw [if_pos hc,jP n l _ _ _ (by omega) h1 (by omega) hl]
   refine congrArg (fun x=>some (R8 x)) ?_
   show sg (decide (a < 0)) _ = _
   unfold sg
   by_cases h4:a < 0 <;> by_cases h5:b < 0 <;> simp [h4,h5] at h3 ⊢ <;> omega
  ·rw [if_neg hc,jP n l _ _ _ (by omega) h2 (by omega) hl]
   refine congrArg (fun x=>some (R8 x)) ?_
   show sg (decide (b < 0)) _ = _
   unfold sg
   by_cases h4:a < 0 <;> by_cases h5:b < 0 <;> simp [h4,h5] at h3 ⊢ <;> omega
/-! ### Products -/
theorem nK {xs:List Int} {i:Nat} (s:Int) (h:i < xs.length):dv ((xs.set i s).take (i + 1)) = dv (xs.take i) + 4294967296 ^ i * s.toNat:=by
 rw [bL _ (by simpa using h),List.getElem_set_self,List.take_set_of_le (Nat.le_refl _)]
theorem ju (w:UInt64):az (w % (4294967296:UInt64)) = ((w.toNat % 4294967296:Nat):Int):=by
 have:=w.toNat_lt
 unfold az
 rw [UInt64.toNat_mod,if_pos (by simp; omega)]
 rfl
theorem ma (w:UInt64):az (w / (4294967296:UInt64)) = ((w.toNat / 4294967296:Nat):Int):=by
 have:=w.toNat_lt
 unfold az
 rw [UInt64.toNat_div,if_pos (by simp; omega)]
 rfl
theorem gx {x:Int} (h:0 <= x/\x < 4294967296):(ab x).toNat = x.toNat:=by
 unfold ab
 rw [UInt64.toNat_ofNat']; omega
theorem prod_in (n:Nat) (a b:List Int) (hda:Dig a) (hdb:Dig b) (i:Nat) (hia:i < a.length) (xs0:List Int) (hd0:Dig xs0) (hi:i + b.length < xs0.length) (hn:b.length < n) :
  ∃ xs u,ah (aw_l1 n b i a) n (0,0,xs0) = some (xs,u)/\xs.length = xs0.length/\Dig xs/\u.toNat < 4294967296/\dv (xs.take (i + b.length)) + 4294967296 ^ (i + b.length) * u.toNat = dv (xs0.take (i + b.length)) + a[i].toNat * dv b * 4294967296 ^ i:=by
 have da:=hda a[i] (List.getElem_mem _)
 have h:=aj (B:=aw_l1 n b i a) (fun s:UInt64 × Nat × List Int=>b.length - s.2.1) (fun s=>s.2.1 <= b.length/\s.2.2.length = xs0.length/\(∀ k,i + s.2.1 <= k -> s.2.2[k]? = xs0[k]?)/\Dig s.2.2/\s.1.toNat < 4294967296/\dv (s.2.2.take (i + s.2.1)) + 4294967296 ^ (i + s.2.1) * s.1.toNat = dv (xs0.take (i + s.2.1)) + a[i].toNat * dv (b.take s.2.1) * 4294967296 ^ i)
  (fun r:List Int × UInt64=>r.1.length = xs0.length/\Dig r.1/\r.2.toNat < 4294967296/\dv (r.1.take (i + b.length)) + 4294967296 ^ (i + b.length) * r.2.toNat = dv (xs0.take (i + b.length)) + a[i].toNat * dv b * 4294967296 ^ i) ?_ n (0,0,xs0) ⟨by simp,rfl,fun _ _=>rfl,hd0,by simp,by simp [dv]⟩ (by simpa using hn)
 ·obtain ⟨⟨xs,u⟩,h1,h2⟩:=h; exact ⟨xs,u,h1,h2⟩
 ·rintro ⟨u,j,xs⟩ J ⟨h1,h2,h3,hd,hu,h4⟩ hJ
  simp only at h1 h2 h3 h4 hd hu hJ
  unfold aw_l1
  simp only
  by_cases hj:j < b.length
  ·have db:=hdb b[j] (List.getElem_mem _)
   have hx:i + j < xs.length:=by omega
   have dx:=hd (xs[i + j]'hx) (List.getElem_mem _)
   have hx0:xs[i + j]'hx = xs0[i + j]'(by omega):=by
    have:=h3 (i + j) (by omega)
    rw [geE (by omega),geE (by omega)] at this
    exact Option.some.inj this
   have bx:a[i].toNat * b[j].toNat <= 4294967295 * 4294967295:=Nat.mul_le_mul (by omega) (by omega)
   have ev:((u + ab (xs[i + j]'hx)) + (ab a[i]) * (ab b[j])).toNat = u.toNat + (xs[i + j]'hx).toNat + a[i].toNat * b[j].toNat:=by
    rw [UInt64.toNat_add,UInt64.toNat_add,UInt64.toNat_mul,gx dx,gx da,gx db]
    rw [Nat.mod_eq_of_lt (show a[i].toNat * b[j].toNat < 2 ^ 64 by omega),Nat.mod_eq_of_lt (show u.toNat + (xs[i + j]'hx).toNat < 2 ^ 64 by omega),Nat.mod_eq_of_lt (by omega)]
   rw [if_pos hj,geE hx,aa,geE hia,aa,geE hj,aa,aR _ hx,aa,ju,ev]
   have ed:(((u + ab (xs[i + j]'hx)) + (ab a[i]) * (ab b[j])) / (4294967296:UInt64)).toNat = (u.toNat + (xs[i + j]'hx).toNat + a[i].toNat * b[j].toNat) / 4294967296:=by
    rw [UInt64.toNat_div,ev]; rfl
   generalize (u + ab (xs[i + j]'hx) + ab a[i] * ab b[j]) / (4294967296:UInt64) = u' at *
   refine hJ (u', j + 1,_) ⟨hj,by simpa using h2,fun k hk=>?_,fun x hxm=>?_,by simp only; omega,?_⟩ (by simp only; omega)
   ·simp only at hk ⊢
    rw [List.getElem?_set_ne (by omega)]; exact h3 k (by omega)
   ·rcases List.mem_or_eq_of_mem_set hxm with hm | rfl
    ·exact hd x hm
    ·omega
   ·simp only
    rw [<- Nat.add_assoc,nK _ hx,bL xs0 (by omega),bL b hj,<- hx0,Nat.pow_succ,ed]
    rw [Nat.pow_add] at h4 ⊢
    rw [Int.toNat_natCast]
    generalize (xs[i + j]'hx).toNat = x at *
    generalize a[i].toNat = y at *
    generalize b[j].toNat = w at *
    have hv:=Nat.mod_add_div (u.toNat + x + y * w) 4294967296
    generalize (u.toNat + x + y * w) % 4294967296 = m at *
    generalize (u.toNat + x + y * w) / 4294967296 = q at *
    have e2:=congrArg (4294967296 ^ i * 4294967296 ^ j * ·) hv
    simp only [Nat.mul_add] at e2
    grind
  ·rw [if_neg hj]
   have:j = b.length:=by omega
   subst this
   refine ⟨_,rfl,h2,hd,hu,?_⟩
   simp only
   rw [h4,List.take_length]
theorem kh (n:Nat) (a b:List Int) (hda:Dig a) (hdb:Dig b) (hn:a.length + b.length + 1 < n) (hl:a.length + b.length <= 100000):aw_p n a b = some (rd (dv a * dv b)):=by
 have h:=aj (B:=aw_l2 n a b) (fun s:Nat × List Int=>a.length - s.1) (fun s=>s.1 <= a.length/\s.2.length = a.length + b.length/\Dig s.2/\dv (s.2.take (s.1 + b.length)) = dv (a.take s.1) * dv b)
  (fun r:List Int=>r.length = a.length + b.length/\Dig r/\dv r = dv a * dv b) ?_ n (0,List.replicate (a.length + b.length) 0) ⟨by simp,by simp,fun x hx=>(by rw [(List.mem_replicate.1 hx).2]; exact ⟨Int.le_refl _,by decide⟩),?_⟩ (by simp only; omega)
 ·obtain ⟨xs,h1,h2,h3,h4⟩:=h
  unfold aw_p
  rw [cy _ _ (by omega),aa,h1,aa,dK n xs h3 (by omega) (by omega),aa,h4]
 ·rintro ⟨i,xs⟩ J ⟨h1,h2,hd,h3⟩ hJ
  simp only at h1 h2 h3 hd hJ
  unfold aw_l2
  simp only
  by_cases hi:i < a.length
  ·obtain ⟨ys,u,e1,e2,e3,e4,e5⟩:=prod_in n a b hda hdb i hi xs hd (by omega) (by omega)
   rw [if_pos hi,e1,aa]
   simp only
   have hu:az u = ((u.toNat:Nat):Int):=by unfold az; rw [if_pos (by omega)]
   rw [geE (by omega),aa,aR _ (by omega),aa,hu]
   refine hJ (i + 1,ys.set (i + b.length) ((u.toNat:Nat):Int)) ⟨hi,by simp; omega,fun x hxm=>?_,?_⟩ (by simp only; omega)
   ·rcases List.mem_or_eq_of_mem_set hxm with hm | rfl
    ·exact e3 x hm
    ·omega
   ·simp only
    rw [show i + 1 + b.length = i + b.length + 1 by omega,nK _ (by omega),bL a hi,Int.toNat_natCast,e5,h3]
    grind
  ·rw [if_neg hi]
   have:i = a.length:=by omega
   subst this
   rw [List.take_length,bn (by omega)] at h3
   exact ⟨xs,rfl,h2,hd,h3⟩
 ·simp only [List.take_zero,dv,Nat.zero_mul]
  exact ew _ fun x hx=>(List.mem_replicate.1 (List.mem_of_mem_take hx)).2
theorem bJ (n l m:Nat) (a b:Int) (ha:FtR l a) (hb:FtR m b) (hn:20000 < n) (hl:l + m < 10000):aF_p n (R8 a) (R8 b) = some (R8 (a * b)):=by
 unfold aF_p
 have h1:=ha.len
 have h2:=hb.len
 have h5:=(ha.mul hb).len
 rw [Int.natAbs_mul] at h5
 rw [show (R8 a).fD = rd a.natAbs from rfl,show (R8 b).fD = rd b.natAbs from rfl,kh n _ _ (aC _) (aC _) (by omega) (by omega),aa,aL,aL,bW n _ _ (aC _) (by omega) (by omega),aa,aL,nT]
 refine congrArg (fun x=>some (R8 x)) ?_
 show sg (!(decide (a < 0) == decide (b < 0))) _ = _
 conv=>rhs; rw [mb a,mb b]
 unfold sg
 by_cases h3:a < 0 <;> by_cases h4:b < 0 <;> simp [h3,h4,Int.neg_mul,Int.mul_neg]
end Go.Proofs.YtfccehcnajelgaaGreatDoor
