/- Plain laws: words, their value, and integers of any length: sum, difference, product. No program in sight but the printed functions. -/
import Derived.Test.YtibdeoeglcngoaaGreatDoorVT7
namespace Go.Proofs.YtibdeoeglcngoaaGreatDoor
open Go
theorem aa {α β:Type} (x:α) (f:α -> Option β):(some x).bind f = f x:=Eq.trans (Eq.refl _) (Eq.refl _)
theorem bw {α β:Type} (B:(α -> Option β) -> α -> Option β) (n:Nat) (s:α):ap B (n + 1) s = B (ap B n) s:=rfl
theorem ar {α β:Type} {B:(α -> Option β) -> α -> Option β} (m:α -> Nat) (I:α -> Prop) (Q:β -> Prop)
  (step:∀ s J,I s -> (∀ s', I s' -> m s' < m s -> ∃ r,J s' = some r/\Q r) -> ∃ r,B J s = some r/\Q r):∀ n s,I s -> m s < n -> ∃ r,ap B n s = some r/\Q r:=by
 intro n
 induction n with
 | zero=>intro s _ h; omega
 | succ n ih=>intro s hI h; exact step s (ap B n) hI fun s' h1 h2=>ih s' h1 (by omega)
theorem aE {x:Int} (h1:-9223372036854775808 <= x) (h2:x <= 9223372036854775807):chk x = some x:=if_pos ⟨h1,h2⟩
theorem bm {α:Type} {xs:List α} {i:Int} (h0:0 <= i) (h:i.toNat < xs.length):idx xs i = some xs[i.toNat]:=by unfold idx; rw [if_pos h0,geE h]
theorem aZ {α:Type} {xs:List α} {i:Nat} (x:α) (h:i < xs.length):put xs (i:Int) x = some (xs.set i x):=by
 unfold put; rw [if_pos ⟨Int.natCast_nonneg _,by omega⟩]; rfl
theorem cut_ok {α:Type} {xs:List α} {z:Nat} (h:z <= xs.length):cut xs 0 (z:Int) = some (xs.take z):=by
 unfold cut; rw [if_pos ⟨Int.le_refl _,Int.natCast_nonneg _,by omega⟩]; rfl
theorem cA {α:Type} (n:Nat) (x:α) (h:n <= 4294967296):mk (n:Int) x = some (List.replicate n x):=by
 unfold mk; rw [if_pos ⟨Int.natCast_nonneg _,by omega⟩]; rfl
def val:List UInt64 -> Nat
 | []=>0
 | x :: xs=>x.toNat + 18446744073709551616 * val xs
theorem dJ (xs ys:List UInt64):val (xs ++ ys) = val xs + 18446744073709551616 ^ xs.length * val ys:=by
 induction xs with
 | nil=>simp [val]
 | cons x xs ih=>simp only [List.cons_append,val,ih,leC,Nat.pow_succ]; grind
theorem bW (xs:List UInt64):val xs < 18446744073709551616 ^ xs.length:=by
 induction xs with
 | nil=>simp [val]
 | cons x xs ih=>
  have:=x.toNat_lt
  have h2:18446744073709551616 * (val xs + 1) <= 18446744073709551616 * 18446744073709551616 ^ xs.length:=Nat.mul_le_mul_left _ ih
  simp only [val,leC,Nat.pow_succ]
  rw [Nat.mul_comm (_ ^ _)]
  omega
theorem bB (a:List UInt64) {i:Nat} (h:i < a.length):val (a.take (i + 1)) = val (a.take i) + 18446744073709551616 ^ i * a[i].toNat:=by
 rw [<- List.take_append_getElem h,dJ,List.length_take,Nat.min_eq_left (Nat.le_of_lt h)]
 simp [val]
theorem mz {xs:List UInt64} {i:Nat} (s:UInt64) (h:i < xs.length):(xs.set i s).take (i + 1) = xs.take i ++ [s]:=by
 rw [<- List.take_append_getElem (by simpa using h),List.take_set_of_le (Nat.le_refl _)]
 simp
theorem dD {xs:List UInt64} {i:Nat} (s:UInt64) (h:i < xs.length):val ((xs.set i s).take (i + 1)) = val (xs.take i) + 18446744073709551616 ^ i * s.toNat:=by
 rw [mz s h,dJ,List.length_take,Nat.min_eq_left (Nat.le_of_lt h)]
 simp [val]
theorem bN:∀ (xs:List UInt64),(∀ x ∈ xs,x = 0) -> val xs = 0
 | [],_=>rfl
 | x :: xs,h=>by
  have h1:=h x (List.mem_cons_self ..)
  have h2:=bN xs fun y hy=>h y (List.mem_cons_of_mem _ hy)
  subst h1; simp [val,h2]
def dg (m:Nat):List UInt64:=if m = 0 then [] else UInt64.ofNat m :: dg (m / 18446744073709551616)
termination_by m
decreasing_by exact Nat.div_lt_self (by omega) (by omega)
theorem dg0:dg 0 = []:=by unfold dg; simp
theorem gd {m:Nat} (h:m ≠ 0):dg m = UInt64.ofNat m :: dg (m / 18446744073709551616):=by rw [dg]; rw [if_neg h]
theorem az (m:Nat):val (dg m) = m:=by
 induction m using Nat.strongRecOn with
 | _ m ih=>
  by_cases h:m = 0
  ·subst h; rw [dg0]; rfl
  ·rw [gd h]; simp only [val]
   rw [ih _ (Nat.div_lt_self (by omega) (by omega)),UInt64.toNat_ofNat']
   exact Nat.mod_add_div m 18446744073709551616
def Nm (xs:List UInt64):Prop:=∀ x,xs.getLast? = some x -> x ≠ 0
theorem Nm.tail {x y:UInt64} {xs:List UInt64} (h:Nm (x :: y :: xs)):Nm (y :: xs):=fun z hz=>h z (by rw [List.getLast?_cons_cons]; exact hz)
theorem eC:∀ {xs:List UInt64},Nm xs -> xs ≠ [] -> 0 < val xs
 | [],_,h=>absurd rfl h
 | [x],h,_=>by
  have h1:=h x rfl
  have:x.toNat ≠ 0:=fun e=>h1 (UInt64.toNat_inj.1 (by simpa using e))
  simp only [val]; omega
 | x :: y :: xs,h,_=>by
  have:=eC h.tail (by simp)
  simp only [val] at this ⊢
  omega
theorem gF:∀ {xs:List UInt64},Nm xs -> xs ≠ [] -> 18446744073709551616 ^ (xs.length - 1) <= val xs
 | [],_,h=>absurd rfl h
 | [x],h,_=>by
  have h1:=eC h (by simp)
  show 18446744073709551616 ^ 0 <= _
  rw [Nat.pow_zero]; exact h1
 | x :: y :: xs,h,_=>by
  have h1:=gF h.tail (by simp)
  have h2:18446744073709551616 * 18446744073709551616 ^ xs.length <= 18446744073709551616 * val (y :: xs):=Nat.mul_le_mul_left _ (by simpa using h1)
  show 18446744073709551616 ^ (xs.length + 1) <= x.toNat + 18446744073709551616 * val (y :: xs)
  rw [Nat.pow_succ,Nat.mul_comm]; omega
theorem lX:∀ {xs:List UInt64},Nm xs -> dg (val xs) = xs
 | [],_=>dg0
 | x :: xs,h=>by
  have hp:=eC h (by simp)
  rw [gd (by omega)]
  have hx:=x.toNat_lt
  have h1:UInt64.ofNat (val (x :: xs)) = x:=UInt64.toNat_inj.1 (by rw [UInt64.toNat_ofNat']; simp only [val]; omega)
  have h2:val (x :: xs) / 18446744073709551616 = val xs:=by simp only [val]; omega
  have h3:Nm xs:=by
   cases xs with
   | nil=>intro z hz; simp at hz
   | cons y ys=>exact h.tail
  rw [h1,h2,lX h3]
theorem eJ (m:Nat):Nm (dg m):=by
 induction m using Nat.strongRecOn with
 | _ m ih=>
  intro x hx
  by_cases h:m = 0
  ·subst h; rw [dg0] at hx; cases hx
  ·rw [gd h] at hx
   by_cases h2:m / 18446744073709551616 = 0
   ·rw [h2,dg0] at hx
    simp at hx
    intro e; subst e
    have:=congrArg UInt64.toNat hx
    rw [UInt64.toNat_ofNat'] at this
    simp at this; omega
   ·have h3:=ih (m / 18446744073709551616) (Nat.div_lt_self (by omega) (by omega))
    rw [gd h2] at hx h3
    rw [List.getLast?_cons_cons] at hx
    exact h3 x hx
theorem fH {m l:Nat} (h:m < 18446744073709551616 ^ l):(dg m).length <= l:=by
 by_cases h0:dg m = []
 ·rw [h0]; simp
 ·have h1:=gF (eJ m) h0
  rw [az] at h1
  have h2:=Nat.lt_of_le_of_lt h1 h
  have h3:=(Nat.pow_lt_pow_iff_right (by omega)).1 h2
  omega
theorem aC (n:Nat) (b:Bool) (ws:List UInt64) (hn:ws.length < n) (hl:ws.length <= 4294967296):ak_p n b ws = some ⟨b && decide (0 < val ws),dg (val ws)⟩:=by
 have h:=ar (B:=ak_l1 n ws) (fun z:Int=>z.toNat) (fun z=>0 <= z/\z <= ws.length/\∀ i:Nat,z.toNat <= i -> ∀ h:i < ws.length,ws[i] = 0)
  (fun z=>∃ k:Nat,z = k/\k <= ws.length/\(∀ i:Nat,k <= i -> ∀ h:i < ws.length,ws[i] = 0)/\∀ h:0 < k,∀ h2:k - 1 < ws.length,ws[k - 1] ≠ 0) ?_ n (ws.length:Int) ⟨by omega,by omega,fun i h1 h2=>by omega⟩ (by simpa using hn)
 ·obtain ⟨z,hz,k,rfl,hk,hz0,hz1⟩:=h
  have e:val ws = val (ws.take k):=by
   conv=>lhs; rw [<- List.take_append_drop k ws,dJ]
   rw [bN (ws.drop k) fun x hx=>?_]
   ·simp
   ·obtain ⟨i,hi,rfl⟩:=List.getElem_of_mem hx
    rw [List.getElem_drop]
    exact hz0 _ (by omega) _
  have hnm:Nm (ws.take k):=by
   intro x hx
   rw [List.getLast?_eq_getElem?,List.length_take,Nat.min_eq_left hk] at hx
   obtain ⟨h1,rfl⟩:=List.getElem?_eq_some_iff.1 hx
   have h2:k - 1 < ws.length:=by rw [List.length_take] at h1; omega
   by_cases h0:0 < k
   ·rw [List.getElem_take]; exact hz1 h0 h2
   ·rw [List.length_take] at h1; omega
  have e2:dg (val ws) = ws.take k:=by rw [e]; exact lX hnm
  have e3:decide (0 < val ws) = decide (0 < (k:Int)):=by
   rw [decide_eq_decide]
   constructor
   ·intro h0
    by_cases hk0:k = 0
    ·subst hk0; rw [e] at h0; simp [val] at h0
    ·omega
   ·intro h0; rw [e]; refine eC hnm fun h1=>?_
    have:=congrArg List.length h1
    rw [List.length_take,leN] at this; omega
  unfold ak_p jn
  simp only [hz,aa,cut_ok hk]
  cases b
  ·simp [e2]
  ·simp [e2,e3]
 ·intro z J ⟨h1,h2,h3⟩ hJ
  unfold ak_l1
  simp only
  by_cases h0:0 < z
  ·rw [if_pos h0,aE (by omega) (by omega),aa,bm (by omega) (by omega),aa]
   split
   ·rename_i hx
    rw [aa]
    refine hJ (z - 1) ⟨by omega,by omega,fun i h4 h5=>?_⟩ (by omega)
    by_cases h6:i = (z - 1).toNat
    ·subst h6; exact hx
    ·exact h3 i (by omega) h5
   ·rename_i hx
    refine ⟨z,rfl,z.toNat,by omega,by omega,h3,fun h4 h5=>?_⟩
    have:(z - 1).toNat = z.toNat - 1:=by omega
    simp only [this] at hx
    exact hx
  ·rw [if_neg h0]
   exact ⟨z,rfl,0,by omega,by omega,fun i h4 h5=>h3 i (by omega) h5,fun h4=>by omega⟩
theorem eX (x y c:UInt64) (h:c.toNat <= 1):∃ s d:UInt64,add64 x y c = some (s,d)/\s.toNat + 18446744073709551616 * d.toNat = x.toNat + y.toNat + c.toNat/\d.toNat <= 1:=by
 refine ⟨_,_,if_pos h,?_⟩
 have hx:=x.toNat_lt
 have hy:=y.toNat_lt
 rw [UInt64.toNat_ofNat', UInt64.toNat_ofNat']
 omega
theorem bj (x y c:UInt64) (h:c.toNat <= 1):∃ s d:UInt64,sub64 x y c = some (s,d)/\s.toNat + y.toNat + c.toNat = x.toNat + 18446744073709551616 * d.toNat/\d.toNat <= 1:=by
 refine ⟨_,_,if_pos h,?_⟩
 have hx:=x.toNat_lt
 have hy:=y.toNat_lt
 rw [UInt64.toNat_ofNat']
 split <;> simp <;> omega
theorem bP {α:Type} {l:List α} {i:Nat} (h:l.length <= i):l.take i = l:=List.take_of_length_le h
theorem gl (b:List UInt64) (i:Nat):val (b.take (i + 1)) = val (b.take i) + 18446744073709551616 ^ i * (b[i]?.getD 0).toNat:=by
 by_cases h:i < b.length
 ·rw [bB b h,geE h]; rfl
 ·rw [bP (by omega),bP (by omega),List.getElem?_eq_none (by omega)]; simp
theorem jh (n:Nat) (a b:List UInt64) (hb:b.length <= a.length) (hn:a.length < n):∃ xs u,ap (bN_l1 n a b) n (0,0,List.replicate (a.length + 1) 0) = some (xs,u)/\xs.length = a.length + 1/\val (xs.take a.length) + 18446744073709551616 ^ a.length * u.toNat = val a + val b:=by
 have h:=ar (B:=bN_l1 n a b) (fun s:UInt64 × Nat × List UInt64=>a.length - s.2.1) (fun s=>s.2.1 <= a.length/\s.2.2.length = a.length + 1/\s.1.toNat <= 1/\val (s.2.2.take s.2.1) + 18446744073709551616 ^ s.2.1 * s.1.toNat = val (a.take s.2.1) + val (b.take s.2.1))
  (fun r:List UInt64 × UInt64=>r.1.length = a.length + 1/\val (r.1.take a.length) + 18446744073709551616 ^ a.length * r.2.toNat = val a + val b) ?_ n (0,0,List.replicate (a.length + 1) 0) ⟨by simp,by simp,by simp,by simp [val]⟩ (by simpa using hn)
 ·obtain ⟨⟨xs,u⟩,h1,h2,h3⟩:=h; exact ⟨xs,u,h1,h2,h3⟩
 ·rintro ⟨u,i,xs⟩ J ⟨h1,h2,h3,h4⟩ hJ
  simp only at h1 h2 h3 h4 hJ
  unfold bN_l1
  simp only
  by_cases hi:i < a.length
  ·rw [if_pos hi,geE hi,aa]
   have key:∀ y:UInt64,y = b[i]?.getD 0 -> ∃ r,((add64 a[i] y u).bind fun z198=>(xs[i]?).bind fun x199=>(put xs ((i:Nat):Int) z198.1).bind fun xs212=>J (z198.2,i + 1,xs212)) = some r/\r.1.length = a.length + 1/\val (r.1.take a.length) + 18446744073709551616 ^ a.length * r.2.toNat = val a + val b:=by
    intro y hy
    obtain ⟨s,d,e1,e2,e3⟩:=eX a[i] y u h3
    rw [e1,aa,geE (by omega),aa,aZ _ (by omega),aa]
    refine hJ (d,i + 1,xs.set i s) ⟨by show i + 1 <= _; omega,by simpa using h2,e3,?_⟩ (by simp only; omega)
    simp only
    rw [dD s (by omega),bB a hi,gl b i,<- hy,Nat.pow_succ]
    grind
   unfold jn
   simp only
   by_cases hj:i < b.length
   ·rw [if_pos hj,geE hj,aa]; exact key _ (by rw [geE hj]; rfl)
   ·rw [if_neg hj]; exact key _ (by rw [List.getElem?_eq_none (by omega)]; rfl)
  ·rw [if_neg hi]
   have:i = a.length:=by omega
   subst this
   refine ⟨_,rfl,h2,?_⟩
   simp only
   rw [h4,List.take_length,bP hb]
theorem lh (n:Nat) (a b:List UInt64) (hn:a.length < n/\b.length < n) (hl:a.length < 4294967296/\b.length < 4294967296):∃ xs,bN_p n a b = some xs/\xs.length <= max a.length b.length + 1/\val xs = val a + val b:=by
 have key:∀ a b:List UInt64,b.length <= a.length -> a.length < n -> a.length < 4294967296 -> ∃ xs,((mk ((a.length + 1:Nat):Int) (0:UInt64)).bind fun xs17=>Option.bind (ap (bN_l1 n a b) n ((0:UInt64),0,xs17)) (fun (xs157,u155)=>(xs157[a.length]?).bind fun x229=>(put xs157 ((a.length:Nat):Int) u155).bind fun xs241=>some xs241)) = some xs/\xs.length = a.length + 1/\val xs = val a + val b:=by
  intro a b hb h1 h2
  obtain ⟨xs,u,e1,e2,e3⟩:=jh n a b hb h1
  rw [cA _ _ (by omega),aa,e1,aa]
  simp only
  rw [geE (by omega),aa,aZ _ (by omega),aa]
  refine ⟨_,rfl,by simpa using e2,?_⟩
  rw [<- e3]
  conv=>lhs; rw [<- bP (l:=xs.set a.length u) (i:=a.length + 1) (by simp [e2])]
  exact dD u (by omega)
 unfold bN_p jn
 simp only
 by_cases h:a.length < b.length
 ·rw [if_pos h]
  obtain ⟨xs,e1,e2,e3⟩:=key b a (by omega) hn.2 hl.2
  exact ⟨xs,e1,by omega,by omega⟩
 ·rw [if_neg h]
  obtain ⟨xs,e1,e2,e3⟩:=key a b (by omega) hn.1 hl.1
  exact ⟨xs,e1,by omega,e3⟩
theorem iq (n:Nat) (a b:List UInt64) (hb:b.length <= a.length) (hv:val b <= val a) (hn:a.length < n) (hl:a.length < 4294967296):∃ xs,bq_p n a b = some xs/\xs.length = a.length/\val xs = val a - val b:=by
 have h:=ar (B:=bq_l1 n a b) (fun s:UInt64 × Nat × List UInt64=>a.length - s.2.1) (fun s=>s.2.1 <= a.length/\s.2.2.length = a.length/\s.1.toNat <= 1/\val (s.2.2.take s.2.1) + val (b.take s.2.1) = val (a.take s.2.1) + 18446744073709551616 ^ s.2.1 * s.1.toNat)
  (fun r:List UInt64=>r.length = a.length/\val r = val a - val b) ?_ n (0,0,List.replicate a.length 0) ⟨by simp,by simp,by simp,by simp [val]⟩ (by simpa using hn)
 ·obtain ⟨xs,h1,h2,h3⟩:=h
  refine ⟨xs,?_,h2,h3⟩
  unfold bq_p
  rw [cA _ _ (by omega),aa,h1,aa]
 ·rintro ⟨u,i,xs⟩ J ⟨h1,h2,h3,h4⟩ hJ
  simp only at h1 h2 h3 h4 hJ
  unfold bq_l1
  simp only
  by_cases hi:i < a.length
  ·rw [if_pos hi,geE hi,aa]
   have key:∀ y:UInt64,y = b[i]?.getD 0 -> ∃ r,((sub64 a[i] y u).bind fun z184=>(xs[i]?).bind fun x185=>(put xs ((i:Nat):Int) z184.1).bind fun xs198=>J (z184.2,i + 1,xs198)) = some r/\r.length = a.length/\val r = val a - val b:=by
    intro y hy
    obtain ⟨s,d,e1,e2,e3⟩:=bj a[i] y u h3
    rw [e1,aa,geE (by omega),aa,aZ _ (by omega),aa]
    refine hJ (d,i + 1,xs.set i s) ⟨by show i + 1 <= _; omega,by simpa using h2,e3,?_⟩ (by simp only; omega)
    simp only
    rw [dD s (by omega),bB a hi,gl b i,<- hy,Nat.pow_succ]
    grind
   unfold jn
   simp only
   by_cases hj:i < b.length
   ·rw [if_pos hj,geE hj,aa]; exact key _ (by rw [geE hj]; rfl)
   ·rw [if_neg hj]; exact key _ (by rw [List.getElem?_eq_none (by omega)]; rfl)
  ·rw [if_neg hi]
   have:i = a.length:=by omega
   subst this
   rw [List.take_length,bP hb,bP (by omega)] at h4
   refine ⟨xs,rfl,h2,?_⟩
   have h5:=bW xs
   rw [h2] at h5
   by_cases hu:u.toNat = 0
   ·rw [hu] at h4; omega
   ·have:u.toNat = 1:=by omega
    rw [this] at h4; omega
end Go.Proofs.YtibdeoeglcngoaaGreatDoor
namespace Go.Proofs.YtibdeoeglcngoaaGreatDoor
open Go
theorem cU (a:List UInt64) {i:Nat} (h:i < a.length):val a = val (a.take i) + 18446744073709551616 ^ i * a[i].toNat + 18446744073709551616 ^ (i + 1) * val (a.drop (i + 1)):=by
 conv=>lhs; rw [<- List.take_append_drop (i + 1) a,dJ]
 rw [bB a h,List.length_take,Nat.min_eq_left (by omega)]
theorem lL {a b:List UInt64} (hb:Nm b) (h:a.length < b.length):val a < val b:=by
 have h1:=bW a
 have h2:=gF hb (by intro e; rw [e] at h; simp at h)
 have h3:18446744073709551616 ^ a.length <= 18446744073709551616 ^ (b.length - 1):=Nat.pow_le_pow_right (by omega) (by omega)
 omega
theorem eE {a b:List UInt64} {i:Nat} (ha:i < a.length) (hb:i < b.length) (hd:a.drop (i + 1) = b.drop (i + 1)) (h:a[i] < b[i]):val a < val b:=by
 rw [cU a ha,cU b hb,hd]
 have h1:=bW (a.take i)
 rw [List.length_take,Nat.min_eq_left (by omega)] at h1
 have h2:18446744073709551616 ^ i * (a[i].toNat + 1) <= 18446744073709551616 ^ i * b[i].toNat:=Nat.mul_le_mul_left _ (UInt64.lt_iff_toNat_lt.1 h)
 rw [Nat.mul_add] at h2
 omega
theorem em (n:Nat) (a b:List UInt64) (ha:Nm a) (hb:Nm b) (hn:a.length < n) (hl:a.length < 4294967296):∃ c,ba_p n a b = some c/\(c < 0 ↔ val a < val b)/\(c = 0 ↔ val a = val b):=by
 unfold ba_p
 by_cases h:a.length = b.length
 ·rw [if_pos h]
  have hh:=ar (B:=ba_l1 n a b) (fun z:Int=>(z + 1).toNat) (fun z=>-1 <= z/\z < a.length/\a.drop (z + 1).toNat = b.drop (z + 1).toNat)
   (fun r=>(r = .inl (-1)/\val a < val b) ∨ (r = .inl 1/\val b < val a) ∨ (r = .inr ()/\a = b)) ?_ n ((a.length:Int) - 1) ⟨by omega,by omega,?_⟩ (by omega)
  ·obtain ⟨r,hr,h1 | h1 | h1⟩:=hh
   ·rw [hr,h1.1]; exact ⟨_,rfl,by have:=h1.2; omega,by have:=h1.2; omega⟩
   ·rw [hr,h1.1]; exact ⟨_,rfl,by have:=h1.2; omega,by have:=h1.2; omega⟩
   ·rw [hr,h1.1,h1.2]; exact ⟨_,rfl,by omega,by omega⟩
  ·intro z J ⟨h1,h2,h3⟩ hJ
   unfold ba_l1
   simp only
   by_cases h0:0 <= z
   ·have e1:(z + 1).toNat = z.toNat + 1:=by omega
    rw [e1] at h3
    rw [if_pos h0,bm h0 (by omega),aa,bm h0 (by omega),aa]
    split
    ·rename_i hlt; exact ⟨_,rfl,.inl ⟨rfl,eE (by omega) (by omega) h3 hlt⟩⟩
    ·rename_i h4
     split
     ·rename_i hlt; exact ⟨_,rfl,.inr (.inl ⟨rfl,eE (by omega) (by omega) h3.symm hlt⟩)⟩
     ·rename_i h5
      have he:a[z.toNat]'(by omega) = b[z.toNat]'(by omega):=UInt64.toNat_inj.1 (by rw [UInt64.lt_iff_toNat_lt] at h4 h5; omega)
      rw [aE (by omega) (by omega),aa]
      refine hJ (z - 1) ⟨by omega,by omega,?_⟩ (by omega)
      rw [show (z - 1 + 1).toNat = z.toNat by omega,List.drop_eq_getElem_cons (by omega),List.drop_eq_getElem_cons (l:=b) (by omega),h3,he]
   ·rw [if_neg h0]
    have e1:(z + 1).toNat = 0:=by omega
    rw [e1] at h3
    exact ⟨_,rfl,.inr (.inr ⟨rfl,by simpa using h3⟩)⟩
  ·rw [show ((a.length:Int) - 1 + 1).toNat = a.length by omega,List.drop_length,h,List.drop_length]
 ·rw [if_neg h]
  refine ⟨_,rfl,?_⟩
  by_cases h1:a.length < b.length
  ·have:=lL hb h1; omega
  ·have:=lL (a:=b) ha (by omega); omega
theorem jq (a:UInt64):(shrU a 32).toNat = a.toNat / 4294967296:=by
 unfold shrU; rw [if_pos (by decide),UInt64.toNat_ofNat']
 have:=a.toNat_lt
 omega
theorem mu (a:UInt64):(a &&& (4294967295:UInt64)).toNat = a.toNat % 4294967296:=by
 rw [UInt64.toNat_and]; exact Nat.and_two_pow_sub_one_eq_mod a.toNat 32
theorem kq (x1 x0 y1 y0:Nat) (h1:x1 < 4294967296) (h2:x0 < 4294967296) (h3:y1 < 4294967296) (h4:y0 < 4294967296) :
  ((x1 * y0 + x0 * y0 / 4294967296) < 18446744073709551616)/\((x1 * y0 + x0 * y0 / 4294967296) % 4294967296 + x0 * y1 < 18446744073709551616)/\
  x1 * y1 + (x1 * y0 + x0 * y0 / 4294967296) / 4294967296 + ((x1 * y0 + x0 * y0 / 4294967296) % 4294967296 + x0 * y1) / 4294967296 < 18446744073709551616/\
  (((x1 * 4294967296 + x0) * (y1 * 4294967296 + y0)) % 18446744073709551616) + 18446744073709551616 * (x1 * y1 + (x1 * y0 + x0 * y0 / 4294967296) / 4294967296 + ((x1 * y0 + x0 * y0 / 4294967296) % 4294967296 + x0 * y1) / 4294967296) = (x1 * 4294967296 + x0) * (y1 * 4294967296 + y0):=by
 have e:(x1 * 4294967296 + x0) * (y1 * 4294967296 + y0) = 18446744073709551616 * (x1 * y1) + 4294967296 * (x1 * y0 + x0 * y1) + x0 * y0:=by grind
 have b1:x1 * y1 <= 4294967295 * 4294967295:=Nat.mul_le_mul (by omega) (by omega)
 have b2:x1 * y0 <= 4294967295 * 4294967295:=Nat.mul_le_mul (by omega) (by omega)
 have b3:x0 * y1 <= 4294967295 * 4294967295:=Nat.mul_le_mul (by omega) (by omega)
 have b4:x0 * y0 <= 4294967295 * 4294967295:=Nat.mul_le_mul (by omega) (by omega)
 rw [e]
 generalize x1 * y1 = s at *
 generalize x1 * y0 = q at *
 generalize x0 * y1 = r at *
 generalize x0 * y0 = p at *
 clear e h1 h2 h3 h4
 refine ⟨by omega,by omega,by omega,by omega⟩
theorem lE (n:Nat) (x y:UInt64):∃ hi lo,cd_p n x y = some (hi,lo)/\lo.toNat + 18446744073709551616 * hi.toNat = x.toNat * y.toNat:=by
 refine ⟨_,_,rfl,?_⟩
 have hx:=x.toNat_lt
 have hy:=y.toNat_lt
 have ex:x.toNat = x.toNat / 4294967296 * 4294967296 + x.toNat % 4294967296:=by omega
 have ey:y.toNat = y.toNat / 4294967296 * 4294967296 + y.toNat % 4294967296:=by omega
 obtain ⟨h1,h2,h3,h4⟩:=kq (x.toNat / 4294967296) (x.toNat % 4294967296) (y.toNat / 4294967296) (y.toNat % 4294967296) (by omega) (by omega) (by omega) (by omega)
 rw [<- ex,<- ey] at h4
 have b1:x.toNat / 4294967296 * (y.toNat / 4294967296) < 18446744073709551616:=by omega
 have b2:x.toNat / 4294967296 * (y.toNat % 4294967296) < 18446744073709551616:=by omega
 have b3:x.toNat % 4294967296 * (y.toNat / 4294967296) < 18446744073709551616:=by omega
 have b4:x.toNat % 4294967296 * (y.toNat % 4294967296) < 18446744073709551616:=by
  have:x.toNat % 4294967296 * (y.toNat % 4294967296) <= 4294967295 * 4294967295:=Nat.mul_le_mul (by omega) (by omega)
  omega
 simp only [UInt64.toNat_add,UInt64.toNat_mul,jq,mu,show (2:Nat) ^ 64 = 18446744073709551616 from rfl]
 rw [Nat.mod_eq_of_lt b1,Nat.mod_eq_of_lt b2,Nat.mod_eq_of_lt b3,Nat.mod_eq_of_lt b4,Nat.mod_eq_of_lt h1,Nat.mod_eq_of_lt h2]
 rw [Nat.mod_eq_of_lt (a:=x.toNat / 4294967296 * (y.toNat / 4294967296) + _) (by omega),Nat.mod_eq_of_lt h3]
 exact h4
theorem mult_in (n:Nat) (b:List UInt64) (x:UInt64) (i:Nat) (xs0:List UInt64) (hi:i + b.length < xs0.length) (hn:b.length < n) :
  ∃ xs u,ap (az_l1 n b x i) n (0,0,xs0) = some (xs,u)/\xs.length = xs0.length/\val (xs.take (i + b.length)) + 18446744073709551616 ^ (i + b.length) * u.toNat = val (xs0.take (i + b.length)) + x.toNat * val b * 18446744073709551616 ^ i:=by
 have h:=ar (B:=az_l1 n b x i) (fun s:UInt64 × Nat × List UInt64=>b.length - s.2.1) (fun s=>s.2.1 <= b.length/\s.2.2.length = xs0.length/\(∀ k,i + s.2.1 <= k -> s.2.2[k]? = xs0[k]?)/\val (s.2.2.take (i + s.2.1)) + 18446744073709551616 ^ (i + s.2.1) * s.1.toNat = val (xs0.take (i + s.2.1)) + x.toNat * val (b.take s.2.1) * 18446744073709551616 ^ i)
  (fun r:List UInt64 × UInt64=>r.1.length = xs0.length/\val (r.1.take (i + b.length)) + 18446744073709551616 ^ (i + b.length) * r.2.toNat = val (xs0.take (i + b.length)) + x.toNat * val b * 18446744073709551616 ^ i) ?_ n (0,0,xs0) ⟨by simp,rfl,fun _ _=>rfl,by simp [val]⟩ (by simpa using hn)
 ·obtain ⟨⟨xs,u⟩,h1,h2,h3⟩:=h; exact ⟨xs,u,h1,h2,h3⟩
 ·rintro ⟨u,j,xs⟩ J ⟨h1,h2,h3,h4⟩ hJ
  simp only at h1 h2 h3 h4 hJ
  unfold az_l1
  simp only
  by_cases hj:j < b.length
  ·obtain ⟨hi', lo,e1,e2⟩:=lE n x b[j]
   have hx0:xs[i + j]'(by omega) = xs0[i + j]'(by omega):=by
    have:=h3 (i + j) (by omega)
    rw [geE (by omega),geE (by omega)] at this
    exact Option.some.inj this
   rw [if_pos hj,geE hj,aa,e1,aa,geE (by omega),aa]
   obtain ⟨s,c,f1,f2,f3⟩:=eX (xs[i + j]'(by omega)) lo 0 (by simp)
   obtain ⟨s', c', g1,g2,g3⟩:=eX s u 0 (by simp)
   simp only [f1,aa,g1]
   rw [aZ _ (by omega),aa]
   simp only [UInt64.toNat_zero,Nat.add_zero] at f2 g2
   have bx:x.toNat * b[j].toNat <= 18446744073709551615 * 18446744073709551615:=Nat.mul_le_mul (by have:=x.toNat_lt; omega) (by have:=b[j].toNat_lt; omega)
   have bo:=(xs[i + j]'(by omega)).toNat_lt
   have bu:=u.toNat_lt
   have e3:(hi' + c + c').toNat = hi'.toNat + c.toNat + c'.toNat:=by
    rw [UInt64.toNat_add,UInt64.toNat_add]; omega
   have e4:s'.toNat + 18446744073709551616 * (hi' + c + c').toNat = (xs[i + j]'(by omega)).toNat + x.toNat * b[j].toNat + u.toNat:=by rw [e3]; omega
   refine hJ (hi' + c + c', j + 1,xs.set (i + j) s') ⟨hj,by simpa using h2,fun k hk=>?_,?_⟩ (by simp only; omega)
   ·simp only at hk ⊢
    rw [List.getElem?_set_ne (by omega)]; exact h3 k (by omega)
   ·simp only
    rw [<- Nat.add_assoc,dD s' (by omega),bB xs0 (by omega),bB b hj,<- hx0,Nat.pow_succ]
    rw [Nat.pow_add] at h4 ⊢
    grind
  ·rw [if_neg hj]
   have:j = b.length:=by omega
   subst this
   refine ⟨_,rfl,h2,?_⟩
   simp only
   rw [h4,List.take_length]
theorem fR (n:Nat) (a b:List UInt64) (hn:a.length < n/\b.length < n) (hl:a.length + b.length <= 4294967296):∃ xs,az_p n a b = some xs/\xs.length = a.length + b.length/\val xs = val a * val b:=by
 have h:=ar (B:=az_l2 n a b) (fun s:Nat × List UInt64=>a.length - s.1) (fun s=>s.1 <= a.length/\s.2.length = a.length + b.length/\val (s.2.take (s.1 + b.length)) = val (a.take s.1) * val b)
  (fun r:List UInt64=>r.length = a.length + b.length/\val r = val a * val b) ?_ n (0,List.replicate (a.length + b.length) 0) ⟨by simp,by simp,?_⟩ (by simpa using hn.1)
 ·obtain ⟨xs,h1,h2,h3⟩:=h
  refine ⟨xs,?_,h2,h3⟩
  unfold az_p
  rw [cA _ _ hl,aa,h1,aa]
 ·rintro ⟨i,xs⟩ J ⟨h1,h2,h3⟩ hJ
  simp only at h1 h2 h3 hJ
  unfold az_l2
  simp only
  by_cases hi:i < a.length
  ·obtain ⟨ys,u,e1,e2,e3⟩:=mult_in n b a[i] i xs (by omega) hn.2
   rw [if_pos hi,geE hi,aa,e1,aa]
   simp only
   rw [geE (by omega),aa,aZ _ (by omega),aa]
   refine hJ (i + 1,ys.set (i + b.length) u) ⟨hi,by simp; omega,?_⟩ (by simp only; omega)
   simp only
   rw [show i + 1 + b.length = i + b.length + 1 by omega,dD u (by omega),bB a hi,e3,h3]
   grind
  ·rw [if_neg hi]
   have:i = a.length:=by omega
   subst this
   rw [List.take_length,bP (by omega)] at h3
   exact ⟨xs,rfl,h2,h3⟩
 ·simp only [List.take_zero,val,Nat.zero_mul]
  exact bN _ fun x hx=>(List.mem_replicate.1 (List.mem_of_mem_take hx)).2
def L (z:Int):Tg:=⟨decide (z < 0),dg z.natAbs⟩
def Fit (l:Nat) (z:Int):Prop:=z.natAbs < 18446744073709551616 ^ l
theorem Fit.len {l:Nat} {z:Int} (h:Fit l z):(dg z.natAbs).length <= l:=fH h
def sg (s:Bool) (m:Nat):Int:=if s = true then -(m:Int) else m
theorem kT (s:Bool) (m:Nat):(⟨s && decide (0 < m),dg m⟩:Tg) = L (sg s m):=by
 unfold L sg
 cases s
 ·simp
 ·simp
theorem sg_of (z:Int):z = sg (decide (z < 0)) z.natAbs:=by
 unfold sg; split <;> rename_i h <;> simp at h <;> omega
theorem gY (s:Bool) (m:Nat):(sg s m).natAbs = m:=by unfold sg; split <;> omega
theorem bJ (n l:Nat) (z:Int) (h:Fit l z) (hn:l < n) (hl:l < 1000000):aO_p n (L z) = some (L (-z)):=by
 unfold aO_p
 have h1:=h.len
 rw [aC n _ _ (by show (dg z.natAbs).length < n; omega) (by show (dg z.natAbs).length <= _; omega),aa]
 show some (⟨!decide (z < 0) && decide (0 < val (dg z.natAbs)),dg (val (dg z.natAbs))⟩:Tg) = _
 rw [az,kT]
 refine congrArg (fun x=>some (L x)) ?_
 unfold sg
 by_cases hz:z < 0 <;> simp [hz] <;> omega
theorem bQ (n l m:Nat) (a b:Int) (ha:Fit l a) (hb:Fit m b) (hn:l + m < n) (hl:l + m < 1000000):aw_p n (L a) (L b) = some (L (a * b)):=by
 unfold aw_p
 have h1:=ha.len
 have h2:=hb.len
 obtain ⟨xs,e1,e2,e3⟩:=fR n (L a).fp (L b).fp ⟨by show (dg a.natAbs).length < n; omega,by show (dg b.natAbs).length < n; omega⟩ (by show (dg a.natAbs).length + (dg b.natAbs).length <= _; omega)
 have e4:xs.length = (dg a.natAbs).length + (dg b.natAbs).length:=e2
 rw [e1,aa,aC n _ _ (by omega) (by omega),aa,e3]
 show some (⟨!(decide (a < 0) == decide (b < 0)) && decide (0 < val (dg a.natAbs) * val (dg b.natAbs)),dg (val (dg a.natAbs) * val (dg b.natAbs))⟩:Tg) = _
 rw [az,az,kT]
 refine congrArg (fun x=>some (L x)) ?_
 conv=>rhs; rw [sg_of a,sg_of b]
 unfold sg
 by_cases h3:a < 0 <;> by_cases h4:b < 0 <;> simp [h3,h4,Int.neg_mul,Int.mul_neg]
theorem eA {a b:Nat} (h:a <= b):(dg a).length <= (dg b).length:=fH (Nat.lt_of_le_of_lt h (by have:=bW (dg b); rwa [az] at this))
theorem jQ (n l a b:Nat) (s:Bool) (h:a <= b) (hl:(dg b).length <= l) (hn:l < n) (hl2:l < 1000000):((bq_p n (dg b) (dg a)).bind fun y67=>(ak_p n s y67).bind fun y75=>some y75) = some (L (sg s (b - a))):=by
 obtain ⟨xs,e1,e2,e3⟩:=iq n (dg b) (dg a) (eA h) (by rw [az,az]; exact h) (by omega) (by omega)
 rw [e1,aa,aC n _ _ (by omega) (by omega),aa,e3,az,az,kT]
theorem cV (n l:Nat) (a b:Int) (ha:Fit l a) (hb:Fit l b) (hn:l + 1 < n) (hl:l < 1000000):aX_p n (L a) (L b) = some (L (a + b)):=by
 unfold aX_p
 have h1:=ha.len
 have h2:=hb.len
 by_cases h:((L a).fj == (L b).fj) = true
 ·rw [if_pos h]
  obtain ⟨xs,e1,e2,e3⟩:=lh n (L a).fp (L b).fp ⟨by show (dg a.natAbs).length < n; omega,by show (dg b.natAbs).length < n; omega⟩ ⟨by show (dg a.natAbs).length < _; omega,by show (dg b.natAbs).length < _; omega⟩
  have e4:xs.length <= max (dg a.natAbs).length (dg b.natAbs).length + 1:=e2
  rw [e1,aa,aC n _ _ (by omega) (by omega),aa,e3]
  show some (⟨decide (a < 0) && decide (0 < val (dg a.natAbs) + val (dg b.natAbs)),dg (val (dg a.natAbs) + val (dg b.natAbs))⟩:Tg) = _
  rw [az,az,kT]
  refine congrArg (fun x=>some (L x)) ?_
  have h3:decide (a < 0) = decide (b < 0):=eq_of_beq h
  unfold sg
  by_cases h4:a < 0 <;> by_cases h5:b < 0 <;> simp [h4,h5] at h3 ⊢ <;> omega
 ·rw [if_neg h]
  obtain ⟨c,e1,e2,e3⟩:=em n (L a).fp (L b).fp (eJ _) (eJ _) (by show (dg a.natAbs).length < n; omega) (by show (dg a.natAbs).length < _; omega)
  have h3:decide (a < 0) ≠ decide (b < 0):=fun e=>h (by rw [beq_iff_eq]; exact e)
  rw [e1,aa]
  unfold jn
  simp only
  have e4:c < 0 ↔ a.natAbs < b.natAbs:=by rw [e2]; show val (dg a.natAbs) < val (dg b.natAbs) ↔ _; rw [az,az]
  by_cases hc:c < 0
  ·rw [if_pos hc]
   show ((bq_p n (dg b.natAbs) (dg a.natAbs)).bind fun y67=>(ak_p n (decide (b < 0)) y67).bind fun y75=>some y75) = _
   rw [jQ n l _ _ _ (by omega) h2 (by omega) hl]
   refine congrArg (fun x=>some (L x)) ?_
   unfold sg
   by_cases h4:a < 0 <;> by_cases h5:b < 0 <;> simp [h4,h5] at h3 ⊢ <;> omega
  ·rw [if_neg hc]
   show ((bq_p n (dg a.natAbs) (dg b.natAbs)).bind fun y67=>(ak_p n (decide (a < 0)) y67).bind fun y75=>some y75) = _
   rw [jQ n l _ _ _ (by omega) h1 (by omega) hl]
   refine congrArg (fun x=>some (L x)) ?_
   unfold sg
   by_cases h4:a < 0 <;> by_cases h5:b < 0 <;> simp [h4,h5] at h3 ⊢ <;> omega
theorem Fit.neg {l:Nat} {z:Int} (h:Fit l z):Fit l (-z):=by unfold Fit at *; rwa [Int.natAbs_neg]
theorem iv (n l:Nat) (a b:Int) (ha:Fit l a) (hb:Fit l b) (hn:l + 1 < n) (hl:l < 1000000):b9_p n (L a) (L b) = some (L (a - b)):=by
 unfold b9_p
 rw [bJ n l b hb (by omega) hl,aa,cV n l a (-b) ha hb.neg hn hl,aa,Int.sub_eq_add_neg]
theorem gD (n:Nat) (a:Int):bO_p n (L a) = some a.sign:=by
 unfold bO_p
 by_cases h:a < 0
 ·rw [if_pos (by simpa [L] using h),Int.sign_eq_neg_one_of_neg h]
 ·rw [if_neg (by simpa [L] using h)]
  by_cases h0:a = 0
  ·subst h0; rw [if_pos (by simp [L,dg0])]; rfl
  ·rw [if_neg,Int.sign_eq_one_of_pos (by omega)]
   show ¬ (dg a.natAbs).length = 0
   rw [gd (by omega)]; simp
end Go.Proofs.YtibdeoeglcngoaaGreatDoor
namespace Go.Proofs.YtibdeoeglcngoaaGreatDoor
open Go
theorem dg1 {m:Nat} (h0:m ≠ 0) (h:m < 18446744073709551616):dg m = [UInt64.ofNat m]:=by
 rw [gd h0,show m / 18446744073709551616 = 0 by omega,dg0]
theorem iK {m:Nat} (h0:m ≠ 0) (h:m < 18446744073709551616):UInt64.ofNat m ≠ 0:=fun e=>by
 have:=congrArg UInt64.toNat e
 rw [UInt64.toNat_ofNat'] at this
 simp at this; omega
theorem bT {m:Nat} (h:m < 18446744073709551616):(UInt64.ofNat m).toNat = m:=by rw [UInt64.toNat_ofNat']; exact Nat.mod_eq_of_lt h
theorem lQ (n:Nat) (x y:UInt64) (h:y ≠ 0):au_p n 0 x y = some (x / y,x % y):=by
 unfold au_p
 have h1:¬ y <= 0:=fun h1=>h (UInt64.toNat_inj.1 (by rw [UInt64.le_iff_toNat_le] at h1; simpa using h1))
 rw [if_neg h,if_neg h1,if_pos rfl]
 unfold gB kR
 rw [if_neg h,aa,if_neg h,aa]
theorem fJ (n a b:Nat) (ha:a < 18446744073709551616) (hb:b < 18446744073709551616) (h0:b ≠ 0) (hn:4 < n):∃ q,av_p n (dg a) (dg b) = some (q,dg (a % b))/\q.length <= 1/\val q = a / b:=by
 obtain ⟨k,rfl⟩:∃ k,n = k + 3:=⟨n - 3,by omega⟩
 rw [dg1 h0 hb]
 unfold av_p
 by_cases h:a = 0
 ·subst h
  refine ⟨[],?_,by simp,by simp [val]⟩
  rw [dg0,Nat.zero_mod,dg0]
  rw [cA _ _ (by simp),aa,if_pos (show [UInt64.ofNat b].length = 1 from rfl),bw]
  unfold av_l1
  simp only
  rw [if_neg (by decide),aa]
  simp only
  rw [aC _ _ _ (by simp) (by simp),aa]
  simp [val,dg0]
 ·have hm:a % b < 18446744073709551616:=Nat.lt_of_le_of_lt (Nat.mod_le _ _) ha
  have e2:(UInt64.ofNat a % UInt64.ofNat b).toNat = a % b:=by rw [UInt64.toNat_mod,bT ha,bT hb]
  refine ⟨[UInt64.ofNat a / UInt64.ofNat b],?_,by simp,?_⟩
  ·rw [dg1 h ha,cA _ _ (by simp),aa,if_pos (show [UInt64.ofNat b].length = 1 from rfl),bw]
   unfold av_l1
   simp only
   rw [if_pos (show (0:Int) <= ((([UInt64.ofNat a]:List UInt64).length:Nat):Int) - 1 by simp),bm (by simp) (by simp),aa]
   simp only [leC,leN,List.getElem?_cons_zero,aa]
   show ((au_p (k + 3) 0 (UInt64.ofNat a) (UInt64.ofNat b)).bind _).bind _ = _
   rw [lQ _ _ _ (iK h0 hb),aa]
   show (((some (0:UInt64)).bind _)).bind _ = _
   rw [aa]
   show ((put [(0:UInt64)] ((0:Nat):Int) _).bind _).bind _ = _
   rw [aZ _ (by decide),aa]
   show (((some (-1:Int)).bind _)).bind _ = _
   rw [aa,bw]
   simp only
   rw [if_neg (by decide),aa]
   simp only
   rw [aC _ _ _ (by simp) (by simp),aa]
   simp [val,e2]
  ·simp only [val]
   rw [UInt64.toNat_div,bT ha,bT hb]; simp
theorem cS {a b q r:Int} (h:a = b * q + r) (h0:0 <= r) (h1:r < b.natAbs):a / b = q/\a % b = r:=by
 by_cases hb:0 < b
 ·exact (Int.ediv_emod_unique hb).2 ⟨by rw [h]; omega,h0,by omega⟩
 ·have hb2:0 < -b:=by omega
  have h3:a = (-b) * (-q) + r:=by rw [h,Int.neg_mul_neg]
  obtain ⟨e1,e2⟩:=(Int.ediv_emod_unique (a:=a) (r:=r) (q:=-q) hb2).2 ⟨by rw [h3]; omega,h0,by omega⟩
  rw [Int.ediv_neg] at e1
  rw [Int.emod_neg] at e2
  exact ⟨by omega,e2⟩
def W1 (z:Int):Prop:=z.natAbs < 18446744073709551616
theorem iw (n:Nat) (a b:Int) (ha:W1 a) (hb:W1 b) (h0:b ≠ 0) (hn:10 < n):bn_p n (L a) (L b) = some (L (a / b),L (a % b)):=by
 obtain ⟨q,e1,e2,e3⟩:=fJ n a.natAbs b.natAbs ha hb (by omega) (by omega)
 have hm:a.natAbs % b.natAbs < b.natAbs:=Nat.mod_lt _ (by omega)
 have hl:(dg (a.natAbs % b.natAbs)).length <= 1:=fH (by rw [Nat.pow_one]; unfold W1 at hb; omega)
 have hdm:=Nat.div_add_mod a.natAbs b.natAbs
 have hq:a.natAbs / b.natAbs <= a.natAbs:=Nat.div_le_self _ _
 unfold bn_p
 rw [show (L a).fp = dg a.natAbs from rfl,show (L b).fp = dg b.natAbs from rfl,e1,aa]
 simp only
 rw [aC n _ _ (by omega) (by omega),aa,aC n _ _ (by omega) (by omega),aa,e3,az]
 generalize hx:a.natAbs / b.natAbs = x at *
 generalize hy:a.natAbs % b.natAbs = y at *
 simp only [kT]
 show (if (decide (a < 0) && decide (0 < y)) = true then _ else _) = _
 unfold W1 at ha hb
 have hab:(b.natAbs:Int) * x + y = a.natAbs:=by exact_mod_cast hdm
 by_cases hr:a < 0/\0 < y
 ·obtain ⟨h1,h2⟩:=hr
  rw [if_pos (by simp [h1,h2])]
  have f1:(⟨false,dg b.natAbs⟩:Tg) = L b.natAbs:=by unfold L; simp
  have f2:(⟨!(L b).fj,([(1:UInt64)]:List UInt64)⟩:Tg) = L (if b < 0 then 1 else -1):=by
   unfold L
   by_cases hb0:b < 0 <;> simp [hb0] <;> rw [dg1 (by decide) (by decide)] <;> rfl
  rw [f1,f2,cV n 1 _ _ ?_ ?_ (by omega) (by omega),aa,cV n 1 _ _ ?_ ?_ (by omega) (by omega),aa]
  ·have e:sg (!(decide (a < 0) == decide (b < 0))) x + (if b < 0 then 1 else -1) = a / b/\sg (decide (a < 0)) y + b.natAbs = a % b:=by
    have:=cS (a:=a) (b:=b) (q:=sg (!(decide (a < 0) == decide (b < 0))) x + (if b < 0 then 1 else -1)) (r:=sg (decide (a < 0)) y + b.natAbs) ?_ ?_ ?_
    ·exact ⟨this.1.symm,this.2.symm⟩
    ·unfold sg
     by_cases hb0:b < 0
     ·have:(b.natAbs:Int) = -b:=by omega
      rw [this] at hab ⊢
      have h3:(a.natAbs:Int) = -a:=by omega
      simp [h1,hb0]
      rw [Int.mul_add]; grind
     ·have:(b.natAbs:Int) = b:=by omega
      rw [this] at hab ⊢
      have h3:(a.natAbs:Int) = -a:=by omega
      simp [h1,hb0]
      rw [Int.mul_add]; grind
    ·unfold sg; simp [h1]; omega
    ·unfold sg; simp [h1]; omega
   show some (L (sg (!(decide (a < 0) == decide (b < 0))) x + (if b < 0 then 1 else -1)),L (sg (decide (a < 0)) y + b.natAbs)) = _
   rw [e.1,e.2]
  ·unfold Fit; rw [Nat.pow_one,gY]; omega
  ·unfold Fit; rw [Nat.pow_one]; split <;> decide
  ·unfold Fit; rw [Nat.pow_one,gY]; omega
  ·unfold Fit; rw [Nat.pow_one]; omega
 ·rw [if_neg (by simpa using hr)]
  have e:=cS (a:=a) (b:=b) (q:=sg (!(decide (a < 0) == decide (b < 0))) x) (r:=sg (decide (a < 0)) y) ?_ ?_ ?_
  ·rw [e.1,e.2]; rfl
  ·unfold sg
   by_cases h1:a < 0
   ·have hy0:y = 0:=by omega
    have h3:(a.natAbs:Int) = -a:=by omega
    by_cases hb0:b < 0
    ·have:(b.natAbs:Int) = -b:=by omega
     rw [this] at hab; simp [h1,hb0,hy0] at hab ⊢; grind
    ·have:(b.natAbs:Int) = b:=by omega
     rw [this] at hab; simp [h1,hb0,hy0] at hab ⊢; grind
   ·have h3:(a.natAbs:Int) = a:=by omega
    by_cases hb0:b < 0
    ·have:(b.natAbs:Int) = -b:=by omega
     rw [this] at hab; simp [h1,hb0] at hab ⊢; grind
    ·have:(b.natAbs:Int) = b:=by omega
     rw [this] at hab; simp [h1,hb0] at hab ⊢; grind
  ·unfold sg
   by_cases h1:a < 0
   ·have hy0:y = 0:=by omega
    simp [hy0]
   ·simp [h1]
  ·unfold sg
   by_cases h1:a < 0
   ·have hy0:y = 0:=by omega
    simp [hy0]; omega
   ·simp [h1]; omega
theorem kl (n:Nat) (a b:Int) (ha:W1 a) (hb:W1 b) (hn:18446744073709551616 < n):ar_p n (L a) (L b) = some (L (Nat.gcd a.natAbs b.natAbs:Nat)):=by
 have h:=ar (B:=ar_l1 n) (fun s:List UInt64 × List UInt64=>val s.2) (fun s=>∃ x y,s = (dg x,dg y)/\x < 18446744073709551616/\y < 18446744073709551616/\Nat.gcd x y = Nat.gcd a.natAbs b.natAbs)
  (fun r=>r = dg (Nat.gcd a.natAbs b.natAbs)) ?_ n (dg a.natAbs,dg b.natAbs) ⟨_,_,rfl,ha,hb,rfl⟩ (by simp only [az]; unfold W1 at hb; omega)
 ·obtain ⟨r,h1,rfl⟩:=h
  unfold ar_p
  rw [show (L a).fp = dg a.natAbs from rfl,show (L b).fp = dg b.natAbs from rfl,h1,aa]
  unfold L
  simp
 ·rintro _ J ⟨x,y,rfl,h1,h2,h3⟩ hJ
  unfold ar_l1
  simp only
  by_cases h0:y = 0
  ·subst h0
   rw [if_neg (by rw [dg0]; simp)]
   exact ⟨_,rfl,by rw [<- h3,Nat.gcd_zero_right]⟩
  ·obtain ⟨q,e1,_,_⟩:=fJ n x y h1 h2 h0 (by omega)
   have hm:x % y < y:=Nat.mod_lt _ (by omega)
   rw [if_pos (by rw [dg1 h0 h2]; simp),e1,aa]
   simp only
   refine hJ (dg y,dg (x % y)) ⟨_,_,rfl,h2,by omega,?_⟩ (by simp only [az]; exact hm)
   rw [<- h3,Nat.gcd_comm x y,Nat.gcd_rec y x,Nat.gcd_comm]
end Go.Proofs.YtibdeoeglcngoaaGreatDoor
namespace Go.Proofs.YtibdeoeglcngoaaGreatDoor
open Go
def W8 (z:Int):UInt64 × UInt64 × UInt64 × UInt64 × UInt64 × UInt64 × UInt64 × UInt64:=
 if z < 0 then (ac z,18446744073709551615,18446744073709551615,18446744073709551615,18446744073709551615,18446744073709551615,18446744073709551615,18446744073709551615) else (ac z,0,0,0,0,0,0,0)
def Sm (z:Int):Prop:=z.natAbs < 9223372036854775808
theorem Sm.w {z:Int} (h:Sm z):W1 z:=by unfold Sm W1 at *; omega
theorem eD {z:Int} (h:Sm z) (h0:z < 0):(ac z).toNat = 18446744073709551616 - z.natAbs:=by
 unfold ac Sm at *; rw [UInt64.toNat_ofNat']; omega
theorem ep {z:Int} (h:Sm z) (h0:¬ z < 0):ac z = UInt64.ofNat z.natAbs:=by
 unfold ac Sm at *; congr 1; omega
theorem lj (n:Nat) (z:Int) (hn:10 < n):cp_p n z = some (W8 z):=by
 obtain ⟨k,rfl⟩:∃ k,n = k + 9:=⟨n - 9,by omega⟩
 unfold cp_p W8
 by_cases h:z < 0
 ·rw [if_pos h,if_pos h]
  simp [bw,cp_l1,bq]
 ·rw [if_neg h,if_neg h]
theorem sub_m1:sub64 0 18446744073709551615 1 = some (0,1):=rfl
theorem sub_01:sub64 0 0 1 = some (18446744073709551615,1):=rfl
theorem read_ok (n:Nat) (z:Int) (h:Sm z):cw_p n (W8 z) = some ⟨decide (z < 0),(UInt64.ofNat z.natAbs,0,0,0,0,0,0,0)⟩:=by
 unfold cw_p W8
 by_cases h0:z < 0
 ·rw [if_pos h0]
  have e:sub64 0 (ac z) 0 = some (UInt64.ofNat z.natAbs,1):=by
   unfold sub64
   rw [if_pos (by decide),eD h h0]
   unfold Sm at h
   rw [if_pos (by simp; omega)]
   congr 2
   simp; congr 1; omega
  rw [if_pos (show shrU 18446744073709551615 63 = 1 from rfl)]
  unfold aR_p
  simp only [e,aa,sub_m1]
  simp [h0]; rfl
 ·rw [if_neg h0]
  rw [if_neg (show ¬ shrU 0 63 = 1 from by decide),ep h h0]
  simp [h0]; decide
theorem dP (n:Nat) (z:Int) (h:Sm z) (hn:10 < n):bf_p n (W8 z) = some (L z):=by
 unfold bf_p
 rw [read_ok n z h,aa]
 simp only
 rw [show app ([]:List UInt64) [UInt64.ofNat z.natAbs,0,0,0,0,0,0,0] = some [UInt64.ofNat z.natAbs,0,0,0,0,0,0,0] from rfl,aa,aC n _ _ (by simpa using by omega) (by simp),aa]
 have e:val [UInt64.ofNat z.natAbs,0,0,0,0,0,0,0] = z.natAbs:=by
  have:=h.w; unfold W1 at this
  simp only [val,bT this]; simp
 rw [e]
 unfold L
 by_cases h0:z < 0
 ·simp [h0]; omega
 ·simp [h0]
theorem from_ok (n:Nat) (z:Int) (h:Sm z) (hn:10 < n):cA_p n z = some (L z):=by
 unfold cA_p; rw [lj n z hn,aa,dP n z h hn,aa]
theorem mb {m:Nat} (h:m < 18446744073709551616):aJ (dg m) 0 0 = UInt64.ofNat m:=by
 by_cases h0:m = 0
 ·subst h0; rw [dg0]; rfl
 ·rw [dg1 h0 h]; rfl
theorem bU {m:Nat} (j:Nat) (h:m < 18446744073709551616):aJ (dg m) (j + 1) 0 = 0:=by
 by_cases h0:m = 0
 ·subst h0; rw [dg0]; rfl
 ·rw [dg1 h0 h]; rfl
theorem jF (n:Nat) (z:Int) (h:Sm z) (hn:10 < n):br_p n (L z) = some (W8 z,0):=by
 have hw:=h.w
 unfold W1 at hw
 have hl:¬ 8 < (L z).fp.length:=by
  have:(dg z.natAbs).length <= 1:=fH (by rw [Nat.pow_one]; exact hw)
  show ¬ 8 < (dg z.natAbs).length
  omega
 unfold br_p
 rw [if_neg hl,show (L z).fp = dg z.natAbs from rfl,mb hw,bU 0 hw,bU 1 hw,bU 2 hw,bU 3 hw,bU 4 hw,bU 5 hw,bU 6 hw]
 unfold bM_p
 have ho:∀ x:UInt64,aH_p n (x,0,0,0,0,0,0,0) (0,0,0,0,0,0,0,9223372036854775808) = some (-1):=fun x=>by
  obtain ⟨k,rfl⟩:∃ k,n = k + 1:=⟨n - 1,by omega⟩
  unfold aH_p
  rw [bw]
  rfl
 rw [ho,aa,if_neg (by decide),if_neg (by decide)]
 unfold W8
 by_cases h0:z < 0
 ·have e:sub64 0 (UInt64.ofNat z.natAbs) 0 = some (ac z,1):=by
   unfold sub64
   rw [if_pos (by decide),bT hw]
   rw [if_pos (by simp; omega)]
   congr 2
   refine UInt64.toNat_inj.1 ?_
   rw [eD h h0,UInt64.toNat_ofNat']
   unfold Sm at h
   simp; omega
  rw [if_pos h0,if_pos (by simpa [L] using h0)]
  unfold aR_p
  simp only [e,aa,sub_01]
 ·rw [if_neg h0,if_neg (by simpa [L] using h0),aa,ep h h0]
def Rt (q:Rat):Th:=⟨L q.num,L q.den⟩
def Sh (q:Rat):Ta:=⟨W8 q.num,W8 q.den⟩
theorem gW {x y:Int} (hy:0 < y) (hc:x.natAbs.Coprime y.natAbs):(Rat.divInt x y).num = x/\((Rat.divInt x y).den:Int) = y:=by
 have e:Rat.divInt x y = { num:=x,den:=y.natAbs,den_nz:=by omega,reduced:=hc }:=by
  rw [Rat.mk_eq_divInt]; congr 1; omega
 rw [e]; exact ⟨rfl,by simp only; omega⟩
theorem ki (n:Nat) (a b:Int) (ha:W1 a) (hb:W1 b) (h0:b ≠ 0) (hn:18446744073709551616 < n) :
  bz_p n (L a) (L b) = some (Rt (Rat.divInt a b))/\(Rat.divInt a b).num.natAbs <= a.natAbs/\(Rat.divInt a b).den <= b.natAbs:=by
 have hg:0 < Nat.gcd a.natAbs b.natAbs:=Nat.gcd_pos_of_pos_right _ (by omega)
 have hgb:Nat.gcd a.natAbs b.natAbs <= b.natAbs:=Nat.gcd_le_right _ (by omega)
 have hgw:W1 ((Nat.gcd a.natAbs b.natAbs:Nat):Int):=by unfold W1 at *; omega
 obtain ⟨x,hx⟩:((Nat.gcd a.natAbs b.natAbs:Nat):Int) ∣ a:=Int.ofNat_dvd_left.2 (Nat.gcd_dvd_left _ _)
 obtain ⟨y,hy⟩:((Nat.gcd a.natAbs b.natAbs:Nat):Int) ∣ b:=Int.ofNat_dvd_left.2 (Nat.gcd_dvd_right _ _)
 have hco:=Nat.coprime_div_gcd_div_gcd hg
 generalize Nat.gcd a.natAbs b.natAbs = g at *
 have hg0:(g:Int) ≠ 0:=by omega
 have e1:a / (g:Int) = x:=by rw [hx]; exact Int.mul_ediv_cancel_left _ hg0
 have e2:b / (g:Int) = y:=by rw [hy]; exact Int.mul_ediv_cancel_left _ hg0
 have e3:a.natAbs = g * x.natAbs:=by rw [hx,Int.natAbs_mul]; rfl
 have e4:b.natAbs = g * y.natAbs:=by rw [hy,Int.natAbs_mul]; rfl
 have hc:x.natAbs.Coprime y.natAbs:=by
  rw [e3,e4,Nat.mul_div_cancel_left _ hg,Nat.mul_div_cancel_left _ hg] at hco; exact hco
 have hxl:x.natAbs <= a.natAbs:=by rw [e3]; exact Nat.le_mul_of_pos_left _ hg
 have hyl:y.natAbs <= b.natAbs:=by rw [e4]; exact Nat.le_mul_of_pos_left _ hg
 have hy0:y ≠ 0:=fun e=>h0 (by rw [hy,e,Int.mul_zero])
 have eq:Rat.divInt a b = Rat.divInt x y:=by
  conv=>lhs; rw [hx,hy]
  exact Rat.divInt_mul_left hg0
 have xw:Fit 1 x:=by unfold Fit; unfold W1 at ha; rw [Nat.pow_one]; omega
 have yw:Fit 1 y:=by unfold Fit; unfold W1 at hb; rw [Nat.pow_one]; omega
 have gc:ar_p n (L a) (L b) = some (L g):=by
  have:=kl n a b ha hb hn
  rw [this]
  have h5:Nat.gcd a.natAbs b.natAbs = g:=by
   rw [e3,e4,Nat.gcd_mul_left,show Nat.gcd x.natAbs y.natAbs = 1 from hc,Nat.mul_one]
  rw [h5]
 unfold bz_p
 rw [gc,aa,iw n a g ha hgw hg0 (by omega),aa,iw n b g hb hgw hg0 (by omega),aa,e1,e2]
 simp only
 rw [eq]
 by_cases hs:y < 0
 ·rw [if_pos (by simpa [L] using hs),bJ n 1 x xw (by omega) (by omega),aa,bJ n 1 y yw (by omega) (by omega),aa]
  have h5:=gW (x:=-x) (y:=-y) (by omega) (by rwa [Int.natAbs_neg,Int.natAbs_neg])
  rw [Rat.neg_divInt_neg] at h5
  unfold Rt
  rw [h5.1,h5.2]
  exact ⟨rfl,by rw [Int.natAbs_neg]; exact hxl,by have:=h5.2; omega⟩
 ·rw [if_neg (by simpa [L] using hs)]
  have h5:=gW (x:=x) (y:=y) (by omega) hc
  unfold Rt
  rw [h5.1,h5.2]
  exact ⟨rfl,hxl,by have:=h5.2; omega⟩
end Go.Proofs.YtibdeoeglcngoaaGreatDoor
namespace Go.Proofs.YtibdeoeglcngoaaGreatDoor
open Go
theorem W8_ne {z:Int} (h:Sm z) (h0:z ≠ 0):W8 z ≠ (0,0,0,0,0,0,0,0):=fun e=>by
 have e1:ac z = 0:=by
  have:=congrArg Prod.fst e
  unfold W8 at this
  split at this <;> exact this
 by_cases hz:z < 0
 ·have:=eD h hz
  rw [e1] at this; unfold Sm at h; simp at this; omega
 ·rw [ep h hz] at e1
  exact iK (by omega) h.w e1
theorem mG (n:Nat) (q:Rat) (h1:Sm q.num) (h2:Sm (q.den:Int)) (hn:10 < n):aY_p n (Rt q) = some (Sh q,0):=by
 unfold aY_p
 rw [show (Rt q).fx = L q.num from rfl,show (Rt q).ft = L q.den from rfl,jF n _ h1 hn,aa,jF n _ h2 hn,aa]
 rfl
theorem iL (n:Nat) (a b:Int) (ha:Sm a) (hb:Sm b) (h0:b ≠ 0) (hn:18446744073709551616 < n):cu_p n a b = some (Sh (Rat.divInt a b),0):=by
 obtain ⟨e1,e2,e3⟩:=ki n a b ha.w hb.w h0 hn
 unfold cu_p
 rw [lj n a (by omega),aa,lj n b (by omega),aa]
 unfold cz_p
 rw [if_neg (W8_ne hb h0),dP n a ha (by omega),aa,dP n b hb (by omega),aa,e1,aa,mG n _ (by unfold Sm at *; omega) (by unfold Sm at *; omega) (by omega)]
 rfl
end Go.Proofs.YtibdeoeglcngoaaGreatDoor
namespace Go.Proofs.YtibdeoeglcngoaaGreatDoor
open Go
theorem ck {x y:Int} (h:y ≠ 0):dh x y = some (x.tmod y):=if_neg h
theorem dO {α:Type} (xs ys:List α) (h:xs.length + ys.length <= 1000000):app xs ys = some (xs ++ ys):=if_pos (Nat.le_trans h (by decide))
theorem lV (n:Nat) (d:Tj) (i:Int) (h:0 <= i):∃ y,aQ_p n d i = some y/\0 <= y/\y < 256:=by
 unfold aQ_p
 split
 ·rw [bm h (by omega),aa]
  have:=(d.fLabels[i.toNat]'(by omega)).toNat_lt
  exact ⟨_,rfl,by omega,by omega⟩
 ·exact ⟨_,rfl,by omega,by omega⟩
theorem kS (n:Nat) (d:Tj) (hn:20 < n):∃ l,ap (ae_l2 n d) n (0,[]) = some l/\1 <= l.length/\l.length <= 9/\∀ x ∈ l,0 <= x/\x < 8:=by
 have hu:(d.fN % 9).toNat < 9:=by rw [UInt8.toNat_mod]; exact Nat.mod_lt _ (by decide)
 have hk:(d.fK % 8).toNat < 8:=by rw [UInt8.toNat_mod]; exact Nat.mod_lt _ (by decide)
 have h:=ar (B:=ae_l2 n d) (fun s:Int × List Int=>10 - s.1.toNat) (fun s=>0 <= s.1/\s.1 <= (1 + (d.fN % 9).toNat:Nat)/\s.2.length = s.1.toNat/\∀ x ∈ s.2,0 <= x/\x < 8)
  (fun l=>1 <= l.length/\l.length <= 9/\∀ x ∈ l,0 <= x/\x < 8) ?_ n (0,[]) ⟨by simp,by omega,by simp,by simp⟩ (by simp only; omega)
 ·obtain ⟨l,e,h⟩:=h; exact ⟨l,e,h⟩
 ·rintro ⟨z,xs⟩ J ⟨h1,h2,h3,h4⟩ hJ
  simp only at h1 h2 h3 h4 hJ
  unfold ae_l2 bg_p
  simp only [aa]
  split
  ·rename_i h5
   obtain ⟨y,e,y0,y1⟩:=lV n d z h1
   rw [e,aa,ck (by omega),aa,dO _ _ (by simp only [leC,leN]; omega),aa,aE (by omega) (by omega),aa]
   refine hJ _ ⟨by simp only; omega,by simp only; omega,by simp only [List.length_append,leC,leN]; omega,fun x hx=>?_⟩ (by simp only; omega)
   rcases List.mem_append.1 hx with hx | hx
   ·exact h4 x hx
   ·rw [List.mem_singleton.1 hx,Int.tmod_eq_emod_of_nonneg y0]
    have a1:=Int.emod_nonneg y (b:=((1 + (d.fK % 8).toNat:Nat):Int)) (by omega)
    have a2:=Int.emod_lt_of_pos y (b:=((1 + (d.fK % 8).toNat:Nat):Int)) (by omega)
    omega
  ·rename_i h5
   exact ⟨_,rfl,by omega,by omega,h4⟩
theorem kx (n:Nat) (l:List Int) (h1:1 <= l.length) (h2:l.length <= 9) (h:∀ x ∈ l,0 <= x/\x < 8) (hn:20 < n):aC_p n l 8 = some true:=by
 have hh:=ar (B:=aC_l1 n l 8) (fun i:Nat=>l.length - i) (fun i=>i <= l.length) (fun r=>r = .inr ()) ?_ n 0 (Nat.zero_le _) (by omega)
 ·obtain ⟨r,e,rfl⟩:=hh
  unfold aC_p
  rw [e]
  show (if 1 <= l.length then some (decide (l.length <= 64)) else some false) = _
  rw [if_pos h1,decide_eq_true (by omega)]
 ·intro i J hi hJ
  unfold aC_l1
  simp only
  split
  ·rename_i h0
   have:=h l[i] (List.getElem_mem _)
   rw [geE h0,aa,if_neg (by omega),if_neg (by omega)]
   exact hJ (i + 1) h0 (by omega)
  ·exact ⟨_,rfl,rfl⟩
def bt (p:List Int) (k:Int):Prop:=(∀ x ∈ p,0 <= x/\x < k)/\∀ d,0 <= d -> d < k -> d ∈ p
theorem lA (n:Nat) (l:List Int) (h1:1 <= l.length) (h2:l.length <= 9) (h:∀ x ∈ l,0 <= x/\x < 8) (hn:20 < n):∃ p z,aI_p n l = some (p,0)/\p.length = l.length/\bt p z/\z <= 8:=by
 have hh:=ar (B:=aI_l1 n l) (fun s:Int × Nat × List Int × List Int=>l.length - s.2.1)
  (fun s=>s.2.1 <= l.length/\s.2.2.1.length = s.2.1/\s.2.2.2.length = 8/\0 <= s.1/\s.1 + s.2.2.2.count (-1) = 8/\(∀ v ∈ s.2.2.2,v = -1 ∨ 0 <= v/\v < s.1)/\bt s.2.2.1 s.1)
  (fun p=>∃ z,p.length = l.length/\bt p z/\z <= 8) ?_ n (0,0,[],[-1,-1,-1,-1,-1,-1,-1,-1]) ⟨by simp,rfl,rfl,by simp,by decide,by simp,by simp,fun d h3 h4=>by simp only at h4; omega⟩ (by simp only; omega)
 ·obtain ⟨p,e,z,h3,h4,h5⟩:=hh
  refine ⟨p,z,?_,h3,h4,h5⟩
  unfold aI_p
  rw [kx n l h1 h2 h hn,aa,if_pos rfl,e,aa]
 ·rintro ⟨z,i,xs,m⟩ J ⟨a1,a2,a3,a4,a5,a6,a7,a8⟩ hJ
  simp only at a1 a2 a3 a4 a5 a6 a7 a8 hJ
  unfold aI_l1
  simp only
  split
  ·rename_i hi
   have hx:=h l[i] (List.getElem_mem _)
   have hm:l[i].toNat < m.length:=by omega
   rw [geE hi,aa,bm hx.1 hm,aa]
   unfold jn
   simp only
   have hv:=a6 m[l[i].toNat] (List.getElem_mem _)
   by_cases hneg:m[l[i].toNat] < 0
   ·have hv1:m[l[i].toNat] = -1:=by omega
    have hc:0 < m.count (-1):=by rw [<- hv1]; exact List.count_pos_iff.2 (List.getElem_mem _)
    rw [if_pos hneg,aZ _ hm,aa,aE (by omega) (by omega),aa,bm hx.1 (by simpa using hm),aa,List.getElem_set_self,dO _ _ (by simp only [leC,leN]; omega),aa]
    refine hJ _ ⟨by simp only; omega,by simp only [List.length_append,leC,leN]; omega,by simpa using a3,by simp only; omega,?_,?_,?_,?_⟩ (by simp only; omega)
    ·simp only
     rw [List.count_set hm,hv1]
     have:((z == (-1:Int)) = false):=by rw [beq_eq_false_iff_ne]; omega
     simp only [this]
     simp only [beq_self_eq_true,if_true]
     simp
     omega
    ·intro v hv2
     rcases List.mem_or_eq_of_mem_set hv2 with hv2 | rfl
     ·rcases a6 v hv2 with h5 | h5
      ·exact .inl h5
      ·exact .inr ⟨h5.1,by simp only; omega⟩
     ·exact .inr ⟨a4,by simp only; omega⟩
    ·intro x hx2
     simp only at hx2 ⊢
     rcases List.mem_append.1 hx2 with hx2 | hx2
     ·have:=a7 x hx2; omega
     ·rw [List.mem_singleton.1 hx2]; omega
    ·intro d d0 d1
     simp only at d1 ⊢
     by_cases hd:d = z
     ·subst hd; exact List.mem_append_right _ (List.mem_singleton.2 rfl)
     ·exact List.mem_append_left _ (a8 d d0 (by omega))
   ·rw [if_neg hneg,bm hx.1 hm,aa,dO _ _ (by simp only [leC,leN]; omega),aa]
    refine hJ _ ⟨by simp only; omega,by simp only [List.length_append,leC,leN]; omega,a3,a4,a5,a6,?_,?_⟩ (by simp only; omega)
    ·intro x hx2
     simp only at hx2 ⊢
     rcases List.mem_append.1 hx2 with hx2 | hx2
     ·exact a7 x hx2
     ·rw [List.mem_singleton.1 hx2]; omega
    ·intro d d0 d1
     exact List.mem_append_left _ (a8 d d0 d1)
  ·exact ⟨_,rfl,z,by omega,⟨a7,a8⟩,by omega⟩
theorem mr (n:Nat) (d:Tj) (hn:20 < n):∃ p k,ae_p n d = some (p,k)/\1 <= p.length/\p.length <= 9/\bt p k/\1 <= k/\k <= 8:=by
 obtain ⟨l,e1,l1,l2,l3⟩:=kS n d hn
 obtain ⟨p,z,e2,p1,p2,p3⟩:=lA n l l1 l2 l3 hn
 have hh:=ar (B:=ae_l1 n (p,0)) (fun s:Int × Nat=>p.length - s.2) (fun s=>s.2 <= p.length/\0 <= s.1/\s.1 <= 8/\(∀ j (h:j < p.length),j < s.2 -> p[j] + 1 <= s.1)/\(s.1 = 0/\s.2 = 0 ∨ s.1 - 1 ∈ p))
  (fun k=>1 <= k/\k <= 8/\(∀ x ∈ p,x < k)/\k - 1 ∈ p) ?_ n (0,0) ⟨by simp,by simp,by simp,fun j _ h=>by simp at h,.inl ⟨rfl,rfl⟩⟩ (by simp only; omega)
 ·obtain ⟨k,e3,k1,k2,k3,k4⟩:=hh
  refine ⟨p,k,?_,by omega,by omega,⟨fun x hx=>⟨(p2.1 x hx).1,k3 x hx⟩,fun d d0 d1=>p2.2 d d0 (by have:=(p2.1 _ k4).2; omega)⟩,k1,k2⟩
  unfold ae_p
  rw [e1,aa,e2,aa,e3,aa]
 ·rintro ⟨z', i⟩ J ⟨a1,a2,a3,a4,a5⟩ hJ
  simp only at a1 a2 a3 a4 a5 hJ
  unfold ae_l1
  simp only
  split
  ·rename_i hi
   have hx:=p2.1 p[i] (List.getElem_mem _)
   rw [geE hi,aa,aE (by omega) (by omega),aa]
   refine hJ _ ⟨hi,by simp only; omega,by simp only; omega,fun j hj h4=>?_,?_⟩ (by simp only; omega)
   ·simp only at h4 ⊢
    by_cases hj2:j = i
    ·subst hj2; omega
    ·have:=a4 j hj (by omega); omega
   ·right
    simp only
    by_cases hm:z' <= p[i] + 1
    ·rw [Int.max_eq_right hm,show p[i] + 1 - 1 = p[i] by omega]; exact List.getElem_mem _
    ·rw [Int.max_eq_left (by omega)]
     rcases a5 with ⟨h5,h6⟩ | h5
     ·omega
     ·exact h5
  ·rename_i hi
   rcases a5 with ⟨h5,h6⟩ | h5
   ·omega
   ·refine ⟨_,rfl,by have:=(p2.1 _ h5).1; omega,a3,fun x hx=>?_,h5⟩
    obtain ⟨j,hj,rfl⟩:=List.getElem_of_mem hx
    have:=a4 j hj (by omega); omega
end Go.Proofs.YtibdeoeglcngoaaGreatDoor
namespace Go.Proofs.YtibdeoeglcngoaaGreatDoor
open Go
def FU:Nat:=18446744073709552000
def nm (i:Nat):ByteArray:=⟨#[117,UInt8.ofNat (97 + i),97]⟩
theorem nm_inj {i j:Nat} (hi:i < 9) (hj:j < 9) (h:nm i = nm j):i = j:=by
 have h1:=congrArg (fun b:ByteArray=>b.data[1]!) h
 have h2:UInt8.ofNat (97 + i) = UInt8.ofNat (97 + j):=h1
 have h3:=congrArg UInt8.toNat h2
 rw [UInt8.toNat_ofNat', UInt8.toNat_ofNat'] at h3
 omega
theorem nm_sea {i:Nat} (h:nm i = ⟨#[115,101,97]⟩):False:=by
 have h1:=congrArg (fun b:ByteArray=>b.data[0]!) h
 have h2:(117:UInt8) = 115:=h1
 exact absurd h2 (by decide)
theorem dR {κ ν:Type} [DecidableEq κ]:∀ (D:List (κ × ν)) (k x:κ) (v:ν),dS (aW D k v) x = if x = k then some v else dS D x
 | [],k,x,v=>by simp [aW,dS]
 | e :: D,k,x,v=>by
  unfold aW
  split
  ·rename_i h; subst h; simp only [dS]; split <;> rfl
  ·rename_i h
   simp only [dS]
   rw [dR D k x v]
   by_cases h1:x = k
   ·subst h1; simp [h]
   ·simp [h1]
theorem bO (n:Nat) (l:List Bool) (h:∀ b ∈ l,b = true) (hn:l.length < n):aM_p n l = some true:=by
 have hh:=ar (B:=ap_l1 n l false) (fun i:Nat=>l.length - i) (fun i=>i <= l.length) (fun r=>r = .inr ()) ?_ n 0 (Nat.zero_le _) (by omega)
 ·obtain ⟨r,e,rfl⟩:=hh
  unfold aM_p aP_p ap_p
  rw [e]
  rfl
 ·intro i J hi hJ
  unfold ap_l1
  simp only
  split
  ·rename_i h0
   rw [geE h0,aa,h l[i] (List.getElem_mem _),if_neg (by decide)]
   exact hJ (i + 1) h0 (by omega)
  ·exact ⟨_,rfl,rfl⟩
theorem bH (n:Nat) (l:List Int) (a bh:Int) (hl:(l.length:Int) = a) (h:∀ x ∈ l,0 <= x/\x <= bh) (hn:l.length < n):aA_p n l a bh = some true:=by
 have hh:=ar (B:=aA_l1 n l bh) (fun i:Nat=>l.length - i) (fun i=>i <= l.length) (fun r=>r = .inr ()) ?_ n 0 (Nat.zero_le _) (by omega)
 ·obtain ⟨r,e,rfl⟩:=hh
  unfold aA_p
  rw [if_pos hl,e]
  rfl
 ·intro i J hi hJ
  unfold aA_l1 cb_p
  simp only
  split
  ·rename_i h0
   have:=h l[i] (List.getElem_mem _)
   rw [geE h0,aa,if_neg (by omega),aa,decide_eq_false (by omega),if_neg (by decide)]
   exact hJ (i + 1) h0 (by omega)
  ·exact ⟨_,rfl,rfl⟩
theorem jg (n:Nat) (d:Ti) (i:Int) (h:0 <= i):∃ y,ay_p n d i = some y/\0 <= y/\y <= 255:=by
 unfold ay_p
 split
 ·exact ⟨_,rfl,by omega,by omega⟩
 ·rename_i h0
  have h1:=Int.emod_nonneg i (b:=(d.fNums.length:Int)) (by omega)
  have h2:=Int.emod_lt_of_pos i (b:=(d.fNums.length:Int)) (by omega)
  rw [ck (by omega),aa,Int.tmod_eq_emod_of_nonneg h,bm h1 (by omega),aa]
  have:=(d.fNums[(i % (d.fNums.length:Int)).toNat]'(by omega)).toNat_lt
  exact ⟨_,rfl,by omega,by omega⟩
theorem iI (n:Nat) (d:Ti) (c at_ bh:Int) (h0:0 <= c) (h1:c <= 100) (h2:0 <= at_) (h3:at_ <= 1000) (h4:0 <= bh) (hn:200 < n):∃ l,am_p n d c at_ bh = some l/\(l.length:Int) = c/\∀ x ∈ l,0 <= x/\x <= bh/\x <= 255:=by
 have hh:=ar (B:=am_l1 n c at_ d bh) (fun s:Int × List Int=>101 - s.1.toNat) (fun s=>0 <= s.1/\s.1 <= c/\(s.2.length:Int) = s.1/\∀ x ∈ s.2,0 <= x/\x <= bh/\x <= 255)
  (fun l=>(l.length:Int) = c/\∀ x ∈ l,0 <= x/\x <= bh/\x <= 255) ?_ n (0,[]) ⟨by simp,h0,by simp,by simp⟩ (by simp only; omega)
 ·obtain ⟨l,e,h⟩:=hh
  refine ⟨l,?_,h⟩
  unfold am_p
  rw [e,aa]
 ·rintro ⟨z,xs⟩ J ⟨a1,a2,a3,a4⟩ hJ
  simp only at a1 a2 a3 a4 hJ
  unfold am_l1
  simp only
  split
  ·obtain ⟨y,e,y0,y1⟩:=jg n d (at_ + z) (by omega)
   rw [aE (by omega) (by omega),aa,e,aa,dO _ _ (by simp only [leC,leN]; omega),aa,aE (by omega) (by omega),aa]
   refine hJ _ ⟨by simp only; omega,by simp only; omega,by simp only [List.length_append,leC,leN]; omega,fun x hx=>?_⟩ (by simp only; omega)
   rcases List.mem_append.1 hx with hx | hx
   ·exact a4 x hx
   ·rw [List.mem_singleton.1 hx]; omega
  ·exact ⟨_,rfl,by omega,a4⟩
def gU (G P L:Int) (u:Tc):Prop:=u.fu = false/\(0 <= u.fy/\u.fy <= 255)/\((u.fh.length:Int) = G/\∀ x ∈ u.fh,0 <= x/\x <= u.fy)/\((u.fVotes.length:Int) = P/\∀ x ∈ u.fVotes,0 <= x/\x <= 255)/\((u.fC.length:Int) = L/\∀ x ∈ u.fC,0 <= x/\x <= 63)
def sea (G P L:Int):Tc:=⟨⟨#[115,101,97]⟩,0,List.replicate G.toNat 0,List.replicate P.toNat 0,List.replicate L.toNat 0,true⟩
structure RollOk (r:Tf) (us:List Tc):Prop where
 g:0 <= r.fh/\r.fh <= 2
 p:0 <= r.fc/\r.fc <= 3
 l:0 <= r.fe/\r.fe <= 2
 len:1 <= us.length/\us.length <= 9
 land:∀ i (h:i < us.length),us[i].fw = nm i/\gU r.fh r.fc r.fe us[i]
 all:r.fv = us ∨ r.fv = us ++ [sea r.fh r.fc r.fe]
theorem ju (n:Nat) (d:Ti) (z:Int) (h0:0 <= z) (h1:z <= 100) (hn:200 < n):∃ l,ap (aa_l1 n d z) n (0,[]) = some l/\l.length = (d.fe % 3).toNat/\∀ x ∈ l,0 <= x/\x <= 63:=by
 have hk:(d.fe % 3).toNat < 3:=by rw [UInt8.toNat_mod]; exact Nat.mod_lt _ (by decide)
 refine ar (B:=aa_l1 n d z) (fun s:Nat × List Int=>3 - s.1) (fun s=>s.1 <= (d.fe % 3).toNat/\s.2.length = s.1/\∀ x ∈ s.2,0 <= x/\x <= 63) _ ?_ n (0,[]) ⟨by simp,rfl,by simp⟩ (by simp only; omega)
 rintro ⟨i,xs⟩ J ⟨a1,a2,a3⟩ hJ
 simp only at a1 a2 a3 hJ
 unfold aa_l1
 simp only
 split
 ·rename_i hi
  obtain ⟨y,e,y0,y1⟩:=jg n d (9 * z + 7 + i) (by omega)
  rw [aE (by omega) (by omega),aa,aE (by omega) (by omega),aa,aE (by omega) (by omega),aa,e,aa,ck (by decide),aa,dO _ _ (by simp only [leC,leN]; omega),aa]
  refine hJ _ ⟨by simp only; omega,by simp only [List.length_append,leC,leN]; omega,fun x hx=>?_⟩ (by simp only; omega)
  rcases List.mem_append.1 hx with hx | hx
  ·exact a3 x hx
  ·rw [List.mem_singleton.1 hx,Int.tmod_eq_emod_of_nonneg y0]
   have a1:=Int.emod_nonneg y (b:=(3:Int)) (by omega)
   have a2:=Int.emod_lt_of_pos y (b:=(3:Int)) (by omega)
   omega
 ·exact ⟨_,rfl,by omega,a3⟩
theorem name_ok (i:Nat) (h:i < 9):(lr ⟨#[117]⟩ (bstr ([aF (97 + (i:Int)),aF (97 + 0)]:List UInt8))) = some (nm i):=by
 have:aF (97 + (i:Int)) = UInt8.ofNat (97 + i):=by unfold aF; congr 1; omega
 rw [this]; rfl
theorem lq (n:Nat) (d:Ti) (m:Nat) (h1:1 <= m) (h2:m <= 9) (hn:200 < n):∃ r us,aa_p n d m = some r/\us.length = m/\RollOk r us/\r.fh = ((d.fh % 3).toNat:Int)/\r.fc = ((d.fc % 4).toNat:Int)/\r.fe = ((d.fe % 3).toNat:Int):=by
 have hG:(d.fh % 3).toNat < 3:=by rw [UInt8.toNat_mod]; exact Nat.mod_lt _ (by decide)
 have hP:(d.fc % 4).toNat < 4:=by rw [UInt8.toNat_mod]; exact Nat.mod_lt _ (by decide)
 have hL:(d.fe % 3).toNat < 3:=by rw [UInt8.toNat_mod]; exact Nat.mod_lt _ (by decide)
 have hW:(d.fu % 2).toNat < 2:=by rw [UInt8.toNat_mod]; exact Nat.mod_lt _ (by decide)
 have hh:=ar (B:=aa_l3 n (m:Int) d) (fun s:Int × List Tc=>10 - s.1.toNat) (fun s=>0 <= s.1/\s.1 <= m/\(s.2.length:Int) = s.1/\∀ i (h:i < s.2.length),s.2[i].fw = nm i/\gU ((d.fh % 3).toNat:Int) ((d.fc % 4).toNat:Int) ((d.fe % 3).toNat:Int) s.2[i])
  (fun us=>us.length = m/\∀ i (h:i < us.length),us[i].fw = nm i/\gU ((d.fh % 3).toNat:Int) ((d.fc % 4).toNat:Int) ((d.fe % 3).toNat:Int) us[i]) ?_ n (0,[]) ⟨by simp,by simp,by simp,fun i h=>by simp at h⟩ (by simp only; omega)
 ·obtain ⟨us,e,u1,u2⟩:=hh
  have hs:=ar (B:=aa_l2 n d) (fun s:Nat × List Tc=>2 - s.1) (fun s=>s.1 <= (d.fu % 2).toNat/\(s.1 = 0/\s.2 = us ∨ s.1 = 1/\s.2 = us ++ [sea (d.fh % 3).toNat (d.fc % 4).toNat (d.fe % 3).toNat]))
   (fun all=>all = us ∨ all = us ++ [sea (d.fh % 3).toNat (d.fc % 4).toNat (d.fe % 3).toNat]) ?_ n (0,us) ⟨by simp,.inl ⟨rfl,rfl⟩⟩ (by simp only; omega)
  ·obtain ⟨all,e2,ha⟩:=hs
   refine ⟨⟨(d.fh % 3).toNat,(d.fc % 4).toNat,(d.fe % 3).toNat,all⟩,us,?_,u1,⟨by simp only; omega,by simp only; omega,by simp only; omega,by omega,u2,ha⟩,rfl,rfl,rfl⟩
   unfold aa_p
   rw [e,aa,e2,aa]
  ·rintro ⟨i,xs⟩ J ⟨a1,a2⟩ hJ
   simp only at a1 a2 hJ
   unfold aa_l2
   simp only
   split
   ·rename_i hi
    have hi0:i = 0/\xs = us:=by
     rcases a2 with a2 | a2
     ·exact a2
     ·omega
    obtain ⟨rfl,rfl⟩:=hi0
    rw [cA _ _ (by omega),aa,cA _ _ (by omega),aa,cA _ _ (by omega),aa,dO _ _ (by simp only [leC,leN]; omega),aa]
    exact hJ _ ⟨by simp only; omega,.inr ⟨rfl,rfl⟩⟩ (by simp only; omega)
   ·exact ⟨_,rfl,a2.elim (fun h=>.inl h.2) (fun h=>.inr h.2)⟩
 ·rintro ⟨z,xs⟩ J ⟨a1,a2,a3,a4⟩ hJ
  simp only at a1 a2 a3 a4 hJ
  unfold aa_l3
  simp only
  split
  ·rename_i hz
   obtain ⟨i,rfl⟩:∃ i:Nat,z = i:=⟨z.toNat,by omega⟩
   have t1:Int.tmod (i:Int) 26 = i:=by rw [Int.tmod_eq_emod_of_nonneg (by omega)]; omega
   have t2:Int.tdiv (i:Int) 26 = 0:=by rw [Int.tdiv_eq_ediv_of_nonneg (by omega)]; omega
   obtain ⟨y,e,y0,y1⟩:=jg n d (9 * (i:Int)) (by omega)
   obtain ⟨g,eg,g1,g2⟩:=iI n d ((d.fh % 3).toNat:Nat) (9 * (i:Int) + 1) y (by omega) (by omega) (by omega) (by omega) y0 hn
   obtain ⟨v,ev,v1,v2⟩:=iI n d ((d.fc % 4).toNat:Nat) (9 * (i:Int) + 3) 255 (by omega) (by omega) (by omega) (by omega) (by omega) hn
   obtain ⟨q,eq,q1,q2⟩:=ju n d (i:Int) (by omega) (by omega) hn
   rw [ck (by decide),aa,t1,aE (by omega) (by omega),aa]
   unfold cX
   rw [if_neg (by decide),t2,aE (by omega) (by omega),aa,ck (by decide),aa,show Int.tmod 0 26 = 0 from rfl,aE (by omega) (by omega),aa,aE (by omega) (by omega),aa,e,aa,name_ok i (by omega)]
   simp only [aa]
   rw [aE (by omega) (by omega)]
   simp only [aa,eg]
   rw [aE (by omega) (by omega)]
   simp only [aa,ev,eq]
   rw [dO _ _ (by simp only [leC,leN]; omega)]
   simp only [aa]
   try rw [aE (by omega) (by omega),aa]
   refine hJ _ ⟨by simp only; omega,by simp only; omega,by simp only [List.length_append,leC,leN]; omega,fun j hj=>?_⟩ (by simp only; omega)
   simp only at hj ⊢
   by_cases hji:j < xs.length
   ·rw [List.getElem_append_left hji]; exact a4 j hji
   ·have:j = i:=by simp only [List.length_append,leC,leN] at hj; omega
    subst this
    rw [List.getElem_append_right (by omega)]
    simp only [List.getElem_singleton]
    exact ⟨trivial,rfl,⟨y0,y1⟩,⟨g1,fun x hx=>⟨(g2 x hx).1,(g2 x hx).2.1⟩⟩,⟨v1,fun x hx=>⟨(v2 x hx).1,(v2 x hx).2.2⟩⟩,⟨by rw [q1],q2⟩⟩
  ·exact ⟨_,rfl,by omega,a4⟩
end Go.Proofs.YtibdeoeglcngoaaGreatDoor
namespace Go.Proofs.YtibdeoeglcngoaaGreatDoor
open Go
theorem lS:(List.range 9).all (fun i=>decide (aq_p FU (nm i) ⟨#[65,66,67,68,69,70,71,72,73,74,75,76,77,78,79,80,81,82,83,84,85,86,87,88,89,90,97,98,99,100,101,102,103,104,105,106,107,108,109,110,111,112,113,114,115,116,117,118,119,120,121,122,48,49,50,51,52,53,54,55,56,57,45,95]⟩ = some ⟨#[]⟩)) = true:=by kernel_rfl
theorem trim_nm {i:Nat} (h:i < 9):aq_p FU (nm i) ⟨#[65,66,67,68,69,70,71,72,73,74,75,76,77,78,79,80,81,82,83,84,85,86,87,88,89,90,97,98,99,100,101,102,103,104,105,106,107,108,109,110,111,112,113,114,115,116,117,118,119,120,121,122,48,49,50,51,52,53,54,55,56,57,45,95]⟩ = some ⟨#[]⟩:=of_decide_eq_true (List.all_eq_true.1 lS i (List.mem_range.2 h))
theorem ly:aq_p FU ⟨#[115,101,97]⟩ ⟨#[65,66,67,68,69,70,71,72,73,74,75,76,77,78,79,80,81,82,83,84,85,86,87,88,89,90,97,98,99,100,101,102,103,104,105,106,107,108,109,110,111,112,113,114,115,116,117,118,119,120,121,122,48,49,50,51,52,53,54,55,56,57,45,95]⟩ = some ⟨#[]⟩:=by kernel_rfl
theorem aU:(1000000:Nat) < FU:=by decide
theorem iY (r:Tf) (u:Tc) {i:Nat} (hi:i < 9) (hG:r.fh <= 6) (hP:r.fc <= 12) (hL:r.fe <= 3) (hn:u.fw = nm i) (h:gU r.fh r.fc r.fe u):bL_p FU r u = some true:=by
 obtain ⟨w,pp,g,v,q⟩:=h
 have hF:=aU
 unfold bL_p jn
 simp only
 rw [if_neg (by rw [w]; decide),hn,trim_nm hi,aa,bH FU _ _ _ g.1 g.2 (by omega),aa,bH FU _ _ _ v.1 (fun x hx=>⟨(v.2 x hx).1,by have:=(v.2 x hx).2; omega⟩) (by omega),aa,bH FU _ _ _ q.1 (fun x hx=>⟨(q.2 x hx).1,by have:=(q.2 x hx).2; omega⟩) (by omega),aa]
 rw [bO FU _ ?_ (by simp only [leC,leN]; omega),aa]
 have e1:¬ nm i = ⟨#[]⟩:=fun e=>by have:=congrArg ByteArray.size e; exact absurd this (by show ¬ (3:Nat) = 0; decide)
 have e2:(nm i).size <= 12:=by show (3:Nat) <= 12; decide
 simp [e1,e2,pp.1]
 omega
theorem kg (r:Tf) (hG:0 <= r.fh/\r.fh <= 6) (hP:0 <= r.fc/\r.fc <= 12) (hL:0 <= r.fe/\r.fe <= 3):bL_p FU r (sea r.fh r.fc r.fe) = some true:=by
 have hF:=aU
 have z:∀ (n:Nat) (x:Int),x ∈ List.replicate n (0:Int) -> 0 <= x/\x <= 0:=fun n x hx=>by rw [(List.mem_replicate.1 hx).2]; omega
 unfold bL_p jn sea
 simp only
 rw [if_pos trivial,ly,aa,bH FU _ _ _ (by rw [List.length_replicate]; omega) (z _) (by rw [List.length_replicate]; omega),aa,bH FU _ _ ((0:Nat):Int) (by rw [List.length_replicate]; omega) (z _) (by rw [List.length_replicate]; omega),aa,bH FU _ _ ((0:Nat):Int) (by rw [List.length_replicate]; omega) (z _) (by rw [List.length_replicate]; omega),aa]
 rw [bO FU _ ?_ (by simp only [leC,leN]; omega),aa]
 have e1:¬ (⟨#[115,101,97]⟩:ByteArray) = ⟨#[]⟩:=fun e=>by have:=congrArg ByteArray.size e; exact absurd this (by show ¬ (3:Nat) = 0; decide)
 have e2:(⟨#[115,101,97]⟩:ByteArray).size <= 12:=by show (3:Nat) <= 12; decide
 simp [e1,e2]
theorem RollOk.unit {r:Tf} {us:List Tc} (h:RollOk r us) {j:Nat} (hj:j < r.fv.length):(∃ h2:j < us.length,r.fv[j] = us[j]) ∨ (j = us.length/\r.fv[j] = sea r.fh r.fc r.fe):=by
 obtain ⟨G,P,L,U⟩:=r
 rcases h.all with e | e
 ·simp only at e hj ⊢
  subst e; exact .inl ⟨hj,rfl⟩
 ·simp only at e hj ⊢
  subst e
  by_cases h2:j < us.length
  ·exact .inl ⟨h2,List.getElem_append_left h2⟩
  ·have h3:j = us.length:=by simp only [List.length_append,leC,leN] at hj; omega
   subst h3
   exact .inr ⟨rfl,by rw [List.getElem_append_right (by omega)]; simp⟩
theorem RollOk.size {r:Tf} {us:List Tc} (h:RollOk r us):us.length <= r.fv.length/\r.fv.length <= us.length + 1:=by
 rcases h.all with e | e <;> rw [e] <;> simp
theorem hH (r:Tf) (us:List Tc) (h:RollOk r us):aG_p FU r = some 0:=by
 have hF:=aU
 have hs:=h.size
 have hl:=h.len
 have hg:=h.g
 have hp:=h.p
 have hv:=h.l
 unfold aG_p
 rw [bO FU _ ?_ (by simp only [leC,leN]; omega),aa,if_pos rfl]
 ·have hh:=ar (B:=aG_l1 FU r) (fun s:Bool × Nat × List (ByteArray × Bool)=>r.fv.length - s.2.1)
   (fun s=>s.2.1 <= r.fv.length/\(s.2.1 <= us.length -> s.1 = false)/\∀ x,dS s.2.2 x ≠ none -> ∃ j,∃ hj:j < r.fv.length,j < s.2.1/\r.fv[j].fw = x) (fun r=>r = .inr ()) ?_ FU (false,0,[]) ⟨by simp,fun _=>rfl,fun x hx=>absurd rfl hx⟩ (by simp only; omega)
  ·obtain ⟨x,e,rfl⟩:=hh
   rw [e]; rfl
  ·rintro ⟨q,i,D⟩ J ⟨a1,a2,a3⟩ hJ
   simp only at a1 a2 a3 hJ
   unfold aG_l1
   simp only
   split
   ·rename_i hi
    have hnone:dS D r.fv[i].fw = none:=by
     rcases hm:dS D r.fv[i].fw with _ | b
     ·rfl
     ·exfalso
      obtain ⟨j,hj,hji,he⟩:=a3 r.fv[i].fw (by rw [hm]; simp)
      rcases h.unit hi with ⟨h2,e2⟩ | ⟨h2,e2⟩ <;> rcases h.unit hj with ⟨h3,e3⟩ | ⟨h3,e3⟩
      ·rw [e2,e3,(h.land i h2).1,(h.land j h3).1] at he
       have:=nm_inj (by omega) (by omega) he; omega
      ·omega
      ·rw [e2,e3,(h.land j h3).1] at he
       exact nm_sea he
      ·omega
    have hmD:ax D r.fv[i].fw false = false:=by unfold ax; rw [hnone]; rfl
    have next:∀ b,(i + 1 <= us.length -> b = false) -> ∃ x,J (b,i + 1,aW D r.fv[i].fw true) = some x/\x = .inr ():=fun b hb=>by
     refine hJ (b,i + 1,aW D r.fv[i].fw true) ⟨hi,hb,fun x hx=>?_⟩ (by simp only; omega)
     simp only at hx ⊢
     rw [dR] at hx
     by_cases hx2:x = r.fv[i].fw
     ·exact ⟨i,hi,by omega,hx2.symm⟩
     ·rw [if_neg hx2] at hx
      obtain ⟨j,hj,hji,he⟩:=a3 x hx
      exact ⟨j,hj,by omega,he⟩
    rw [geE hi,aa]
    rcases h.unit hi with ⟨h2,e2⟩ | ⟨h2,e2⟩
    ·have hu:=h.land i h2
     have hw:r.fv[i].fu = false:=by rw [e2]; exact hu.2.1
     have hq:q = false:=a2 (by omega)
     have hr:bL_p FU r r.fv[i] = some true:=by rw [e2]; exact iY r us[i] (by omega) (by omega) (by omega) (by omega) hu.1 hu.2
     rw [hr,aa,hw,if_neg (by decide),hmD,hq]
     by_cases h0:0 < i
     ·rw [if_pos h0,bO FU _ (by simp) (by simp only [leC,leN]; omega),aa,if_pos rfl]
      exact next false fun _=>rfl
     ·rw [if_neg h0,bO FU _ (by simp) (by simp only [leC,leN]; omega),aa,if_pos rfl]
      exact next false fun _=>rfl
    ·have hw:r.fv[i].fu = true:=by rw [e2]; rfl
     have hr:bL_p FU r r.fv[i] = some true:=by rw [e2]; exact kg r ⟨hg.1,by omega⟩ ⟨hp.1,by omega⟩ ⟨hv.1,by omega⟩
     rw [hr,aa,hw,if_pos rfl,hmD,if_pos (by omega),bO FU _ (by simp) (by simp only [leC,leN]; omega),aa,if_pos rfl]
     exact next true fun h5=>by omega
   ·exact ⟨_,rfl,rfl⟩
 ·simp; omega
def tot (us:List Tc):Int:=(us.map (·.fy)).sum
end Go.Proofs.YtibdeoeglcngoaaGreatDoor
namespace Go.Proofs.YtibdeoeglcngoaaGreatDoor
open Go
set_option maxRecDepth 8000
theorem eZ (l:List Bool) (hn:l.length <= 1000):aM_p FU l = some (decide (∀ b ∈ l,b = true)):=by
 have hF:=aU
 by_cases h:∀ b ∈ l,b = true
 ·rw [decide_eq_true h]; exact bO FU l h (by omega)
 ·rw [decide_eq_false h]
  have hh:=ar (B:=ap_l1 FU l false) (fun i:Nat=>l.length - i) (fun i=>i <= l.length/\∀ b ∈ l.take i,b = true) (fun r=>∃ j:Nat,r = .inl (j:Int)) ?_ FU 0 ⟨Nat.zero_le _,by simp⟩ (by omega)
  ·obtain ⟨r,e,j,rfl⟩:=hh
   unfold aM_p aP_p ap_p
   rw [e]
   show (((some (j:Int)).bind fun y1=>some (decide (0 <= y1))).bind fun y1=>some (!y1)) = some false
   rw [aa,aa,decide_eq_true (by omega)]; rfl
  ·rintro i J ⟨hi,h2⟩ hJ
   unfold ap_l1
   simp only
   split
   ·rename_i h0
    rw [geE h0,aa]
    rcases hb:l[i] with _ | _
    ·rw [if_pos (by decide)]; exact ⟨_,rfl,i,rfl⟩
    ·rw [if_neg (by decide)]
     refine hJ (i + 1) ⟨h0,fun b hb2=>?_⟩ (by omega)
     rw [List.take_succ_eq_append_getElem h0,List.mem_append,List.mem_singleton,hb] at hb2
     exact hb2.elim (h2 b) id
   ·rw [List.take_of_length_le (by omega)] at h2
    exact absurd h2 h
def Wi (l:List Int) (a bh:Int):Prop:=(l.length:Int) = a/\∀ x ∈ l,0 <= x/\x <= bh
instance (l:List Int) (a bh:Int):Decidable (Wi l a bh):=by unfold Wi; infer_instance
theorem dW (l:List Int) (a bh:Int) (hn:l.length <= 1000):aA_p FU l a bh = some (decide (Wi l a bh)):=by
 have hF:=aU
 unfold aA_p
 by_cases hl:(l.length:Int) = a
 ·rw [if_pos hl]
  have hh:=ar (B:=aA_l1 FU l bh) (fun i:Nat=>l.length - i) (fun i=>i <= l.length/\∀ x ∈ l.take i,0 <= x/\x <= bh) (fun r=>r = .inr ()/\Wi l a bh ∨ r = .inl false/\¬ Wi l a bh) ?_ FU 0 ⟨Nat.zero_le _,by simp⟩ (by omega)
  ·obtain ⟨r,e,hr⟩:=hh
   rw [e]
   rcases hr with ⟨rfl,hr⟩ | ⟨rfl,hr⟩
   ·rw [decide_eq_true hr]; rfl
   ·rw [decide_eq_false hr]; rfl
  ·rintro i J ⟨hi,h2⟩ hJ
   unfold aA_l1 cb_p
   simp only
   split
   ·rename_i h0
    rw [geE h0,aa]
    by_cases h3:0 <= l[i]/\l[i] <= bh
    ·rw [if_neg (by omega),aa,decide_eq_false (by omega),if_neg (by decide)]
     refine hJ (i + 1) ⟨h0,fun x hx=>?_⟩ (by omega)
     rw [List.take_succ_eq_append_getElem h0,List.mem_append,List.mem_singleton] at hx
     rcases hx with hx | rfl
     ·exact h2 x hx
     ·exact h3
    ·have hbad:¬ Wi l a bh:=fun h=>h3 (h.2 _ (List.getElem_mem _))
     by_cases h4:l[i] < 0
     ·rw [if_pos h4,aa,if_pos rfl,decide_eq_true (Nat.zero_le _)]
      exact ⟨_,rfl,.inr ⟨rfl,hbad⟩⟩
     ·rw [if_neg h4,aa,decide_eq_true (by omega),if_pos rfl,decide_eq_true (Nat.zero_le _)]
      exact ⟨_,rfl,.inr ⟨rfl,hbad⟩⟩
   ·rw [List.take_of_length_le (by omega)] at h2
    exact ⟨_,rfl,.inl ⟨rfl,hl,h2⟩⟩
 ·rw [if_neg hl,decide_eq_false fun h=>hl h.1]
def NS:List ByteArray:=⟨#[115,101,97]⟩ :: (List.range 13).map nm
@[reducible] def ltrs:ByteArray:=⟨#[65,66,67,68,69,70,71,72,73,74,75,76,77,78,79,80,81,82,83,84,85,86,87,88,89,90,97,98,99,100,101,102,103,104,105,106,107,108,109,110,111,112,113,114,115,116,117,118,119,120,121,122,48,49,50,51,52,53,54,55,56,57,45,95]⟩
theorem ns_all:NS.all (fun b=>decide (aq_p FU b ltrs = some ⟨#[]⟩) && !decide (b = ⟨#[]⟩) && decide (b.size <= 12)) = true:=by kernel_rfl
theorem ns_ok {b:ByteArray} (h:b ∈ NS):aq_p FU b ltrs = some ⟨#[]⟩/\¬ b = ⟨#[]⟩/\b.size <= 12:=by
 have:=List.all_eq_true.1 ns_all b h
 simpa [Bool.and_eq_true,and_assoc] using this
def UV (r:Tf) (u:Tc):Prop:=0 <= u.fy/\u.fy <= (if u.fu = true then 0 else 1000000000)/\Wi u.fh r.fh u.fy/\Wi u.fVotes r.fc (if u.fu = true then 0 else 1000000000)/\Wi u.fC r.fe (if u.fu = true then 0 else 63)
instance (r:Tf) (u:Tc):Decidable (UV r u):=by unfold UV; infer_instance
structure Sm4 (u:Tc):Prop where
 n:u.fw ∈ NS
 g:u.fh.length <= 1000
 v:u.fVotes.length <= 1000
 q:u.fC.length <= 1000
theorem mp (r:Tf) (u:Tc) (h:Sm4 u):bL_p FU r u = some (decide (UV r u)):=by
 obtain ⟨n1,n3,n4⟩:=ns_ok h.n
 have key:∀ (V P:Nat),V = (if u.fu = true then 0 else 1000000000) -> P = (if u.fu = true then 0 else 63) -> ((aq_p FU u.fw ltrs).bind fun y30=>(aA_p FU u.fh r.fh u.fy).bind fun y31=>(aA_p FU u.fVotes r.fc ((V:Nat):Int)).bind fun y32=>(aA_p FU u.fC r.fe ((P:Nat):Int)).bind fun y33=>(aM_p FU ([(!(decide (u.fw = ⟨#[]⟩))),(decide (u.fw.size <= 12)),(decide (y30 = ⟨#[]⟩)),(decide (0 <= u.fy)),(decide (u.fy <= ((V:Nat):Int))),y31,y32,y33]:List Bool)).bind fun y40=>some y40) = some (decide (UV r u)):=by
  intro V P hV hP
  rw [n1,aa,dW _ _ _ h.g,aa,dW _ _ _ h.v,aa,dW _ _ _ h.q,aa,eZ _ (by simp),aa]
  refine congrArg some (decide_eq_decide.2 ?_)
  have eV:((V:Nat):Int) = (if u.fu = true then 0 else 1000000000):=by rw [hV]; split <;> rfl
  have eP:((P:Nat):Int) = (if u.fu = true then 0 else 63):=by rw [hP]; split <;> rfl
  rw [eV,eP]
  unfold UV
  simp only [List.mem_cons,List.not_mem_nil,or_false,forall_eq_or_imp,forall_eq,Bool.not_eq_true', decide_eq_false_iff_not,decide_eq_true_eq]
  constructor
  ·rintro ⟨_,_,_,a,b,c,d,e⟩; exact ⟨a,b,c,d,e⟩
  ·rintro ⟨a,b,c,d,e⟩; exact ⟨n3,n4,trivial,a,b,c,d,e⟩
 unfold bL_p jn
 simp only
 by_cases hw:u.fu = true
 ·rw [if_pos hw]; exact key 0 0 (by rw [if_pos hw]) (by rw [if_pos hw])
 ·rw [if_neg hw]; exact key 1000000000 63 (by rw [if_neg hw]) (by rw [if_neg hw])
structure RV (r:Tf):Prop where
 g:0 <= r.fh/\r.fh <= 6
 p:0 <= r.fc/\r.fc <= 12
 l:0 <= r.fe/\r.fe <= 3
 n:1 <= r.fv.length/\r.fv.length <= 64
 u:∀ i (h:i < r.fv.length),UV r r.fv[i]
 nm:∀ i (h:i < r.fv.length) j (h' : j < i),r.fv[j].fw ≠ r.fv[i].fw
 w:∀ i (h:i < r.fv.length) j (h' : j < i),r.fv[j].fu = true -> r.fv[i].fu = true
 z:∀ h:0 < r.fv.length,r.fv[0].fu = false
open Classical in
theorem dH (r:Tf) (h:∀ u ∈ r.fv,Sm4 u):aG_p FU r = some (if RV r then 0 else 161):=by
 have hF:=aU
 unfold aG_p
 rw [eZ _ (by simp),aa]
 by_cases h0:((0 <= r.fh/\r.fh <= 6)/\(0 <= r.fc/\r.fc <= 12)/\(0 <= r.fe/\r.fe <= 3)/\1 <= r.fv.length/\r.fv.length <= 64)
 ·rw [if_pos]
  ·have hh:=ar (B:=aG_l1 FU r) (fun s:Bool × Nat × List (ByteArray × Bool)=>r.fv.length - s.2.1)
    (fun s=>s.2.1 <= r.fv.length/\(s.2.1 = 0 -> s.1 = false)/\(∀ h:0 < s.2.1,∀ h' : s.2.1 - 1 < r.fv.length,s.1 = r.fv[s.2.1 - 1].fu)/\(∀ x,ax s.2.2 x false = true ↔ ∃ j,∃ hj:j < r.fv.length,j < s.2.1/\r.fv[j].fw = x)/\
     (∀ i (h:i < r.fv.length),i < s.2.1 -> UV r r.fv[i])/\(∀ i (h:i < r.fv.length) j (h' : j < i),i < s.2.1 -> r.fv[j].fw ≠ r.fv[i].fw)/\(∀ i (h:i < r.fv.length) j (h' : j < i),i < s.2.1 -> r.fv[j].fu = true -> r.fv[i].fu = true)/\(∀ h:0 < r.fv.length,0 < s.2.1 -> r.fv[0].fu = false))
    (fun y=>y = .inr ()/\RV r ∨ y = .inl 161/\¬ RV r) ?_ FU (false,0,[]) ⟨Nat.zero_le _,fun _=>rfl,fun h=>absurd h (by simp),fun x=>⟨fun hx=>by simp [ax,dS] at hx,fun ⟨j,_,hj,_⟩=>by simp at hj⟩,fun i _ hi=>by simp at hi,fun i _ j _ hi=>by simp at hi,fun i _ j _ hi=>by simp at hi,fun _ hi=>by simp at hi⟩ (by simp only; omega)
   ·obtain ⟨y,e,hy⟩:=hh
    rw [e]
    rcases hy with ⟨rfl,hv⟩ | ⟨rfl,hv⟩
    ·rw [if_pos hv]; rfl
    ·rw [if_neg hv]; rfl
   ·rintro ⟨q,i,D⟩ J ⟨a1,a2,a3,a4,a5,a6,a7,a8⟩ hJ
    simp only at a1 a2 a3 a4 a5 a6 a7 a8 hJ
    unfold aG_l1
    simp only
    by_cases hi:i < r.fv.length
    ·rw [if_pos hi,geE hi,aa,mp r _ (h _ (List.getElem_mem _)),aa]
     -- what has to hold of this unit
     have good:UV r r.fv[i] -> ax D r.fv[i].fw false = false -> (q = true -> r.fv[i].fu = true) -> (i = 0 -> r.fv[i].fu = false) -> ∃ y,J (r.fv[i].fu,i + 1,aW D r.fv[i].fw true) = some y/\(y = .inr ()/\RV r ∨ y = .inl 161/\¬ RV r):=by
      intro g1 g2 g3 g4
      have gn:∀ j (hj:j < i),r.fv[j].fw ≠ r.fv[i].fw:=fun j hj e=>by
       have:=(a4 r.fv[i].fw).2 ⟨j,by omega,hj,e⟩
       rw [g2] at this; cases this
      have gw:∀ j (hj:j < i),r.fv[j].fu = true -> r.fv[i].fu = true:=fun j hj hw=>by
       refine g3 ?_
       rw [a3 (by omega) (by omega)]
       by_cases e:j = i - 1
       ·subst e; exact hw
       ·exact a7 (i - 1) (by omega) j (by omega) (by omega) hw
      refine hJ _ ⟨hi,fun e=>absurd e (by simp),fun _ h' =>rfl,fun x=>?_,fun k hk hki=>?_,fun k hk j hj hki=>?_,fun k hk j hj hki=>?_,fun hk _=>?_⟩ (by simp only; omega)
      ·simp only
       unfold ax
       rw [dR]
       have:=a4 x
       unfold ax at this
       by_cases e:x = r.fv[i].fw
       ·rw [if_pos e]
        exact ⟨fun _=>⟨i,hi,by omega,e.symm⟩,fun _=>rfl⟩
       ·rw [if_neg e,this]
        constructor
        ·rintro ⟨j,hj,hji,ej⟩; exact ⟨j,hj,by omega,ej⟩
        ·rintro ⟨j,hj,hji,ej⟩
         by_cases e2:j = i
         ·subst e2; exact absurd ej.symm e
         ·exact ⟨j,hj,by omega,ej⟩
      ·by_cases e:k = i
       ·subst e; exact g1
       ·exact a5 k hk (by simp only at hki; omega)
      ·by_cases e:k = i
       ·subst e; exact gn j hj
       ·exact a6 k hk j hj (by simp only at hki; omega)
      ·by_cases e:k = i
       ·subst e; exact gw j hj
       ·exact a7 k hk j hj (by simp only at hki; omega)
      ·by_cases e:i = 0
       ·subst e; exact g4 rfl
       ·exact a8 hk (by omega)
     have bad:(¬ UV r r.fv[i] ∨ ax D r.fv[i].fw false = true ∨ (q = true/\r.fv[i].fu = false) ∨ (i = 0/\r.fv[i].fu = true)) -> ¬ RV r:=by
      rintro hb hv
      rcases hb with hb | hb | ⟨hb,hb2⟩ | ⟨hb,hb2⟩
      ·exact hb (hv.u i hi)
      ·obtain ⟨j,hj,hji,e⟩:=(a4 _).1 hb
       exact hv.nm i hi j hji e
      ·by_cases e:i = 0
       ·rw [a2 e] at hb; cases hb
       ·have:=hv.w i hi (i - 1) (by omega) (by rw [<- a3 (by omega) (by omega)]; exact hb)
        rw [hb2] at this; cases this
      ·subst hb
       have:=hv.z hi
       rw [hb2] at this; cases this
     have fin:∀ l:List Bool,l.length <= 1000 -> ((∀ b ∈ l,b = true) ↔ (UV r r.fv[i]/\ax D r.fv[i].fw false = false/\(q = true -> r.fv[i].fu = true)/\(i = 0 -> r.fv[i].fu = false))) -> ∃ y,((aM_p FU l).bind fun y=>(if y = true then J (r.fv[i].fu,i + 1,aW D r.fv[i].fw true) else some (.inl (161:Int)))) = some y/\(y = .inr ()/\RV r ∨ y = .inl 161/\¬ RV r):=by
      intro l hl hiff
      rw [eZ l hl,aa]
      by_cases hq:∀ b ∈ l,b = true
      ·rw [if_pos (decide_eq_true hq)]
       obtain ⟨g1,g2,g3,g4⟩:=hiff.1 hq
       exact good g1 g2 g3 g4
      ·rw [if_neg (by simpa using hq)]
       refine ⟨_,rfl,.inr ⟨rfl,bad ?_⟩⟩
       refine Classical.byContradiction fun hc=>hq (hiff.2 ?_)
       simp only [not_or,not_and,Bool.not_eq_true,Classical.not_not] at hc
       obtain ⟨c1,c2,c3,c4⟩:=hc
       refine ⟨c1,c2,fun e=>?_,fun e=>?_⟩
       ·rcases hww:r.fv[i].fu with _ | _
        ·exact absurd hww (by simpa using c3 e)
        ·rfl
       ·simpa using c4 e
     rcases hw:r.fv[i].fu with _ | _
     ·rw [if_neg (by decide)]
      by_cases hp:0 < i
      ·rw [if_pos hp]
       have:=fin [decide (UV r r.fv[i]),!(ax D r.fv[i].fw false),!q,true] (by simp) (by
        rw [hw]
        simp only [List.mem_cons,List.not_mem_nil,or_false,forall_eq_or_imp,forall_eq,Bool.not_eq_true', decide_eq_true_eq]
        constructor
        ·rintro ⟨b1,b2,b3,_⟩; exact ⟨b1,b2,fun e=>(by rw [e] at b3; cases b3),fun _=>trivial⟩
        ·rintro ⟨b1,b2,b3,_⟩; exact ⟨b1,b2,by rcases q with _ | _; rfl; exact absurd (b3 rfl) (by decide),trivial⟩)
       rw [hw] at this
       exact this
      ·rw [if_neg hp]
       have:=fin [decide (UV r r.fv[i]),!(ax D r.fv[i].fw false),!q,!r.fv[i].fu] (by simp) (by
        rw [hw]
        simp only [List.mem_cons,List.not_mem_nil,or_false,forall_eq_or_imp,forall_eq,Bool.not_eq_true', decide_eq_true_eq]
        constructor
        ·rintro ⟨b1,b2,b3,_⟩; exact ⟨b1,b2,fun e=>(by rw [e] at b3; cases b3),fun _=>trivial⟩
        ·rintro ⟨b1,b2,b3,_⟩; exact ⟨b1,b2,by rcases q with _ | _; rfl; exact absurd (b3 rfl) (by decide),trivial⟩)
       rw [hw] at this
       exact this
     ·rw [if_pos rfl]
      by_cases hp:0 < i
      ·rw [if_pos hp]
       have:=fin [decide (UV r r.fv[i]),!(ax D r.fv[i].fw false),true,true] (by simp) (by
        rw [hw]
        simp only [List.mem_cons,List.not_mem_nil,or_false,forall_eq_or_imp,forall_eq,Bool.not_eq_true', decide_eq_true_eq]
        constructor
        ·rintro ⟨b1,b2,_,_⟩; exact ⟨b1,b2,fun _=>trivial,fun e=>by omega⟩
        ·rintro ⟨b1,b2,_,_⟩; exact ⟨b1,b2,trivial,trivial⟩)
       rw [hw] at this
       exact this
      ·rw [if_neg hp]
       have:=fin [decide (UV r r.fv[i]),!(ax D r.fv[i].fw false),true,!r.fv[i].fu] (by simp) (by
        rw [hw]
        simp only [List.mem_cons,List.not_mem_nil,or_false,forall_eq_or_imp,forall_eq,Bool.not_eq_true', decide_eq_true_eq]
        constructor
        ·rintro ⟨_,_,_,b4⟩; cases b4
        ·rintro ⟨_,_,_,b4⟩; exact absurd (b4 (by omega)) (by decide))
       rw [hw] at this
       exact this
    ·rw [if_neg hi]
     refine ⟨_,rfl,.inl ⟨rfl,h0.1,h0.2.1,h0.2.2.1,h0.2.2.2,fun i hi2=>a5 i hi2 (by omega),fun i hi2 j hj=>a6 i hi2 j hj (by omega),fun i hi2 j hj=>a7 i hi2 j hj (by omega),fun hi2=>a8 hi2 (by omega)⟩⟩
  ·simp only [List.mem_cons,List.not_mem_nil,or_false,forall_eq_or_imp,forall_eq,decide_eq_true_eq]
   omega
 ·rw [if_neg,if_neg fun hv:RV r=>h0 ⟨hv.g,hv.p,hv.l,hv.n⟩]
  simp only [List.mem_cons,List.not_mem_nil,or_false,forall_eq_or_imp,forall_eq,decide_eq_true_eq]
  omega
end Go.Proofs.YtibdeoeglcngoaaGreatDoor
namespace Go.Proofs.YtibdeoeglcngoaaGreatDoor
open Go
theorem dN {κ ν:Type} [DecidableEq κ]:∀ (D:List (κ × ν)) (k:κ) (v:ν),(aW D k v).map Prod.fst = if k ∈ D.map Prod.fst then D.map Prod.fst else D.map Prod.fst ++ [k]
 | [],k,v=>by simp [aW]
 | e :: D,k,v=>by
  unfold aW
  by_cases h:k = e.1
  ·rw [if_pos h]; simp [h]
  ·rw [if_neg h]
   simp only [List.map_cons,dN D k v,List.mem_cons]
   by_cases h2:k ∈ D.map Prod.fst
   ·simp [h2]
   ·rw [if_neg h2,if_neg (by rintro (h3 | h3); exact h h3; exact h2 h3)]; rfl
theorem kr {l:List Int} {k:Int} (hk:0 <= k) (hn:l.Nodup) (h:∀ x,x ∈ l ↔ 0 <= x/\x < k):(l.length:Int) = k:=by
 have h2:((List.range k.toNat).map fun i:Nat=>(i:Int)).Nodup:=by
  unfold List.Nodup
  exact List.Pairwise.map _ (fun a b hab=>by omega) List.nodup_range
 have h3:l.length <= ((List.range k.toNat).map fun i:Nat=>(i:Int)).length:=hn.length_le_of_subset fun x hx=>List.mem_map.2 ⟨x.toNat,List.mem_range.2 (by have:=(h x).1 hx; omega),by have:=(h x).1 hx; omega⟩
 have h4:((List.range k.toNat).map fun i:Nat=>(i:Int)).length <= l.length:=h2.length_le_of_subset fun x hx=>by
  obtain ⟨i,hi,rfl⟩:=List.mem_map.1 hx
  have:=List.mem_range.1 hi
  exact (h _).2 ⟨by omega,by omega⟩
 rw [List.length_map,List.length_range] at h3 h4
 omega
end Go.Proofs.YtibdeoeglcngoaaGreatDoor
namespace Go.Proofs.YtibdeoeglcngoaaGreatDoor
open Go
set_option maxRecDepth 8000
structure Lnd (r:Tf) (us:List Tc):Prop where
 all:∃ ws,r.fv = us ++ ws/\∀ u ∈ ws,u.fu = true
 w:∀ u ∈ us,u.fu = false
theorem Lnd.at {r:Tf} {us:List Tc} (h:Lnd r us) {i:Nat} (hi:i < r.fv.length):(∃ h2:i < us.length,r.fv[i] = us[i]/\r.fv[i].fu = false) ∨ us.length <= i/\r.fv[i].fu = true:=by
 obtain ⟨ws,e,hw⟩:=h.all
 have hz:r.fv.length = us.length + ws.length:=by rw [e,List.length_append]
 by_cases h2:i < us.length
 ·have e0:r.fv[i] = us[i]:=by simp only [e]; exact List.getElem_append_left h2
  exact .inl ⟨h2,e0,by rw [e0]; exact h.w _ (List.getElem_mem _)⟩
 ·refine .inr ⟨by omega,hw _ ?_⟩
  have:r.fv[i] = ws[i - us.length]'(by omega):=by simp only [e]; exact List.getElem_append_right (by omega)
  rw [this]; exact List.getElem_mem _
theorem Lnd.le {r:Tf} {us:List Tc} (h:Lnd r us):us.length <= r.fv.length:=by
 obtain ⟨ws,e,_⟩:=h.all
 rw [e,List.length_append]; omega
def gt (p:List Int) (n:Nat) (k:Int):Prop:=p.length = n/\bt p k
theorem ff (e:Int):ai_p FU false e = some (.ok ()):=rfl
theorem iJ:ai_p FU true 220 = some (.error ⟨220⟩):=rfl
theorem ii {l:List Int} {k:Int} (hk:0 <= k) (hn:l.Nodup) (h:∀ x ∈ l,0 <= x/\x < k) (hl:(l.length:Int) = k):∀ d,0 <= d -> d < k -> d ∈ l:=fun d d0 d1=>by
 refine Classical.byContradiction fun hd=>?_
 have h2:((List.range k.toNat).map fun i:Nat=>(i:Int)).Nodup:=by
  unfold List.Nodup
  exact List.Pairwise.map _ (fun a b hab=>by omega) List.nodup_range
 have h3:(d :: l).length <= ((List.range k.toNat).map fun i:Nat=>(i:Int)).length:=(List.nodup_cons.2 ⟨hd,hn⟩).length_le_of_subset fun x hx=>by
  have hx2:0 <= x/\x < k:=by
   rcases List.mem_cons.1 hx with rfl | hx
   ·exact ⟨d0,d1⟩
   ·exact h x hx
  exact List.mem_map.2 ⟨x.toNat,List.mem_range.2 (by omega),by omega⟩
 rw [leC,List.length_map,List.length_range] at h3
 omega
theorem used_eq (r:Tf) (p:List Int) (k:Int) (hl:p.length <= 1000):∃ y,ap (ah_l1 FU p ⟨r,k⟩) FU (0,[]) = some y/\((∃ D:List (Int × Bool),y = .inr D/\(∀ x ∈ p,0 <= x/\x < k)/\(D.map Prod.fst).Nodup/\∀ x,x ∈ D.map Prod.fst ↔ x ∈ p) ∨ y = .inl (.error ⟨220⟩)/\¬ ∀ x ∈ p,0 <= x/\x < k):=by
 have hF:=aU
 refine ar (B:=ah_l1 FU p ⟨r,k⟩) (fun s:Nat × List (Int × Bool)=>p.length - s.1) (fun s=>s.1 <= p.length/\(∀ x ∈ p.take s.1,0 <= x/\x < k)/\(s.2.map Prod.fst).Nodup/\∀ x,x ∈ s.2.map Prod.fst ↔ x ∈ p.take s.1) _ ?_ FU (0,[]) ⟨by simp,by simp,by simp,by simp⟩ (by simp only; omega)
 rintro ⟨i,D⟩ J ⟨a1,a0,a2,a3⟩ hJ
 simp only at a0 a1 a2 a3 hJ
 unfold ah_l1
 simp only
 by_cases hi:i < p.length
 ·rw [if_pos hi,geE hi,aa]
  by_cases hx:0 <= p[i]/\p[i] < k
  ·rw [if_neg (by omega),decide_eq_false (by omega),ff, aa]
   unfold exc
   simp only
   refine hJ _ ⟨hi,fun x hx2=>?_,?_,fun x=>?_⟩ (by simp only; omega)
   ·simp only at hx2
    rw [List.take_succ_eq_append_getElem hi,List.mem_append,List.mem_singleton] at hx2
    rcases hx2 with hx2 | rfl
    ·exact a0 x hx2
    ·exact hx
   ·simp only
    rw [dN]
    split
    ·exact a2
    ·rename_i h5
     rw [List.nodup_append]
     exact ⟨a2,by simp,fun a ha b hb=>by rw [List.mem_singleton.1 hb]; exact fun e=>h5 (e ▸ ha)⟩
   ·simp only
    rw [dN,<- List.take_append_getElem hi,List.mem_append,<- a3 x,List.mem_singleton]
    split
    ·rename_i h5
     constructor
     ·exact .inl
     ·rintro (h6 | rfl)
      ·exact h6
      ·exact h5
    ·rw [List.mem_append,List.mem_singleton]
  ·have hbad:¬ ∀ x ∈ p,0 <= x/\x < k:=fun h=>hx (h _ (List.getElem_mem _))
   by_cases h1:p[i] < 0
   ·rw [if_pos h1,iJ,aa]
    exact ⟨_,rfl,.inr ⟨rfl,hbad⟩⟩
   ·rw [if_neg h1,decide_eq_true (by omega),iJ,aa]
    exact ⟨_,rfl,.inr ⟨rfl,hbad⟩⟩
 ·rw [if_neg hi]
  rw [List.take_of_length_le (by omega)] at a0 a3
  exact ⟨_,rfl,.inl ⟨D,rfl,a0,a2,a3⟩⟩
open Classical in
theorem kD (r:Tf) (p:List Int) (k:Int) (hk:1 <= k) (hl:p.length <= 1000):(thn (ap (ah_l1 FU p ⟨r,k⟩) FU (0,[])) (fun D443=>(ai_p FU (!(decide (((D443.length:Nat):Int) = k))) (220:Int)).bind fun y497=>exc y497 (fun _=>some (Except.ok ())) (fun e498=>some (.error e498)))) = some (if bt p k then .ok () else .error ⟨220⟩):=by
 obtain ⟨y,e,hy⟩:=used_eq r p k hl
 rw [e]
 rcases hy with ⟨D,rfl,h1,h2,h3⟩ | ⟨rfl,h1⟩
 ·unfold thn
  simp only
  by_cases hD:(D.length:Int) = k
  ·rw [decide_eq_true hD]
   have hp:bt p k:=⟨h1,fun d d0 d1=>(h3 d).1 (ii (by omega) h2 (fun x hx=>h1 x ((h3 x).1 hx)) (by rw [List.length_map]; exact hD) d d0 d1)⟩
   rw [if_pos hp]; rfl
  ·rw [decide_eq_false hD]
   have hp:¬ bt p k:=fun hp=>hD (by
    have:=kr (l:=D.map Prod.fst) (k:=k) (by omega) h2 fun x=>by
     rw [h3 x]; exact ⟨fun hx=>hp.1 x hx,fun hx=>hp.2 x hx.1 hx.2⟩
    rwa [List.length_map] at this)
   rw [if_neg hp]; rfl
 ·have hp:¬ bt p k:=fun hp=>h1 hp.1
  rw [if_neg hp]; rfl
open Classical in
theorem mg {r:Tf} {us:List Tc} (h:Lnd r us) (hn:r.fv.length <= 1000) (p:List Int) (k:Int) (hk:1 <= k) (hl:p.length <= 1000):ah_p FU ⟨r,k⟩ p = some (if gt p us.length k then .ok () else .error ⟨220⟩):=by
 have hF:=aU
 have hle:=h.le
 have lab:=kD r p k hk hl
 have tailOk:∀ z:Int,z = us.length -> ((ai_p FU (!(decide (((p.length:Nat):Int) = z))) (220:Int)).bind fun y182=>exc y182 (fun _=>thn (ap (ah_l1 FU p ⟨r,k⟩) FU (0,([]:List (Int × Bool)))) (fun D265=>(ai_p FU (!(decide (((D265.length:Nat):Int) = k))) (220:Int)).bind fun y319=>exc y319 (fun _=>some (Except.ok ())) (fun e320=>some (.error e320)))) (fun e183=>some (.error e183))) = some (if gt p us.length k then .ok () else .error ⟨220⟩):=by
  rintro z rfl
  by_cases hz:((p.length:Nat):Int) = us.length
  ·rw [decide_eq_true hz]
   simp only [Bool.not_true]
   rw [ff, aa]
   unfold exc
   simp only
   refine lab.trans ?_
   by_cases hp:bt p k
   ·rw [if_pos hp,if_pos ⟨by omega,hp⟩]
   ·rw [if_neg hp,if_neg fun hf:gt p us.length k=>hp hf.2]
  ·rw [decide_eq_false hz,if_neg fun hf:gt p us.length k=>hz (by rw [hf.1])]
   rfl
 have hh:=ar (B:=ah_l3 FU ⟨r,k⟩ p) (fun s:Nat × Int=>r.fv.length - s.1) (fun s=>s.1 <= us.length/\s.2 = s.1) (fun y=>y = .inl (if gt p us.length k then .ok () else .error ⟨220⟩) ∨ y = .inr (us.length:Int)) ?_ FU (0,0) ⟨by simp,by simp⟩ (by simp only; omega)
 ·obtain ⟨y,e,hy⟩:=hh
  unfold ah_p
  rw [e]
  rcases hy with rfl | rfl
  ·rfl
  ·exact tailOk _ rfl
 ·rintro ⟨i,z⟩ J ⟨a1,a2⟩ hJ
  simp only at a1 a2 hJ
  subst a2
  unfold ah_l3
  simp only
  by_cases hi:i < r.fv.length
  ·rw [if_pos hi,geE hi,aa]
   rcases h.at hi with ⟨h2,_,hw⟩ | ⟨h2,hw⟩
   ·rw [if_neg (by rw [hw]; decide),aE (by omega) (by omega),aa]
    exact hJ _ ⟨by simp only; omega,by simp only; omega⟩ (by simp only; omega)
   ·rw [if_pos hw]
    refine ⟨.inl (if gt p us.length k then .ok () else .error ⟨220⟩),?_,.inl rfl⟩
    exact congrArg (Option.map _) (tailOk (i:Int) (by omega))
  ·rw [if_neg hi]
   exact ⟨_,rfl,.inr (by rw [show i = us.length by omega])⟩
open Classical in
theorem ip {r:Tf} (hS:∀ u ∈ r.fv,Sm4 u) (p:List Int) (k:Int) (hk:1 <= k) (hk8:k <= 8) (hl:p.length <= 1000) (us:List Tc) (hL:RV r -> Lnd r us):cj_p FU r p k = some (if RV r then if gt p us.length k then 0 else 220 else 161):=by
 unfold cj_p bY_p bX_p
 rw [dH r hS,aa]
 by_cases hv:RV r
 ·have hn:=hv.n
  rw [if_pos hv,if_pos hv]
  unfold bS_p
  rw [if_pos rfl,aa]
  unfold exc
  simp only
  rw [if_neg (by omega),decide_eq_false (by omega),ff, aa]
  simp only
  rw [aa]
  simp only
  rw [mg (hL hv) (by omega) p k hk hl]
  by_cases hf:gt p us.length k
  ·rw [if_pos hf,if_pos hf]; rfl
  ·rw [if_neg hf,if_neg hf]; rfl
 ·rw [if_neg hv,if_neg hv]
  rfl
end Go.Proofs.YtibdeoeglcngoaaGreatDoor
namespace Go.Proofs.YtibdeoeglcngoaaGreatDoor
open Go
set_option maxRecDepth 8000
structure D0 (r:Tf):Prop where
 n:r.fv.length <= 13
 s:∀ u ∈ r.fv,Sm4 u
 k:∀ u ∈ r.fv,u.fVotes.length <= 100/\u.fh.length <= 100
 q:∀ u ∈ r.fv,∀ x ∈ u.fC,0 <= x/\x <= 2
theorem nm_ns {i:Nat} (h:i < 13):nm i ∈ NS:=List.mem_cons_of_mem _ (List.mem_map.2 ⟨i,List.mem_range.2 h,rfl⟩)
theorem idxK {α:Type} {xs:List α} {j:Nat} (h:j < xs.length):idx xs (j:Int) = some xs[j]:=bm (i:=(j:Int)) (by omega) h
structure Dn (r:Tf):Prop where
 n:r.fv.length <= 13
 s:∀ u ∈ r.fv,Sm4 u
end Go.Proofs.YtibdeoeglcngoaaGreatDoor
namespace Go.Proofs.YtibdeoeglcngoaaGreatDoor
open Go
theorem dB:∀ {xs:List UInt64} {j:Nat} (v:UInt64) (h:j < xs.length),val (xs.set j v) + 18446744073709551616 ^ j * xs[j].toNat = val xs + 18446744073709551616 ^ j * v.toNat
 | x :: xs,0,v,_=>by simp only [List.set_cons_zero,val,List.getElem_cons_zero,Nat.pow_zero]; omega
 | x :: xs,j + 1,v,h=>by
  have:=dB (xs:=xs) (j:=j) v (by simpa using h)
  simp only [List.set_cons_succ,val,List.getElem_cons_succ,Nat.pow_succ]
  grind
theorem iQ {a b:UInt64} {s:Nat} (ha:a.toNat < 2 ^ s) (hb:2 ^ s ∣ b.toNat):(a ||| b).toNat = a.toNat + b.toNat:=by
 obtain ⟨y,e⟩:=hb
 rw [UInt64.toNat_or,e,Nat.or_comm,<- Nat.two_pow_add_eq_or_of_lt ha,Nat.add_comm]
theorem cZ (w:Nat):18446744073709551616 ^ w = 2 ^ (64 * w):=by
 rw [show (18446744073709551616:Nat) = 2 ^ 64 from rfl,<- Nat.pow_mul]
theorem dL (x:UInt64) {s:Nat} (hs:s < 64):(shlU x s).toNat = x.toNat * 2 ^ s % 18446744073709551616:=by
 unfold shlU; rw [if_pos hs,UInt64.toNat_ofNat']
theorem bG (x:UInt64) {s:Nat} (hs:s < 64):(shrU x s).toNat = x.toNat / 2 ^ s:=by
 unfold shrU; rw [if_pos hs,UInt64.toNat_ofNat']
 exact Nat.mod_eq_of_lt (Nat.lt_of_le_of_lt (Nat.div_le_self _ _) x.toNat_lt)
theorem split64 {s:Nat} (hs:s <= 64):(18446744073709551616:Nat) = 2 ^ (64 - s) * 2 ^ s:=by
 rw [<- Nat.pow_add,show 64 - s + s = 64 by omega]
theorem gg (x:UInt64) {s:Nat} (h0:0 < s) (hs:s < 64):(shlU x s).toNat + 18446744073709551616 * (shrU x (64 - s)).toNat = x.toNat * 2 ^ s/\2 ^ s ∣ (shlU x s).toNat/\(shrU x (64 - s)).toNat < 2 ^ s:=by
 have e:=split64 (s:=s) (by omega)
 have e1:x.toNat * 2 ^ s / 18446744073709551616 = x.toNat / 2 ^ (64 - s):=by
  rw [e]; exact Nat.mul_div_mul_right _ _ (Nat.two_pow_pos s)
 have e2:x.toNat * 2 ^ s % 18446744073709551616 = x.toNat % 2 ^ (64 - s) * 2 ^ s:=by
  rw [e]; exact Nat.mul_mod_mul_right ..
 rw [dL x hs,bG x (by omega)]
 refine ⟨?_,?_,?_⟩
 ·rw [<- e1]; exact Nat.mod_add_div ..
 ·rw [e2]; exact Nat.dvd_mul_left ..
 ·refine Nat.div_lt_of_lt_mul ?_
  rw [<- e]; exact x.toNat_lt
theorem dC (x:UInt64):shlU x 0 = x:=by
 refine UInt64.toNat_inj.1 ?_
 rw [dL x (by decide),Nat.pow_zero,Nat.mul_one]
 exact Nat.mod_eq_of_lt x.toNat_lt
theorem dy (x:UInt64):(0:UInt64) ||| x = x:=by
 refine UInt64.toNat_inj.1 ?_
 rw [UInt64.toNat_or]; simp
theorem bit_add {q:List UInt64} {k:Nat} (h:k / 64 < q.length) (hd:2 ^ (k + 1) ∣ val q) (hb:(shlU 1 (k % 64)).toNat = 2 ^ (k % 64)):val (q.set (k / 64) (q[k / 64] ||| shlU 1 (k % 64))) = val q + 2 ^ k:=by
 have hs:=cU q h
 have hl:=bW (q.take (k / 64))
 rw [List.length_take,Nat.min_eq_left (by omega)] at hl
 have hk:k = 64 * (k / 64) + k % 64:=by omega
 have hm:k % 64 < 64:=by omega
 have e1:2 ^ (k + 1) = 18446744073709551616 ^ (k / 64) * 2 ^ (k % 64 + 1):=by rw [cZ,<- Nat.pow_add]; congr 1; omega
 have e2:(18446744073709551616:Nat) = 2 ^ (k % 64 + 1) * 2 ^ (63 - k % 64):=by rw [<- Nat.pow_add,show k % 64 + 1 + (63 - k % 64) = 64 by omega]
 have h0:val (q.take (k / 64)) = 0:=by
  have h1:18446744073709551616 ^ (k / 64) ∣ val q:=Nat.dvd_trans ⟨_,e1⟩ hd
  rw [hs,Nat.pow_succ,Nat.mul_assoc,Nat.add_assoc,<- Nat.mul_add] at h1
  have h2:=(Nat.dvd_add_left (Nat.dvd_mul_right ..)).1 h1
  exact Nat.eq_zero_of_dvd_of_lt h2 hl
 have h3:2 ^ (k % 64 + 1) ∣ (q[k / 64]).toNat:=by
  rw [e1,hs,h0,Nat.zero_add,show (18446744073709551616:Nat) ^ (k / 64 + 1) = 18446744073709551616 ^ (k / 64) * 18446744073709551616 from Nat.pow_succ ..,Nat.mul_assoc (18446744073709551616 ^ (k / 64)) 18446744073709551616,<- Nat.mul_add] at hd
  have h4:=Nat.dvd_of_mul_dvd_mul_left (Nat.pow_pos (by decide)) hd
  have h5:2 ^ (k % 64 + 1) ∣ 18446744073709551616 * val (q.drop (k / 64 + 1)):=Nat.dvd_trans ⟨_,e2⟩ (Nat.dvd_mul_right ..)
  exact (Nat.dvd_add_left h5).1 h4
 have h6:(q[k / 64] ||| shlU 1 (k % 64)).toNat = 2 ^ (k % 64) + (q[k / 64]).toNat:=by
  rw [UInt64.or_comm]
  have:=iQ (a:=shlU 1 (k % 64)) (b:=q[k / 64]) (s:=k % 64 + 1) (by rw [hb]; exact Nat.pow_lt_pow_right (by decide) (by omega)) h3
  rw [this,hb]
 have h7:=dB (q[k / 64] ||| shlU 1 (k % 64)) h
 have e3:2 ^ k = 18446744073709551616 ^ (k / 64) * 2 ^ (k % 64):=by rw [cZ,<- Nat.pow_add]; congr 1
 rw [h6,Nat.mul_add,<- e3] at h7
 omega
theorem shl_one {s:Nat} (hs:s < 64):(shlU 1 s).toNat = 2 ^ s:=by
 rw [dL 1 hs]
 have:2 ^ s < 2 ^ 64:=Nat.pow_lt_pow_right (by decide) hs
 simp only [UInt64.toNat_one,Nat.one_mul]
 exact Nat.mod_eq_of_lt (by omega)
theorem mx {a b q r k:Nat} (h1:a = b * q + r) (h2:r < b * 2 ^ (k + 1)) (h3:2 ^ (k + 1) ∣ q) :
  (b * 2 ^ k <= r -> a = b * (q + 2 ^ k) + (r - b * 2 ^ k)/\r - b * 2 ^ k < b * 2 ^ k/\2 ^ k ∣ q + 2 ^ k)/\(r < b * 2 ^ k -> 2 ^ k ∣ q):=by
 have h4:2 ^ k ∣ q:=Nat.dvd_trans ⟨2,by rw [Nat.pow_succ]⟩ h3
 rw [Nat.pow_succ,<- Nat.mul_assoc] at h2
 refine ⟨fun h=>⟨?_,by omega,Nat.dvd_add h4 (Nat.dvd_refl _)⟩,fun _=>h4⟩
 rw [Nat.mul_add]; omega
def eu (x y:Nat):Nat:=if y = 0 then 0 else (if x < y then 1 else 0) + Nat.log2 (x * y) + 1
theorem eu_step {x y:Nat} (h:y ≠ 0):eu y (x % y) < eu x y:=by
 have hm:x % y < y:=Nat.mod_lt _ (by omega)
 unfold eu
 rw [if_neg h]
 by_cases h0:x % y = 0
 ·rw [if_pos h0]; omega
 ·rw [if_neg h0,if_neg (show ¬ y < x % y by omega)]
  by_cases h1:x < y
  ·rw [if_pos h1,Nat.mod_eq_of_lt h1,Nat.mul_comm y x]; omega
  ·rw [if_neg h1]
   have h2:2 * (x % y) < x ∨ 2 * (x % y) = x:=by
    have h3:=Nat.div_add_mod x y
    have h4:1 <= x / y:=Nat.div_pos (by omega) (by omega)
    have h5:y * 1 <= y * (x / y):=Nat.mul_le_mul_left _ h4
    omega
   have h6:2 * (y * (x % y)) <= x * y:=by
    rw [Nat.mul_comm x y,Nat.mul_left_comm]
    exact Nat.mul_le_mul_left _ (by omega)
   have h7:y * (x % y) ≠ 0:=Nat.mul_ne_zero h h0
   have h8:Nat.log2 (y * (x % y)) + 1 <= Nat.log2 (x * y):=by
    rw [Nat.le_log2 (by omega),Nat.pow_succ]
    have:=Nat.log2_self_le h7
    omega
   omega
theorem eu_le {x y l:Nat} (hx:x < 2 ^ l) (hy:y < 2 ^ l):eu x y <= 2 * l + 2:=by
 unfold eu
 split
 ·omega
 ·rename_i h
  have h1:Nat.log2 (x * y) <= 2 * l:=by
   by_cases h0:x * y = 0
   ·rw [h0]; simp
   ·have:Nat.log2 (x * y) < 2 * l:=by
     rw [Nat.log2_lt h0,Nat.two_mul,Nat.pow_add]
     exact Nat.mul_lt_mul'' hx hy
    omega
  split <;> omega
end Go.Proofs.YtibdeoeglcngoaaGreatDoor
namespace Go.Proofs.YtibdeoeglcngoaaGreatDoor
open Go
def bln (m:Nat):Nat:=if m = 0 then 0 else Nat.log2 m + 1
theorem gO (m:Nat):m < 2 ^ bln m:=by
 unfold bln
 split
 ·rename_i h; rw [h]; decide
 ·rename_i h; exact Nat.lt_log2_self
theorem fG {m:Nat} (h:m ≠ 0):2 ^ (bln m - 1) <= m:=by
 unfold bln
 rw [if_neg h]
 exact Nat.log2_self_le h
theorem dI {m:Nat} (h:m ≠ 0):1 <= bln m:=by unfold bln; rw [if_neg h]; omega
theorem lP {m l:Nat} (h1:2 ^ l <= m) (h2:m < 2 ^ (l + 1)):bln m = l + 1:=by
 have h0:m ≠ 0:=fun e=>by have:=Nat.two_pow_pos l; omega
 have h3:=gO m
 have h4:=fG h0
 have h5:=dI h0
 have h6:=(Nat.pow_lt_pow_iff_right (by decide:1 < 2)).1 (Nat.lt_of_le_of_lt h1 h3)
 have h7:=(Nat.pow_lt_pow_iff_right (by decide:1 < 2)).1 (Nat.lt_of_le_of_lt h4 h2)
 omega
theorem cR {m s:Nat} (h:2 ^ s <= m):bln m = s + bln (m / 2 ^ s):=by
 have hp:=Nat.two_pow_pos s
 have h0:m / 2 ^ s ≠ 0:=fun e=>by have:=Nat.div_pos h hp; omega
 have h1:=gO (m / 2 ^ s)
 have h2:=fG h0
 have h3:=dI h0
 have e1:2 ^ (s + (bln (m / 2 ^ s) - 1)) <= m:=by
  rw [Nat.pow_add,Nat.mul_comm]
  exact (Nat.le_div_iff_mul_le hp).1 h2
 have e2:m < 2 ^ (s + bln (m / 2 ^ s)):=by
  rw [Nat.pow_add,Nat.mul_comm]
  exact (Nat.div_lt_iff_lt_mul hp).1 h1
 have:=lP (l:=s + (bln (m / 2 ^ s) - 1)) e1 (by rw [show s + (bln (m / 2 ^ s) - 1) + 1 = s + bln (m / 2 ^ s) by omega]; exact e2)
 omega
theorem bZ {m l:Nat} (h:m < 2 ^ l):bln m <= l:=by
 by_cases h0:m = 0
 ·subst h0; simp [bln]
 ·have h4:=fG h0
  have h7:=(Nat.pow_lt_pow_iff_right (by decide:1 < 2)).1 (Nat.lt_of_le_of_lt h4 h)
  have:=dI h0
  omega
theorem tab_all:(List.range 256).all (fun v=>decide (cD[v]? = some (UInt8.ofNat (bln v)))) = true:=by kernel_rfl
theorem tab_ok {v:Nat} (h:v < 256):cD[v]? = some (UInt8.ofNat (bln v)):=of_decide_eq_true (List.all_eq_true.1 tab_all v (List.mem_range.2 h))
theorem jK (u:UInt64) (z:Int) (h:u.toNat < 256) (hz:0 <= z/\z <= 64):((cD[(dT u).toNat]?).bind fun z27=>(chk (z + ((z27.toNat:Nat):Int))).bind fun s29=>some s29) = some (z + bln u.toNat):=by
 have hb:=bZ (l:=8) (m:=u.toNat) (by omega)
 have e:(dT u).toNat = u.toNat:=by unfold dT; rw [UInt8.toNat_ofNat']; omega
 have e2:(UInt8.ofNat (bln u.toNat)).toNat = bln u.toNat:=by rw [UInt8.toNat_ofNat']; omega
 rw [e,tab_ok h,aa,e2,aE (by omega) (by omega),aa]
theorem iA (n:Nat) (x:UInt64):bG_p n x = some (bln x.toNat:Int):=by
 have hx:=x.toNat_lt
 have k16:∀ (u:UInt64) (z:Int),u.toNat < 65536 -> (0 <= z/\z <= 48) -> ((if (256:UInt64) <= u then (chk (z + 8)).bind fun s31=>((cD[(dT (shrU u 8)).toNat]?).bind fun z27=>(chk (s31 + ((z27.toNat:Nat):Int))).bind fun s29=>some s29) else ((cD[(dT u).toNat]?).bind fun z27=>(chk (z + ((z27.toNat:Nat):Int))).bind fun s29=>some s29))) = some (z + bln u.toNat):=fun u z hu hz=>by
  by_cases c:(256:UInt64) <= u
  ·have c2:256 <= u.toNat:=by rw [UInt64.le_iff_toNat_le] at c; simpa using c
   rw [if_pos c,aE (by omega) (by omega),aa,jK _ _ (by rw [bG _ (by decide)]; omega) (by omega),bG _ (by decide),cR (m:=u.toNat) (s:=8) (by omega)]
   congr 1; omega
  ·have c2:u.toNat < 256:=by rw [UInt64.le_iff_toNat_le] at c; simpa using c
   rw [if_neg c,jK _ _ c2 (by omega)]
 have k32:∀ (u:UInt64) (z:Nat),u.toNat < 4294967296 -> z <= 32 -> ((if (65536:UInt64) <= u then (chk ((z:Int) + 16)).bind fun s33=>(if (256:UInt64) <= shrU u 16 then (chk (s33 + 8)).bind fun s31=>((cD[(dT (shrU (shrU u 16) 8)).toNat]?).bind fun z27=>(chk (s31 + ((z27.toNat:Nat):Int))).bind fun s29=>some s29) else ((cD[(dT (shrU u 16)).toNat]?).bind fun z27=>(chk (s33 + ((z27.toNat:Nat):Int))).bind fun s29=>some s29)) else (if (256:UInt64) <= u then (chk ((z:Int) + 8)).bind fun s31=>((cD[(dT (shrU u 8)).toNat]?).bind fun z27=>(chk (s31 + ((z27.toNat:Nat):Int))).bind fun s29=>some s29) else ((cD[(dT u).toNat]?).bind fun z27=>(chk ((z:Int) + ((z27.toNat:Nat):Int))).bind fun s29=>some s29)))) = some ((z:Int) + bln u.toNat):=fun u z hu hz=>by
  by_cases c:(65536:UInt64) <= u
  ·have c2:65536 <= u.toNat:=by rw [UInt64.le_iff_toNat_le] at c; simpa using c
   rw [if_pos c,aE (by omega) (by omega),aa,k16 _ _ (by rw [bG _ (by decide)]; omega) (by omega),bG _ (by decide),cR (m:=u.toNat) (s:=16) (by omega)]
   congr 1; omega
  ·have c2:u.toNat < 65536:=by rw [UInt64.le_iff_toNat_le] at c; simpa using c
   rw [if_neg c,k16 _ _ c2 (by omega)]
 unfold bG_p jn
 simp only
 by_cases c:(4294967296:UInt64) <= x
 ·have c2:4294967296 <= x.toNat:=by rw [UInt64.le_iff_toNat_le] at c; simpa using c
  rw [if_pos c]
  refine (k32 (shrU x 32) 32 (by rw [bG _ (by decide)]; omega) (by omega)).trans ?_
  rw [bG _ (by decide),cR (m:=x.toNat) (s:=32) (by omega)]
  congr 1
 ·have c2:x.toNat < 4294967296:=by rw [UInt64.le_iff_toNat_le] at c; simpa using c
  rw [if_neg c]
  refine (k32 x 0 c2 (by omega)).trans ?_
  congr 1; omega
theorem lz_ok (n:Nat) (x:UInt64):aJ_p n x = some (64 - bln x.toNat:Int):=by
 have:=bZ (l:=64) (m:=x.toNat) (by have:=x.toNat_lt; omega)
 unfold aJ_p
 rw [iA,aa,aE (by omega) (by omega),aa]
theorem div_top {m lo t l:Nat} (hv:m = lo + 18446744073709551616 ^ l * t) (hlow:lo < 18446744073709551616 ^ l):m / 2 ^ (64 * l) = t:=by
 rw [<- cZ,hv,Nat.add_mul_div_left _ _ (Nat.lt_of_le_of_lt (Nat.zero_le _) hlow),Nat.div_eq_of_lt hlow,Nat.zero_add]
theorem fZ (n:Nat) (m:Nat) (hl:(dg m).length <= 1000000):cg_p n (dg m) = some (bln m:Int):=by
 unfold cg_p
 by_cases h0:m = 0
 ·subst h0
  rw [dg0,if_pos (show ([]:List UInt64).length = 0 from rfl)]
  unfold bln
  rw [if_pos rfl]; rfl
 ·have hne:dg m ≠ []:=fun e=>h0 (by have:=az m; rw [e] at this; exact this.symm)
  obtain ⟨l,hl1⟩:∃ l,(dg m).length = l + 1:=⟨(dg m).length - 1,by cases h:dg m with | nil=>exact absurd h hne | cons x xs=>simp⟩
  have hlast:l < (dg m).length:=by omega
  have hv:=cU (dg m) hlast
  rw [List.drop_eq_nil_of_le (by omega),az,show val ([]:List UInt64) = 0 from rfl,Nat.mul_zero,Nat.add_zero] at hv
  have hlow:=bW ((dg m).take l)
  rw [List.length_take,Nat.min_eq_left (by omega)] at hlow
  have htop:(dg m)[l] ≠ 0:=eJ m _ (by rw [List.getLast?_eq_getElem?,hl1]; exact geE hlast)
  have ht0:((dg m)[l]).toNat ≠ 0:=fun e=>htop (UInt64.toNat_inj.1 (by simpa using e))
  have hb:bln m = 64 * l + bln ((dg m)[l]).toNat:=by
   have e:m / 2 ^ (64 * l) = ((dg m)[l]).toNat:=div_top hv hlow
   have:=cR (m:=m) (s:=64 * l) (by
    have h1:2 ^ (64 * l) * 1 <= 2 ^ (64 * l) * ((dg m)[l]).toNat:=Nat.mul_le_mul_left _ (by omega)
    rw [cZ] at hv
    omega)
   rw [e] at this
   exact this
  have hbt:=bZ (l:=64) (m:=((dg m)[l]).toNat) (by have:=((dg m)[l]).toNat_lt; omega)
  have hi:((((dg m).length:Nat):Int) - 1).toNat = l:=by omega
  rw [if_neg (by omega),aE (by omega) (by omega),aa,bm (by omega) (by omega),aa]
  simp only [hi]
  rw [lz_ok,aa,aE (by omega) (by omega),aa,hb]
  congr 1; omega
theorem lC (k:Nat) (h:k < 1000000000):cX (k:Int) 64 = some ((k / 64:Nat):Int):=by
 unfold cX
 rw [if_neg (by decide),Int.tdiv_eq_ediv_of_nonneg (by omega),aE (by omega) (by omega)]
 congr 1
theorem rem64 (k:Nat):dh (k:Int) 64 = some ((k % 64:Nat):Int):=by
 rw [ck (by decide),Int.tmod_eq_emod_of_nonneg (by omega)]
 congr 1
theorem dQ (k:Nat):dm (k:Int) = some k:=by unfold dm; rw [if_pos (Int.natCast_nonneg _),Int.toNat_natCast]
theorem lu {α:Type} {xs:List α} {i:Nat} (h:i < xs.length):idx xs (i:Int) = some xs[i]:=by
 rw [bm (by omega) (by rw [Int.toNat_natCast]; exact h)]
 simp only [Int.toNat_natCast]
theorem putN {α:Type} {xs:List α} {i:Nat} (x:α) (h:i < xs.length):put xs ((((i:Nat):Int).toNat:Nat):Int) x = some (xs.set i x):=by rw [Int.toNat_natCast]; exact aZ x h
theorem lI (n:Nat) (a:List UInt64) (k:Nat) (hk:k < 1000000) (hl:a.length < 100000) (hn:200000 < n):bZ_p n a (k:Int) = some (dg (val a * 2 ^ k)):=by
 have hkw:2 ^ k = 18446744073709551616 ^ (k / 64) * 2 ^ (k % 64):=by rw [cZ,<- Nat.pow_add]; congr 1; omega
 have hs:k % 64 < 64:=Nat.mod_lt _ (by decide)
 have hh:=ar (B:=bZ_l1 n a (k:Int)) (fun s:Nat × List UInt64=>a.length - s.1) (fun s=>s.1 <= a.length/\∃ hx:s.2.length = a.length + k / 64 + 1,val s.2 = val (a.take s.1) * 2 ^ k/\(∀ j (h:j < s.2.length),s.1 + k / 64 < j -> s.2[j] = 0)/\(s.2[s.1 + k / 64]?.getD 0).toNat < 2 ^ (k % 64))
  (fun xs=>xs.length = a.length + k / 64 + 1/\val xs = val a * 2 ^ k) ?_ n (0,List.replicate (a.length + k / 64 + 1) 0) ⟨Nat.zero_le _,by simp,?_,fun j h _=>by simp,?_⟩ (by simp only; omega)
 ·obtain ⟨xs,e,h1,h2⟩:=hh
  unfold bZ_p
  rw [lC k (by omega),aa,aE (by omega) (by omega),aa,aE (by omega) (by omega),aa,show ((a.length:Nat):Int) + ((k / 64:Nat):Int) + 1 = ((a.length + k / 64 + 1:Nat):Int) by omega,cA _ _ (by omega),aa,e,aa,aC n false xs (by omega) (by omega),aa,h2]
 ·rintro ⟨i,xs⟩ J ⟨a1,a2,a3,a4,a5⟩ hJ
  simp only at a1 a2 a3 a4 a5 hJ
  unfold bZ_l1
  simp only
  by_cases hi:i < a.length
  ·have hw:i + k / 64 < xs.length:=by omega
   have hw1:i + k / 64 + 1 < xs.length:=by omega
   rw [geE hw] at a5
   have a5' : (xs[i + k / 64]).toNat < 2 ^ (k % 64):=a5
   rw [if_pos hi,geE hi,aa,lC k (by omega),aa,aE (by omega) (by omega),aa,show ((i:Nat):Int) + ((k / 64:Nat):Int) = ((i + k / 64:Nat):Int) by omega,lu hw,aa,rem64,aa,dQ,aa,putN _ hw,aa,aa]
   have e0:val (a.take (i + 1)) * 2 ^ k = val (a.take i) * 2 ^ k + 18446744073709551616 ^ (i + k / 64) * (a[i].toNat * 2 ^ (k % 64)):=by
    rw [bB a hi,Nat.add_mul,hkw,Nat.pow_add]
    congr 1
    grind
   by_cases c:0 < k % 64
   ·obtain ⟨s1,s2,s3⟩:=gg a[i] c hs
    have hor:=iQ (a:=xs[i + k / 64]) (b:=shlU a[i] (k % 64)) a5' s2
    have v1:=dB (xs[i + k / 64] ||| shlU a[i] (k % 64)) hw
    rw [hor,Nat.mul_add] at v1
    generalize hys:xs.set (i + k / 64) (xs[i + k / 64] ||| shlU a[i] (k % 64)) = ys at *
    have hyl:ys.length = xs.length:=by rw [<- hys,List.length_set]
    have hy1:i + k / 64 + 1 < ys.length:=by omega
    have hy0:ys[i + k / 64 + 1] = 0:=by
     have:=a4 (i + k / 64 + 1) hw1 (by omega)
     simp only [<- hys]
     rw [List.getElem_set_ne (by omega)]; exact this
    have v2:=dB (shrU a[i] (64 - k % 64)) hy1
    rw [hy0] at v2
    rw [if_pos (by omega),aa,aE (by omega) (by omega),aa,aE (by omega) (by omega),aa,aa,aE (by omega) (by omega),aa,show (64:Int) - ((k % 64:Nat):Int) = ((64 - k % 64:Nat):Int) by omega,dQ,aa,show ((i:Nat):Int) + ((k / 64:Nat):Int) + 1 = ((i + k / 64 + 1:Nat):Int) by omega,lu hy1,aa,putN _ hy1,aa]
    refine hJ _ ⟨hi,by simp only [List.length_set]; omega,?_,fun j hj hlt=>?_,?_⟩ (by simp only; omega)
    ·simp only
     rw [e0,<- s1,Nat.mul_add,<- Nat.mul_assoc,<- Nat.pow_succ]
     simp only [UInt64.toNat_zero,Nat.mul_zero,Nat.add_zero] at v2
     rw [v2,<- a3]
     show val ys + 18446744073709551616 ^ (i + k / 64 + 1) * _ = val xs + (_ + 18446744073709551616 ^ (i + k / 64 + 1) * _)
     omega
    ·simp only at hj hlt ⊢
     rw [List.getElem_set_ne (by omega)]
     simp only [<- hys]
     rw [List.getElem_set_ne (by omega)]
     exact a4 j (by simpa [<- hys] using hj) (by omega)
    ·simp only
     rw [show i + 1 + k / 64 = i + k / 64 + 1 by omega,List.getElem?_set_self hy1]
     exact s3
   ·have c0:k % 64 = 0:=by omega
    rw [c0,Nat.pow_zero] at a5'
    have hz:xs[i + k / 64] = 0:=UInt64.toNat_inj.1 (by simp; omega)
    have v1:=dB (xs[i + k / 64] ||| shlU a[i] (k % 64)) hw
    rw [hz,dy,c0,dC] at v1
    rw [if_neg (by omega),hz,dy,c0,dC]
    refine hJ _ ⟨hi,by simp only [List.length_set]; omega,?_,fun j hj hlt=>?_,?_⟩ (by simp only; omega)
    ·simp only
     rw [e0,c0,Nat.pow_zero,Nat.mul_one,<- a3]
     simp only [UInt64.toNat_zero,Nat.mul_zero,Nat.add_zero] at v1
     exact v1
    ·simp only at hj hlt ⊢
     rw [List.getElem_set_ne (by omega)]
     exact a4 j (by simpa using hj) (by omega)
    ·simp only
     rw [show i + 1 + k / 64 = i + k / 64 + 1 by omega,List.getElem?_set_ne (by omega),geE hw1,a4 _ hw1 (by omega),c0]
     decide
  ·rw [if_neg hi]
   rw [List.take_of_length_le (by omega)] at a3
   exact ⟨_,rfl,a2,a3⟩
 ·simp only [List.take_zero,val,Nat.zero_mul]
  exact bN _ fun x hx=>(List.mem_replicate.1 hx).2
 ·simp only
  rw [List.getElem?_replicate]
  split <;> simp <;> exact Nat.two_pow_pos _
end Go.Proofs.YtibdeoeglcngoaaGreatDoor
namespace Go.Proofs.YtibdeoeglcngoaaGreatDoor
open Go
set_option maxRecDepth 8000
theorem kH {B:(UInt64 × UInt64 -> Option UInt64) -> UInt64 × UInt64 -> Option UInt64} {y1 y0 un:UInt64}
  (hB:∀ J q rh,B J (q,rh) = if (4294967296:UInt64) <= q then (if (4294967296:UInt64) <= rh + y1 then some (q - 1) else J (q - 1,rh + y1)) else (if 4294967296 * rh + un < q * y0 then (if (4294967296:UInt64) <= rh + y1 then some (q - 1) else J (q - 1,rh + y1)) else some q))
  {U:Nat} (h1:2147483648 <= y1.toNat) (h1' : y1.toNat < 4294967296) (h0:y0.toNat < 4294967296) (hu:un.toNat < 4294967296) (hU:U < y1.toNat * 4294967296 + y0.toNat) (q0 r0:UInt64) (e:U = q0.toNat * y1.toNat + r0.toNat) (hr:r0.toNat < y1.toNat) (n:Nat) (hn:4294967300 < n) :
  ∃ q:UInt64,ap B n (q0,r0) = some q/\q.toNat = (U * 4294967296 + un.toNat) / (y1.toNat * 4294967296 + y0.toNat):=by
 obtain ⟨V,hV⟩:∃ V,y1.toNat * 4294967296 + y0.toNat = V:=⟨_,rfl⟩
 obtain ⟨N,hN⟩:∃ N,U * 4294967296 + un.toNat = N:=⟨_,rfl⟩
 rw [hV] at hU
 rw [hV,hN]
 have hVp:0 < V:=by omega
 obtain ⟨D,hD⟩:∃ D,N / V = D:=⟨_,rfl⟩
 have hle:∀ x,x <= D ↔ x * V <= N:=fun x=>by rw [<- hD]; exact Nat.le_div_iff_mul_le hVp
 have hlt:∀ x,D < x ↔ N < x * V:=fun x=>by rw [<- hD]; exact Nat.div_lt_iff_lt_mul hVp
 rw [hD]
 have hNV:D < 4294967296:=by
  rw [hlt]
  omega
 have hq0:q0.toNat <= 4294967297:=by
  have h2:q0.toNat * 2147483648 <= q0.toNat * y1.toNat:=Nat.mul_le_mul_left _ h1
  by_cases h3:q0.toNat <= 4294967297
  ·exact h3
  ·exfalso
   have h4:4294967298 * y1.toNat <= q0.toNat * y1.toNat:=Nat.mul_le_mul_right _ (by omega)
   omega
 have up:D <= q0.toNat:=by
  rw [<- hD]
  have h3:N / V <= N / (y1.toNat * 4294967296):=Nat.div_le_div_left (by omega) (by omega)
  have h4:N / (y1.toNat * 4294967296) = U / y1.toNat:=by
   rw [Nat.mul_comm,<- Nat.div_div_eq_div_mul]
   congr 1
   omega
  have h5:U / y1.toNat = q0.toNat:=by
   rw [e,Nat.mul_comm,Nat.add_comm,Nat.add_mul_div_left _ _ (by omega),Nat.div_eq_of_lt hr,Nat.zero_add]
  rw [h4,h5] at h3
  exact h3
 refine ar (B:=B) (fun s:UInt64 × UInt64=>s.1.toNat) (fun s=>U = s.1.toNat * y1.toNat + s.2.toNat/\s.2.toNat < 4294967296/\D <= s.1.toNat/\s.1.toNat <= 4294967297) (fun q=>q.toNat = D) ?_ n (q0,r0) ⟨e,by simp only; omega,up,hq0⟩ (by simp only; omega)
 rintro ⟨q,rh⟩ J ⟨i1,i2,i3,i4⟩ hJ
 simp only at i1 i2 i3 i4 hJ
 rw [hB]
 have c32:(4294967296:UInt64).toNat = 4294967296:=rfl
 have hrh:(rh + y1).toNat = rh.toNat + y1.toNat:=by rw [UInt64.toNat_add]; omega
 -- what follows once the guess is too great
 have over:D + 1 <= q.toNat -> ∃ r,(if (4294967296:UInt64) <= rh + y1 then some (q - 1) else J (q - 1,rh + y1)) = some r/\r.toNat = D:=fun ho=>by
  have hq1:(q - 1).toNat = q.toNat - 1:=by
   rw [UInt64.toNat_sub]
   have:=q.toNat_lt
   simp only [UInt64.toNat_one]
   omega
  have e1:q.toNat * y1.toNat = (q.toNat - 1) * y1.toNat + y1.toNat:=by
   rw [<- Nat.succ_mul]; congr 1; omega
  split
  ·rename_i hbig
   rw [UInt64.le_iff_toNat_le,c32,hrh] at hbig
   refine ⟨_,rfl,?_⟩
   rw [hq1]
   refine Nat.le_antisymm ?_ (by omega)
   rw [hle,<- hV,Nat.mul_add,<- Nat.mul_assoc]
   have h5:(q.toNat - 1) * y0.toNat <= 4294967296 * 4294967295:=Nat.mul_le_mul (by omega) (by omega)
   omega
  ·rename_i hbig
   rw [UInt64.le_iff_toNat_le,c32,hrh] at hbig
   exact hJ _ ⟨by simp only; rw [hq1,hrh]; omega,by simp only; rw [hrh]; omega,by simp only; rw [hq1]; omega,by simp only; rw [hq1]; omega⟩ (by simp only; rw [hq1]; omega)
 by_cases c:(4294967296:UInt64) <= q
 ·rw [if_pos c]
  rw [UInt64.le_iff_toNat_le,c32] at c
  exact over (by omega)
 ·rw [if_neg c]
  rw [UInt64.le_iff_toNat_le,c32] at c
  have m1:(4294967296 * rh + un).toNat = 4294967296 * rh.toNat + un.toNat:=by
   rw [UInt64.toNat_add,UInt64.toNat_mul,c32]; omega
  have m2:(q * y0).toNat = q.toNat * y0.toNat:=by
   rw [UInt64.toNat_mul]
   have:q.toNat * y0.toNat <= 4294967295 * 4294967295:=Nat.mul_le_mul (by omega) (by omega)
   omega
  have eqV:q.toNat * V = q.toNat * y1.toNat * 4294967296 + q.toNat * y0.toNat:=by rw [<- hV,Nat.mul_add,<- Nat.mul_assoc]
  by_cases c2:4294967296 * rh + un < q * y0
  ·rw [if_pos c2]
   rw [UInt64.lt_iff_toNat_lt,m1,m2] at c2
   refine over ?_
   have:D < q.toNat:=by
    rw [hlt,eqV]
    omega
   omega
  ·rw [if_neg c2]
   rw [UInt64.lt_iff_toNat_lt,m1,m2] at c2
   refine ⟨_,rfl,Nat.le_antisymm ?_ i3⟩
   rw [hle,eqV]
   omega
theorem ka {N M R:Nat} (h:N = M + R) (hR:R < 18446744073709551616):(18446744073709551616 - M % 18446744073709551616 + N % 18446744073709551616) % 18446744073709551616 = R:=by omega
theorem glue2 {hi lo p u t w:Nat} (t1:u = hi * p + t) (t2:w + 18446744073709551616 * t = lo * p):(hi * 18446744073709551616 + lo) * p = u * 18446744073709551616 + w:=by
 rw [Nat.add_mul,Nat.mul_right_comm hi 18446744073709551616 p,t1,<- t2]
 generalize hi * p = z
 omega
theorem glue {P Q R1 R0 u w:Nat} (h1:P + R1 = u * 4294967296 + w / 4294967296) (h2:Q + R0 = R1 * 4294967296 + w % 4294967296):u * 18446744073709551616 + w = P * 4294967296 + Q + R0:=by omega
theorem kQ (n:Nat) (hi lo y:UInt64) (h:hi.toNat < y.toNat) (hn:4294967300 < n):∃ q r:UInt64,au_p n hi lo y = some (q,r)/\hi.toNat * 18446744073709551616 + lo.toNat = q.toNat * y.toNat + r.toNat/\r.toNat < y.toNat:=by
 have hy:=y.toNat_lt
 have hlo:=lo.toNat_lt
 have hy0:y ≠ 0:=fun e=>by rw [e] at h; simp at h
 unfold au_p
 rw [if_neg hy0,if_neg (by rw [UInt64.le_iff_toNat_le]; omega)]
 by_cases h0:hi = 0
 ·subst h0
  rw [if_pos rfl]
  unfold gB kR
  rw [if_neg hy0,aa,if_neg hy0,aa]
  refine ⟨_,_,rfl,?_,?_⟩
  ·rw [UInt64.toNat_div,UInt64.toNat_mod]
   have:=Nat.div_add_mod lo.toNat y.toNat
   rw [Nat.mul_comm] at this
   simp; omega
  ·rw [UInt64.toNat_mod]; exact Nat.mod_lt _ (by omega)
 ·rw [if_neg h0,lz_ok,aa]
  have hyn:y.toNat ≠ 0:=by omega
  have b1:=dI hyn
  have b2:=bZ (l:=64) (m:=y.toNat) (by omega)
  have b3:=gO y.toNat
  have b4:=fG hyn
  obtain ⟨s,hs⟩:∃ s,s = 64 - bln y.toNat:=⟨_,rfl⟩
  have e1:(ac (64 - (bln y.toNat:Int))).toNat = s:=by unfold ac; rw [UInt64.toNat_ofNat']; omega
  have e2:((64:UInt64) - ac (64 - (bln y.toNat:Int))).toNat = 64 - s:=by
   rw [UInt64.toNat_sub,e1]
   simp only [show (64:UInt64).toNat = 64 from rfl]
   omega
  have hs64:s < 64:=by omega
  have hps:=Nat.two_pow_pos s
  -- the divisor,moved
  have v2:y.toNat * 2 ^ s < 18446744073709551616:=by
   have:y.toNat * 2 ^ s < 2 ^ bln y.toNat * 2 ^ s:=Nat.mul_lt_mul_of_pos_right b3 hps
   rw [<- Nat.pow_add,show bln y.toNat + s = 64 by omega] at this
   exact this
  have v1:9223372036854775808 <= y.toNat * 2 ^ s:=by
   have:2 ^ (bln y.toNat - 1) * 2 ^ s <= y.toNat * 2 ^ s:=Nat.mul_le_mul_right _ b4
   rw [<- Nat.pow_add,show bln y.toNat - 1 + s = 63 by omega] at this
   exact this
  have hyv:(shlU y s).toNat = y.toNat * 2 ^ s:=by rw [dL y hs64,Nat.mod_eq_of_lt v2]
  have hhi:hi.toNat * 2 ^ s < 18446744073709551616:=Nat.lt_of_le_of_lt (Nat.mul_le_mul_right _ (Nat.le_of_lt h)) v2
  have hhv:(shlU hi s).toNat = hi.toNat * 2 ^ s:=by rw [dL hi hs64,Nat.mod_eq_of_lt hhi]
  -- the dividend,moved
  have hun:∃ t:Nat,(shlU hi s ||| shrU lo (64 - s)).toNat = hi.toNat * 2 ^ s + t/\(shlU lo s).toNat + 18446744073709551616 * t = lo.toNat * 2 ^ s:=by
   by_cases s0:s = 0
   ·subst s0
    refine ⟨0,?_,by rw [dC]; simp⟩
    rw [dC,show shrU lo (64 - 0) = 0 from by unfold shrU; rw [if_neg (by decide)],UInt64.toNat_or]
    simp
   ·obtain ⟨t1,t2,t3⟩:=gg lo (by omega) hs64
    refine ⟨(shrU lo (64 - s)).toNat,?_,t1⟩
    rw [UInt64.or_comm,iQ t3 (by rw [hhv]; exact Nat.dvd_mul_left ..),hhv,Nat.add_comm]
  obtain ⟨t,t1,t2⟩:=hun
  rw [e1,e2]
  generalize hyy:shlU y s = yy at *
  generalize hun32:shlU hi s ||| shrU lo (64 - s) = un32 at *
  generalize hun10:shlU lo s = un10 at *
  have hun10l:=un10.toNat_lt
  have hun32l:=un32.toNat_lt
  -- both halves of the divisor
  have w1:(shrU yy 32).toNat = yy.toNat / 4294967296:=jq yy
  have w0:(yy &&& (4294967295:UInt64)).toNat = yy.toNat % 4294967296:=mu yy
  have x1:(shrU un10 32).toNat = un10.toNat / 4294967296:=jq un10
  have x0:(un10 &&& (4294967295:UInt64)).toNat = un10.toNat % 4294967296:=mu un10
  have hyyl:=yy.toNat_lt
  have hV:(shrU yy 32).toNat * 4294967296 + (yy &&& (4294967295:UInt64)).toNat = yy.toNat:=by rw [w1,w0]; omega
  have hy1:2147483648 <= (shrU yy 32).toNat:=by rw [w1]; omega
  have hy1' : (shrU yy 32).toNat < 4294967296:=by rw [w1]; omega
  have hy0' : (yy &&& (4294967295:UInt64)).toNat < 4294967296:=by rw [w0]; omega
  have hne:shrU yy 32 ≠ 0:=fun e=>by rw [e] at hy1; simp at hy1
  have hUV:un32.toNat < yy.toNat:=by
   have h5:(hi.toNat * 18446744073709551616 + lo.toNat) * 2 ^ s < y.toNat * 18446744073709551616 * 2 ^ s:=Nat.mul_lt_mul_of_pos_right (by omega) hps
   rw [Nat.add_mul,Nat.mul_right_comm,Nat.mul_right_comm y.toNat] at h5
   omega
  -- the first digit
  have d1:∀ (U:UInt64) (hU:U.toNat < yy.toNat) (un:UInt64) (hu:un.toNat < 4294967296) (B:(UInt64 × UInt64 -> Option UInt64) -> UInt64 × UInt64 -> Option UInt64) (hB:∀ J q rh,B J (q,rh) = if (4294967296:UInt64) <= q then (if (4294967296:UInt64) <= rh + shrU yy 32 then some (q - 1) else J (q - 1,rh + shrU yy 32)) else (if 4294967296 * rh + un < q * (yy &&& (4294967295:UInt64)) then (if (4294967296:UInt64) <= rh + shrU yy 32 then some (q - 1) else J (q - 1,rh + shrU yy 32)) else some q)),
    ∃ q:UInt64,ap B n (U / shrU yy 32,U - U / shrU yy 32 * shrU yy 32) = some q/\q.toNat = (U.toNat * 4294967296 + un.toNat) / yy.toNat:=fun U hU un hu B hB=>by
   have hm:=Nat.div_add_mod U.toNat (shrU yy 32).toNat
   have hml:=Nat.mod_lt U.toNat (show 0 < (shrU yy 32).toNat by omega)
   have hUl:=U.toNat_lt
   have e3:(U - U / shrU yy 32 * shrU yy 32).toNat = U.toNat % (shrU yy 32).toNat:=by
    rw [UInt64.toNat_sub,UInt64.toNat_mul,UInt64.toNat_div]
    rw [Nat.mul_comm] at hm
    have:U.toNat / (shrU yy 32).toNat * (shrU yy 32).toNat <= U.toNat:=by omega
    rw [Nat.mod_eq_of_lt (a:=U.toNat / (shrU yy 32).toNat * (shrU yy 32).toNat) (by omega)]
    omega
   obtain ⟨q,a1,a2⟩:=kH hB (U:=U.toNat) hy1 hy1' hy0' hu (by rw [hV]; exact hU) (U / shrU yy 32) (U - U / shrU yy 32 * shrU yy 32) (by rw [UInt64.toNat_div,e3,Nat.mul_comm]; exact hm.symm) (by rw [e3]; exact hml) n hn
   exact ⟨q,a1,by rw [a2,hV]⟩
  obtain ⟨q1,l2,q1v⟩:=d1 un32 hUV (shrU un10 32) (by rw [x1]; omega) (au_l2 n y (64 - (bln y.toNat:Int)) lo) (fun J q rh=>by unfold au_l2; simp only [e1,hyy,hun10])
  have hm1:=Nat.div_add_mod (un32.toNat * 4294967296 + (shrU un10 32).toNat) yy.toNat
  have hml1:=Nat.mod_lt (un32.toNat * 4294967296 + (shrU un10 32).toNat) (show 0 < yy.toNat by omega)
  rw [<- q1v] at hm1
  generalize hR1:(un32.toNat * 4294967296 + (shrU un10 32).toNat) % yy.toNat = R1 at hm1 hml1
  have u21:(un32 * 4294967296 + shrU un10 32 - q1 * yy).toNat = R1:=by
   rw [UInt64.toNat_sub,UInt64.toNat_add,UInt64.toNat_mul,UInt64.toNat_mul]
   rw [show (4294967296:UInt64).toNat = 4294967296 from rfl]
   have:=ka (N:=un32.toNat * 4294967296 + (shrU un10 32).toNat) (M:=q1.toNat * yy.toNat) (R:=R1) (by rw [Nat.mul_comm q1.toNat]; exact hm1.symm) (by omega)
   generalize q1.toNat * yy.toNat = M at *
   omega
  obtain ⟨q0,l1,q0v⟩:=d1 (un32 * 4294967296 + shrU un10 32 - q1 * yy) (by rw [u21]; exact hml1) (un10 &&& (4294967295:UInt64)) (by rw [x0]; omega) (au_l1 n y (64 - (bln y.toNat:Int)) lo) (fun J q rh=>by unfold au_l1; simp only [e1,hyy,hun10])
  rw [u21] at q0v
  have hm0:=Nat.div_add_mod (R1 * 4294967296 + (un10 &&& (4294967295:UInt64)).toNat) yy.toNat
  have hml0:=Nat.mod_lt (R1 * 4294967296 + (un10 &&& (4294967295:UInt64)).toNat) (show 0 < yy.toNat by omega)
  rw [<- q0v] at hm0
  generalize hR0:(R1 * 4294967296 + (un10 &&& (4294967295:UInt64)).toNat) % yy.toNat = R0 at hm0 hml0
  have u00:((un32 * 4294967296 + shrU un10 32 - q1 * yy) * 4294967296 + (un10 &&& (4294967295:UInt64)) - q0 * yy).toNat = R0:=by
   rw [UInt64.toNat_sub,UInt64.toNat_add,UInt64.toNat_mul,UInt64.toNat_mul,u21]
   rw [show (4294967296:UInt64).toNat = 4294967296 from rfl]
   have:=ka (N:=R1 * 4294967296 + (un10 &&& (4294967295:UInt64)).toNat) (M:=q0.toNat * yy.toNat) (R:=R0) (by rw [Nat.mul_comm q0.toNat]; exact hm0.symm) (by omega)
   generalize q0.toNat * yy.toNat = M at *
   omega
  have q1l:q1.toNat < 4294967296:=by
   rw [q1v,Nat.div_lt_iff_lt_mul (by omega)]; rw [x1]; omega
  have q0l:q0.toNat < 4294967296:=by
   rw [q0v,Nat.div_lt_iff_lt_mul (by omega)]; rw [x0]; omega
  -- all together
  have all:(hi.toNat * 18446744073709551616 + lo.toNat) * 2 ^ s = (q1.toNat * 4294967296 + q0.toNat) * y.toNat * 2 ^ s + R0:=by
   have a1:(hi.toNat * 18446744073709551616 + lo.toNat) * 2 ^ s = un32.toNat * 18446744073709551616 + un10.toNat:=by
    exact glue2 t1 t2
   have a2:(q1.toNat * 4294967296 + q0.toNat) * y.toNat * 2 ^ s = yy.toNat * q1.toNat * 4294967296 + yy.toNat * q0.toNat:=by
    rw [Nat.mul_assoc,<- hyv]; grind
   rw [a1,a2]
   rw [x1] at hm1
   rw [x0] at hm0
   exact glue hm1 hm0
  have hq:(q1 * 4294967296 + q0).toNat = q1.toNat * 4294967296 + q0.toNat:=by
   rw [UInt64.toNat_add,UInt64.toNat_mul,show (4294967296:UInt64).toNat = 4294967296 from rfl]; omega
  have hd:2 ^ s ∣ R0:=by
   have:=(Nat.dvd_add_right (Nat.dvd_mul_left (2 ^ s) ((q1.toNat * 4294967296 + q0.toNat) * y.toNat))).1 (by rw [<- all]; exact Nat.dvd_mul_left ..)
   exact this
  obtain ⟨rr,hrr⟩:=hd
  have hrv:(shrU ((un32 * 4294967296 + shrU un10 32 - q1 * yy) * 4294967296 + (un10 &&& (4294967295:UInt64)) - q0 * yy) s).toNat = rr:=by
   rw [bG _ hs64,u00,hrr,Nat.mul_div_cancel_left _ hps]
  unfold jn gB
  rw [if_neg hne,aa,aa]
  dsimp only
  rw [l2,aa,aa,if_neg hne,aa,aa]
  try dsimp only
  rw [l1,aa,aa,aa]
  refine ⟨_,_,rfl,?_,?_⟩
  ·rw [hq,hrv]
   rw [hrr,Nat.mul_comm (2 ^ s) rr,<- Nat.add_mul] at all
   exact Nat.mul_right_cancel hps all
  ·rw [hrv]
   rw [hrr,Nat.mul_comm,hyv] at hml0
   exact Nat.lt_of_mul_lt_mul_right hml0
end Go.Proofs.YtibdeoeglcngoaaGreatDoor
namespace Go.Proofs.YtibdeoeglcngoaaGreatDoor
open Go
set_option maxRecDepth 8000
theorem lT (a:Nat):bln a <= 64 * (dg a).length:=bZ (by
 have:=bW (dg a)
 rw [az,cZ] at this
 exact this)
theorem dg_one {m:Nat} (h:(dg m).length = 1):∃ y:UInt64,dg m = [y]/\y.toNat = m:=by
 rcases e:dg m with _ | ⟨y,_ | ⟨z,zs⟩⟩
 ·rw [e] at h; simp at h
 ·refine ⟨y,rfl,?_⟩
  have:=az m
  rw [e] at this
  simp only [val] at this
  omega
 ·rw [e] at h; simp at h
theorem fU {xs:List UInt64} {i:Nat} (v:UInt64) (h:i < xs.length):(xs.set i v).drop i = v :: xs.drop (i + 1):=by
 rw [List.drop_eq_getElem_cons (by simpa using h),List.getElem_set_self,List.drop_set_of_lt (by omega)]
theorem jb (n:Nat) (a:List UInt64) (y:UInt64) (hy:0 < y.toNat) (hl:a.length < 100000) (hn:4294967300 < n):∃ u xs,ap (av_l1 n a [y]) n (0,((a.length:Nat):Int) - 1,List.replicate a.length 0) = some (u,xs)/\xs.length = a.length/\val a = val xs * y.toNat + u.toNat/\u.toNat < y.toNat:=by
 have hh:=ar (B:=av_l1 n a [y]) (fun s:UInt64 × Int × List UInt64=>(s.2.1 + 1).toNat) (fun s=>(-1 <= s.2.1/\s.2.1 < a.length)/\s.2.2.length = a.length/\val (a.drop (s.2.1 + 1).toNat) = val (s.2.2.drop (s.2.1 + 1).toNat) * y.toNat + s.1.toNat/\s.1.toNat < y.toNat)
  (fun r=>r.2.length = a.length/\val a = val r.2 * y.toNat + r.1.toNat/\r.1.toNat < y.toNat) ?_ n (0,((a.length:Nat):Int) - 1,List.replicate a.length 0) ⟨by simp only; omega,by simp,?_,by simpa using hy⟩ (by simp only; omega)
 ·obtain ⟨⟨u,xs⟩,e,h1,h2,h3⟩:=hh; exact ⟨u,xs,e,h1,h2,h3⟩
 ·rintro ⟨u,z,xs⟩ J ⟨a1,a2,a3,a4⟩ hJ
  simp only at a1 a2 a3 a4 hJ
  unfold av_l1
  simp only
  by_cases hz:0 <= z
  ·obtain ⟨k,rfl⟩:∃ k:Nat,z = k:=⟨z.toNat,by omega⟩
   have e0:(((k:Int) + 1).toNat) = k + 1:=by omega
   rw [e0] at a3
   have hka:k < a.length:=by omega
   have hkx:k < xs.length:=by omega
   obtain ⟨q,r,d1,d2,d3⟩:=kQ n u a[k] y a4 hn
   rw [if_pos hz,lu hka,aa]
   simp only [List.getElem?_cons_zero,aa]
   rw [d1,aa,lu hkx,aa,putN _ hkx,aa,aE (by omega) (by omega),aa]
   have eN:(((k:Int) - 1 + 1)).toNat = k:=by omega
   refine hJ (_,_,_) ⟨by simp only; omega,by simpa using a2,?_,d3⟩ (by simp only; omega)
   simp only
   rw [eN,fU q hkx,List.drop_eq_getElem_cons hka]
   simp only [val]
   rw [a3,Nat.add_mul,Nat.mul_add,<- Nat.mul_assoc]
   omega
  ·rw [if_neg hz]
   have e0:(z + 1).toNat = 0:=by omega
   rw [e0] at a3
   exact ⟨_,rfl,a2,by simpa using a3,a4⟩
 ·simp only
  rw [show ((((a.length:Nat):Int) - 1 + 1)).toNat = a.length by omega,List.drop_length,List.drop_eq_nil_of_le (by simp)]
  simp [val]
theorem ij (n:Nat) (a b:Nat) (h0:b ≠ 0) (ha:(dg a).length < 10000) (hb:(dg b).length < 10000) (hn:18446744073709551616 < n):∃ q,av_p n (dg a) (dg b) = some (q,dg (a % b))/\q.length <= (dg a).length/\val q = a / b:=by
 unfold av_p
 rw [cA _ _ (by omega),aa]
 by_cases h1:(dg b).length = 1
 ·obtain ⟨y,e,hy⟩:=dg_one h1
  obtain ⟨u,xs,l1,l2,l3,l4⟩:=jb n (dg a) y (by omega) (by omega) (by omega)
  rw [e,if_pos (show ([y]:List UInt64).length = 1 from rfl),l1,aa]
  simp only
  rw [aC n false _ (by simp only [leC,leN]; omega) (by simp),aa]
  rw [az,hy] at l3
  rw [hy] at l4
  have hu:=(Nat.div_mod_unique (a:=a) (b:=b) (c:=u.toNat) (d:=val xs) (by omega)).2 ⟨by rw [Nat.mul_comm]; omega,l4⟩
  refine ⟨xs,?_,by omega,hu.1.symm⟩
  simp only [val,Nat.mul_zero,Nat.add_zero]
  rw [hu.2]
 ·rw [if_neg h1,fZ n a (by omega),aa,fZ n b (by omega),aa]
  have bla:=lT a
  have blb:=lT b
  rw [aE (by omega) (by omega),aa]
  have hbp:=dI h0
  have hbg:=fG h0
  have hal:=gO a
  by_cases hK:(bln a:Int) - bln b < 0
  ·obtain ⟨m,rfl⟩:∃ m,n = m + 1:=⟨n - 1,by omega⟩
   have hab:a < b:=Nat.lt_of_lt_of_le hal (Nat.le_trans (Nat.pow_le_pow_right (by decide) (by omega)) hbg)
   rw [bw]
   unfold av_l2
   simp only
   rw [if_neg (by omega),aa]
   refine ⟨_,by rw [Nat.mod_eq_of_lt hab],by simp,?_⟩
   rw [Nat.div_eq_of_lt hab]
   exact bN _ fun x hx=>(List.mem_replicate.1 hx).2
  ·obtain ⟨K,hKe⟩:∃ K:Nat,(bln a:Int) - bln b = K:=⟨bln a - bln b,by omega⟩
   rw [hKe]
   have hstart:a < b * 2 ^ (K + 1):=by
    have h2:2 ^ bln a <= b * 2 ^ (K + 1):=by
     have:2 ^ (bln b - 1) * 2 ^ (K + 1) <= b * 2 ^ (K + 1):=Nat.mul_le_mul_right _ hbg
     rw [<- Nat.pow_add,show bln b - 1 + (K + 1) = bln a by omega] at this
     exact this
    omega
   have hh:=ar (B:=av_l2 n (dg b)) (fun s:List UInt64 × Int × List UInt64=>(s.2.1 + 1).toNat)
    (fun s=>(-1 <= s.2.1/\s.2.1 <= K)/\s.2.2.length = (dg a).length/\∃ R,s.1 = dg R/\R <= a/\a = b * val s.2.2 + R/\R < b * 2 ^ (s.2.1 + 1).toNat/\2 ^ (s.2.1 + 1).toNat ∣ val s.2.2)
    (fun r=>r.1.length = (dg a).length/\val r.1 = a / b/\r.2 = dg (a % b)) ?_ n (dg a,(K:Int),List.replicate (dg a).length 0)
    ⟨by simp only; omega,by simp,a,rfl,Nat.le_refl _,?_,?_,?_⟩ (by simp only; omega)
   ·obtain ⟨⟨q,r⟩,e,e1,e2,e3⟩:=hh
    simp only at e1 e2 e3
    rw [e,aa]
    simp only
    rw [e3]
    exact ⟨q,rfl,by omega,e2⟩
   ·rintro ⟨rw_,z,q⟩ J ⟨a1,a2,R,rfl,a3,a4,a5,a6⟩ hJ
    simp only at a1 a2 a3 a4 a5 a6 hJ
    unfold av_l2
    simp only
    by_cases hz:0 <= z
    ·obtain ⟨k,rfl⟩:∃ k:Nat,z = k:=⟨z.toNat,by omega⟩
     have e0:(((k:Int) + 1).toNat) = k + 1:=by omega
     rw [e0] at a5 a6
     have eN:(((k:Int) - 1 + 1)).toNat = k:=by omega
     have hRl:=eA a3
     obtain ⟨st1,st2⟩:=mx a4 a5 a6
     rw [if_pos hz,lI n (dg b) k (by omega) (by omega) (by omega),aa,az]
     obtain ⟨c,ec,c1,c2⟩:=em n (dg R) (dg (b * 2 ^ k)) (eJ _) (eJ _) (by omega) (by omega)
     rw [az,az] at c1 c2
     rw [ec,aa]
     unfold jn
     simp only
     by_cases hc:0 <= c
     ·have hge:b * 2 ^ k <= R:=by omega
      obtain ⟨g1,g2,g3⟩:=st1 hge
      obtain ⟨xs,t1,t2,t3⟩:=iq n (dg R) (dg (b * 2 ^ k)) (eA hge) (by rw [az,az]; exact hge) (by omega) (by omega)
      rw [az,az] at t3
      have hkq:k / 64 < q.length:=by
       have h2:2 ^ k < 2 ^ (64 * (dg a).length):=by
        have h3:=bW (dg a)
        rw [az,cZ] at h3
        have h4:1 * 2 ^ k <= b * 2 ^ k:=Nat.mul_le_mul_right _ (by omega)
        omega
       have h5:=(Nat.pow_lt_pow_iff_right (by decide:1 < 2)).1 h2
       omega
      have hbit:=bit_add hkq a6 (shl_one (Nat.mod_lt _ (by decide)))
      rw [if_pos hc,t1,aa,aC n false xs (by omega) (by omega),aa,lC k (by omega),aa,lu hkq,aa,rem64,aa,dQ,aa,putN _ hkq,aa]
      simp only
      rw [aE (by omega) (by omega),aa,t3]
      refine hJ (_,_,_) ⟨by simp only; omega,by simpa using a2,R - b * 2 ^ k,rfl,by omega,?_,?_,?_⟩ (by simp only; omega)
      ·simp only; rw [hbit]; exact g1
      ·simp only; rw [eN]; exact g2
      ·simp only; rw [eN,hbit]; exact g3
     ·rw [if_neg hc,aE (by omega) (by omega),aa]
      refine hJ (_,_,_) ⟨by simp only; omega,a2,R,rfl,a3,a4,?_,?_⟩ (by simp only; omega)
      ·simp only; rw [eN]; omega
      ·simp only; rw [eN]; exact st2 (by omega)
    ·rw [if_neg hz]
     have e0:(z + 1).toNat = 0:=by omega
     rw [e0,Nat.pow_zero,Nat.mul_one] at a5
     have hu:=(Nat.div_mod_unique (a:=a) (b:=b) (c:=R) (d:=val q) (by omega)).2 ⟨by omega,a5⟩
     exact ⟨_,rfl,a2,hu.1.symm,by simp only; rw [hu.2]⟩
   ·simp only
    rw [bN _ fun x hx=>(List.mem_replicate.1 hx).2]; omega
   ·simp only
    rw [show (((K:Int) + 1).toNat) = K + 1 by omega]
    exact hstart
   ·simp only
    rw [bN _ fun x hx=>(List.mem_replicate.1 hx).2]
    exact Nat.dvd_zero _
theorem mh (n l:Nat) (a b:Int) (ha:Fit l a) (hb:Fit l b) (h0:b ≠ 0) (hl:l < 5000) (hn:18446744073709551616 < n):bn_p n (L a) (L b) = some (L (a / b),L (a % b)):=by
 have hal:=ha.len
 have hbl:=hb.len
 obtain ⟨q,e1,e2,e3⟩:=ij n a.natAbs b.natAbs (by omega) (by omega) (by omega) hn
 have hm:a.natAbs % b.natAbs < b.natAbs:=Nat.mod_lt _ (by omega)
 have hl2:(dg (a.natAbs % b.natAbs)).length <= l:=fH (Nat.lt_trans hm hb)
 have hdm:=Nat.div_add_mod a.natAbs b.natAbs
 have hq:a.natAbs / b.natAbs <= a.natAbs:=Nat.div_le_self _ _
 unfold bn_p
 rw [show (L a).fp = dg a.natAbs from rfl,show (L b).fp = dg b.natAbs from rfl,e1,aa]
 simp only
 rw [aC n _ _ (by omega) (by omega),aa,aC n _ _ (by omega) (by omega),aa,e3,az]
 generalize hx:a.natAbs / b.natAbs = x at *
 generalize hy:a.natAbs % b.natAbs = y at *
 simp only [kT]
 show (if (decide (a < 0) && decide (0 < y)) = true then _ else _) = _
 have hqf:x < 18446744073709551616 ^ l:=Nat.lt_of_le_of_lt hq ha
 have hyf:y < 18446744073709551616 ^ l:=Nat.lt_trans hm hb
 have hpw:2 * 18446744073709551616 ^ l <= 18446744073709551616 ^ (l + 1):=by rw [Nat.pow_succ,Nat.mul_comm]; exact Nat.mul_le_mul_left _ (by decide)
 have hp1:1 <= 18446744073709551616 ^ l:=Nat.pow_pos (by decide)
 have hbb:b.natAbs < 18446744073709551616 ^ l:=hb
 have hab:(b.natAbs:Int) * x + y = a.natAbs:=by exact_mod_cast hdm
 by_cases hr:a < 0/\0 < y
 ·obtain ⟨h1,h2⟩:=hr
  rw [if_pos (by simp [h1,h2])]
  have f1:(⟨false,dg b.natAbs⟩:Tg) = L b.natAbs:=by unfold L; simp
  have f2:(⟨!(L b).fj,([(1:UInt64)]:List UInt64)⟩:Tg) = L (if b < 0 then 1 else -1):=by
   unfold L
   by_cases hb0:b < 0 <;> simp [hb0] <;> rw [dg1 (by decide) (by decide)] <;> rfl
  rw [f1,f2,cV n (l + 1) _ _ ?_ ?_ (by omega) (by omega),aa,cV n (l + 1) _ _ ?_ ?_ (by omega) (by omega),aa]
  ·have e:sg (!(decide (a < 0) == decide (b < 0))) x + (if b < 0 then 1 else -1) = a / b/\sg (decide (a < 0)) y + b.natAbs = a % b:=by
    have:=cS (a:=a) (b:=b) (q:=sg (!(decide (a < 0) == decide (b < 0))) x + (if b < 0 then 1 else -1)) (r:=sg (decide (a < 0)) y + b.natAbs) ?_ ?_ ?_
    ·exact ⟨this.1.symm,this.2.symm⟩
    ·unfold sg
     by_cases hb0:b < 0
     ·have:(b.natAbs:Int) = -b:=by omega
      rw [this] at hab ⊢
      have h3:(a.natAbs:Int) = -a:=by omega
      simp [h1,hb0]
      rw [Int.mul_add]; grind
     ·have:(b.natAbs:Int) = b:=by omega
      rw [this] at hab ⊢
      have h3:(a.natAbs:Int) = -a:=by omega
      simp [h1,hb0]
      rw [Int.mul_add]; grind
    ·unfold sg; simp [h1]; omega
    ·unfold sg; simp [h1]; omega
   show some (L (sg (!(decide (a < 0) == decide (b < 0))) x + (if b < 0 then 1 else -1)),L (sg (decide (a < 0)) y + b.natAbs)) = _
   rw [e.1,e.2]
  ·unfold Fit; rw [gY]; omega
  ·unfold Fit; split <;> simp <;> omega
  ·unfold Fit; rw [gY]; omega
  ·unfold Fit; rw [Int.natAbs_natCast]; omega
 ·rw [if_neg (by simpa using hr)]
  have e:=cS (a:=a) (b:=b) (q:=sg (!(decide (a < 0) == decide (b < 0))) x) (r:=sg (decide (a < 0)) y) ?_ ?_ ?_
  ·rw [e.1,e.2]; rfl
  ·unfold sg
   by_cases h1:a < 0
   ·have hy0:y = 0:=by omega
    have h3:(a.natAbs:Int) = -a:=by omega
    by_cases hb0:b < 0
    ·have:(b.natAbs:Int) = -b:=by omega
     rw [this] at hab; simp [h1,hb0,hy0] at hab ⊢; grind
    ·have:(b.natAbs:Int) = b:=by omega
     rw [this] at hab; simp [h1,hb0,hy0] at hab ⊢; grind
   ·have h3:(a.natAbs:Int) = a:=by omega
    by_cases hb0:b < 0
    ·have:(b.natAbs:Int) = -b:=by omega
     rw [this] at hab; simp [h1,hb0] at hab ⊢; grind
    ·have:(b.natAbs:Int) = b:=by omega
     rw [this] at hab; simp [h1,hb0] at hab ⊢; grind
  ·unfold sg
   by_cases h1:a < 0
   ·have hy0:y = 0:=by omega
    simp [hy0]
   ·simp [h1]
  ·unfold sg
   by_cases h1:a < 0
   ·have hy0:y = 0:=by omega
    simp [hy0]; omega
   ·simp [h1]; omega
theorem kb (n l:Nat) (a b:Int) (ha:Fit l a) (hb:Fit l b) (hl:l < 5000) (hn:18446744073709551616 < n):ar_p n (L a) (L b) = some (L (Nat.gcd a.natAbs b.natAbs:Nat)):=by
 obtain ⟨M,hM⟩:∃ M:Nat,M = 64 * l:=⟨_,rfl⟩
 have hx2:a.natAbs < 2 ^ M:=by unfold Fit at ha; rw [cZ,<- hM] at ha; exact ha
 have hy2:b.natAbs < 2 ^ M:=by unfold Fit at hb; rw [cZ,<- hM] at hb; exact hb
 have he:=eu_le hx2 hy2
 have h:=ar (B:=ar_l1 n) (fun s:List UInt64 × List UInt64=>eu (val s.1) (val s.2)) (fun s=>∃ x y,s = (dg x,dg y)/\(dg x).length < 10000/\(dg y).length < 10000/\Nat.gcd x y = Nat.gcd a.natAbs b.natAbs)
  (fun r=>r = dg (Nat.gcd a.natAbs b.natAbs)) ?_ n (dg a.natAbs,dg b.natAbs) ⟨_,_,rfl,by have:=ha.len; omega,by have:=hb.len; omega,rfl⟩ (by simp only [az]; omega)
 ·obtain ⟨r,h1,rfl⟩:=h
  unfold ar_p
  rw [show (L a).fp = dg a.natAbs from rfl,show (L b).fp = dg b.natAbs from rfl,h1,aa]
  unfold L
  simp
 ·rintro _ J ⟨x,y,rfl,h1,h2,h3⟩ hJ
  unfold ar_l1
  simp only
  by_cases h0:y = 0
  ·subst h0
   rw [if_neg (by rw [dg0]; simp)]
   exact ⟨_,rfl,by rw [<- h3,Nat.gcd_zero_right]⟩
  ·obtain ⟨q,e1,_,_⟩:=ij n x y h0 h1 h2 hn
   have hm:x % y < y:=Nat.mod_lt _ (by omega)
   have hyl:0 < (dg y).length:=by
    rcases e:dg y with _ | ⟨z,zs⟩
    ·have:=az y; rw [e] at this; exact absurd this.symm h0
    ·simp
   rw [if_pos hyl,e1,aa]
   simp only
   refine hJ (dg y,dg (x % y)) ⟨_,_,rfl,h2,Nat.lt_of_le_of_lt (eA (Nat.le_of_lt hm)) h2,?_⟩ (by simp only [az]; exact eu_step h0)
   rw [<- h3,Nat.gcd_comm x y,Nat.gcd_rec y x,Nat.gcd_comm]
theorem jV (n l:Nat) (a b:Int) (ha:Fit l a) (hb:Fit l b) (h0:b ≠ 0) (hl:l < 5000) (hn:18446744073709551616 < n) :
  bz_p n (L a) (L b) = some (Rt (Rat.divInt a b))/\(Rat.divInt a b).num.natAbs <= a.natAbs/\(Rat.divInt a b).den <= b.natAbs:=by
 have hg:0 < Nat.gcd a.natAbs b.natAbs:=Nat.gcd_pos_of_pos_right _ (by omega)
 have hgb:Nat.gcd a.natAbs b.natAbs <= b.natAbs:=Nat.gcd_le_right _ (by omega)
 have hgw:Fit l ((Nat.gcd a.natAbs b.natAbs:Nat):Int):=by unfold Fit at *; rw [Int.natAbs_natCast]; omega
 obtain ⟨x,hx⟩:((Nat.gcd a.natAbs b.natAbs:Nat):Int) ∣ a:=Int.ofNat_dvd_left.2 (Nat.gcd_dvd_left _ _)
 obtain ⟨y,hy⟩:((Nat.gcd a.natAbs b.natAbs:Nat):Int) ∣ b:=Int.ofNat_dvd_left.2 (Nat.gcd_dvd_right _ _)
 have hco:=Nat.coprime_div_gcd_div_gcd hg
 generalize Nat.gcd a.natAbs b.natAbs = g at *
 have hg0:(g:Int) ≠ 0:=by omega
 have e1:a / (g:Int) = x:=by rw [hx]; exact Int.mul_ediv_cancel_left _ hg0
 have e2:b / (g:Int) = y:=by rw [hy]; exact Int.mul_ediv_cancel_left _ hg0
 have e3:a.natAbs = g * x.natAbs:=by rw [hx,Int.natAbs_mul]; rfl
 have e4:b.natAbs = g * y.natAbs:=by rw [hy,Int.natAbs_mul]; rfl
 have hc:x.natAbs.Coprime y.natAbs:=by
  rw [e3,e4,Nat.mul_div_cancel_left _ hg,Nat.mul_div_cancel_left _ hg] at hco; exact hco
 have hxl:x.natAbs <= a.natAbs:=by rw [e3]; exact Nat.le_mul_of_pos_left _ hg
 have hyl:y.natAbs <= b.natAbs:=by rw [e4]; exact Nat.le_mul_of_pos_left _ hg
 have hy0:y ≠ 0:=fun e=>h0 (by rw [hy,e,Int.mul_zero])
 have eq:Rat.divInt a b = Rat.divInt x y:=by
  conv=>lhs; rw [hx,hy]
  exact Rat.divInt_mul_left hg0
 have xw:Fit l x:=Nat.lt_of_le_of_lt hxl ha
 have yw:Fit l y:=Nat.lt_of_le_of_lt hyl hb
 have gc:ar_p n (L a) (L b) = some (L g):=by
  have:=kb n l a b ha hb hl hn
  rw [this]
  have h5:Nat.gcd a.natAbs b.natAbs = g:=by
   rw [e3,e4,Nat.gcd_mul_left,show Nat.gcd x.natAbs y.natAbs = 1 from hc,Nat.mul_one]
  rw [h5]
 unfold bz_p
 rw [gc,aa,mh n l a g ha hgw hg0 hl hn,aa,mh n l b g hb hgw hg0 hl hn,aa,e1,e2]
 simp only
 rw [eq]
 by_cases hs:y < 0
 ·rw [if_pos (by simpa [L] using hs),bJ n l x xw (by omega) (by omega),aa,bJ n l y yw (by omega) (by omega),aa]
  have h5:=gW (x:=-x) (y:=-y) (by omega) (by rwa [Int.natAbs_neg,Int.natAbs_neg])
  rw [Rat.neg_divInt_neg] at h5
  unfold Rt
  rw [h5.1,h5.2]
  exact ⟨rfl,by rw [Int.natAbs_neg]; exact hxl,by have:=h5.2; omega⟩
 ·rw [if_neg (by simpa [L] using hs)]
  have h5:=gW (x:=x) (y:=y) (by omega) hc
  unfold Rt
  rw [h5.1,h5.2]
  exact ⟨rfl,hxl,by have:=h5.2; omega⟩
end Go.Proofs.YtibdeoeglcngoaaGreatDoor
namespace Go.Proofs.YtibdeoeglcngoaaGreatDoor
open Go
set_option maxRecDepth 8000
abbrev T8:=UInt64 × UInt64 × UInt64 × UInt64 × UInt64 × UInt64 × UInt64 × UInt64
def wv (t:T8):List UInt64:=[t.1,t.2.1,t.2.2.1,t.2.2.2.1,t.2.2.2.2.1,t.2.2.2.2.2.1,t.2.2.2.2.2.2.1,t.2.2.2.2.2.2.2]
theorem jI:∀ {xs ys:List UInt64},xs.length = ys.length -> val xs = val ys -> xs = ys
 | [],[],_,_=>rfl
 | x :: xs,[],h,_=>by simp at h
 | [],y :: ys,h,_=>by simp at h
 | x :: xs,y :: ys,h,e=>by
  simp only [val] at e
  have hx:=x.toNat_lt
  have hy:=y.toNat_lt
  have e1:x = y:=UInt64.toNat_inj.1 (by omega)
  have e2:val xs = val ys:=by omega
  rw [e1,jI (by simpa using h) e2]
theorem wv_inj {s t:T8} (h:val (wv s) = val (wv t)):s = t:=by
 have:=jI (by rfl) h
 unfold wv at this
 obtain ⟨s1,s2,s3,s4,s5,s6,s7,s8⟩:=s
 obtain ⟨t1,t2,t3,t4,t5,t6,t7,t8⟩:=t
 simp only [List.cons.injEq,and_true] at this
 simp only [Prod.mk.injEq]
 exact this
def HB:Nat:=9223372036854775808 * 18446744073709551616 ^ 7
def FB:Nat:=18446744073709551616 ^ 8
theorem ea:FB = 2 * HB:=by unfold FB HB; rfl
theorem ct:0 < HB:=by unfold HB; decide
theorem wv_lt (t:T8):val (wv t) < FB:=bW (wv t)
def Wn (m:Nat):T8:=(UInt64.ofNat m,UInt64.ofNat (m / 18446744073709551616),UInt64.ofNat (m / 18446744073709551616 / 18446744073709551616),UInt64.ofNat (m / 18446744073709551616 / 18446744073709551616 / 18446744073709551616),UInt64.ofNat (m / 18446744073709551616 / 18446744073709551616 / 18446744073709551616 / 18446744073709551616),UInt64.ofNat (m / 18446744073709551616 / 18446744073709551616 / 18446744073709551616 / 18446744073709551616 / 18446744073709551616),UInt64.ofNat (m / 18446744073709551616 / 18446744073709551616 / 18446744073709551616 / 18446744073709551616 / 18446744073709551616 / 18446744073709551616),UInt64.ofNat (m / 18446744073709551616 / 18446744073709551616 / 18446744073709551616 / 18446744073709551616 / 18446744073709551616 / 18446744073709551616 / 18446744073709551616))
theorem bL (m:Nat) (xs:List UInt64) (h:val xs = m / 18446744073709551616):val (UInt64.ofNat m :: xs) = m:=by
 simp only [val]
 rw [UInt64.toNat_ofNat', h]
 exact Nat.mod_add_div m 18446744073709551616
theorem Wn_val {m:Nat} (h:m < FB):val (wv (Wn m)) = m:=by
 unfold wv Wn
 refine bL _ _ (bL _ _ (bL _ _ (bL _ _ (bL _ _ (bL _ _ (bL _ _ ?_))))))
 simp only [val]
 rw [UInt64.toNat_ofNat', Nat.mul_zero,Nat.add_zero]
 refine Nat.mod_eq_of_lt ?_
 simp only [Nat.div_div_eq_div_mul]
 refine Nat.div_lt_of_lt_mul ?_
 exact h
def Fw (z:Int):Prop:=-(HB:Int) <= z/\z < HB
def Wg (z:Int):T8:=Wn (z % (FB:Int)).toNat
theorem eR (z:Int):(val (wv (Wg z)):Int) = z % (FB:Int):=by
 have hp:=ct
 have hf:=ea
 have h0:=Int.emod_nonneg z (b:=(FB:Int)) (by omega)
 have h1:=Int.emod_lt_of_pos z (b:=(FB:Int)) (by omega)
 unfold Wg
 rw [Wn_val (by omega)]
 omega
theorem Wg_pos {z:Int} (h:Fw z) (h0:0 <= z):val (wv (Wg z)) = z.natAbs:=by
 have hp:=ct
 have hf:=ea
 have:=eR z
 rw [Int.emod_eq_of_lt h0 (by have:=h.2; omega)] at this
 omega
theorem Wg_neg {z:Int} (h:Fw z) (h0:z < 0):val (wv (Wg z)) + z.natAbs = FB:=by
 have hp:=ct
 have hf:=ea
 have:=eR z
 have e:z % (FB:Int) = z + FB:=by
  rw [<- Int.add_emod_right]
  exact Int.emod_eq_of_lt (by have:=h.1; omega) (by omega)
 rw [e] at this
 have:=h.1
 omega
theorem bz {s b c a c1 c2 Vs Vb Va K:Nat} (h1:s + b + c = a + 18446744073709551616 * c1) (h2:Vs + Vb + c1 = Va + K * c2):(s + 18446744073709551616 * Vs) + (b + 18446744073709551616 * Vb) + c = (a + 18446744073709551616 * Va) + 18446744073709551616 * K * c2:=by
 rw [Nat.mul_assoc]
 have:=congrArg (18446744073709551616 * ·) h2
 simp only [Nat.mul_add] at this
 omega
theorem fY (n:Nat) (a b:T8):∃ s c,aR_p n a b = some (s,c)/\val (wv s) + val (wv b) = val (wv a) + FB * c.toNat/\c.toNat <= 1:=by
 obtain ⟨a1,a2,a3,a4,a5,a6,a7,a8⟩:=a
 obtain ⟨b1,b2,b3,b4,b5,b6,b7,b8⟩:=b
 obtain ⟨s1,c1,e1,f1,g1⟩:=bj a1 b1 0 (by decide)
 obtain ⟨s2,c2,e2,f2,g2⟩:=bj a2 b2 c1 g1
 obtain ⟨s3,c3,e3,f3,g3⟩:=bj a3 b3 c2 g2
 obtain ⟨s4,c4,e4,f4,g4⟩:=bj a4 b4 c3 g3
 obtain ⟨s5,c5,e5,f5,g5⟩:=bj a5 b5 c4 g4
 obtain ⟨s6,c6,e6,f6,g6⟩:=bj a6 b6 c5 g5
 obtain ⟨s7,c7,e7,f7,g7⟩:=bj a7 b7 c6 g6
 obtain ⟨s8,c8,e8,f8,g8⟩:=bj a8 b8 c7 g7
 refine ⟨(s1,s2,s3,s4,s5,s6,s7,s8),c8,?_,?_,g8⟩
 ·unfold aR_p
  simp only [e1,e2,e3,e4,e5,e6,e7,e8,aa]
 ·have hFB:FB = 18446744073709551616 * (18446744073709551616 * (18446744073709551616 * (18446744073709551616 * (18446744073709551616 * (18446744073709551616 * (18446744073709551616 * (18446744073709551616 * 1))))))):=rfl
  have:=bz f1 (bz f2 (bz f3 (bz f4 (bz f5 (bz f6 (bz f7 (bz f8 (show 0 + 0 + c8.toNat = 0 + 1 * c8.toNat by omega))))))))
  rw [<- hFB,show (0:UInt64).toNat = 0 from rfl,Nat.add_zero] at this
  simp only [wv,val]
  exact this
theorem kM (n:Nat) (a b:T8) (hn:10 < n):∃ c,aH_p n a b = some c/\(c < 0 ↔ val (wv a) < val (wv b))/\(c = 0 ↔ val (wv a) = val (wv b)):=by
 have hh:=ar (B:=aH_l1 n a b) (fun z:Int=>(z + 1).toNat) (fun z=>-1 <= z/\z < 8/\(wv a).drop (z + 1).toNat = (wv b).drop (z + 1).toNat)
  (fun r=>(r = .inl (-1)/\val (wv a) < val (wv b)) ∨ (r = .inl 1/\val (wv b) < val (wv a)) ∨ (r = .inr ()/\wv a = wv b)) ?_ n 7 ⟨by omega,by omega,rfl⟩ (by omega)
 ·obtain ⟨r,hr,h1 | h1 | h1⟩:=hh
  ·unfold aH_p
   rw [hr,h1.1]; exact ⟨_,rfl,by have:=h1.2; omega,by have:=h1.2; omega⟩
  ·unfold aH_p
   rw [hr,h1.1]; exact ⟨_,rfl,by have:=h1.2; omega,by have:=h1.2; omega⟩
  ·unfold aH_p
   rw [hr,h1.1,h1.2]; exact ⟨_,rfl,by omega,by omega⟩
 ·intro z J ⟨h1,h2,h3⟩ hJ
  unfold aH_l1
  simp only
  have la:(wv a).length = 8:=rfl
  have lb:(wv b).length = 8:=rfl
  by_cases h0:0 <= z
  ·have e1:(z + 1).toNat = z.toNat + 1:=by omega
   rw [e1] at h3
   rw [if_pos h0]
   show ∃ r,((idx (wv a) z).bind fun z64=>(idx (wv b) z).bind fun z68=>if z64 = z68 then (chk (z - 1)).bind fun s73=>J s73 else if z64 < z68 then some (Sum.inl (-1:Int)) else some (Sum.inl (1:Int))) = some r/\_
   rw [bm h0 (by omega),aa,bm h0 (by omega),aa]
   split
   ·rename_i he
    rw [aE (by omega) (by omega),aa]
    refine hJ (z - 1) ⟨by omega,by omega,?_⟩ (by omega)
    rw [show (z - 1 + 1).toNat = z.toNat by omega,List.drop_eq_getElem_cons (by omega),List.drop_eq_getElem_cons (l:=wv b) (by omega),h3,he]
   ·rename_i hne
    split
    ·rename_i hlt; exact ⟨_,rfl,.inl ⟨rfl,eE (by omega) (by omega) h3 hlt⟩⟩
    ·rename_i h5
     refine ⟨_,rfl,.inr (.inl ⟨rfl,eE (by omega) (by omega) h3.symm ?_⟩)⟩
     rw [UInt64.lt_iff_toNat_lt] at h5 ⊢
     have:((wv a)[z.toNat]'(by omega)).toNat ≠ ((wv b)[z.toNat]'(by omega)).toNat:=fun e=>hne (UInt64.toNat_inj.1 e)
     omega
  ·rw [if_neg h0]
   have e1:(z + 1).toNat = 0:=by omega
   rw [e1] at h3
   exact ⟨_,rfl,.inr (.inr ⟨rfl,by simpa using h3⟩)⟩
theorem gP (t:T8):shrU t.2.2.2.2.2.2.2 63 = 1 ↔ HB <= val (wv t):=by
 obtain ⟨t1,t2,t3,t4,t5,t6,t7,t8⟩:=t
 have h1:=bW [t1,t2,t3,t4,t5,t6,t7]
 have e:val (wv (t1,t2,t3,t4,t5,t6,t7,t8)) = val [t1,t2,t3,t4,t5,t6,t7] + 18446744073709551616 ^ 7 * t8.toNat:=by
  have:=dJ [t1,t2,t3,t4,t5,t6,t7] [t8]
  simp only [leC,leN] at this
  show val ([t1,t2,t3,t4,t5,t6,t7] ++ [t8]) = _
  rw [this]
  simp [val]
 rw [e]
 simp only [leC,leN] at h1
 have h8:=t8.toNat_lt
 have hs:(shrU t8 63).toNat = t8.toNat / 9223372036854775808:=bG t8 (by decide)
 have hsw:shrU t8 63 = 1 ↔ 9223372036854775808 <= t8.toNat:=by
  constructor
  ·intro h
   have:=congrArg UInt64.toNat h
   rw [hs] at this
   simp only [UInt64.toNat_one] at this
   omega
  ·intro h
   refine UInt64.toNat_inj.1 ?_
   rw [hs]
   simp only [UInt64.toNat_one]
   omega
 show shrU t8 63 = 1 ↔ _
 rw [hsw]
 unfold HB
 generalize val [t1,t2,t3,t4,t5,t6,t7] = lo at *
 generalize hP:(18446744073709551616:Nat) ^ 7 = P at *
 constructor
 ·intro h
  have:=Nat.mul_le_mul_left P h
  rw [Nat.mul_comm] at this
  omega
 ·intro h
  by_cases c:9223372036854775808 <= t8.toNat
  ·exact c
  ·exfalso
   have:=Nat.mul_le_mul_left P (show t8.toNat + 1 <= 9223372036854775808 by omega)
   rw [Nat.mul_add,Nat.mul_comm P 9223372036854775808] at this
   omega
theorem jy (n:Nat) (z:Int) (h:Fw z) (hn:10 < n):bf_p n (Wg z) = some (L z):=by
 have hp:=ct
 have hf:=ea
 have fin:∀ (b:Bool) (t:T8),val (wv t) = z.natAbs -> (b && decide (0 < z.natAbs)) = decide (z < 0) -> ((app ([]:List UInt64) ([t.1,t.2.1,t.2.2.1,t.2.2.2.1,t.2.2.2.2.1,t.2.2.2.2.2.1,t.2.2.2.2.2.2.1,t.2.2.2.2.2.2.2]:List UInt64)).bind fun xs=>(ak_p n b xs).bind fun y=>some y) = some (L z):=fun b t hv hb=>by
  show ((app ([]:List UInt64) (wv t)).bind fun xs=>(ak_p n b xs).bind fun y=>some y) = some (L z)
  rw [dO [] (wv t) (by show 0 + 8 <= 1000000; decide),aa,List.nil_append,aC n b (wv t) (by show 8 < n; omega) (by show 8 <= 4294967296; decide),aa,hv,hb]
  rfl
 unfold bf_p cw_p
 by_cases h0:z < 0
 ·have hv:=Wg_neg h h0
  have hge:HB <= val (wv (Wg z)):=by have:=h.1; omega
  obtain ⟨s,c,e,e2,e3⟩:=fY n (0,0,0,0,0,0,0,0) (Wg z)
  have hz:val (wv ((0,0,0,0,0,0,0,0):T8)) = 0:=rfl
  rw [hz] at e2
  have hs:=wv_lt s
  have hc:c.toNat = 1:=by
   by_cases hc0:c.toNat = 0
   ·rw [hc0] at e2; omega
   ·omega
  rw [hc] at e2
  rw [if_pos ((gP _).2 hge),e,aa,aa]
  exact fin _ s (by omega) (by rw [decide_eq_true ((gP _).2 hge),decide_eq_true (by omega:0 < z.natAbs),decide_eq_true h0]; rfl)
 ·have hv:=Wg_pos h (by omega)
  have hlt:¬ shrU (Wg z).2.2.2.2.2.2.2 63 = 1:=fun e=>by have:=(gP _).1 e; have:=h.2; omega
  rw [if_neg hlt,aa]
  exact fin _ (Wg z) hv (by rw [decide_eq_false hlt,decide_eq_false h0]; rfl)
theorem jN {z:Int} {t:T8} (h:(val (wv t):Int) = z % (FB:Int)):t = Wg z:=wv_inj (by have:=eR z; omega)
theorem ld {ws:List UInt64} (h:ws.length <= 8):val (wv (aJ ws 0 0,aJ ws 1 0,aJ ws 2 0,aJ ws 3 0,aJ ws 4 0,aJ ws 5 0,aJ ws 6 0,aJ ws 7 0)) = val ws:=by
 unfold wv aJ
 rcases ws with _ | ⟨a,_ | ⟨b,_ | ⟨c,_ | ⟨d,_ | ⟨e,_ | ⟨f,_ | ⟨g,_ | ⟨i,_ | ⟨j,xs⟩⟩⟩⟩⟩⟩⟩⟩⟩
 any_goals simp [val]
 simp only [leC] at h
 omega
open Classical in
theorem toldG (n:Nat) (z:Int) (hn:10 < n):br_p n (L z) = some (if Fw z then (Wg z,0) else ((0,0,0,0,0,0,0,0),6)):=by
 have hp:=ct
 have hf:=ea
 have hdg:=az z.natAbs
 unfold br_p
 by_cases hl:8 < (dg z.natAbs).length
 ·have h1:=gF (eJ z.natAbs) (by intro e; rw [e] at hl; simp at hl)
  have h2:18446744073709551616 ^ 8 <= 18446744073709551616 ^ ((dg z.natAbs).length - 1):=Nat.pow_le_pow_right (by decide) (by omega)
  have hbig:FB <= z.natAbs:=by unfold FB; omega
  rw [if_pos (show 8 < (L z).fp.length from hl),if_neg fun h:Fw z=>by have:=h.1; have:=h.2; omega]
 ·have hv:=ld (ws:=dg z.natAbs) (by omega)
  rw [if_neg (show ¬ 8 < (L z).fp.length from hl)]
  show ((bM_p n ⟨decide (z < 0),(aJ (dg z.natAbs) 0 0,aJ (dg z.natAbs) 1 0,aJ (dg z.natAbs) 2 0,aJ (dg z.natAbs) 3 0,aJ (dg z.natAbs) 4 0,aJ (dg z.natAbs) 5 0,aJ (dg z.natAbs) 6 0,aJ (dg z.natAbs) 7 0)⟩).bind _) = _
  generalize hT:((aJ (dg z.natAbs) 0 0,aJ (dg z.natAbs) 1 0,aJ (dg z.natAbs) 2 0,aJ (dg z.natAbs) 3 0,aJ (dg z.natAbs) 4 0,aJ (dg z.natAbs) 5 0,aJ (dg z.natAbs) 6 0,aJ (dg z.natAbs) 7 0):T8) = t at *
  rw [hdg] at hv
  unfold bM_p
  obtain ⟨c,ec,c1,c2⟩:=kM n t (0,0,0,0,0,0,0,9223372036854775808) hn
  have hlim:val (wv ((0,0,0,0,0,0,0,9223372036854775808):T8)) = HB:=by decide
  rw [hlim,hv] at c1 c2
  simp only
  rw [ec,aa]
  obtain ⟨s,cc,e,e2,e3⟩:=fY n (0,0,0,0,0,0,0,0) t
  have hz:val (wv ((0,0,0,0,0,0,0,0):T8)) = 0:=rfl
  rw [hz,hv] at e2
  have hs:=wv_lt s
  have neg:z < 0 -> Fw z -> s = Wg z:=fun h0 hw=>by
   refine jN ?_
   have hc:cc.toNat = 1:=by
    by_cases hc0:cc.toNat = 0
    ·rw [hc0] at e2; omega
    ·omega
   rw [hc] at e2
   have e5:z % (FB:Int) = z + FB:=by
    rw [<- Int.add_emod_right]
    exact Int.emod_eq_of_lt (by have:=hw.1; omega) (by omega)
   rw [e5]; omega
  by_cases g1:0 < c
  ·rw [if_pos g1,aa,if_neg fun h:Fw z=>by have:=h.1; have:=h.2; omega]
  ·rw [if_neg g1]
   by_cases g2:c = 0
   ·rw [if_pos g2]
    by_cases h0:z < 0
    ·have hw:Fw z:=⟨by omega,by omega⟩
     rw [if_pos (decide_eq_true h0),e,aa,aa,if_pos hw,neg h0 hw]
    ·rw [if_neg (by simpa using h0),aa,if_neg fun h:Fw z=>by have:=h.2; omega]
   ·rw [if_neg g2]
    by_cases h0:z < 0
    ·have hw:Fw z:=⟨by omega,by omega⟩
     rw [if_pos (decide_eq_true h0),e,aa,aa,if_pos hw,neg h0 hw]
    ·have hw:Fw z:=⟨by omega,by omega⟩
     rw [if_neg (by simpa using h0),aa,if_pos hw]
     rw [show t = Wg z from jN (by rw [Int.emod_eq_of_lt (by omega) (by have:=hw.2; omega)]; omega)]
end Go.Proofs.YtibdeoeglcngoaaGreatDoor
namespace Go.Proofs.YtibdeoeglcngoaaGreatDoor
open Go
set_option maxRecDepth 8000
def Sg (q:Rat):Ta:=⟨Wg q.num,Wg q.den⟩
def FQ (q:Rat):Prop:=Fw q.num/\Fw (q.den:Int)
def noS:Ta:=⟨(0,0,0,0,0,0,0,0),(0,0,0,0,0,0,0,0)⟩
theorem Fw.fit {z:Int} (h:Fw z):Fit 8 z:=by
 have h1:=ea
 have h2:=ct
 unfold Fit
 show z.natAbs < FB
 have:=h.1
 have:=h.2
 omega
theorem FQ.n {q:Rat} (h:FQ q):Fit 8 q.num:=h.1.fit
theorem FQ.d {q:Rat} (h:FQ q):Fit 8 (q.den:Int):=h.2.fit
theorem FQ.ndnz {q:Rat}:(q.den:Int) ≠ 0:=by have:=q.den_pos; omega
theorem W8_Wg {z:Int} (h:Sm z):W8 z = Wg z:=by
 have hp:9223372036854775808 <= HB:=by unfold HB; decide
 have hf:=ea
 refine jN ?_
 unfold W8
 by_cases h0:z < 0
 ·have e5:z % (FB:Int) = z + FB:=by
   rw [<- Int.add_emod_right]
   exact Int.emod_eq_of_lt (by unfold Sm at h; omega) (by omega)
  rw [if_pos h0,e5]
  have hv:val (wv ((ac z,18446744073709551615,18446744073709551615,18446744073709551615,18446744073709551615,18446744073709551615,18446744073709551615,18446744073709551615):T8)) = (ac z).toNat + 18446744073709551616 * val [18446744073709551615,18446744073709551615,18446744073709551615,18446744073709551615,18446744073709551615,18446744073709551615,18446744073709551615]:=rfl
  have hc:18446744073709551616 * val [18446744073709551615,18446744073709551615,18446744073709551615,18446744073709551615,18446744073709551615,18446744073709551615,18446744073709551615] + 18446744073709551616 = FB:=by decide
  rw [hv,eD h h0]
  unfold Sm at h
  omega
 ·rw [if_neg h0,Int.emod_eq_of_lt (by omega) (by unfold Sm at h; omega)]
  have hv:val (wv ((ac z,0,0,0,0,0,0,0):T8)) = (ac z).toNat:=by unfold wv; simp [val]
  rw [hv,ep h h0,bT h.w]
  omega
theorem Sh_Sg {q:Rat} (h1:Sm q.num) (h2:Sm (q.den:Int)):Sh q = Sg q:=by unfold Sh Sg; rw [W8_Wg h1,W8_Wg h2]
theorem Wg_inj {x y:Int} (hx:Fw x) (hy:Fw y) (e:Wg x = Wg y):x = y:=by
 have h1:=eR x
 have h2:=eR y
 rw [e,h2] at h1
 have hf:=ea
 have hp:=ct
 have a:=hx.1; have b:=hx.2; have c:=hy.1; have d:=hy.2
 have e3:=Int.emod_eq_emod_iff_emod_sub_eq_zero.1 h1
 obtain ⟨k,hk⟩:=Int.dvd_of_emod_eq_zero e3
 by_cases k0:k = 0
 ·rw [k0,Int.mul_zero] at hk; omega
 ·by_cases kp:1 <= k
  ·have:(FB:Int) * 1 <= FB * k:=Int.mul_le_mul_of_nonneg_left kp (by omega)
   omega
  ·have:(FB:Int) * k <= FB * (-1):=Int.mul_le_mul_of_nonneg_left (show k <= -1 by omega) (by omega)
   omega
theorem cm (n:Nat) (q:Rat) (h:FQ q) (hn:10 < n):aE_p n (Sg q) = some (Rt q):=by
 unfold aE_p
 rw [show (Sg q).fN = Wg q.num from rfl,show (Sg q).fD = Wg q.den from rfl,jy n _ h.1 hn,aa,jy n _ h.2 hn,aa]
 rfl
open Classical in
theorem rtoldG (n:Nat) (q:Rat) (hn:10 < n):aY_p n (Rt q) = some (if FQ q then (Sg q,0) else (noS,6)):=by
 unfold aY_p
 rw [show (Rt q).fx = L q.num from rfl,show (Rt q).ft = L q.den from rfl,toldG n _ hn,aa,toldG n _ hn,aa]
 by_cases h1:Fw q.num
 ·by_cases h2:Fw (q.den:Int)
  ·rw [if_pos h1,if_pos h2,if_pos (show FQ q from ⟨h1,h2⟩)]
   rfl
  ·rw [if_pos h1,if_neg h2,if_neg fun h:FQ q=>h2 h.2]
   rfl
 ·rw [if_neg h1,if_neg fun h:FQ q=>h1 h.1]
  rfl
theorem checkG (n:Nat) (q:Rat) (h:FQ q) (hn:18446744073709551616 < n):ct_p n (Sg q) = some 0:=by
 have hd:=q.den_pos
 unfold ct_p
 rw [from_ok n 1 (by unfold Sm; decide) (by omega),aa,cm n q h (by omega),aa,show (Rt q).fx = L q.num from rfl,show (Rt q).ft = L q.den from rfl,gD,aa,Int.sign_eq_one_of_pos (by omega),if_neg (by decide)]
 rw [kb n 8 _ _ h.n h.d (by decide) hn,aa,show Nat.gcd q.num.natAbs (q.den:Int).natAbs = 1 from q.reduced]
 unfold bT_p
 rw [iv n 1 _ _ (by unfold Fit; decide) (by unfold Fit; decide) (by omega) (by omega),aa,gD]
 rfl
theorem valid1G (n:Nat) (q:Rat) (h:FQ q) (hn:18446744073709551616 < n):cm_p n (Sg q) = some true:=by
 unfold cm_p; rw [checkG n q h hn]; rfl
theorem validG (n:Nat) (l:List Rat) (h:∀ q ∈ l,FQ q) (hl:l.length < n) (hn:18446744073709551616 < n):aK_p n (l.map Sg) = some true:=by
 have hh:=ar (B:=aK_l1 n (l.map Sg)) (fun i:Nat=>l.length - i) (fun i=>i <= l.length) (fun r=>r = .inr ()) ?_ n 0 (Nat.zero_le _) (by simpa using hl)
 ·obtain ⟨r,e,rfl⟩:=hh
  unfold aK_p
  rw [e]; rfl
 ·intro i J hi hJ
  unfold aK_l1
  simp only
  by_cases h0:i < l.length
  ·rw [if_pos (by simpa using h0),geE (by simpa using h0),aa,List.getElem_map]
   rw [valid1G n _ (h l[i] (List.getElem_mem _)) hn,aa,if_pos rfl]
   exact hJ (i + 1) h0 (by omega)
  ·rw [if_neg (by simpa using h0)]
   exact ⟨_,rfl,rfl⟩
theorem eF (n:Nat) (a b:Rat) (ha:FQ a) (hb:FQ b) (hn:18446744073709551616 < n):aK_p n [Sg a,Sg b] = some true:=
 validG n [a,b] (fun q hq=>by
  rcases List.mem_cons.1 hq with rfl | hq
  ·exact ha
  ·rw [List.mem_singleton.1 hq]; exact hb) (by simp only [leC,leN]; omega) hn
theorem Fit.mul {l m:Nat} {a b:Int} (ha:Fit l a) (hb:Fit m b):Fit (l + m) (a * b):=by
 unfold Fit at *
 rw [Int.natAbs_mul,Nat.pow_add]
 exact Nat.mul_lt_mul'' ha hb
theorem Fit.add {l:Nat} {a b:Int} (ha:Fit l a) (hb:Fit l b):Fit (l + 1) (a + b):=by
 unfold Fit at *
 have:2 * 18446744073709551616 ^ l <= 18446744073709551616 ^ (l + 1):=by rw [Nat.pow_succ,Nat.mul_comm]; exact Nat.mul_le_mul_left _ (by decide)
 omega
theorem Fit.mono {l m:Nat} {a:Int} (ha:Fit l a) (h:l <= m):Fit m a:=Nat.lt_of_lt_of_le ha (Nat.pow_le_pow_right (by decide) h)
structure RF (l:Nat) (q:Rat):Prop where
 n:Fit l q.num
 d:Fit l (q.den:Int)
theorem FQ.rf {q:Rat} (h:FQ q):RF 8 q:=⟨h.n,h.d⟩
theorem RF.of {l:Nat} {a b:Int} (ha:Fit l a) (hb:Fit l b) (h1:(Rat.divInt a b).num.natAbs <= a.natAbs) (h2:(Rat.divInt a b).den <= b.natAbs):RF l (Rat.divInt a b):=
 ⟨Nat.lt_of_le_of_lt h1 ha,by unfold Fit; rw [Int.natAbs_natCast]; exact Nat.lt_of_le_of_lt h2 hb⟩
theorem plusG (n l:Nat) (a b:Rat) (ha:RF l a) (hb:RF l b) (hl:l < 1000) (hn:18446744073709551616 < n):bB_p n (Rt a) (Rt b) = some (Rt (a + b))/\RF (l + l + 1) (a + b):=by
 have d0:(a.den:Int) * b.den ≠ 0:=Int.mul_ne_zero FQ.ndnz FQ.ndnz
 have e:a + b = Rat.divInt (a.num * b.den + b.num * a.den) (a.den * b.den):=by
  conv=>lhs; rw [<- Rat.num_divInt_den a,<- Rat.num_divInt_den b]
  exact Rat.divInt_add_divInt _ _ FQ.ndnz FQ.ndnz
 have f1:=(ha.n.mul hb.d).add (hb.n.mul ha.d)
 have f2:=(ha.d.mul hb.d).mono (show l + l <= l + l + 1 by omega)
 obtain ⟨e1,e2,e3⟩:=jV n (l + l + 1) _ _ f1 f2 d0 (by omega) hn
 rw [<- e] at e1 e2 e3
 refine ⟨?_,?_⟩
 ·unfold bB_p Rt
  rw [bQ n l l _ _ ha.n hb.d (by omega) (by omega),aa,bQ n l l _ _ hb.n ha.d (by omega) (by omega),aa,cV n (l + l) _ _ (ha.n.mul hb.d) (hb.n.mul ha.d) (by omega) (by omega),aa,bQ n l l _ _ ha.d hb.d (by omega) (by omega),aa,e1]
  rfl
 ·rw [e]; rw [e] at e2 e3; exact RF.of f1 f2 e2 e3
theorem overG (n l:Nat) (a b:Rat) (ha:RF l a) (hb:RF l b) (h0:b ≠ 0) (hl:l < 1000) (hn:18446744073709551616 < n):bC_p n (Rt a) (Rt b) = some (Rt (a / b))/\RF (l + l) (a / b):=by
 have b0:b.num ≠ 0:=fun e=>h0 (Rat.num_eq_zero.1 e)
 have d0:(a.den:Int) * b.num ≠ 0:=Int.mul_ne_zero FQ.ndnz b0
 have e:a / b = Rat.divInt (a.num * b.den) (a.den * b.num):=by
  conv=>lhs; rw [Rat.div_def,<- Rat.num_divInt_den a,<- Rat.num_divInt_den b,Rat.inv_divInt]
  exact Rat.divInt_mul_divInt _ _
 have f1:=ha.n.mul hb.d
 have f2:=ha.d.mul hb.n
 obtain ⟨e1,e2,e3⟩:=jV n (l + l) _ _ f1 f2 d0 (by omega) hn
 rw [<- e] at e1 e2 e3
 refine ⟨?_,?_⟩
 ·unfold bC_p Rt
  rw [bQ n l l _ _ ha.n hb.d (by omega) (by omega),aa,bQ n l l _ _ ha.d hb.n (by omega) (by omega),aa,e1]
  rfl
 ·rw [e]; rw [e] at e2 e3; exact RF.of f1 f2 e2 e3
theorem RF.neg {l:Nat} {q:Rat} (h:RF l q):RF l (-q):=⟨by rw [Rat.neg_num]; exact h.n.neg,by rw [Rat.neg_den]; exact h.d⟩
theorem turnedG (n l:Nat) (a:Rat) (ha:RF l a) (hl:l < 1000) (hn:18446744073709551616 < n):bI_p n (Rt a) = some (Rt (-a)):=by
 unfold bI_p Rt
 rw [bJ n l _ ha.n (by omega) (by omega),aa,Rat.neg_num,Rat.neg_den]
open Classical in
theorem iR (n:Nat) (q:Rat) (hn:10 < n):aS_p n (Rt q) 0 = some (if FQ q then (Sg q,0) else (noS,6)):=by
 unfold aS_p
 rw [if_pos rfl,rtoldG n q hn]
 rfl
open Classical in
theorem addG (n:Nat) (a b:Rat) (ha:FQ a) (hb:FQ b) (hn:18446744073709551616 < n):cr_p n (Sg a) (Sg b) = some (if FQ (a + b) then (Sg (a + b),0) else (noS,6)):=by
 obtain ⟨e1,_⟩:=plusG n 8 a b ha.rf hb.rf (by decide) hn
 unfold cr_p
 rw [eF n a b ha hb hn,aa,if_pos rfl,cm n a ha (by omega),aa,cm n b hb (by omega),aa,e1,aa,iR n _ (by omega)]
 rfl
open Classical in
theorem subG (n:Nat) (a b:Rat) (ha:FQ a) (hb:FQ b) (hn:18446744073709551616 < n):cx_p n (Sg a) (Sg b) = some (if FQ (a - b) then (Sg (a - b),0) else (noS,6)):=by
 obtain ⟨e1,_⟩:=plusG n 8 a (-b) ha.rf hb.rf.neg (by decide) hn
 rw [<- Rat.sub_eq_add_neg] at e1
 unfold cx_p
 rw [eF n a b ha hb hn,aa,if_pos rfl,cm n a ha (by omega),aa,cm n b hb (by omega),aa]
 unfold bW_p
 rw [turnedG n 8 b hb.rf (by decide) hn,aa,e1,aa,aa,iR n _ (by omega)]
 rfl
theorem Wg_zero:Wg 0 = (0,0,0,0,0,0,0,0):=(jN (by decide)).symm
open Classical in
theorem divG (n:Nat) (a b:Rat) (ha:FQ a) (hb:FQ b) (h0:b ≠ 0) (hn:18446744073709551616 < n):cy_p n (Sg a) (Sg b) = some (if FQ (a / b) then (Sg (a / b),0) else (noS,6)):=by
 obtain ⟨e1,_⟩:=overG n 8 a b ha.rf hb.rf h0 (by decide) hn
 have hz:Fw 0:=⟨by have:=ct; omega,by have:=ct; omega⟩
 unfold cy_p
 rw [eF n a b ha hb hn,aa,if_pos rfl,if_neg (show ¬ (Sg b).fN = (0,0,0,0,0,0,0,0) from fun e=>h0 (Rat.num_eq_zero.1 (Wg_inj hb.1 hz (e.trans Wg_zero.symm)))),aa,if_pos rfl,cm n a ha (by omega),aa,cm n b hb (by omega),aa,e1,aa,iR n _ (by omega)]
 rfl
end Go.Proofs.YtibdeoeglcngoaaGreatDoor
namespace Go.Proofs.YtibdeoeglcngoaaGreatDoor
open Go
set_option maxRecDepth 8000
theorem div_num {a b:Int} (hb:b ≠ 0):(Rat.divInt a b).num * b = a * (Rat.divInt a b).den:=by
 have h:=Rat.num_divInt_den (Rat.divInt a b)
 exact (Rat.divInt_eq_divInt_iff FQ.ndnz hb).1 h
theorem kU {a b:Int} (hb:b ≠ 0):(Rat.divInt a b).num.natAbs <= a.natAbs/\(Rat.divInt a b).den <= b.natAbs:=by
 have h:=congrArg Int.natAbs (div_num (a:=a) hb)
 rw [Int.natAbs_mul,Int.natAbs_mul,Int.natAbs_natCast] at h
 have hc:=(Rat.divInt a b).reduced
 have hd:=(Rat.divInt a b).den_pos
 generalize (Rat.divInt a b).num.natAbs = x at *
 generalize (Rat.divInt a b).den = y at *
 have hbp:0 < b.natAbs:=by omega
 constructor
 ·by_cases h0:a.natAbs = 0
  ·rw [h0,Nat.zero_mul] at h
   rcases Nat.mul_eq_zero.1 h with h1 | h1
   ·omega
   ·omega
  ·exact Nat.le_of_dvd (by omega) (hc.dvd_of_dvd_mul_right (by rw [<- h]; exact Nat.dvd_mul_right ..))
 ·exact Nat.le_of_dvd hbp (hc.symm.dvd_of_dvd_mul_left (by rw [h]; exact Nat.dvd_mul_left ..))
def Bt (i j:Nat) (q:Rat):Prop:=q.num.natAbs < 2 ^ i/\q.den < 2 ^ j
theorem Bt.mono {i j i' j' : Nat} {q:Rat} (h:Bt i j q) (hi:i <= i') (hj:j <= j'):Bt i' j' q:=⟨Nat.lt_of_lt_of_le h.1 (Nat.pow_le_pow_right (by decide) hi),Nat.lt_of_lt_of_le h.2 (Nat.pow_le_pow_right (by decide) hj)⟩
theorem hb_pow (w:Nat):9223372036854775808 * 18446744073709551616 ^ w = 2 ^ (63 + 64 * w):=by
 rw [Nat.pow_add,<- cZ]
def hbl:Nat:=511
theorem hb_pow' {w l:Nat} (h:l = 63 + 64 * w):9223372036854775808 * 18446744073709551616 ^ w = 2 ^ l:=by subst h; exact hb_pow w
theorem lZ:HB = 2 ^ hbl:=hb_pow' (w:=7) (l:=hbl) rfl
theorem Bt.fq {i j:Nat} {q:Rat} (h:Bt i j q) (hi:i <= 500) (hj:j <= 500):FQ q:=by
 have e:hbl = 511:=rfl
 have h1:2 ^ i <= HB:=by rw [lZ]; exact Nat.pow_le_pow_right (by decide) (by omega)
 have h2:2 ^ j <= HB:=by rw [lZ]; exact Nat.pow_le_pow_right (by decide) (by omega)
 have h3:=h.1
 have h4:=h.2
 exact ⟨⟨by omega,by omega⟩,⟨by omega,by omega⟩⟩
theorem Bt.of {i j:Nat} {a b:Int} (hb:b ≠ 0) (h1:a.natAbs < 2 ^ i) (h2:b.natAbs < 2 ^ j):Bt i j (Rat.divInt a b):=by
 obtain ⟨d1,d2⟩:=kU (a:=a) hb
 exact ⟨by omega,by omega⟩
theorem dz {a b i j:Nat} (ha:a < 2 ^ i) (hb:b < 2 ^ j):a * b < 2 ^ (i + j):=by
 rw [Nat.pow_add]; exact Nat.mul_lt_mul'' ha hb
theorem Bt.div {i1 j1 i2 j2:Nat} {a b:Rat} (ha:Bt i1 j1 a) (hb:Bt i2 j2 b) (h0:b ≠ 0):Bt (i1 + j2) (j1 + i2) (a / b):=by
 have b0:b.num ≠ 0:=fun e=>h0 (Rat.num_eq_zero.1 e)
 have d0:(a.den:Int) * b.num ≠ 0:=Int.mul_ne_zero FQ.ndnz b0
 have e:a / b = Rat.divInt (a.num * b.den) (a.den * b.num):=by
  conv=>lhs; rw [Rat.div_def,<- Rat.num_divInt_den a,<- Rat.num_divInt_den b,Rat.inv_divInt]
  exact Rat.divInt_mul_divInt _ _
 rw [e]
 exact Bt.of d0 (by rw [Int.natAbs_mul,Int.natAbs_natCast]; exact dz ha.1 hb.2) (by rw [Int.natAbs_mul,Int.natAbs_natCast]; exact dz ha.2 hb.1)
theorem Bt.add {i1 j1 i2 j2 i:Nat} {a b:Rat} (ha:Bt i1 j1 a) (hb:Bt i2 j2 b) (h1:i1 + j2 + 1 <= i) (h2:i2 + j1 + 1 <= i):Bt i (j1 + j2) (a + b):=by
 have d0:(a.den:Int) * b.den ≠ 0:=Int.mul_ne_zero FQ.ndnz FQ.ndnz
 have e:a + b = Rat.divInt (a.num * b.den + b.num * a.den) (a.den * b.den):=by
  conv=>lhs; rw [<- Rat.num_divInt_den a,<- Rat.num_divInt_den b]
  exact Rat.divInt_add_divInt _ _ FQ.ndnz FQ.ndnz
 have m1:(a.num * b.den).natAbs < 2 ^ (i1 + j2):=by rw [Int.natAbs_mul,Int.natAbs_natCast]; exact dz ha.1 hb.2
 have m2:(b.num * a.den).natAbs < 2 ^ (i2 + j1):=by rw [Int.natAbs_mul,Int.natAbs_natCast]; exact dz hb.1 ha.2
 have p1:2 ^ (i1 + j2) <= 2 ^ (i - 1):=Nat.pow_le_pow_right (by decide) (by omega)
 have p2:2 ^ (i2 + j1) <= 2 ^ (i - 1):=Nat.pow_le_pow_right (by decide) (by omega)
 have p3:2 ^ i = 2 * 2 ^ (i - 1):=by rw [<- Nat.pow_succ']; congr 1; omega
 rw [e]
 exact Bt.of d0 (by omega) (by rw [Int.natAbs_mul,Int.natAbs_natCast,Int.natAbs_natCast]; exact dz ha.2 hb.2)
theorem Bt.neg {i j:Nat} {q:Rat} (h:Bt i j q):Bt i j (-q):=⟨by rw [Rat.neg_num,Int.natAbs_neg]; exact h.1,by rw [Rat.neg_den]; exact h.2⟩
theorem Bt.sub {i1 j1 i2 j2 i:Nat} {a b:Rat} (ha:Bt i1 j1 a) (hb:Bt i2 j2 b) (h1:i1 + j2 + 1 <= i) (h2:i2 + j1 + 1 <= i):Bt i (j1 + j2) (a - b):=by
 rw [Rat.sub_eq_add_neg]; exact Bt.add ha hb.neg h1 h2
section
variable {n:Nat} {a b:Rat}
theorem add_q (ha:FQ a) (hb:FQ b) (h:FQ (a + b)) (hn:18446744073709551616 < n):cr_p n (Sg a) (Sg b) = some (Sg (a + b),0):=by rw [addG n a b ha hb hn,if_pos h]
theorem sub_q (ha:FQ a) (hb:FQ b) (h:FQ (a - b)) (hn:18446744073709551616 < n):cx_p n (Sg a) (Sg b) = some (Sg (a - b),0):=by rw [subG n a b ha hb hn,if_pos h]
theorem div_q (ha:FQ a) (hb:FQ b) (h0:b ≠ 0) (h:FQ (a / b)) (hn:18446744073709551616 < n):cy_p n (Sg a) (Sg b) = some (Sg (a / b),0):=by rw [divG n a b ha hb h0 hn,if_pos h]
end
end Go.Proofs.YtibdeoeglcngoaaGreatDoor
namespace Go.Proofs.YtibdeoeglcngoaaGreatDoor
open Go
set_option maxRecDepth 8000
theorem df:(18446744073709551616:Nat) < FU:=by decide
theorem of_sg {a b:Int} (ha:Sm a) (hb:Sm b) (h0:b ≠ 0):cu_p FU a b = some (Sg (Rat.divInt a b),0):=by
 have hd:=kU (a:=a) h0
 rw [iL FU a b ha hb h0 df,Sh_Sg (by unfold Sm at *; omega) (by unfold Sm at *; omega)]
theorem fqd {a b:Int} (h0:b ≠ 0) (ha:a.natAbs < 1152921504606846976) (hb:b.natAbs < 1152921504606846976):FQ (Rat.divInt a b):=
 (Bt.of (i:=60) (j:=60) h0 ha hb).fq (by decide) (by decide)
theorem cmpG {a b:Rat} (ha:FQ a) (hb:FQ b):cq_p FU (Sg a) (Sg b) = some ((a.num * b.den - b.num * a.den).sign,0):=by
 have hF:=df
 unfold cq_p
 rw [eF FU a b ha hb df,aa,if_pos rfl,cm FU a ha (by omega),aa,cm FU b hb (by omega),aa]
 unfold ce_p Rt
 rw [bQ FU 8 8 _ _ ha.n hb.d (by omega) (by omega),aa,bQ FU 8 8 _ _ hb.n ha.d (by omega) (by omega),aa]
 unfold bT_p
 rw [iv FU 16 _ _ (ha.n.mul hb.d) (hb.n.mul ha.d) (by omega) (by omega),aa,gD]
 rfl
theorem quoI_ok {x y:Int} (h:y ≠ 0) (h1:-9223372036854775808 <= x.tdiv y) (h2:x.tdiv y <= 9223372036854775807):cX x y = some (x.tdiv y):=by
 unfold cX; rw [if_neg h,aE h1 h2]
end Go.Proofs.YtibdeoeglcngoaaGreatDoor
namespace Go.Proofs.YtibdeoeglcngoaaGreatDoor
open Go
set_option maxRecDepth 8000
theorem exE {ε α β:Type} (x:ε) (f:α -> Option β) (g:ε -> Option β):exc (.error x) f g = g x:=rfl
theorem exO {ε α β:Type} (x:α) (f:α -> Option β) (g:ε -> Option β):exc (.ok x) f g = f x:=rfl
theorem jX {r:Tf} {us:List Tc} (hv:RV r) (h:Lnd r us) {i:Nat} (hi:i < us.length):∃ h2:i < r.fv.length,r.fv[i] = us[i]/\UV r us[i]:=by
 obtain ⟨ws,e,_⟩:=h.all
 have hi2:i < r.fv.length:=by rw [e,List.length_append]; omega
 have h1:=hv.u i hi2
 have e0:r.fv[i] = us[i]:=by simp only [e]; exact List.getElem_append_left hi
 rw [e0] at h1
 exact ⟨hi2,e0,h1⟩
theorem mE {α:Type} {l:List α} {i:Nat} {x:α} (h:l[i]? = some x):l.take (i + 1) = l.take i ++ [x]:=by
 obtain ⟨hi,rfl⟩:=List.getElem?_eq_some_iff.1 h
 exact List.take_succ_eq_append_getElem hi
def Vu (P:Nat) (u:Tc):Prop:=u.fVotes.length = P/\∀ x ∈ u.fVotes,0 <= x/\x <= 1000000000
theorem vu_of {r:Tf} {u:Tc} {P:Nat} (hP:r.fc = P) (h:UV r u):Vu P u:=by
 obtain ⟨w1,w2⟩:=h.2.2.2.1
 exact ⟨by omega,fun x hx=>by have:=w2 x hx; split at this <;> omega⟩
def dM (a b:List Int):List Int:=List.zipWith (· + ·) a b
theorem lR {a b:List Int} {P:Nat} (h1:a.length = P) (h2:b.length = P):(dM a b).length = P:=by unfold dM; rw [List.length_zipWith]; omega
def vd (us:List Tc) (p:List Int) (P:Nat) (d:Int):Nat -> List Int
 | 0=>List.replicate P 0
 | i + 1=>if p[i]? = some d then dM (vd us p P d i) ((us[i]?.map (·.fVotes)).getD []) else vd us p P d i
theorem kY {us:List Tc} {p:List Int} {P i:Nat} {d:Int} (h1:i < us.length) (h:p[i]? = some d):vd us p P d (i + 1) = dM (vd us p P d i) us[i].fVotes:=by
 show (if p[i]? = some d then dM (vd us p P d i) ((us[i]?.map (·.fVotes)).getD []) else vd us p P d i) = _
 rw [if_pos h,geE h1]; rfl
theorem vd_no {us:List Tc} {p:List Int} {P i:Nat} {d:Int} (h:p[i]? ≠ some d):vd us p P d (i + 1) = vd us p P d i:=by
 show (if p[i]? = some d then dM (vd us p P d i) ((us[i]?.map (·.fVotes)).getD []) else vd us p P d i) = _
 rw [if_neg h]
theorem jZ {us:List Tc} {P:Nat} (hU:∀ u ∈ us,Vu P u) (p:List Int) (d:Int):∀ i ≤ us.length,(vd us p P d i).length = P/\∀ x ∈ vd us p P d i,0 <= x/\x <= (i:Int) * 1000000000
 | 0,_=>⟨by simp [vd],fun x hx=>by rw [List.eq_of_mem_replicate hx]; omega⟩
 | i + 1,hi=>by
  obtain ⟨l1,l2⟩:=jZ hU p d i (by omega)
  have hu:=hU us[i] (List.getElem_mem _)
  by_cases h:p[i]? = some d
  ·rw [kY (by omega) h]
   refine ⟨lR l1 hu.1,fun x hx=>?_⟩
   obtain ⟨j,hj,rfl⟩:=List.getElem_of_mem hx
   unfold dM at hj ⊢
   rw [List.length_zipWith] at hj
   rw [List.getElem_zipWith]
   have h1:=l2 _ (List.getElem_mem (show j < (vd us p P d i).length by omega))
   have h2:=hu.2 _ (List.getElem_mem (show j < us[i].fVotes.length by omega))
   omega
  ·rw [vd_no h]
   exact ⟨l1,fun x hx=>by have:=l2 x hx; omega⟩
def vts (us:List Tc) (p:List Int) (P k i:Nat):List (List Int):=(List.range k).map fun d:Nat=>vd us p P (d:Int) i
theorem cT (us:List Tc) (p:List Int) (P k i:Nat):(vts us p P k i).length = k:=by unfold vts; simp
theorem eQ (us:List Tc) (p:List Int) (P:Nat) {k d:Nat} (i:Nat) (h:d < k):(vts us p P k i)[d]? = some (vd us p P (d:Int) i):=by
 unfold vts
 rw [List.getElem?_map,List.getElem?_range h]; rfl
def Part (a b row:List Int) (j:Nat):Prop:=row.length = a.length/\∀ c:Nat,c < a.length -> row[c]? = some ((a[c]?.getD 0) + if c < j then b[c]?.getD 0 else 0)
theorem Part.done {a b row:List Int} (h:Part a b row b.length) (hl:a.length = b.length):row = dM a b:=by
 apply List.ext_getElem?
 intro c
 unfold dM
 rw [List.getElem?_zipWith]
 by_cases hc:c < a.length
 ·rw [h.2 c hc,if_pos (by omega),geE hc,geE (show c < b.length by omega)]; rfl
 ·rw [List.getElem?_eq_none (by rw [h.1]; omega),List.getElem?_eq_none (show a.length <= c by omega)]
theorem Part.zero (a b:List Int):Part a b a 0:=⟨rfl,fun c hc=>by rw [if_neg (by omega),geE hc]; simp⟩
theorem Part.step {a b row:List Int} {j:Nat} (h:Part a b row j) (hj:j < a.length) (hb:j < b.length):Part a b (row.set j (a[j] + b[j])) (j + 1):=by
 refine ⟨by rw [List.length_set]; exact h.1,fun c hc=>?_⟩
 rw [List.getElem?_set]
 by_cases hjc:j = c
 ·subst hjc
  rw [if_pos rfl,if_pos (by rw [h.1]; exact hj),if_pos (by omega),geE hj,geE hb]; rfl
 ·rw [if_neg hjc,h.2 c hc]
  by_cases hlt:c < j
  ·rw [if_pos hlt,if_pos (by omega)]
  ·rw [if_neg hlt,if_neg (by omega)]
theorem Part.at {a b row:List Int} {j:Nat} (h:Part a b row j) (hj:j < a.length):row[j]? = some a[j]:=by
 rw [h.2 j hj,if_neg (by omega),geE hj]; simp
structure Cn (r:Tf) (us:List Tc) (p:List Int) (k P:Nat):Prop where
 v:RV r
 l:Lnd r us
 f:gt p us.length (k:Int)
 k1:1 <= k
 k8:k <= 8
 P:r.fc = P
theorem Cn.vu {r:Tf} {us:List Tc} {p:List Int} {k P:Nat} (h:Cn r us p k P):∀ u ∈ us,Vu P u:=fun u hu=>by
 obtain ⟨i,hi,rfl⟩:=List.getElem_of_mem hu
 obtain ⟨_,_,h1⟩:=jX h.v h.l hi
 exact vu_of h.P h1
theorem Cn.m {r:Tf} {us:List Tc} {p:List Int} {k P:Nat} (h:Cn r us p k P):us.length <= 64:=Nat.le_trans h.l.le h.v.n.2
theorem Cn.p12 {r:Tf} {us:List Tc} {p:List Int} {k P:Nat} (h:Cn r us p k P):P <= 12:=by have:=h.v.p; have:=h.P; omega
theorem Cn.at {r:Tf} {us:List Tc} {p:List Int} {k P:Nat} (h:Cn r us p k P) {i:Nat} (hi:i < p.length):∃ d:Nat,p[i] = (d:Int)/\d < k/\i < us.length:=by
 have hx:=h.f.2.1 p[i] (List.getElem_mem hi)
 have:=h.f.1
 exact ⟨p[i].toNat,by omega,by omega,by omega⟩
theorem row_ok {r:Tf} {us:List Tc} {p:List Int} {k P:Nat} (h:Cn r us p k P) {i d:Nat} (hi:i < us.length) (hd:d < k) (xs:List (List Int)) (hx:xs.length = k) (hrow:xs[d]? = some (vd us p P (d:Int) i)) :
  ap (aj_l1 FU us[i] (d:Int)) FU (0,xs) = some (xs.set d (dM (vd us p P (d:Int) i) us[i].fVotes)):=by
 have hF:=aU
 have hu:=h.vu us[i] (List.getElem_mem hi)
 have hm:=h.m; have hp:=h.p12
 obtain ⟨v1,v2⟩:=jZ h.vu p (d:Int) i (by omega)
 have hh:=ar (B:=aj_l1 FU us[i] (d:Int)) (fun s:Nat × List (List Int)=>P - s.1) (fun s=>s.1 <= P/\∃ row,s.2 = xs.set d row/\Part (vd us p P (d:Int) i) us[i].fVotes row s.1) (fun y=>y = xs.set d (dM (vd us p P (d:Int) i) us[i].fVotes)) ?_ FU (0,xs) ⟨Nat.zero_le _,vd us p P (d:Int) i,?_,.zero _ _⟩ (by simp only; omega)
 ·obtain ⟨y,e,rfl⟩:=hh; exact e
 ·rintro ⟨j,ys⟩ J ⟨a1,row,a2,a3⟩ hJ
  simp only at a1 a2 a3 hJ
  subst a2
  unfold aj_l1
  simp only
  by_cases hj:j < P
  ·have j1:j < us[i].fVotes.length:=by rw [hu.1]; exact hj
   have j2:j < (vd us p P (d:Int) i).length:=by omega
   have b1:=hu.2 _ (List.getElem_mem j1)
   have b2:=v2 _ (List.getElem_mem j2)
   have hr:=a3.at j2
   have hrl:=a3.1
   rw [if_pos j1,geE j1,aa,bE,List.getElem?_set,if_pos rfl,if_pos (by omega),aa,hr,aa,aE (by omega) (by omega),aa,aZ _ (by omega),aa,Int.toNat_natCast,List.set_set]
   exact hJ _ ⟨hj,_,rfl,a3.step j2 j1⟩ (by simp only; omega)
  ·rw [if_neg (by rw [hu.1]; exact hj)]
   have:j = us[i].fVotes.length:=by have:=hu.1; omega
   subst this
   exact ⟨_,rfl,by rw [a3.done (by rw [v1,hu.1])]⟩
 ·apply List.ext_getElem?
  intro c
  rw [List.getElem?_set]
  by_cases hc:d = c
  ·subst hc; rw [if_pos rfl,if_pos (by omega),hrow]
  ·rw [if_neg hc]
theorem mj {r:Tf} {us:List Tc} {p:List Int} {k P:Nat} (_h:Cn r us p k P) {i d:Nat} (hip:i < p.length) (hi:i < us.length) (hd:d < k) (e:p[i] = (d:Int)):vts us p P k (i + 1) = (vts us p P k i).set d (dM (vd us p P (d:Int) i) us[i].fVotes):=by
 apply List.ext_getElem?
 intro c
 rw [List.getElem?_set]
 have hpi:p[i]? = some (d:Int):=by rw [geE hip,e]
 by_cases hc:d = c
 ·subst hc
  rw [if_pos rfl,if_pos (by rw [cT]; exact hd),eQ _ _ _ _ hd,kY hi hpi]
 ·rw [if_neg hc]
  by_cases hck:c < k
  ·rw [eQ _ _ _ _ hck,eQ _ _ _ _ hck,vd_no (by rw [hpi]; intro hx; have:=Option.some.inj hx; omega)]
  ·rw [List.getElem?_eq_none (by rw [cT]; omega),List.getElem?_eq_none (by rw [cT]; omega)]
theorem lM {r:Tf} {us:List Tc} {p:List Int} {k P:Nat} (h:Cn r us p k P):aj_p FU ⟨r,p,(k:Int)⟩ = some (vts us p P k us.length):=by
 have hF:=aU
 have h8:=h.k8; have hm:=h.m; have hp:=h.p12; have hpl:=h.f.1
 unfold aj_p
 rw [show mk (k:Int) ([]:List Int) = some (List.replicate k []) from if_pos ⟨by omega,by omega⟩,aa]
 have hh:=ar (B:=aj_l3 FU (List.replicate k []) ⟨r,p,(k:Int)⟩) (fun s:Nat × List (List Int)=>k - s.1) (fun s=>s.1 <= k/\s.2.length = k/\∀ d:Nat,d < s.1 -> s.2[d]? = some (List.replicate P 0)) (fun y=>y = vts us p P k 0) ?_ FU (0,List.replicate k []) ⟨Nat.zero_le _,by simp,fun d hd=>by omega⟩ (by simp only; omega)
 ·obtain ⟨y,e,rfl⟩:=hh
  rw [e,aa]
  have hh:=ar (B:=aj_l2 FU ⟨r,p,(k:Int)⟩) (fun s:Nat × List (List Int)=>p.length - s.1) (fun s=>s.1 <= p.length/\s.2 = vts us p P k s.1) (fun y=>y = vts us p P k us.length) ?_ FU (0,vts us p P k 0) ⟨Nat.zero_le _,rfl⟩ (by simp only; omega)
  ·obtain ⟨y,e,rfl⟩:=hh
   rw [e]; rfl
  ·rintro ⟨i,xs⟩ J ⟨a1,a2⟩ hJ
   simp only at a1 a2 hJ
   subst a2
   unfold aj_l2
   simp only
   by_cases hip:i < p.length
   ·obtain ⟨d,e,hd,hi⟩:=h.at hip
    obtain ⟨u1,u2,_⟩:=jX h.v h.l hi
    rw [if_pos hip,geE hip,aa,geE u1,aa,u2,e,row_ok h hi hd _ (cT ..) (eQ _ _ _ _ hd),aa,<- mj h hip hi hd e]
    exact hJ _ ⟨hip,rfl⟩ (by simp only; omega)
   ·rw [if_neg hip]
    exact ⟨_,rfl,by rw [show i = us.length by omega]⟩
 ·rintro ⟨i,xs⟩ J ⟨a1,a2,a3⟩ hJ
  simp only at a1 a2 a3 hJ
  unfold aj_l3
  simp only
  by_cases hi:i < k
  ·rw [if_pos (by simpa using hi),h.P,cA _ _ (by omega),aa,geE (by omega),aa]
   refine hJ _ ⟨hi,by simp only [List.length_set]; exact a2,fun d hd=>?_⟩ (by simp only; omega)
   simp only at hd ⊢
   rw [List.getElem?_set]
   by_cases hid:i = d
   ·subst hid; rw [if_pos rfl,if_pos (by omega)]
   ·rw [if_neg hid]; exact a3 d (by omega)
  ·rw [if_neg (by simpa using hi)]
   refine ⟨xs,rfl,?_⟩
   apply List.ext_getElem?
   intro d
   by_cases hd:d < k
   ·rw [a3 d (by omega),eQ _ _ _ _ hd]; rfl
   ·rw [List.getElem?_eq_none (by omega),List.getElem?_eq_none (by rw [cT]; omega)]
def at0 (l:List Int) (x:Nat):Int:=l[x]?.getD 0
theorem jL {l:List Int} {x:Nat} (h:x < l.length):at0 l x = l[x]:=by unfold at0; rw [geE h]; rfl
def Tb (k P:Nat) (vs:List (List Int)):Prop:=vs.length = k/\∀ v ∈ vs,v.length = P
theorem Cn.tb {r:Tf} {us:List Tc} {p:List Int} {k P:Nat} (h:Cn r us p k P):Tb k P (vts us p P k us.length):=by
 refine ⟨cT ..,fun v hv=>?_⟩
 unfold vts at hv
 obtain ⟨d,_,rfl⟩:=List.mem_map.1 hv
 exact (jZ h.vu p (d:Int) us.length (Nat.le_refl _)).1
end Go.Proofs.YtibdeoeglcngoaaGreatDoor
namespace Go.Proofs.YtibdeoeglcngoaaGreatDoor
open Go
set_option maxRecDepth 8000
theorem iS {a b:Int} (ha:Sm a) (hb:Sm b) (h0:b ≠ 0):aZ_p FU a b = some (.ok (Sg (Rat.divInt a b))):=by
 unfold aZ_p
 rw [of_sg ha hb h0,aa]
 rfl
structure Vs (k P:Nat) (vs:List (List Int)):Prop where
 t:Tb k P vs
 k8:k <= 8
 p12:P <= 12
 b:∀ v ∈ vs,∀ x ∈ v,0 <= x/\x <= 64000000000
theorem Cn.vs {r:Tf} {us:List Tc} {p:List Int} {k P:Nat} (h:Cn r us p k P):Vs k P (vts us p P k us.length):=by
 refine ⟨h.tb,h.k8,h.p12,fun v hv x hx=>?_⟩
 unfold vts at hv
 obtain ⟨d,_,rfl⟩:=List.mem_map.1 hv
 have h1:=(jZ h.vu p (d:Int) us.length (Nat.le_refl _)).2 x hx
 have h2:=h.m
 omega
theorem Vs.at {k P:Nat} {vs:List (List Int)} (h:Vs k P vs) {i a:Nat} (hi:i < vs.length) (ha:a < P):∃ h2:a < vs[i].length,vs[i][a] = at0 vs[i] a/\0 <= at0 vs[i] a/\at0 vs[i] a <= 64000000000:=by
 have h1:=h.t.2 _ (List.getElem_mem hi)
 have h2:a < vs[i].length:=by omega
 have h3:=h.b _ (List.getElem_mem hi) _ (List.getElem_mem h2)
 exact ⟨h2,(jL h2).symm,by rw [jL h2]; exact h3⟩
def dl (a b:Nat) (vs:List (List Int)):List (Int × Int):=(vs.map fun v=>(at0 v a,at0 v b)).filter fun e=>!(decide (e.1 = 0/\e.2 = 0))
theorem my (a b:Nat) (vs:List (List Int)):(dl a b vs).length <= vs.length:=by
 unfold dl
 exact Nat.le_trans (List.length_filter_le _ _) (by simp)
theorem dl_next (a b:Nat) (vs:List (List Int)) {i:Nat} (hi:i < vs.length):dl a b (vs.take (i + 1)) = if at0 vs[i] a = 0/\at0 vs[i] b = 0 then dl a b (vs.take i) else dl a b (vs.take i) ++ [(at0 vs[i] a,at0 vs[i] b)]:=by
 unfold dl
 rw [List.take_succ_eq_append_getElem hi,List.map_append,List.filter_append]
 by_cases h:at0 vs[i] a = 0/\at0 vs[i] b = 0
 ·rw [if_pos h,List.map_cons,List.filter_cons_of_neg (by simp [h])]; simp
 ·rw [if_neg h,List.map_cons,List.filter_cons_of_pos (by rw [Bool.not_eq_true']; exact decide_eq_false h)]; simp
structure Dl (D:List (Int × Int)):Prop where
 n:D.length <= 8
 b:∀ e ∈ D,(0 <= e.1/\e.1 <= 64000000000)/\(0 <= e.2/\e.2 <= 64000000000)/\0 < e.1 + e.2
theorem lJ {k P:Nat} {vs:List (List Int)} (h:Vs k P vs) {a b:Nat} (ha:a < P) (hb:b < P):Dl (dl a b vs):=by
 refine ⟨Nat.le_trans (my a b vs) (by rw [h.t.1]; exact h.k8),fun e he=>?_⟩
 unfold dl at he
 obtain ⟨h1,h2⟩:=List.mem_filter.1 he
 obtain ⟨v,hv,rfl⟩:=List.mem_map.1 h1
 obtain ⟨i,hi,rfl⟩:=List.getElem_of_mem hv
 obtain ⟨_,_,a1,a2⟩:=h.at hi ha
 obtain ⟨_,_,b1,b2⟩:=h.at hi hb
 simp only [Bool.not_eq_true', decide_eq_false_iff_not] at h2
 simp only
 omega
theorem duelsP {k P:Nat} {vs:List (List Int)} (h:Vs k P vs) {a b:Nat} (ha:a < P) (hb:b < P):ap (aD_l1 FU vs (a:Int) (b:Int)) FU (0,[]) = some (dl a b vs):=by
 have hF:=aU
 have hl:=h.t.1; have h8:=h.k8
 have hh:=ar (B:=aD_l1 FU vs (a:Int) (b:Int)) (fun s:Nat × List (Int × Int)=>vs.length - s.1) (fun s=>s.1 <= vs.length/\s.2 = dl a b (vs.take s.1)) (fun y=>y = dl a b vs) ?_ FU (0,[]) ⟨Nat.zero_le _,by simp [dl]⟩ (by simp only; omega)
 ·obtain ⟨y,e,rfl⟩:=hh; exact e
 ·rintro ⟨i,xs⟩ J ⟨a1,a2⟩ hJ
  simp only at a1 a2 hJ
  subst a2
  unfold aD_l1 jn
  simp only
  by_cases hi:i < vs.length
  ·obtain ⟨u1,u2,_,_⟩:=h.at hi ha
   obtain ⟨v1,v2,_,_⟩:=h.at hi hb
   have hn:=dl_next a b vs hi
   have hdl:=my a b (vs.take i)
   rw [List.length_take] at hdl
   rw [if_pos hi,geE hi,aa,idxK u1,aa,idxK v1,aa,u2,v2]
   by_cases hc:at0 vs[i] a = 0/\at0 vs[i] b = 0
   ·rw [if_pos hc] at hn ⊢
    exact hJ _ ⟨hi,hn.symm⟩ (by simp only; omega)
   ·rw [if_neg hc] at hn ⊢
    rw [dO _ _ (by simp only [leC,leN]; omega),aa]
    exact hJ _ ⟨hi,hn.symm⟩ (by simp only; omega)
  ·rw [if_neg hi,List.take_of_length_le (by omega)]
   exact ⟨_,rfl,rfl⟩
theorem pfail (e:Int) (he:e ≠ 0):aL_p FU true e = some (.error ⟨e⟩):=by
 unfold aL_p ca_p
 rw [if_pos rfl,if_neg he,aa,exE]
theorem mA (e:Int):aL_p FU false e = some (.ok ()):=by
 unfold aL_p
 rw [if_neg (by decide)]
theorem duels_p {r:Tf} {us:List Tc} {p:List Int} {k P:Nat} (h:Cn r us p k P) (ho:bF_p FU r p (k:Int) = some (.ok ⟨r,p,(k:Int)⟩)) {a b:Nat} (ha:a < P) (hb:b < P) (hab:a ≠ b) :
  aD_p FU r p (k:Int) (a:Int) (b:Int) = some (if (dl a b (vts us p P k us.length)).length = 0 then .error ⟨7⟩ else .ok (dl a b (vts us p P k us.length))):=by
 unfold aD_p jn
 rw [ho,aa,exO]
 simp only
 rw [if_neg (by omega),h.P,if_neg (by omega),if_neg (by omega),if_neg (by omega),decide_eq_false (by omega),mA,aa,exO,lM h,aa,duelsP h.vs ha hb,aa]
 by_cases h0:(dl a b (vts us p P k us.length)).length = 0
 ·rw [decide_eq_true h0,pfail 7 (by decide),aa,exE,if_pos h0]
 ·rw [decide_eq_false h0,mA,aa,exO,if_neg h0]
def gn (D:List (Int × Int)):Nat -> Int × Int
 | 0=>(0,0)
 | i + 1=>match D[i]? with
  | some e=>((gn D i).1 + 2 * (e.1 - e.2) - (if e.2 < e.1 then e.1 + e.2 else if e.1 < e.2 then -(e.1 + e.2) else 0),(gn D i).2 + (e.1 + e.2))
  | none=>gn D i
theorem gy {D:List (Int × Int)} {i:Nat} (h:i < D.length):gn D (i + 1) = ((gn D i).1 + 2 * (D[i].1 - D[i].2) - (if D[i].2 < D[i].1 then D[i].1 + D[i].2 else if D[i].1 < D[i].2 then -(D[i].1 + D[i].2) else 0),(gn D i).2 + (D[i].1 + D[i].2)):=by
 show (match D[i]? with
  | some e=>((gn D i).1 + 2 * (e.1 - e.2) - (if e.2 < e.1 then e.1 + e.2 else if e.1 < e.2 then -(e.1 + e.2) else 0),(gn D i).2 + (e.1 + e.2))
  | none=>gn D i) = _
 rw [geE h]
theorem jH {D:List (Int × Int)} (h:Dl D):∀ i ≤ D.length,(-(i:Int) * 400000000000 <= (gn D i).1/\(gn D i).1 <= (i:Int) * 400000000000)/\((i:Int) <= (gn D i).2/\(gn D i).2 <= (i:Int) * 128000000000)
 | 0,_=>by simp [gn]
 | i + 1,hi=>by
  have ih:=jH h i (by omega)
  have hb:=h.b D[i] (List.getElem_mem _)
  rw [gy (by omega)]
  simp only
  split
  ·omega
  ·split <;> omega
theorem gapP {D:List (Int × Int)} (h:Dl D):ap (bE_l1 FU D) FU (0,0,0) = some ((gn D D.length).2,(gn D D.length).1):=by
 have hF:=aU
 have h8:=h.n
 have hh:=ar (B:=bE_l1 FU D) (fun s:Int × Int × Nat=>D.length - s.2.2) (fun s=>s.2.2 <= D.length/\s.1 = (gn D s.2.2).1/\s.2.1 = (gn D s.2.2).2) (fun y=>y = ((gn D D.length).2,(gn D D.length).1)) ?_ FU (0,0,0) ⟨Nat.zero_le _,rfl,rfl⟩ (by simp only; omega)
 ·obtain ⟨y,e,rfl⟩:=hh; exact e
 ·rintro ⟨z,y,i⟩ J ⟨a1,a2,a3⟩ hJ
  simp only at a1 a2 a3 hJ
  subst a2 a3
  unfold bE_l1 jn aW_p
  simp only
  by_cases hi:i < D.length
  ·have hb:=h.b _ (List.getElem_mem hi)
   have hg:=jH h i a1
   have hn:=gy hi
   rw [if_pos hi,geE hi,aa,aE (by omega) (by omega),aa,aE (by omega) (by omega),aa,aE (by omega) (by omega),aa,aE (x:=D[i].1 + D[i].2) (by omega) (by omega),aa]
   simp only [aa]
   by_cases c1:D[i].2 < D[i].1
   ·rw [if_pos c1] at hn ⊢
    rw [aE (by omega) (by omega),aa,aE (by omega) (by omega),aa]
    exact hJ _ ⟨hi,by simp only; rw [hn],by simp only; rw [hn]⟩ (by simp only; omega)
   ·rw [if_neg c1] at hn ⊢
    by_cases c2:D[i].1 < D[i].2
    ·rw [if_pos c2] at hn ⊢
     rw [aE (by omega) (by omega),aa,aE (by omega) (by omega),aa]
     exact hJ _ ⟨hi,by simp only; rw [hn]; simp only; omega,by simp only; rw [hn]⟩ (by simp only; omega)
    ·rw [if_neg c2] at hn ⊢
     rw [aE (by omega) (by omega),aa]
     exact hJ _ ⟨hi,by simp only; rw [hn]; simp only; omega,by simp only; rw [hn]⟩ (by simp only; omega)
  ·rw [if_neg hi]
   exact ⟨_,rfl,by rw [show i = D.length by omega]⟩
theorem gap_of {r:Tf} {p:List Int} {k:Nat} {a b:Int} {D:List (Int × Int)} (hD:Dl D) (h0:0 < D.length) (e:aD_p FU r p (k:Int) a b = some (.ok D)):bA_p FU r p (k:Int) a b = some (Sg (Rat.divInt (gn D D.length).1 (2 * (gn D D.length).2)),0):=by
 have hg:=jH hD D.length (Nat.le_refl _)
 have h8:=hD.n
 unfold bA_p bE_p
 rw [e,aa,exO,gapP hD,aa]
 simp only
 rw [aE (by omega) (by omega),aa,iS (by unfold Sm; omega) (by unfold Sm; omega) (by omega),aa,exO,aa,exO]
end Go.Proofs.YtibdeoeglcngoaaGreatDoor
namespace Go.Proofs.YtibdeoeglcngoaaGreatDoor
open Go
set_option maxRecDepth 8000
theorem thnR {α β:Type} (x:α) (K:α -> Option β):thn (some (.inr x:β ⊕ α)) K = K x:=rfl
theorem sgn_neg (z:Int):z.sign < 0 ↔ z < 0:=by
 rcases Int.lt_trichotomy z 0 with h | h | h
 ·rw [Int.sign_eq_neg_one_of_neg h]; omega
 ·rw [h]; decide
 ·rw [Int.sign_eq_one_of_pos h]; omega
def sc (a b:Rat):Int:=(a.num * b.den - b.num * a.den).sign
theorem gX (a b:Rat):sc a b < 0 ↔ ¬ b <= a:=by
 unfold sc
 rw [sgn_neg,Rat.le_iff]
 omega
theorem jO (a b:Rat):-1 <= sc a b/\sc a b <= 1:=by
 unfold sc
 rcases Int.lt_trichotomy (a.num * b.den - b.num * a.den) 0 with h | h | h
 ·rw [Int.sign_eq_neg_one_of_neg h]; decide
 ·rw [h]; decide
 ·rw [Int.sign_eq_one_of_pos h]; decide
theorem cmp_p {a b:Rat} (ha:FQ a) (hb:FQ b):bU_p FU (Sg a) (Sg b) = some (.ok (sc a b)):=by
 unfold bU_p bt_p
 rw [cmpG ha hb,aa,if_pos rfl,aa,exO]
 rfl
def lD (q:List Rat) (n:Nat):Prop:=∀ (i j:Nat) a b,i < j -> j < n -> q[i]? = some a -> q[j]? = some b -> a <= b
theorem down_ok (q0:List Rat) (hq:∀ x ∈ q0,FQ x) (z:Nat) (hz:z < q0.length) (h12:q0.length <= 12) (hs:lD q0 z) :
  ∃ q:List Rat,ap (ab_l1 FU 0) FU ((z:Int),q0.map Sg) = some (.inr (q.map Sg))/\q.length = q0.length/\q.Perm q0/\lD q (z + 1):=by
 have hF:=aU
 have hh:=ar (B:=ab_l1 FU 0) (fun s=>s.1.toNat) (fun s=>∃ (k:Nat) (q:List Rat),s.1 = (k:Int)/\s.2 = q.map Sg/\k <= z/\q.length = q0.length/\q.Perm q0/\(∀ (i j:Nat) a b,i < j -> j < z + 1 -> i ≠ k -> j ≠ k -> q[i]? = some a -> q[j]? = some b -> a <= b)/\(∀ (j:Nat) a b,k < j -> j < z + 1 -> q[k]? = some a -> q[j]? = some b -> a <= b))
  (fun y=>∃ q:List Rat,y = .inr (q.map Sg)/\q.length = q0.length/\q.Perm q0/\lD q (z + 1)) ?_ FU ((z:Int),q0.map Sg) ⟨z,q0,rfl,rfl,Nat.le_refl _,rfl,List.Perm.refl _,fun i j a b h1 h2 h3 h4 h5 h6=>hs i j a b h1 (by omega) h5 h6,fun j a b h1 h2=>by omega⟩ (by simp only [Int.toNat_natCast]; omega)
 ·obtain ⟨y,e,q,rfl,h1⟩:=hh; exact ⟨q,e,h1⟩
 ·rintro ⟨jz,xs⟩ J ⟨k,q,e1,e2,hk,hl,hp,h1,h2⟩ hJ
  simp only at e1 e2 hJ
  subst e1 e2
  unfold ab_l1
  simp only
  have whole:(∀ a b,0 < k -> q[k - 1]? = some a -> q[k]? = some b -> a <= b) -> lD q (z + 1):=fun hkk i j a b hij hj ha hb=>by
   by_cases hik:i = k
   ·subst hik; exact h2 j a b hij hj ha hb
   ·by_cases hjk:j = k
    ·subst hjk
     by_cases hi1:i = j - 1
     ·subst hi1; exact hkk a b (by omega) ha hb
     ·have hm:q[j - 1]? = some (q[j - 1]'(by omega)):=geE _
      exact Rat.le_trans (h1 i (j - 1) a _ (by omega) (by omega) hik (by omega) ha hm) (hkk _ b (by omega) hm hb)
    ·exact h1 i j a b hij hj hik hjk ha hb
  by_cases h0:(((0:Nat):Int)) < (k:Int)
  ·have hkl:k < q.length:=by omega
   have hk1:k - 1 < q.length:=by omega
   have f1:=hq _ (hp.mem_iff.1 (List.getElem_mem hkl))
   have f2:=hq _ (hp.mem_iff.1 (List.getElem_mem hk1))
   have g1:(q.map Sg)[k]? = some (Sg q[k]):=by rw [List.getElem?_map,geE hkl]; rfl
   have g2:(q.map Sg)[k - 1]? = some (Sg q[k - 1]):=by rw [List.getElem?_map,geE hk1]; rfl
   have ek:(k:Int) - 1 = ((k - 1:Nat):Int):=by omega
   rw [if_pos h0,bE,g1,aa,aE (by omega) (by omega),aa,ek,bE,g2,aa,cmp_p f1 f2,aa,exO]
   by_cases hlt:sc q[k] q[k - 1] < 0
   ·have hs1:((q.map Sg).set k (Sg q[k - 1])) = (q.set k q[k - 1]).map Sg:=List.map_set.symm
    have hs2:(((q.set k q[k - 1]).map Sg).set (k - 1) (Sg q[k])) = ((q.set k q[k - 1]).set (k - 1) q[k]).map Sg:=List.map_set.symm
    rw [if_pos hlt,aa,aa,bE,g2,aa,Int.toNat_natCast,aZ _ (by rw [List.length_map]; omega),aa,hs1,bE,List.getElem?_map,geE (show k - 1 < (q.set k q[k - 1]).length by rw [List.length_set]; omega),Option.map_some,aa,Int.toNat_natCast,aZ _ (by rw [List.length_map,List.length_set]; omega),aa,hs2,aa]
    have get:∀ (i:Nat),((q.set k q[k - 1]).set (k - 1) q[k])[i]? = if i = k - 1 then some q[k] else if i = k then some q[k - 1] else q[i]?:=fun i=>by
     rw [List.getElem?_set,List.getElem?_set]
     by_cases hp1:k - 1 = i
     ·rw [if_pos hp1,if_pos (show i = k - 1 from hp1.symm),if_pos (by rw [List.length_set]; omega)]
     ·rw [if_neg hp1,if_neg (show ¬ i = k - 1 from fun e=>hp1 e.symm)]
      by_cases hp2:k = i
      ·rw [if_pos hp2,if_pos (show i = k from hp2.symm),if_pos (by omega)]
      ·rw [if_neg hp2,if_neg (show ¬ i = k from fun e=>hp2 e.symm)]
    have hgk:q[k]? = some q[k]:=geE hkl
    have hgk1:q[k - 1]? = some q[k - 1]:=geE hk1
    refine hJ _ ⟨k - 1,_,rfl,rfl,by omega,by simp only [List.length_set]; exact hl,?_,fun i j a b hij hj hi1 hj1 ha hb=>?_,fun j a b hij hj ha hb=>?_⟩ (by simp only [Int.toNat_natCast]; omega)
    ·exact (List.set_set_perm (by omega) (by omega)).trans hp
    ·rw [get,if_neg hi1] at ha
     rw [get,if_neg hj1] at hb
     by_cases hik:i = k
     ·rw [if_pos hik] at ha
      rw [if_neg (by omega)] at hb
      cases ha
      exact h1 (k - 1) j _ b (by omega) hj (by omega) (by omega) hgk1 hb
     ·rw [if_neg hik] at ha
      by_cases hjk:j = k
      ·rw [if_pos hjk] at hb
       cases hb
       exact h1 i (k - 1) a _ (by omega) (by omega) hik (by omega) ha hgk1
      ·rw [if_neg hjk] at hb
       exact h1 i j a b hij hj hik hjk ha hb
    ·rw [get,if_pos rfl] at ha
     cases ha
     rw [get,if_neg (by omega)] at hb
     by_cases hjk:j = k
     ·rw [if_pos hjk] at hb
      cases hb
      have:=(gX _ _).1 hlt
      exact (Rat.le_total).resolve_left this
     ·rw [if_neg hjk] at hb
      exact h2 j _ b (by omega) hj hgk hb
   ·rw [if_neg hlt]
    refine ⟨_,rfl,q,rfl,hl,hp,whole fun a b _ ha hb=>?_⟩
    rw [geE (by omega)] at ha hb
    cases ha; cases hb
    exact Classical.byContradiction fun hc=>hlt ((gX _ _).2 hc)
  ·rw [if_neg h0]
   exact ⟨_,rfl,q,rfl,hl,hp,whole fun a b h=>by omega⟩
theorem sort_ok (q0:List Rat) (hq:∀ x ∈ q0,FQ x) (h12:q0.length <= 12):∃ q:List Rat,ap (ab_l2 FU q0.length 0) FU (1,q0.map Sg) = some (.inr (q.map Sg))/\q.Perm q0/\q.Pairwise (· <= ·):=by
 have hF:=aU
 have hh:=ar (B:=ab_l2 FU q0.length 0) (fun s=>13 - s.1.toNat) (fun s=>∃ (k:Nat) (q:List Rat),s.1 = (k:Int)/\s.2 = q.map Sg/\1 <= k/\(k <= q0.length ∨ k = 1)/\q.length = q0.length/\q.Perm q0/\lD q k)
  (fun y=>∃ q:List Rat,y = .inr (q.map Sg)/\q.Perm q0/\q.Pairwise (· <= ·)) ?_ FU (1,q0.map Sg) ⟨1,q0,rfl,rfl,by omega,.inr rfl,rfl,List.Perm.refl _,fun i j a b h1 h2=>by omega⟩ (by simp only; omega)
 ·obtain ⟨y,e,q,rfl,h1⟩:=hh; exact ⟨q,e,h1⟩
 ·rintro ⟨jz,xs⟩ J ⟨k,q,e1,e2,k1,hk,hl,hp,h2⟩ hJ
  simp only at e1 e2 hJ
  subst e1 e2
  unfold ab_l2 jn
  simp only
  by_cases hlt:(k:Int) < ((q0.length:Nat):Int)
  ·obtain ⟨q', y1,y2,y3,y4⟩:=down_ok q (fun x hx=>hq x (hp.mem_iff.1 hx)) k (by omega) (by omega) h2
   have nx:=hJ (((k + 1:Nat):Int),q'.map Sg) ⟨k + 1,q', rfl,rfl,by omega,.inl (by omega),by omega,y3.trans hp,y4⟩ (by simp only [Int.toNat_natCast]; omega)
   rw [if_pos hlt,y1,thnR,aE (by omega) (by omega),aa]
   exact nx
  ·rw [if_neg hlt]
   refine ⟨_,rfl,q,rfl,hp,List.pairwise_iff_getElem.2 fun i j hi hj hij=>?_⟩
   exact h2 i j _ _ hij (by omega) (geE hi) (geE hj)
def qe (e:Int × Int):Rat:=Rat.divInt e.1 (e.1 + e.2)
def qs (D:List (Int × Int)):List Rat:=D.map qe
theorem qe_bt {D:List (Int × Int)} (h:Dl D) {e:Int × Int} (he:e ∈ D):Bt 36 37 (qe e):=by
 have:=h.b e he
 exact Bt.of (by omega) (by omega) (by omega)
theorem qs_bt {D:List (Int × Int)} (h:Dl D):∀ x ∈ qs D,Bt 36 37 x:=fun x hx=>by
 obtain ⟨e,he,rfl⟩:=List.mem_map.1 hx
 exact qe_bt h he
theorem qs_fq {D:List (Int × Int)} (h:Dl D):∀ x ∈ qs D,FQ x:=fun x hx=>(qs_bt h x hx).fq (by decide) (by decide)
theorem listP {D:List (Int × Int)} (h:Dl D):ap (ab_l4 FU D) FU (0,[]) = some (.inr ((qs D).map Sg)):=by
 have hF:=aU
 have h8:=h.n
 have hh:=ar (B:=ab_l4 FU D) (fun s:Nat × List Ta=>D.length - s.1) (fun s=>s.1 <= D.length/\s.2 = ((qs D).map Sg).take s.1) (fun y=>y = .inr ((qs D).map Sg)) ?_ FU (0,[]) ⟨Nat.zero_le _,by simp⟩ (by simp only; omega)
 ·obtain ⟨y,e,rfl⟩:=hh; exact e
 ·rintro ⟨i,xs⟩ J ⟨a1,a2⟩ hJ
  simp only at a1 a2 hJ
  subst a2
  unfold ab_l4 bR_p aW_p
  simp only
  by_cases hi:i < D.length
  ·have hb:=h.b _ (List.getElem_mem hi)
   have hx:((qs D).map Sg)[i]? = some (Sg (qe D[i])):=by unfold qs; rw [List.getElem?_map,List.getElem?_map,geE hi]; rfl
   rw [if_pos hi,geE hi,aa,aE (by omega) (by omega),aa,aa,iS (by unfold Sm; omega) (by unfold Sm; omega) (by omega),aa,exO,aa,exO,dO _ _ (by simp only [List.length_take,leC,leN]; omega),aa]
   exact hJ _ ⟨hi,(mE hx).symm⟩ (by simp only; omega)
  ·rw [if_neg hi,List.take_of_length_le (by unfold qs; rw [List.length_map,List.length_map]; omega)]
   exact ⟨_,rfl,rfl⟩
theorem lens64 (k:Nat):∃ y,ck_p FU (ac ((k:Nat):Int)) = some y:=by
 unfold ck_p
 rw [iA]; exact ⟨_,rfl⟩
theorem kO {r:Tf} {p:List Int} {k:Nat} {a b:Int} {D:List (Int × Int)} (hD:Dl D) (e:aD_p FU r p (k:Int) a b = some (.ok D)):∃ q:List Rat,ab_p FU r p (k:Int) a b = some (.ok (q.map Sg))/\q.Perm (qs D)/\q.Pairwise (· <= ·):=by
 have h8:=hD.n
 have hql:(qs D).length = D.length:=by unfold qs; simp
 obtain ⟨q,q1,q2,q3⟩:=sort_ok (qs D) (qs_fq hD) (by omega)
 obtain ⟨y,y1⟩:=lens64 ((qs D).map Sg).length
 refine ⟨q,?_,q2,q3⟩
 unfold ab_p
 rw [e,aa,exO,listP hD]
 unfold thn
 simp only
 rw [y1,aa]
 obtain ⟨m,hm⟩:∃ m,FU = m + 1:=⟨FU - 1,by have:=aU; omega⟩
 have:ap (ab_l3 FU ((qs D).map Sg)) FU (0,((qs D).map Sg).length,y,true,true) = ab_l3 FU ((qs D).map Sg) (ap (ab_l3 FU ((qs D).map Sg)) m) (0,((qs D).map Sg).length,y,true,true):=by
  conv=>lhs; arg 2; rw [hm]
  rfl
 rw [this]
 unfold ab_l3
 simp only
 rw [aE (by rw [List.length_map]; omega) (by rw [List.length_map]; omega),aa,if_pos (by rw [List.length_map]; omega),aE (by omega) (by omega),aa,show (((0:Nat):Int) + 1) = 1 from rfl,List.length_map,q1]
 rfl
/-! ### The reference puts each share into its place -/
end Go.Proofs.YtibdeoeglcngoaaGreatDoor
namespace Go.Proofs.YtibdeoeglcngoaaGreatDoor
open Go
set_option maxRecDepth 8000
def wds (s:Ta):UInt64 × UInt64 × UInt64 × UInt64 × UInt64 × UInt64 × UInt64 × UInt64 × T8:=(s.fN.1,s.fN.2.1,s.fN.2.2.1,s.fN.2.2.2.1,s.fN.2.2.2.2.1,s.fN.2.2.2.2.2.1,s.fN.2.2.2.2.2.2.1,s.fN.2.2.2.2.2.2.2,s.fD.1,s.fD.2.1,s.fD.2.2.1,s.fD.2.2.2.1,s.fD.2.2.2.2.1,s.fD.2.2.2.2.2.1,s.fD.2.2.2.2.2.2.1,s.fD.2.2.2.2.2.2.2)
def sq (l:List Rat):Nat -> Rat
 | 0=>Rat.divInt 0 1
 | i + 1=>sq l i + (l[i]?.getD 0)
def mn (l:List Rat):Rat:=sq l l.length / Rat.divInt l.length 1
structure Sl (l:List Rat):Prop where
 n0:0 < l.length
 n8:l.length <= 8
 b:∀ x ∈ l,Bt 36 37 x
theorem Sl.fq {l:List Rat} (h:Sl l):∀ x ∈ l,FQ x:=fun x hx=>(h.b x hx).fq (by decide) (by decide)
theorem gr {l:List Rat} {i:Nat} (hi:i < l.length):sq l (i + 1) = sq l i + l[i]:=by
 show sq l i + (l[i]?.getD 0) = _
 rw [geE hi]; rfl
theorem mF {l:List Rat} (h:Sl l):∀ i ≤ l.length,Bt (39 * i + 1) (37 * i + 1) (sq l i)
 | 0,_=>Bt.of (by decide) (by decide) (by decide)
 | i + 1,hi=>by
  rw [gr (by omega)]
  have:=Bt.add (i:=39 * (i + 1) + 1) (mF h i (by omega)) (h.b l[i] (List.getElem_mem _)) (by omega) (by omega)
  exact this.mono (Nat.le_refl _) (by omega)
theorem lF {l:List Rat} (h:Sl l) {i:Nat} (hi:i <= l.length):FQ (sq l i):=(mF h i hi).fq (by have:=h.n8; omega) (by have:=h.n8; omega)
theorem n_ne {n:Nat} (h0:0 < n):Rat.divInt (n:Int) 1 ≠ 0:=fun e=>by
 have e2:Rat.divInt (n:Int) 1 = Rat.divInt 0 1:=e
 rw [Rat.divInt_eq_divInt_iff (by decide) (by decide)] at e2
 omega
theorem mq {l:List Rat} (h:Sl l):Bt (39 * l.length + 2) (37 * l.length + 5) (mn l):=by
 have h8:=h.n8; have h0:=h.n0
 exact Bt.div (i2:=4) (j2:=1) (mF h l.length (Nat.le_refl _)) (Bt.of (by decide) (by show _ < 16; omega) (by decide)) (n_ne h0)
theorem jM {l:List Rat} (h:Sl l):FQ (mn l):=(mq h).fq (by have:=h.n8; omega) (by have:=h.n8; omega)
theorem ma {l:List Rat} (h:Sl l):a9_p FU (l.map Sg) = some (.ok (Sg (mn l))):=by
 have hF:=aU
 have h8:=h.n8; have h0:=h.n0
 unfold a9_p
 rw [iS (by unfold Sm; decide) (by unfold Sm; decide) (by decide),aa,exO]
 have hh:=ar (B:=a9_l1 FU (l.map Sg)) (fun s=>l.length - s.1) (fun s=>s.1 <= l.length/\s.2 = wds (Sg (sq l s.1))) (fun y=>y = .inr (wds (Sg (sq l l.length)))) ?_ FU (0,wds (Sg (sq l 0))) ⟨Nat.zero_le _,rfl⟩ (by simp only; omega)
 ·obtain ⟨y,e,rfl⟩:=hh
  unfold wds at e
  rw [show sq l 0 = Rat.divInt 0 1 from rfl] at e
  rw [e,thnR]
  simp only
  rw [List.length_map,iS (by unfold Sm; omega) (by unfold Sm; decide) (by decide),aa,exO,div_q (lF h (Nat.le_refl _)) (fqd (by decide) (by omega) (by decide)) (n_ne h0) (jM h) df,aa]
  unfold al_p
  rw [if_pos rfl,aa,exO]
  rfl
 ·rintro ⟨i,w⟩ J ⟨a1,a2⟩ hJ
  simp only at a1 a2 hJ
  subst a2
  unfold wds a9_l1 cv_p al_p
  simp only
  rw [List.length_map]
  by_cases hi:i < l.length
  ·have hx:(l.map Sg)[i]? = some (Sg l[i]):=by rw [List.getElem?_map,geE hi]; rfl
   have hn:=gr hi
   rw [if_pos hi,hx,aa,add_q (lF h a1) (h.fq _ (List.getElem_mem hi)) (by rw [<- hn]; exact lF h hi) df,aa,if_pos rfl,aa,exO,aa,exO,<- hn]
   exact hJ _ ⟨hi,rfl⟩ (by simp only; omega)
  ·rw [if_neg hi]
   have:i = l.length:=by omega
   subst this
   exact ⟨_,rfl,rfl⟩
theorem lG {a b:Rat} (ha:FQ a) (hb:FQ b) (h:FQ (a - b)):bJ_p FU (Sg a) (Sg b) = some (.ok (Sg (a - b))):=by
 unfold bJ_p al_p
 rw [sub_q ha hb h df,aa,if_pos rfl,aa,exO]
theorem q00:Rat.divInt 0 1 = 0:=rfl
theorem mn2 (a b:Rat):mn [a,b] = (a + b) / Rat.divInt ((2:Nat):Int) 1:=by
 show (Rat.divInt 0 1 + a + b) / _ = _
 rw [q00,Rat.zero_add]
 rfl
theorem sl_of {D:List (Int × Int)} (hD:Dl D) (h0:0 < D.length) {q:List Rat} (hp:q.Perm (qs D)):Sl q:=by
 have hl:=hp.length_eq
 have hql:(qs D).length = D.length:=by unfold qs; simp
 have h8:=hD.n
 exact ⟨by omega,by omega,fun x hx=>qs_bt hD x (hp.mem_iff.1 hx)⟩
def md (q:List Rat):Rat:=mn q - mn [q[(q.length - 1) / 2]?.getD 0,q[q.length / 2]?.getD 0]
theorem gu {q:List Rat} (h:Sl q) {i j:Nat} (hi:i < q.length) (hj:j < q.length):Sl [q[i],q[j]]:=
 ⟨by simp,by simp,fun x hx=>by
  simp only [List.mem_cons,List.not_mem_nil,or_false] at hx
  rcases hx with rfl | rfl
  ·exact h.b _ (List.getElem_mem hi)
  ·exact h.b _ (List.getElem_mem hj)⟩
theorem md_fq {q:List Rat} (h:Sl q) {i j:Nat} (hi:i < q.length) (hj:j < q.length):FQ (mn q - mn [q[i],q[j]]):=by
 have h8:=h.n8
 have b1:=(mq h).mono (i' :=314) (j' :=301) (by omega) (by omega)
 have b2:=mq (gu h hi hj)
 have:=Bt.sub (i:=394) b1 b2 (by simp) (by simp)
 exact this.fq (by decide) (by simp)
theorem half_at {q:List Rat} (h:Sl q):∃ _h1:(q.length - 1) / 2 < q.length,cX (((q.length:Nat):Int) - 1) 2 = some (((q.length - 1) / 2:Nat):Int):=by
 have h0:=h.n0; have h8:=h.n8
 refine ⟨by omega,?_⟩
 have e:(((q.length:Nat):Int) - 1).tdiv 2 = (((q.length - 1) / 2:Nat):Int):=by
  rw [Int.tdiv_eq_ediv_of_nonneg (by omega)]; omega
 rw [quoI_ok (by decide) (by omega) (by omega),e]
theorem kz {r:Tf} {p:List Int} {k:Nat} {a b:Int} {q:List Rat} (h:Sl q) (e:ab_p FU r p (k:Int) a b = some (.ok (q.map Sg))):bj_p FU r p (k:Int) a b = some (Sg (md q),0):=by
 have h0:=h.n0; have h8:=h.n8
 obtain ⟨h1,q1⟩:=half_at h
 have h2:q.length / 2 < q.length:=by omega
 have hm:=ma (gu h h1 h2)
 have hmd:md q = mn q - mn [q[(q.length - 1) / 2],q[q.length / 2]]:=by
  unfold md; rw [geE h1,geE h2]; rfl
 unfold bj_p bV_p
 rw [e,aa,exO,ma h,aa,exO,List.length_map,q1,aa,bE,List.getElem?_map,geE h1,Option.map_some,aa,List.getElem?_map,geE h2,Option.map_some,aa]
 rw [show ([Sg q[(q.length - 1) / 2],Sg q[q.length / 2]]:List Ta) = [q[(q.length - 1) / 2],q[q.length / 2]].map Sg from rfl,hm,aa,exO,lG (jM h) (jM (gu h h1 h2)) (md_fq h h1 h2),aa,exO,aa,exO,hmd]
def won (q:List Rat) (m:Rat):Nat -> Int
 | 0=>0
 | i + 1=>won q m i + (1 + sc (q[i]?.getD 0) m)
theorem ig {q:List Rat} {m:Rat} {i:Nat} (hi:i < q.length):won q m (i + 1) = won q m i + (1 + sc q[i] m):=by
 show won q m i + (1 + sc (q[i]?.getD 0) m) = _
 rw [geE hi]; rfl
theorem gz (q:List Rat) (m:Rat):∀ i,0 <= won q m i/\won q m i <= 2 * (i:Int)
 | 0=>⟨Int.le_refl _,by simp [won]⟩
 | i + 1=>by
  have h:=gz q m i
  have h2:=jO (q[i]?.getD 0) m
  show 0 <= won q m i + (1 + sc (q[i]?.getD 0) m)/\won q m i + (1 + sc (q[i]?.getD 0) m) <= _
  omega
theorem wonP {q:List Rat} (h:Sl q) {m:Rat} (hm:FQ m):ap (bp_l1 FU (q.map Sg) (Sg m)) FU (0,0) = some (.inr (won q m q.length)):=by
 have hF:=aU
 have h8:=h.n8
 have hh:=ar (B:=bp_l1 FU (q.map Sg) (Sg m)) (fun s:Int × Nat=>q.length - s.2) (fun s=>s.2 <= q.length/\s.1 = won q m s.2) (fun y=>y = .inr (won q m q.length)) ?_ FU (0,0) ⟨Nat.zero_le _,rfl⟩ (by simp only; omega)
 ·obtain ⟨y,e,rfl⟩:=hh; exact e
 ·rintro ⟨z,i⟩ J ⟨a1,a2⟩ hJ
  simp only at a1 a2 hJ
  subst a2
  unfold bp_l1 bt_p
  simp only
  rw [List.length_map]
  by_cases hi:i < q.length
  ·have hx:(q.map Sg)[i]? = some (Sg q[i]):=by rw [List.getElem?_map,geE hi]; rfl
   have hw:=gz q m i
   have hs:=jO q[i] m
   have hn:=ig (m:=m) hi
   have hc:cq_p FU (Sg q[i]) (Sg m) = some (sc q[i] m,0):=cmpG (h.fq _ (List.getElem_mem hi)) hm
   rw [if_pos hi,hx,aa,hc,aa,if_pos rfl,aa,exO,aE (by omega) (by omega),aa,aE (by omega) (by omega),aa,<- hn]
   exact hJ _ ⟨hi,rfl⟩ (by simp only; omega)
  ·rw [if_neg hi]
   have:i = q.length:=by omega
   subst this
   exact ⟨_,rfl,rfl⟩
theorem sc_eq {a b c d:Rat} (h1:a <= b ↔ c <= d) (h2:b <= a ↔ d <= c):sc a b = sc c d:=by
 have a1:=gX a b; have a2:=gX c d
 have b1:=jO a b; have b2:=jO c d
 have c1:sc a b <= 0 ↔ a <= b:=by unfold sc; rw [Rat.le_iff,Int.sign_nonpos_iff]; omega
 have c2:sc c d <= 0 ↔ c <= d:=by unfold sc; rw [Rat.le_iff,Int.sign_nonpos_iff]; omega
 by_cases x1:b <= a
 ·by_cases x2:a <= b
  ·have:=h1.1 x2; have:=h2.1 x1
   have e1:=c1.2 x2; have e2:=c2.2 (h1.1 x2)
   have e3:¬ sc a b < 0:=fun hh=>a1.1 hh x1
   have e4:¬ sc c d < 0:=fun hh=>a2.1 hh (h2.1 x1)
   omega
  ·have e1:¬ sc a b <= 0:=fun hh=>x2 (c1.1 hh)
   have e2:¬ sc c d <= 0:=fun hh=>x2 (h1.2 (c2.1 hh))
   omega
 ·have e1:=a1.2 x1
  have e2:=a2.2 fun hh=>x1 (h2.2 hh)
  omega
theorem hf_fq:FQ (Rat.divInt 1 2):=fqd (by decide) (by decide) (by decide)
def bs (q:List Rat):Rat:=Rat.divInt (won q (mn q) q.length) (2 * ((q.length:Nat):Int)) - Rat.divInt 1 2
theorem lm {q:List Rat} (h:Sl q):FQ (Rat.divInt (won q (mn q) q.length) (2 * ((q.length:Nat):Int)))/\FQ (bs q):=by
 have h0:=h.n0; have h8:=h.n8
 have hw:=gz q (mn q) q.length
 have b1:Bt 5 5 (Rat.divInt (won q (mn q) q.length) (2 * ((q.length:Nat):Int))):=Bt.of (by omega) (by show _ < 32; omega) (by show _ < 32; omega)
 have b2:Bt 1 2 (Rat.divInt 1 2):=Bt.of (by decide) (by decide) (by decide)
 exact ⟨b1.fq (by decide) (by decide),(Bt.sub (i:=8) b1 b2 (by decide) (by decide)).fq (by decide) (by decide)⟩
theorem bias_of {r:Tf} {p:List Int} {k:Nat} {a b:Int} {q:List Rat} (h:Sl q) (e:ab_p FU r p (k:Int) a b = some (.ok (q.map Sg))):bK_p FU r p (k:Int) a b = some (Sg (bs q),0):=by
 have h0:=h.n0; have h8:=h.n8
 have hw:=gz q (mn q) q.length
 obtain ⟨f1,f2⟩:=lm h
 unfold bK_p bp_p
 rw [e,aa,exO,ma h,aa,exO,wonP h (jM h),thnR]
 rw [List.length_map,aE (by omega) (by omega),aa,iS (by unfold Sm; omega) (by unfold Sm; omega) (by omega),aa,exO,iS (by unfold Sm; decide) (by unfold Sm; decide) (by decide),aa,exO,lG f1 hf_fq f2,aa,exO,aa,exO]
 rfl
end Go.Proofs.YtibdeoeglcngoaaGreatDoor
namespace Go.Proofs.YtibdeoeglcngoaaGreatDoor
open Go
set_option maxRecDepth 8000
def sm:List Rat -> Rat
 | []=>0
 | x :: l=>x + sm l
theorem lU:∀ (l m:List Rat),sm (l ++ m) = sm l + sm m
 | [],m=>by show sm m = 0 + sm m; grind
 | x :: l,m=>by
  have:=lU l m
  show x + sm (l ++ m) = x + sm l + sm m
  grind
theorem sm_perm {l m:List Rat} (h:l.Perm m):sm l = sm m:=by
 induction h with
 | nil=>rfl
 | cons x _ ih=>show x + _ = x + _; rw [ih]
 | swap x y l=>show y + (x + sm l) = x + (y + sm l); grind
 | trans _ _ h1 h2=>rw [h1,h2]
theorem sq_sm (l:List Rat):∀ i ≤ l.length,sq l i = sm (l.take i)
 | 0,_=>rfl
 | i + 1,hi=>by
  rw [gr (by omega),sq_sm l i (by omega),List.take_succ_eq_append_getElem (by omega),lU]
  show _ = _ + (l[i] + 0)
  grind
theorem mn_sm (l:List Rat):mn l = sm l / Rat.divInt l.length 1:=by
 unfold mn
 rw [sq_sm l _ (Nat.le_refl _),List.take_length]
def fl (x:Rat):Rat:=1 - x
def rv (q:List Rat):List Rat:=(q.map fl).reverse
theorem iT (q:List Rat):(rv q).length = q.length:=by unfold rv; rw [List.length_reverse,List.length_map]
theorem nat_q (n:Nat):Rat.divInt (n:Int) 1 = ((n:Int):Rat):=by
 rw [Rat.divInt_eq_div]
 have h1:((1:Int):Rat) = 1:=rfl
 rw [h1]; grind
theorem lg (n:Nat):(((n + 1:Nat):Int):Rat) = ((n:Int):Rat) + 1:=by
 rw [Int.natCast_add,Rat.intCast_add]; rfl
theorem sm_fl:∀ q:List Rat,sm (q.map fl) = ((q.length:Int):Rat) - sm q
 | []=>by show (0:Rat) = 0 - 0; grind
 | x :: q=>by
  have ih:=sm_fl q
  show (1 - x) + sm (q.map fl) = (((q.length + 1:Nat):Int):Rat) - (x + sm q)
  rw [ih,lg]; grind
theorem mn_rv {q:List Rat} (h0:0 < q.length):mn (rv q) = 1 - mn q:=by
 have e:sm (rv q) = ((q.length:Int):Rat) - sm q:=by
  unfold rv
  rw [sm_perm (List.reverse_perm _),sm_fl]
 rw [mn_sm,mn_sm,e,iT,nat_q]
 have hn:((q.length:Int):Rat) ≠ 0:=fun e=>by
  have:=n_ne h0
  rw [nat_q] at this
  exact this e
 grind
theorem rv_at {q:List Rat} {i:Nat} (hi:i < q.length):(rv q)[i]?.getD 0 = 1 - q[q.length - 1 - i]?.getD 0:=by
 unfold rv
 rw [List.getElem?_reverse (by rw [List.length_map]; exact hi),List.length_map,List.getElem?_map,geE (by omega)]
 rfl
theorem md_rv {q:List Rat} (h0:0 < q.length):md (rv q) = -md q:=by
 unfold md
 rw [mn_rv h0,iT,rv_at (by omega),rv_at (by omega),show q.length - 1 - (q.length - 1) / 2 = q.length / 2 by omega,show q.length - 1 - q.length / 2 = (q.length - 1) / 2 by omega,mn2,mn2]
 have h2:Rat.divInt ((2:Nat):Int) 1 = 2:=rfl
 rw [h2]
 grind
theorem sc_fl (x m:Rat):sc (1 - x) (1 - m) = -sc x m:=by
 have h1:sc (1 - x) (1 - m) = sc m x:=sc_eq (by constructor <;> intro h <;> grind) (by constructor <;> intro h <;> grind)
 rw [h1]
 unfold sc
 rw [<- Int.sign_neg]
 congr 1
 omega
def ws (q:List Rat) (m:Rat):Int:=(q.map fun x=>1 + sc x m).sum
theorem iZ (q:List Rat) (m:Rat):∀ i ≤ q.length,won q m i = ws (q.take i) m
 | 0,_=>rfl
 | i + 1,hi=>by
  rw [ig (by omega),iZ q m i (by omega),List.take_succ_eq_append_getElem (by omega)]
  unfold ws
  rw [List.map_append,List.sum_append]
  simp
theorem ws_fl (m:Rat):∀ q:List Rat,ws (q.map fl) (1 - m) = 2 * (q.length:Int) - ws q m
 | []=>rfl
 | x :: q=>by
  have ih:=ws_fl m q
  show (1 + sc (1 - x) (1 - m)) + ws (q.map fl) (1 - m) = 2 * ((q.length + 1:Nat):Int) - ((1 + sc x m) + ws q m)
  rw [ih,sc_fl]
  omega
theorem eG {l m:List Int} (h:l.Perm m):l.sum = m.sum:=by
 induction h with
 | nil=>rfl
 | cons x _ ih=>rw [List.sum_cons,List.sum_cons,ih]
 | swap x y l=>simp only [List.sum_cons]; omega
 | trans _ _ h1 h2=>rw [h1,h2]
theorem bs_rv {q:List Rat} (h0:0 < q.length):bs (rv q) = -bs q:=by
 have e1:won (rv q) (mn (rv q)) (rv q).length = 2 * (q.length:Int) - won q (mn q) q.length:=by
  rw [iZ _ _ _ (Nat.le_refl _),iZ _ _ _ (Nat.le_refl _),List.take_length,List.take_length,mn_rv h0,<- ws_fl]
  unfold ws rv
  exact eG ((List.reverse_perm _).map _)
 unfold bs
 rw [e1,iT]
 generalize won q (mn q) q.length = w
 have hn:((2 * (q.length:Int):Int):Rat) ≠ 0:=fun e=>by
  have:(2 * (q.length:Int)) = 0:=by exact_mod_cast e
  omega
 have h2:Rat.divInt 1 2 = 1 / 2:=by rw [Rat.divInt_eq_div]; rfl
 rw [h2,Rat.divInt_eq_div,Rat.divInt_eq_div,Rat.intCast_sub]
 generalize ((2 * (q.length:Int):Int):Rat) = n at *
 generalize ((w:Int):Rat) = v
 grind
def xc (e:Int × Int):Int × Int:=(e.2,e.1)
theorem qs_xc {D:List (Int × Int)} (hD:Dl D):qs (D.map xc) = (qs D).map fl:=by
 unfold qs
 rw [List.map_map,List.map_map]
 refine List.map_congr_left fun e he=>?_
 have h:=hD.b e he
 show Rat.divInt e.2 (e.2 + e.1) = 1 - Rat.divInt e.1 (e.1 + e.2)
 rw [Int.add_comm e.2 e.1,Rat.divInt_eq_div,Rat.divInt_eq_div,Rat.intCast_add]
 have hn:(e.1:Rat) + (e.2:Rat) ≠ 0:=fun h2=>by
  rw [<- Rat.intCast_add] at h2
  have:e.1 + e.2 = 0:=by exact_mod_cast h2
  omega
 grind
theorem gb {q q' l l' : List Rat} (h1:q.Perm l) (h2:q.Pairwise (· <= ·)) (h3:q'.Perm l') (h4:q'.Pairwise (· <= ·)) (h:l.Perm l'):q = q' :=
 List.Perm.eq_of_pairwise (fun a b _ _ x y=>by grind) h2 h4 (h1.trans (h.trans h3.symm))
theorem rv_sort {q:List Rat} (h:q.Pairwise (· <= ·)):(rv q).Pairwise (· <= ·):=by
 unfold rv
 rw [List.pairwise_reverse,List.pairwise_map]
 exact h.imp fun h=>by unfold fl; grind
theorem rv_perm {q l:List Rat} (h:q.Perm l):(rv q).Perm (l.map fl):=(List.reverse_perm _).trans (h.map _)
def g1 (e:Int × Int):Int:=2 * (e.1 - e.2) - (if e.2 < e.1 then e.1 + e.2 else if e.1 < e.2 then -(e.1 + e.2) else 0)
theorem lK (D:List (Int × Int)):∀ i ≤ D.length,gn D i = (((D.take i).map g1).sum,((D.take i).map fun e=>e.1 + e.2).sum)
 | 0,_=>rfl
 | i + 1,hi=>by
  rw [gy (by omega),lK D i (by omega),List.take_succ_eq_append_getElem (by omega),List.map_append,List.map_append,List.sum_append,List.sum_append]
  unfold g1
  simp
  omega
theorem gS (D:List (Int × Int)):gn D D.length = ((D.map g1).sum,(D.map fun e=>e.1 + e.2).sum):=by
 rw [lK D _ (Nat.le_refl _),List.take_length]
theorem gn_perm {D E:List (Int × Int)} (h:D.Perm E):gn D D.length = gn E E.length:=by
 rw [gS,gS,eG (h.map _),eG (h.map _)]
theorem g1_xc (e:Int × Int):g1 (xc e) = -g1 e:=by
 unfold g1 xc
 simp only
 split <;> split <;> omega
theorem gn_xc (D:List (Int × Int)):gn (D.map xc) (D.map xc).length = (-(gn D D.length).1,(gn D D.length).2):=by
 rw [gS,gS,List.map_map,List.map_map]
 have e1:∀ l:List (Int × Int),(l.map (g1 ∘ xc)).sum = -(l.map g1).sum:=fun l=>by
  induction l with
  | nil=>rfl
  | cons x l ih=>simp only [List.map_cons,List.sum_cons,Function.comp,g1_xc]; rw [ih]; omega
 have e2:∀ l:List (Int × Int),(l.map ((fun e:Int × Int=>e.1 + e.2) ∘ xc)).sum = (l.map fun e=>e.1 + e.2).sum:=fun l=>by
  refine congrArg List.sum (List.map_congr_left fun e _=>?_)
  show e.2 + e.1 = e.1 + e.2
  omega
 rw [e1,e2]
end Go.Proofs.YtibdeoeglcngoaaGreatDoor
namespace Go.Proofs.YtibdeoeglcngoaaGreatDoor
open Go
set_option maxRecDepth 8000
def rn (t k x:Int):Int:=(x + t) % k
theorem lz {t k:Int} (x:Int) (hk:1 <= k):0 <= rn t k x/\rn t k x < k:=⟨Int.emod_nonneg _ (by omega),Int.emod_lt_of_pos _ (by omega)⟩
theorem rn_inj {t k x d:Int} (hx:0 <= x/\x < k) (hd:0 <= d/\d < k):rn t k x = rn t k d ↔ x = d:=by
 refine ⟨fun e=>?_,fun e=>by rw [e]⟩
 unfold rn at e
 have h1:=Int.emod_emod_of_dvd (x - d) (Int.dvd_refl k)
 have h2:(x - d) % k = 0:=by
  have h3:=Int.emod_eq_emod_iff_emod_sub_eq_zero.1 e
  rwa [show x + t - (d + t) = x - d by omega] at h3
 obtain ⟨c,hc⟩:=Int.dvd_of_emod_eq_zero h2
 by_cases h0:c = 0
 ·rw [h0,Int.mul_zero] at hc; omega
 ·by_cases hp:1 <= c
  ·have:k * 1 <= k * c:=Int.mul_le_mul_of_nonneg_left hp (by omega)
   omega
  ·have:k * c <= k * (-1):=Int.mul_le_mul_of_nonneg_left (show c <= -1 by omega) (by omega)
   omega
theorem rn_onto {t k d:Int} (hk:1 <= k) (hd:0 <= d/\d < k):∃ x,(0 <= x/\x < k)/\rn t k x = d:=by
 refine ⟨(d - t) % k,⟨Int.emod_nonneg _ (by omega),Int.emod_lt_of_pos _ (by omega)⟩,?_⟩
 unfold rn
 rw [Int.emod_add_emod,Int.sub_add_cancel]
 exact Int.emod_eq_of_lt hd.1 hd.2
theorem rn_plan {t k:Int} {p:List Int} (hk:1 <= k) (h:bt p k):bt (p.map (rn t k)) k:=by
 refine ⟨fun x hx=>?_,fun d d0 d1=>?_⟩
 ·obtain ⟨y,_,rfl⟩:=List.mem_map.1 hx
  exact lz y hk
 ·obtain ⟨x,hx,rfl⟩:=rn_onto (t:=t) hk ⟨d0,d1⟩
  exact List.mem_map_of_mem (h.2 x hx.1 hx.2)
theorem vd_rn {us:List Tc} {p:List Int} {P:Nat} {t k d:Int} (h:∀ x ∈ p,0 <= x/\x < k) (hd:0 <= d/\d < k):∀ i,vd us (p.map (rn t k)) P (rn t k d) i = vd us p P d i
 | 0=>rfl
 | i + 1=>by
  have ih:=vd_rn (us:=us) (P:=P) (t:=t) h hd i
  show (if (p.map (rn t k))[i]? = some (rn t k d) then dM (vd us (p.map (rn t k)) P (rn t k d) i) ((us[i]?.map (·.fVotes)).getD []) else vd us (p.map (rn t k)) P (rn t k d) i) = (if p[i]? = some d then dM (vd us p P d i) ((us[i]?.map (·.fVotes)).getD []) else vd us p P d i)
  rw [ih]
  have e2:(p.map (rn t k))[i]? = some (rn t k d) ↔ p[i]? = some d:=by
   rw [List.getElem?_map]
   rcases e:p[i]? with _ | x
   ·simp
   ·have hx:=h x (List.mem_of_getElem? e)
    simp only [Option.map_some,Option.some.injEq]
    exact rn_inj hx hd
  by_cases c:p[i]? = some d
  ·rw [if_pos (e2.2 c),if_pos c]
  ·rw [if_neg fun h=>c (e2.1 h),if_neg c]
theorem ll (k t:Nat) (hk:0 < k):((List.range k).map fun d=>(d + t) % k).Perm (List.range k):=by
 have hm:t % k < k:=Nat.mod_lt _ hk
 have e:((List.range k).map fun d=>(d + t) % k) = (List.range k).drop (t % k) ++ (List.range k).take (t % k):=by
  refine List.ext_getElem ?_ fun i h1 h2=>?_
  ·rw [List.length_map,List.length_append,List.length_drop,List.length_take,List.length_range]; omega
  ·have hi:i < k:=by rw [List.length_map,List.length_range] at h1; exact h1
   rw [List.getElem_map,List.getElem_range]
   by_cases c:i < k - t % k
   ·rw [List.getElem_append_left (by rw [List.length_drop,List.length_range]; exact c),List.getElem_drop,List.getElem_range,Nat.add_mod,Nat.mod_eq_of_lt hi,Nat.mod_eq_of_lt (by omega)]
    omega
   ·rw [List.getElem_append_right (by rw [List.length_drop,List.length_range]; omega),List.getElem_take,List.getElem_range,Nat.add_mod,Nat.mod_eq_of_lt hi,Nat.mod_eq_sub_mod (by omega),Nat.mod_eq_of_lt (by omega),List.length_drop,List.length_range]
    omega
 rw [e]
 exact List.perm_append_comm.trans (by rw [List.take_append_drop])
theorem vts_rn (us:List Tc) (p:List Int) (P:Nat) {k:Nat} (t:Nat) (hk:1 <= k) (h:∀ x ∈ p,0 <= x/\x < (k:Int)) (i:Nat):(vts us p P k i).Perm (vts us (p.map (rn (t:Int) k)) P k i):=by
 unfold vts
 have e:((List.range k).map fun d:Nat=>vd us p P (d:Int) i) = ((List.range k).map fun d=>(d + t) % k).map fun d:Nat=>vd us (p.map (rn (t:Int) k)) P (d:Int) i:=by
  rw [List.map_map]
  refine List.map_congr_left fun d hd=>?_
  have hd:=List.mem_range.1 hd
  have e2:=vd_rn (us:=us) (P:=P) (t:=(t:Int)) h (d:=(d:Int)) (by omega) i
  rw [<- e2]
  rfl
 rw [e]
 exact (ll k t (by omega)).map _
theorem dl_perm {vs ws:List (List Int)} (h:vs.Perm ws) (a b:Nat):(dl a b vs).Perm (dl a b ws):=by
 unfold dl
 exact (h.map _).filter _
theorem dl_xc (a b:Nat):∀ vs:List (List Int),dl b a vs = (dl a b vs).map xc
 | []=>rfl
 | v :: vs=>by
  have ih:=dl_xc a b vs
  unfold dl at ih ⊢
  have e1:(!(decide (at0 v b = 0/\at0 v a = 0))) = !(decide (at0 v a = 0/\at0 v b = 0)):=by rw [decide_eq_decide.2 And.comm]
  rw [List.map_cons,List.map_cons,List.filter_cons,List.filter_cons,ih]
  simp only [e1]
  cases (!(decide (at0 v a = 0/\at0 v b = 0))) <;> rfl
end Go.Proofs.YtibdeoeglcngoaaGreatDoor
namespace Go.Proofs.YtibdeoeglcngoaaGreatDoor
open Go
set_option maxRecDepth 8000
theorem rev_ok (xs0:List Ta) (h0:0 < xs0.length) (h8:xs0.length <= 8):ap (ax_l2 FU) FU (0,((xs0.length:Nat):Int) - 1,xs0) = some xs0.reverse:=by
 have hF:=aU
 have hh:=ar (B:=ax_l2 FU) (fun s:Int × Int × List Ta=>(s.2.1 + 1).toNat) (fun s=>∃ i:Nat,s.1 = (i:Int)/\s.2.1 = ((xs0.length:Nat):Int) - 1 - (i:Int)/\2 * i <= xs0.length + 1/\s.2.2.length = xs0.length/\∀ c:Nat,c < xs0.length -> s.2.2[c]? = if c < i ∨ xs0.length - 1 < c + i then xs0[xs0.length - 1 - c]? else xs0[c]?) (fun y=>y = xs0.reverse) ?_ FU (0,((xs0.length:Nat):Int) - 1,xs0) ⟨0,rfl,by simp,by omega,rfl,fun c hc=>by rw [if_neg (by omega)]⟩ (by simp only; omega)
 ·obtain ⟨y,e,rfl⟩:=hh; exact e
 ·rintro ⟨z,w,xs⟩ J ⟨i,a0,a1,a2,a3,a4⟩ hJ
  simp only at a0 a1 a3 a4 hJ
  subst a0 a1
  unfold ax_l2
  simp only
  by_cases hlt:(i:Int) < ((xs0.length:Nat):Int) - 1 - (i:Int)
  ·have ej:((xs0.length:Nat):Int) - 1 - (i:Int) = ((xs0.length - 1 - i:Nat):Int):=by omega
   have hi:i < xs0.length:=by omega
   have hj:xs0.length - 1 - i < xs0.length:=by omega
   have g1:=a4 i hi
   have g2:=a4 (xs0.length - 1 - i) hj
   rw [if_neg (by omega),geE hi] at g1
   rw [if_neg (by omega),geE hj] at g2
   rw [if_pos hlt,ej,bE,g2,aa,bE,g1,aa,Int.toNat_natCast,aZ _ (by omega),aa,bE,geE (by rw [List.length_set]; omega),aa,Int.toNat_natCast,aZ _ (by rw [List.length_set]; omega),aa,aE (by omega) (by omega),aa,aE (by omega) (by omega),aa]
   refine hJ _ ⟨i + 1,by simp,by simp only; omega,by omega,by simp only [List.length_set]; exact a3,fun c hc=>?_⟩ (by simp only; omega)
   simp only
   rw [List.getElem?_set,List.length_set]
   by_cases c1:xs0.length - 1 - i = c
   ·subst c1
    rw [if_pos rfl,if_pos (by omega),if_pos (by omega),show xs0.length - 1 - (xs0.length - 1 - i) = i by omega,geE hi]
   ·rw [if_neg c1,List.getElem?_set]
    by_cases c2:i = c
    ·subst c2
     rw [if_pos rfl,if_pos (by omega),if_pos (by omega),geE hj]
    ·rw [if_neg c2,a4 c hc]
     by_cases c3:c < i ∨ xs0.length - 1 < c + i
     ·rw [if_pos c3,if_pos (by omega)]
     ·rw [if_neg c3,if_neg (by omega)]
  ·rw [if_neg hlt]
   refine ⟨xs,rfl,?_⟩
   apply List.ext_getElem?
   intro c
   by_cases hc:c < xs0.length
   ·rw [a4 c hc,List.getElem?_reverse hc]
    split
    ·rfl
    ·congr 1; omega
   ·rw [List.getElem?_eq_none (by omega),List.getElem?_eq_none (by rw [List.length_reverse]; omega)]
def stp (out:List Td) (t:Ta) (n:Int):List Td:=
 let s:=out[out.length - 1]?.getD ⟨noS,0,0⟩
 if 0 < out.length/\s.fB = t then out.set (out.length - 1) ⟨s.fB,n,s.fTied + 1⟩ else out ++ [⟨t,n,1⟩]
def sAt (R:List Rat) (i:Nat):Ta:=Sg (Rat.divInt 1 2 - (R[i]?.getD 0))
def sw (R:List Rat):Nat -> List Td
 | 0=>[]
 | i + 1=>stp (sw R i) (sAt R i) ((i:Int) + 1)
def SwI (out:List Td) (i:Nat):Prop:=out.length <= i/\(∀ s ∈ out,1 <= s.fTied/\s.fTied <= (i:Int))/\∀ s,out[out.length - 1]? = some s -> 0 < out.length -> s.fE = (i:Int)
theorem jY {out:List Td} {t:Ta} {n:Int} (h0:0 < out.length) (e:out[out.length - 1].fB = t):stp out t n = out.set (out.length - 1) ⟨out[out.length - 1].fB,n,out[out.length - 1].fTied + 1⟩:=by
 unfold stp
 rw [geE (show out.length - 1 < out.length by omega)]
 simp only [Option.getD_some]
 rw [if_pos ⟨h0,e⟩]
theorem iX {out:List Td} {t:Ta} {n:Int} (h:∀ h0:0 < out.length,out[out.length - 1].fB ≠ t):stp out t n = out ++ [⟨t,n,1⟩]:=by
 unfold stp
 simp only
 rw [if_neg]
 rintro ⟨h0,e⟩
 rw [geE (show out.length - 1 < out.length by omega)] at e
 exact h h0 e
theorem stp_in {out:List Td} {i:Nat} (h:SwI out i) (t:Ta):SwI (stp out t ((i:Int) + 1)) (i + 1):=by
 obtain ⟨h1,h2,h3⟩:=h
 by_cases hc:∃ h0:0 < out.length,out[out.length - 1].fB = t
 ·obtain ⟨h0,e⟩:=hc
  rw [jY h0 e]
  have ho:=h2 _ (List.getElem_mem (show out.length - 1 < out.length by omega))
  refine ⟨by rw [List.length_set]; omega,fun s hs=>?_,fun s hs _=>?_⟩
  ·rcases List.mem_or_eq_of_mem_set hs with hs | rfl
   ·have:=h2 s hs; omega
   ·simp only; omega
  ·rw [List.length_set,List.getElem?_set,if_pos rfl,if_pos (by omega)] at hs
   cases hs
   simp
 ·rw [iX fun h0 e=>hc ⟨h0,e⟩]
  refine ⟨by simp only [List.length_append,leC,leN]; omega,fun s hs=>?_,fun s hs _=>?_⟩
  ·rcases List.mem_append.1 hs with hs | hs
   ·have:=h2 s hs; omega
   ·rw [List.mem_singleton.1 hs]; simp only; omega
  ·simp at hs
   rw [<- hs]; simp
theorem mw (R:List Rat):∀ i,SwI (sw R i) i
 | 0=>⟨Nat.le_refl _,(fun s hs=>by cases hs),fun s hs h=>absurd h (by simp [sw])⟩
 | i + 1=>stp_in (mw R i) _
theorem at_fq {q:List Rat} (h:Sl q) {x:Rat} (hx:x ∈ q):FQ (Rat.divInt 1 2 - x):=
 (Bt.sub (i:=40) (Bt.of (i:=1) (j:=2) (by decide) (by decide) (by decide)) (h.b x hx) (by decide) (by decide)).fq (by decide) (by decide)
theorem swP {R:List Rat} (h:Sl R):ap (ax_l1 FU (R.map Sg)) FU (0,[]) = some (.inr (sw R R.length)):=by
 have hF:=aU
 have h8:=h.n8
 have hh:=ar (B:=ax_l1 FU (R.map Sg)) (fun s:Nat × List Td=>R.length - s.1) (fun s=>s.1 <= R.length/\s.2 = sw R s.1) (fun y=>y = .inr (sw R R.length)) ?_ FU (0,[]) ⟨Nat.zero_le _,rfl⟩ (by simp only; omega)
 ·obtain ⟨y,e,rfl⟩:=hh; exact e
 ·rintro ⟨i,xs⟩ J ⟨a1,a2⟩ hJ
  simp only at a1 a2 hJ
  unfold ax_l1
  simp only
  rw [List.length_map]
  by_cases hi:i < R.length
  ·have hx:(R.map Sg)[i]? = some (Sg R[i]):=by rw [List.getElem?_map,geE hi]; rfl
   have es:sAt R i = Sg (Rat.divInt 1 2 - R[i]):=by unfold sAt; rw [geE hi]; rfl
   obtain ⟨s1,s2,s3⟩:=mw R i
   rw [<- a2] at s1 s2 s3
   have hstep:sw R (i + 1) = stp xs (sAt R i) ((i:Int) + 1):=by rw [a2]; rfl
   have ei:((i + 1:Nat):Int) = (i:Int) + 1:=by omega
   rw [if_pos hi,hx,aa,iS (by unfold Sm; decide) (by unfold Sm; decide) (by decide),aa,exO,lG hf_fq (h.fq _ (List.getElem_mem hi)) (at_fq h (List.getElem_mem hi)),aa,exO,<- es,ei]
   by_cases h0:0 < xs.length
   ·have hl:xs.length - 1 < xs.length:=by omega
    have ht:=s2 _ (List.getElem_mem hl)
    rw [if_pos h0,geE hl,aa]
    by_cases he:xs[xs.length - 1].fB = sAt R i
    ·rw [if_pos he,aE (by omega) (by omega),aa,aZ _ hl,aa,List.getElem?_set,if_pos rfl,if_pos hl,aa,aZ _ (by rw [List.length_set]; exact hl),aa,List.set_set]
     exact hJ _ ⟨hi,by simp only; rw [hstep,jY h0 he]⟩ (by simp only; omega)
    ·rw [if_neg he,dO _ _ (by simp only [leC,leN]; omega),aa]
     exact hJ _ ⟨hi,by simp only; rw [hstep,iX fun _=>he]⟩ (by simp only; omega)
   ·rw [if_neg h0,dO _ _ (by simp only [leC,leN]; omega),aa]
    exact hJ _ ⟨hi,by simp only; rw [hstep,iX fun hh=>absurd hh h0]⟩ (by simp only; omega)
  ·rw [if_neg hi]
   exact ⟨_,rfl,by rw [a2,show i = R.length by omega]⟩
theorem Sl.rev {q:List Rat} (h:Sl q):Sl q.reverse:=⟨by rw [List.length_reverse]; exact h.n0,by rw [List.length_reverse]; exact h.n8,fun x hx=>h.b x (List.mem_reverse.1 hx)⟩
theorem kB {r:Tf} {p:List Int} {k:Nat} {a b:Int} {q:List Rat} (h:Sl q) (e:ab_p FU r p (k:Int) a b = some (.ok (q.map Sg))):bD_p FU r p (k:Int) a b = some (sw q.reverse q.length,0):=by
 have h0:=h.n0; have h8:=h.n8
 unfold bD_p ax_p
 rw [e,aa,exO,rev_ok _ (by rw [List.length_map]; exact h0) (by rw [List.length_map]; exact h8),aa,<- List.map_reverse,swP h.rev,thnR,aa,exO,List.length_reverse]
end Go.Proofs.YtibdeoeglcngoaaGreatDoor
namespace Go.Proofs.YtibdeoeglcngoaaGreatDoor
open Go
set_option maxRecDepth 8000
theorem ln {r:Tf} {us:List Tc} (h:RollOk r us):∀ u ∈ r.fv,Sm4 u:=by
 have hg:=h.g; have hp:=h.p; have hl:=h.l; have hn:=h.len
 have land:∀ u ∈ us,Sm4 u:=fun u hu=>by
  obtain ⟨i,hi,rfl⟩:=List.getElem_of_mem hu
  obtain ⟨e,_,_,g,v,q⟩:=h.land i hi
  exact ⟨by rw [e]; exact nm_ns (by omega),by have:=g.1; omega,by have:=v.1; omega,by have:=q.1; omega⟩
 intro u hu
 rcases h.all with e | e
 ·rw [e] at hu; exact land u hu
 ·rw [e] at hu
  rcases List.mem_append.1 hu with hu | hu
  ·exact land u hu
  ·rw [List.mem_singleton.1 hu]
   refine ⟨List.mem_cons_self ..,?_,?_,?_⟩
   ·show (List.replicate _ (0:Int)).length <= _; rw [List.length_replicate]; omega
   ·show (List.replicate _ (0:Int)).length <= _; rw [List.length_replicate]; omega
   ·show (List.replicate _ (0:Int)).length <= _; rw [List.length_replicate]; omega
theorem rv_of {r:Tf} {us:List Tc} (h:RollOk r us):RV r:=by
 classical
 refine Classical.byContradiction fun hc=>?_
 have e:=dH r (ln h)
 rw [hH r us h,if_neg hc] at e
 cases e
theorem lnd_ok {r:Tf} {us:List Tc} (h:RollOk r us):Lnd r us:=by
 refine ⟨?_,fun u hu=>?_⟩
 ·rcases h.all with e | e
  ·exact ⟨[],by rw [e,List.append_nil],fun u hu=>by cases hu⟩
  ·exact ⟨_,e,fun u hu=>by rw [List.mem_singleton.1 hu]; rfl⟩
 ·obtain ⟨i,hi,rfl⟩:=List.getElem_of_mem hu
  exact (h.land i hi).2.1
theorem cn_of {r:Tf} {us:List Tc} {p:List Int} {k P:Nat} (h:RollOk r us) (hl:p.length = us.length) (hp:bt p (k:Int)) (h1:1 <= k) (h8:k <= 8) (hP:r.fc = P):Cn r us p k P:=
 ⟨rv_of h,lnd_ok h,⟨hl,hp⟩,h1,h8,hP⟩
theorem gi {r:Tf} {us:List Tc} {p:List Int} {k P:Nat} (h:RollOk r us) (hc:Cn r us p k P):bF_p FU r p (k:Int) = some (.ok ⟨r,p,(k:Int)⟩):=by
 classical
 have h1:=hc.k1; have h8:=hc.k8; have hpl:=hc.f.1; have hm:=hc.m
 have b1:=ip (ln h) p k (by omega) (by omega) (by omega) us fun _=>hc.l
 rw [if_pos hc.v,if_pos hc.f] at b1
 unfold bF_p ca_p
 rw [b1,aa,if_pos rfl,aa,exO]
end Go.Proofs.YtibdeoeglcngoaaGreatDoor
namespace Go.Proofs.YtibdeoeglcngoaaGreatDoor
open Go
set_option maxRecDepth 8000
theorem lW:bP_p FU = some true:=by kernel_rfl
theorem jl {α:Type} [DecidableEq (List α)] (xs:List α) (h:xs.length <= 1000000):cn xs (some []) ((app [] xs).bind fun x=>some x) = some xs:=by
 rw [dO [] xs (by simpa using h),aa,List.nil_append]
 unfold cn
 cases xs with
 | nil=>simp
 | cons a l=>rfl
theorem kf (xs:List Int) (h:xs.length <= 1000000):bh_p FU xs = some xs:=jl xs h
theorem full_ok (n:Nat) (d:Ti) (m:Nat) (h1:1 <= m) (h2:m <= 9) (hn:200 < n):∃ r us,aT_p n d m = some r/\us.length = m/\RollOk r us/\r.fh = 2/\r.fc = 3/\r.fe = 2:=by
 obtain ⟨r,us,e,h,h', a,b,c⟩:=lq n ⟨2,3,2,d.fu,d.fNums⟩ m h1 h2 hn
 refine ⟨r,us,?_,h,h', a,b,c⟩
 unfold aT_p
 rw [e,aa]
theorem eqWW (a:List Td) (hl:a.length <= 1000):ac_p FU a a = some true:=by
 have hF:=aU
 unfold ac_p
 rw [if_pos rfl]
 have hh:=ar (B:=ac_l1 FU a a) (fun i:Nat=>a.length - i) (fun _=>True) (fun y=>y = .inr ()) ?_ FU 0 trivial (by omega)
 ·obtain ⟨y,e,rfl⟩:=hh
  rw [e]; rfl
 ·intro i J _ hJ
  unfold ac_l1
  simp only
  by_cases hi:i < a.length
  ·rw [if_pos hi,geE hi,aa,aa,if_pos rfl]
   exact hJ _ trivial (by omega)
  ·rw [if_neg hi]; exact ⟨_,rfl,rfl⟩
theorem lof28 {a b:Int} (ha:Sm a) (hb:Sm b) (h0:b ≠ 0):aF_p FU a b = some (Sg (Rat.divInt a b)):=by
 unfold aF_p
 rw [of_sg ha hb h0,aa]
theorem FQz:FQ (0:Rat):=by have:=fqd (a:=0) (b:=1) (by decide) (by decide) (by decide); exact this
theorem iN {x:Rat} (hx:FQ x) (hn:FQ (-x)):aB_p FU (Sg x) (Sg (-x)) = some true:=by
 have e:x + -x = 0:=by grind
 unfold aB_p
 rw [add_q hx hn (by rw [e]; exact FQz) df,aa,if_pos rfl,lof28 (by unfold Sm; decide) (by unfold Sm; decide) (by decide),aa,e]
 exact congrArg some (decide_eq_true rfl)
theorem kC (p:List Int) (a:UInt8) (k:Int) (hk:1 <= k) (hk8:k <= 8) (hl:p.length <= 9) (h:∀ x ∈ p,0 <= x/\x < k) (p0:List Int):ap (ao_l1 FU p a (p0,k)) FU (0,p) = some (p.map (rn ((a.toNat:Nat):Int) k)):=by
 have hF:=aU
 have hh:=ar (B:=ao_l1 FU p a (p0,k)) (fun s:Nat × List Int=>p.length - s.1) (fun s=>s.1 <= p.length/\s.2 = (p.take s.1).map (rn ((a.toNat:Nat):Int) k) ++ p.drop s.1) (fun y=>y = p.map (rn ((a.toNat:Nat):Int) k)) ?_ FU (0,p) ⟨by simp,by simp⟩ (by simp only; omega)
 ·obtain ⟨y,e,rfl⟩:=hh; exact e
 ·rintro ⟨i,xs⟩ J ⟨a1,a2⟩ hJ
  simp only at a1 a2 hJ
  unfold ao_l1
  simp only
  split
  ·rename_i hi
   have hx:=h p[i] (List.getElem_mem _)
   have ha:=a.toNat_lt
   have hlen:((p.take i).map (rn ((a.toNat:Nat):Int) k)).length = i:=by rw [List.length_map,List.length_take]; omega
   have hd:=List.drop_eq_getElem_cons hi
   have hxi:xs[i]? = some p[i]:=by rw [a2,List.getElem?_append_right (by omega),hlen,Nat.sub_self,hd]; rfl
   have hxl:xs.length = p.length:=by rw [a2,List.length_append,hlen,List.length_drop]; omega
   rw [hxi,aa,aE (by omega) (by omega),aa,ck (by omega),aa,aZ _ (by omega),aa]
   refine hJ _ ⟨hi,?_⟩ (by simp only; omega)
   simp only
   rw [a2,List.set_append_right _ _ (by omega),hlen,Nat.sub_self,hd,List.set_cons_zero,List.take_succ_eq_append_getElem hi,List.map_append,List.append_assoc]
   simp only [List.map_cons,List.map_nil,List.singleton_append]
   rw [Int.tmod_eq_emod_of_nonneg (by omega)]
   rfl
  ·refine ⟨_,rfl,?_⟩
   rw [a2,List.take_of_length_le (by omega),List.drop_eq_nil_of_le (by omega),List.append_nil]
structure Said (r:Tf) (p:List Int) (k:Nat) (a b:Int) (gv mv bv:Ta × Int) (wv:List Td × Int):Prop where
 g:bA_p FU r p (k:Int) a b = some gv
 m:bj_p FU r p (k:Int) a b = some mv
 bb:bK_p FU r p (k:Int) a b = some bv
 ss:bD_p FU r p (k:Int) a b = some wv
theorem hO {r:Tf} {p:List Int} {k:Nat} {a b:Int} (e:aD_p FU r p (k:Int) a b = some (.error ⟨7⟩)):Said r p k a b (noS,7) (noS,7) (noS,7) ([],7):=by
 have s1:ab_p FU r p (k:Int) a b = some (.error ⟨7⟩):=by
  unfold ab_p
  rw [e,aa,exE]
 refine ⟨?_,?_,?_,?_⟩
 ·unfold bA_p bE_p
  rw [e,aa,exE,aa,exE]; rfl
 ·unfold bj_p bV_p
  rw [s1,aa,exE,aa,exE]; rfl
 ·unfold bK_p bp_p
  rw [s1,aa,exE,aa,exE]; rfl
 ·unfold bD_p ax_p
  rw [s1,aa,exE,aa,exE]
theorem fI {r:Tf} {p:List Int} {k:Nat} {a b:Int} {D:List (Int × Int)} (hD:Dl D) (h0:0 < D.length) (e:aD_p FU r p (k:Int) a b = some (.ok D)) :
  ∃ q,q.Perm (qs D)/\q.Pairwise (· <= ·)/\Sl q/\Said r p k a b (Sg (Rat.divInt (gn D D.length).1 (2 * (gn D D.length).2)),0) (Sg (md q),0) (Sg (bs q),0) (sw q.reverse q.length,0):=by
 obtain ⟨q,q1,q3,q4⟩:=kO hD e
 have hS:=sl_of hD h0 q3
 exact ⟨q,q3,q4,hS,gap_of hD h0 e,kz hS q1,bias_of hS q1,kB hS q1⟩
theorem md_q {q:List Rat} (h:Sl q):FQ (md q):=by
 have h0:=h.n0
 unfold md
 rw [geE (show (q.length - 1) / 2 < q.length by omega),geE (show q.length / 2 < q.length by omega)]
 exact md_fq h _ _
theorem fT (a0:Tj) (a1:Ti) (a2:UInt8):ao_p FU a0 a1 a2 = some true:=by
 have hF:=aU
 obtain ⟨p,k,e0,p1,p2,hp,k1,k2⟩:=mr FU a0 (by omega)
 obtain ⟨r,us,e1,hus,hr,hG,hP,hL⟩:=full_ok FU a1 p.length p1 p2 (by omega)
 obtain ⟨k,rfl⟩:∃ j:Nat,k = (j:Int):=⟨k.toNat,by omega⟩
 have h:Cn r us p k 3:=cn_of hr hus.symm hp (by omega) (by omega) hP
 have ho:=gi hr h
 have hp2:=rn_plan (t:=((a2.toNat:Nat):Int)) k1 hp
 have h' : Cn r us (p.map (rn ((a2.toNat:Nat):Int) k)) k 3:=cn_of hr (by rw [List.length_map]; exact hus.symm) hp2 (by omega) (by omega) hP
 have ho' :=gi hr h'
 have q1:aD_p FU r p (k:Int) 0 1 = _:=duels_p h ho (a:=0) (b:=1) (by decide) (by decide) (by decide)
 have q2:aD_p FU r p (k:Int) 1 0 = _:=duels_p h ho (a:=1) (b:=0) (by decide) (by decide) (by decide)
 have q3:aD_p FU r (p.map (rn ((a2.toNat:Nat):Int) k)) (k:Int) 0 1 = _:=duels_p h' ho' (a:=0) (b:=1) (by decide) (by decide) (by decide)
 have hV:=h.vs
 have hV' :=h'.vs
 have hpv:=dl_perm (vts_rn us p 3 a2.toNat (by omega) hp.1 us.length) 0 1
 generalize vts us p 3 k us.length = vs at *
 generalize vts us (p.map (rn ((a2.toNat:Nat):Int) k)) 3 k us.length = vs' at *
 have hD:=lJ hV (a:=0) (b:=1) (by decide) (by decide)
 have hD2:=lJ hV (a:=1) (b:=0) (by decide) (by decide)
 have hD' :=lJ hV' (a:=0) (b:=1) (by decide) (by decide)
 rw [dl_xc 0 1] at q2 hD2
 generalize dl 0 1 vs = D at *
 generalize dl 0 1 vs' = D' at *
 have hl' :=hpv.length_eq
 unfold ao_p
 rw [lW,aa,if_pos rfl,e0,aa]
 simp only
 rw [e1,aa,kf p (by omega),aa,kC p a2 k k1 k2 p2 hp.1,aa]
 by_cases h0:D.length = 0
 ·rw [if_pos h0] at q1
  rw [if_pos (by rw [List.length_map]; exact h0)] at q2
  rw [if_pos (by omega)] at q3
  obtain ⟨g1,m1,b1,s1⟩:=hO q1
  obtain ⟨g2,m2,b2,_⟩:=hO q2
  obtain ⟨g3,m3,b3,s3⟩:=hO q3
  rw [g1,aa,g2,aa,g3,aa]
  unfold jn
  simp only [show ¬ (7:Int) = 0 by decide,if_true,if_false,Bool.false_eq_true]
  rw [m1,aa,m2,aa,m3,aa]
  simp only [show ¬ (7:Int) = 0 by decide,if_true,if_false]
  rw [b1,aa,b2,aa,b3,aa]
  simp only [show ¬ (7:Int) = 0 by decide,if_true,if_false]
  rw [s1,aa,s3,aa]
  simp only [if_true]
  rfl
 ·rw [if_neg h0] at q1
  rw [if_neg (by rw [List.length_map]; exact h0)] at q2
  rw [if_neg (by omega)] at q3
  obtain ⟨q,u1,u2,u3,g1,m1,b1,s1⟩:=fI hD (by omega) q1
  obtain ⟨z,v1,v2,v3,g2,m2,b2,_⟩:=fI hD2 (by rw [List.length_map]; omega) q2
  obtain ⟨y,w1,w2,w3,g3,m3,b3,s3⟩:=fI hD' (by omega) q3
  have ey:y = q:=gb w1 w2 u1 u2 (hpv.symm.map _)
  have ez:z = rv q:=gb v1 v2 (rv_perm u1) (rv_sort u2) (by rw [qs_xc hD])
  subst ey
  rw [ez] at m2 b2 v3
  rw [md_rv u3.n0] at m2
  rw [bs_rv u3.n0] at b2
  rw [gn_xc] at g2
  rw [<- gn_perm hpv] at g3
  have hg:=jH hD D.length (Nat.le_refl _)
  have hd8:=hD.n
  have fg:FQ (Rat.divInt (gn D D.length).1 (2 * (gn D D.length).2)):=fqd (by omega) (by omega) (by omega)
  have fg2:FQ (-Rat.divInt (gn D D.length).1 (2 * (gn D D.length).2)):=by rw [Rat.neg_divInt]; exact fqd (by omega) (by omega) (by omega)
  have fm2:FQ (-md y):=by rw [<- md_rv u3.n0]; exact md_q v3
  have fb2:FQ (-bs y):=by rw [<- bs_rv u3.n0]; exact (lm v3).2
  rw [show Rat.divInt (-(gn D D.length).1) (2 * (gn D D.length).2) = -Rat.divInt (gn D D.length).1 (2 * (gn D D.length).2) from (Rat.neg_divInt _ _).symm] at g2
  rw [g1,aa,g2,aa,g3,aa]
  unfold jn
  simp only [if_true]
  rw [iN fg fg2,aa,if_pos rfl]
  simp only [Bool.false_eq_true,if_false]
  rw [m1,aa,m2,aa,m3,aa]
  simp only [if_true]
  rw [iN (md_q u3) fm2,aa,if_pos rfl]
  rw [b1,aa,b2,aa,b3,aa]
  simp only [if_true]
  rw [iN (lm u3).2 fb2,aa,if_pos rfl]
  rw [s1,aa,s3,aa]
  simp only [if_true]
  rw [eqWW _ (by have:=(mw y.reverse y.length).1; have:=u3.n8; omega),aa]
theorem fQ (a0:Tj) (a1:Ti) (a2:UInt8):∃ n,ao_p n a0 a1 a2 = some true:=⟨FU,fT a0 a1 a2⟩
end Go.Proofs.YtibdeoeglcngoaaGreatDoor
