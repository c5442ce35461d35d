/- Plain laws: words, their value, and integers of any length: sum, difference, product. No program in sight but the printed functions. -/
import Derived.Test.YtibdeoeglcngoaaGreatDoorWI7
namespace Go.Proofs.YtibdeoeglcngoaaGreatDoor
open Go
theorem aa {α β:Type} (x:α) (f:α -> Option β):(some x).bind f = f x:=Eq.trans (Eq.refl _) (Eq.refl _)
theorem bt {α β:Type} (B:(α -> Option β) -> α -> Option β) (n:Nat) (s:α):ao B (n + 1) s = B (ao B n) s:=rfl
theorem aw {α β:Type} {B:(α -> Option β) -> α -> Option β} (m:α -> Nat) (I:α -> Prop) (Q:β -> Prop)
  (step:∀ s J,I s -> (∀ s', I s' -> m s' < m s -> ∃ r,J s' = some r/\Q r) -> ∃ r,B J s = some r/\Q r):∀ n s,I s -> m s < n -> ∃ r,ao B n s = some r/\Q r:=by
 intro n
 induction n with
 | zero=>intro s _ h; omega
 | succ n ih=>intro s hI h; exact step s (ao B n) hI fun s' h1 h2=>ih s' h1 (by omega)
theorem aK {x:Int} (h1:-9223372036854775808 <= x) (h2:x <= 9223372036854775807):chk x = some x:=if_pos ⟨h1,h2⟩
theorem bq {α:Type} {xs:List α} {i:Int} (h0:0 <= i) (h:i.toNat < xs.length):idx xs i = some xs[i.toNat]:=by unfold idx; rw [if_pos h0,geE h]
theorem ba {α:Type} {xs:List α} {i:Nat} (x:α) (h:i < xs.length):put xs (i:Int) x = some (xs.set i x):=by
 unfold put; rw [if_pos ⟨Int.natCast_nonneg _,by omega⟩]; rfl
theorem cut_ok {α:Type} {xs:List α} {z:Nat} (h:z <= xs.length):cut xs 0 (z:Int) = some (xs.take z):=by
 unfold cut; rw [if_pos ⟨Int.le_refl _,Int.natCast_nonneg _,by omega⟩]; rfl
theorem cu {α:Type} (n:Nat) (x:α) (h:n <= 4294967296):mk (n:Int) x = some (List.replicate n x):=by
 unfold mk; rw [if_pos ⟨Int.natCast_nonneg _,by omega⟩]; rfl
def val:List UInt64 -> Nat
 | []=>0
 | x :: xs=>x.toNat + 18446744073709551616 * val xs
theorem dx (xs ys:List UInt64):val (xs ++ ys) = val xs + 18446744073709551616 ^ xs.length * val ys:=by
 induction xs with
 | nil=>simp [val]
 | cons x xs ih=>simp only [List.cons_append,val,ih,leC,Nat.pow_succ]; grind
theorem bU (xs:List UInt64):val xs < 18446744073709551616 ^ xs.length:=by
 induction xs with
 | nil=>simp [val]
 | cons x xs ih=>
  have:=x.toNat_lt
  have h2:18446744073709551616 * (val xs + 1) <= 18446744073709551616 * 18446744073709551616 ^ xs.length:=Nat.mul_le_mul_left _ ih
  simp only [val,leC,Nat.pow_succ]
  rw [Nat.mul_comm (_ ^ _)]
  omega
theorem bw (a:List UInt64) {i:Nat} (h:i < a.length):val (a.take (i + 1)) = val (a.take i) + 18446744073709551616 ^ i * a[i].toNat:=by
 rw [<- List.take_append_getElem h,dx,List.length_take,Nat.min_eq_left (Nat.le_of_lt h)]
 simp [val]
theorem lw {xs:List UInt64} {i:Nat} (s:UInt64) (h:i < xs.length):(xs.set i s).take (i + 1) = xs.take i ++ [s]:=by
 rw [<- List.take_append_getElem (by simpa using h),List.take_set_of_le (Nat.le_refl _)]
 simp
theorem dB {xs:List UInt64} {i:Nat} (s:UInt64) (h:i < xs.length):val ((xs.set i s).take (i + 1)) = val (xs.take i) + 18446744073709551616 ^ i * s.toNat:=by
 rw [lw s h,dx,List.length_take,Nat.min_eq_left (Nat.le_of_lt h)]
 simp [val]
theorem bQ:∀ (xs:List UInt64),(∀ x ∈ xs,x = 0) -> val xs = 0
 | [],_=>rfl
 | x :: xs,h=>by
  have h1:=h x (List.mem_cons_self ..)
  have h2:=bQ xs fun y hy=>h y (List.mem_cons_of_mem _ hy)
  subst h1; simp [val,h2]
def dg (m:Nat):List UInt64:=if m = 0 then [] else UInt64.ofNat m :: dg (m / 18446744073709551616)
termination_by m
decreasing_by exact Nat.div_lt_self (by omega) (by omega)
theorem dg0:dg 0 = []:=by unfold dg; simp
theorem fR {m:Nat} (h:m ≠ 0):dg m = UInt64.ofNat m :: dg (m / 18446744073709551616):=by rw [dg]; rw [if_neg h]
theorem aA (m:Nat):val (dg m) = m:=by
 induction m using Nat.strongRecOn with
 | _ m ih=>
  by_cases h:m = 0
  ·subst h; rw [dg0]; rfl
  ·rw [fR h]; simp only [val]
   rw [ih _ (Nat.div_lt_self (by omega) (by omega)),UInt64.toNat_ofNat']
   exact Nat.mod_add_div m 18446744073709551616
def Nm (xs:List UInt64):Prop:=∀ x,xs.getLast? = some x -> x ≠ 0
theorem Nm.tail {x y:UInt64} {xs:List UInt64} (h:Nm (x :: y :: xs)):Nm (y :: xs):=fun z hz=>h z (by rw [List.getLast?_cons_cons]; exact hz)
theorem ew:∀ {xs:List UInt64},Nm xs -> xs ≠ [] -> 0 < val xs
 | [],_,h=>absurd rfl h
 | [x],h,_=>by
  have h1:=h x rfl
  have:x.toNat ≠ 0:=fun e=>h1 (UInt64.toNat_inj.1 (by simpa using e))
  simp only [val]; omega
 | x :: y :: xs,h,_=>by
  have:=ew h.tail (by simp)
  simp only [val] at this ⊢
  omega
theorem gS:∀ {xs:List UInt64},Nm xs -> xs ≠ [] -> 18446744073709551616 ^ (xs.length - 1) <= val xs
 | [],_,h=>absurd rfl h
 | [x],h,_=>by
  have h1:=ew h (by simp)
  show 18446744073709551616 ^ 0 <= _
  rw [Nat.pow_zero]; exact h1
 | x :: y :: xs,h,_=>by
  have h1:=gS h.tail (by simp)
  have h2:18446744073709551616 * 18446744073709551616 ^ xs.length <= 18446744073709551616 * val (y :: xs):=Nat.mul_le_mul_left _ (by simpa using h1)
  show 18446744073709551616 ^ (xs.length + 1) <= x.toNat + 18446744073709551616 * val (y :: xs)
  rw [Nat.pow_succ,Nat.mul_comm]; omega
theorem lL:∀ {xs:List UInt64},Nm xs -> dg (val xs) = xs
 | [],_=>dg0
 | x :: xs,h=>by
  have hp:=ew h (by simp)
  rw [fR (by omega)]
  have hx:=x.toNat_lt
  have h1:UInt64.ofNat (val (x :: xs)) = x:=UInt64.toNat_inj.1 (by rw [UInt64.toNat_ofNat']; simp only [val]; omega)
  have h2:val (x :: xs) / 18446744073709551616 = val xs:=by simp only [val]; omega
  have h3:Nm xs:=by
   cases xs with
   | nil=>intro z hz; simp at hz
   | cons y ys=>exact h.tail
  rw [h1,h2,lL h3]
theorem eQ (m:Nat):Nm (dg m):=by
 induction m using Nat.strongRecOn with
 | _ m ih=>
  intro x hx
  by_cases h:m = 0
  ·subst h; rw [dg0] at hx; cases hx
  ·rw [fR h] at hx
   by_cases h2:m / 18446744073709551616 = 0
   ·rw [h2,dg0] at hx
    simp at hx
    intro e; subst e
    have:=congrArg UInt64.toNat hx
    rw [UInt64.toNat_ofNat'] at this
    simp at this; omega
   ·have h3:=ih (m / 18446744073709551616) (Nat.div_lt_self (by omega) (by omega))
    rw [fR h2] at hx h3
    rw [List.getLast?_cons_cons] at hx
    exact h3 x hx
theorem eO {m l:Nat} (h:m < 18446744073709551616 ^ l):(dg m).length <= l:=by
 by_cases h0:dg m = []
 ·rw [h0]; simp
 ·have h1:=gS (eQ m) h0
  rw [aA] at h1
  have h2:=Nat.lt_of_le_of_lt h1 h
  have h3:=(Nat.pow_lt_pow_iff_right (by omega)).1 h2
  omega
theorem aE (n:Nat) (b:Bool) (ws:List UInt64) (hn:ws.length < n) (hl:ws.length <= 4294967296):al_p n b ws = some ⟨b && decide (0 < val ws),dg (val ws)⟩:=by
 have h:=aw (B:=al_l1 n ws) (fun z:Int=>z.toNat) (fun z=>0 <= z/\z <= ws.length/\∀ i:Nat,z.toNat <= i -> ∀ h:i < ws.length,ws[i] = 0)
  (fun z=>∃ k:Nat,z = k/\k <= ws.length/\(∀ i:Nat,k <= i -> ∀ h:i < ws.length,ws[i] = 0)/\∀ h:0 < k,∀ h2:k - 1 < ws.length,ws[k - 1] ≠ 0) ?_ n (ws.length:Int) ⟨by omega,by omega,fun i h1 h2=>by omega⟩ (by simpa using hn)
 ·obtain ⟨z,hz,k,rfl,hk,hz0,hz1⟩:=h
  have e:val ws = val (ws.take k):=by
   conv=>lhs; rw [<- List.take_append_drop k ws,dx]
   rw [bQ (ws.drop k) fun x hx=>?_]
   ·simp
   ·obtain ⟨i,hi,rfl⟩:=List.getElem_of_mem hx
    rw [List.getElem_drop]
    exact hz0 _ (by omega) _
  have hnm:Nm (ws.take k):=by
   intro x hx
   rw [List.getLast?_eq_getElem?,List.length_take,Nat.min_eq_left hk] at hx
   obtain ⟨h1,rfl⟩:=List.getElem?_eq_some_iff.1 hx
   have h2:k - 1 < ws.length:=by rw [List.length_take] at h1; omega
   by_cases h0:0 < k
   ·rw [List.getElem_take]; exact hz1 h0 h2
   ·rw [List.length_take] at h1; omega
  have e2:dg (val ws) = ws.take k:=by rw [e]; exact lL hnm
  have e3:decide (0 < val ws) = decide (0 < (k:Int)):=by
   rw [decide_eq_decide]
   constructor
   ·intro h0
    by_cases hk0:k = 0
    ·subst hk0; rw [e] at h0; simp [val] at h0
    ·omega
   ·intro h0; rw [e]; refine ew hnm fun h1=>?_
    have:=congrArg List.length h1
    rw [List.length_take,leN] at this; omega
  unfold al_p jn
  simp only [hz,aa,cut_ok hk]
  cases b
  ·simp [e2]
  ·simp [e2,e3]
 ·intro z J ⟨h1,h2,h3⟩ hJ
  unfold al_l1
  simp only
  by_cases h0:0 < z
  ·rw [if_pos h0,aK (by omega) (by omega),aa,bq (by omega) (by omega),aa]
   split
   ·rename_i hx
    rw [aa]
    refine hJ (z - 1) ⟨by omega,by omega,fun i h4 h5=>?_⟩ (by omega)
    by_cases h6:i = (z - 1).toNat
    ·subst h6; exact hx
    ·exact h3 i (by omega) h5
   ·rename_i hx
    refine ⟨z,rfl,z.toNat,by omega,by omega,h3,fun h4 h5=>?_⟩
    have:(z - 1).toNat = z.toNat - 1:=by omega
    simp only [this] at hx
    exact hx
  ·rw [if_neg h0]
   exact ⟨z,rfl,0,by omega,by omega,fun i h4 h5=>h3 i (by omega) h5,fun h4=>by omega⟩
theorem eJ (x y c:UInt64) (h:c.toNat <= 1):∃ s d:UInt64,add64 x y c = some (s,d)/\s.toNat + 18446744073709551616 * d.toNat = x.toNat + y.toNat + c.toNat/\d.toNat <= 1:=by
 refine ⟨_,_,if_pos h,?_⟩
 have hx:=x.toNat_lt
 have hy:=y.toNat_lt
 rw [UInt64.toNat_ofNat', UInt64.toNat_ofNat']
 omega
theorem bm (x y c:UInt64) (h:c.toNat <= 1):∃ s d:UInt64,sub64 x y c = some (s,d)/\s.toNat + y.toNat + c.toNat = x.toNat + 18446744073709551616 * d.toNat/\d.toNat <= 1:=by
 refine ⟨_,_,if_pos h,?_⟩
 have hx:=x.toNat_lt
 have hy:=y.toNat_lt
 rw [UInt64.toNat_ofNat']
 split <;> simp <;> omega
theorem bJ {α:Type} {l:List α} {i:Nat} (h:l.length <= i):l.take i = l:=List.take_of_length_le h
theorem fX (b:List UInt64) (i:Nat):val (b.take (i + 1)) = val (b.take i) + 18446744073709551616 ^ i * (b[i]?.getD 0).toNat:=by
 by_cases h:i < b.length
 ·rw [bw b h,geE h]; rfl
 ·rw [bJ (by omega),bJ (by omega),List.getElem?_eq_none (by omega)]; simp
theorem jh (n:Nat) (a b:List UInt64) (hb:b.length <= a.length) (hn:a.length < n):∃ xs u,ao (bE_l1 n a b) n (0,0,List.replicate (a.length + 1) 0) = some (xs,u)/\xs.length = a.length + 1/\val (xs.take a.length) + 18446744073709551616 ^ a.length * u.toNat = val a + val b:=by
 have h:=aw (B:=bE_l1 n a b) (fun s:UInt64 × Nat × List UInt64=>a.length - s.2.1) (fun s=>s.2.1 <= a.length/\s.2.2.length = a.length + 1/\s.1.toNat <= 1/\val (s.2.2.take s.2.1) + 18446744073709551616 ^ s.2.1 * s.1.toNat = val (a.take s.2.1) + val (b.take s.2.1))
  (fun r:List UInt64 × UInt64=>r.1.length = a.length + 1/\val (r.1.take a.length) + 18446744073709551616 ^ a.length * r.2.toNat = val a + val b) ?_ n (0,0,List.replicate (a.length + 1) 0) ⟨by simp,by simp,by simp,by simp [val]⟩ (by simpa using hn)
 ·obtain ⟨⟨xs,u⟩,h1,h2,h3⟩:=h; exact ⟨xs,u,h1,h2,h3⟩
 ·rintro ⟨u,i,xs⟩ J ⟨h1,h2,h3,h4⟩ hJ
  simp only at h1 h2 h3 h4 hJ
  unfold bE_l1
  simp only
  by_cases hi:i < a.length
  ·rw [if_pos hi,geE hi,aa]
   have key:∀ y:UInt64,y = b[i]?.getD 0 -> ∃ r,((add64 a[i] y u).bind fun z198=>(xs[i]?).bind fun x199=>(put xs ((i:Nat):Int) z198.1).bind fun xs212=>J (z198.2,i + 1,xs212)) = some r/\r.1.length = a.length + 1/\val (r.1.take a.length) + 18446744073709551616 ^ a.length * r.2.toNat = val a + val b:=by
    intro y hy
    obtain ⟨s,d,e1,e2,e3⟩:=eJ a[i] y u h3
    rw [e1,aa,geE (by omega),aa,ba _ (by omega),aa]
    refine hJ (d,i + 1,xs.set i s) ⟨by show i + 1 <= _; omega,by simpa using h2,e3,?_⟩ (by simp only; omega)
    simp only
    rw [dB s (by omega),bw a hi,fX b i,<- hy,Nat.pow_succ]
    grind
   unfold jn
   simp only
   by_cases hj:i < b.length
   ·rw [if_pos hj,geE hj,aa]; exact key _ (by rw [geE hj]; rfl)
   ·rw [if_neg hj]; exact key _ (by rw [List.getElem?_eq_none (by omega)]; rfl)
  ·rw [if_neg hi]
   have:i = a.length:=by omega
   subst this
   refine ⟨_,rfl,h2,?_⟩
   simp only
   rw [h4,List.take_length,bJ hb]
theorem lx (n:Nat) (a b:List UInt64) (hn:a.length < n/\b.length < n) (hl:a.length < 4294967296/\b.length < 4294967296):∃ xs,bE_p n a b = some xs/\xs.length <= max a.length b.length + 1/\val xs = val a + val b:=by
 have key:∀ a b:List UInt64,b.length <= a.length -> a.length < n -> a.length < 4294967296 -> ∃ xs,((mk ((a.length + 1:Nat):Int) (0:UInt64)).bind fun xs17=>Option.bind (ao (bE_l1 n a b) n ((0:UInt64),0,xs17)) (fun (xs157,u155)=>(xs157[a.length]?).bind fun x229=>(put xs157 ((a.length:Nat):Int) u155).bind fun xs241=>some xs241)) = some xs/\xs.length = a.length + 1/\val xs = val a + val b:=by
  intro a b hb h1 h2
  obtain ⟨xs,u,e1,e2,e3⟩:=jh n a b hb h1
  rw [cu _ _ (by omega),aa,e1,aa]
  simp only
  rw [geE (by omega),aa,ba _ (by omega),aa]
  refine ⟨_,rfl,by simpa using e2,?_⟩
  rw [<- e3]
  conv=>lhs; rw [<- bJ (l:=xs.set a.length u) (i:=a.length + 1) (by simp [e2])]
  exact dB u (by omega)
 unfold bE_p jn
 simp only
 by_cases h:a.length < b.length
 ·rw [if_pos h]
  obtain ⟨xs,e1,e2,e3⟩:=key b a (by omega) hn.2 hl.2
  exact ⟨xs,e1,by omega,by omega⟩
 ·rw [if_neg h]
  obtain ⟨xs,e1,e2,e3⟩:=key a b (by omega) hn.1 hl.1
  exact ⟨xs,e1,by omega,e3⟩
theorem hH (n:Nat) (a b:List UInt64) (hb:b.length <= a.length) (hv:val b <= val a) (hn:a.length < n) (hl:a.length < 4294967296):∃ xs,bj_p n a b = some xs/\xs.length = a.length/\val xs = val a - val b:=by
 have h:=aw (B:=bj_l1 n a b) (fun s:UInt64 × Nat × List UInt64=>a.length - s.2.1) (fun s=>s.2.1 <= a.length/\s.2.2.length = a.length/\s.1.toNat <= 1/\val (s.2.2.take s.2.1) + val (b.take s.2.1) = val (a.take s.2.1) + 18446744073709551616 ^ s.2.1 * s.1.toNat)
  (fun r:List UInt64=>r.length = a.length/\val r = val a - val b) ?_ n (0,0,List.replicate a.length 0) ⟨by simp,by simp,by simp,by simp [val]⟩ (by simpa using hn)
 ·obtain ⟨xs,h1,h2,h3⟩:=h
  refine ⟨xs,?_,h2,h3⟩
  unfold bj_p
  rw [cu _ _ (by omega),aa,h1,aa]
 ·rintro ⟨u,i,xs⟩ J ⟨h1,h2,h3,h4⟩ hJ
  simp only at h1 h2 h3 h4 hJ
  unfold bj_l1
  simp only
  by_cases hi:i < a.length
  ·rw [if_pos hi,geE hi,aa]
   have key:∀ y:UInt64,y = b[i]?.getD 0 -> ∃ r,((sub64 a[i] y u).bind fun z184=>(xs[i]?).bind fun x185=>(put xs ((i:Nat):Int) z184.1).bind fun xs198=>J (z184.2,i + 1,xs198)) = some r/\r.length = a.length/\val r = val a - val b:=by
    intro y hy
    obtain ⟨s,d,e1,e2,e3⟩:=bm a[i] y u h3
    rw [e1,aa,geE (by omega),aa,ba _ (by omega),aa]
    refine hJ (d,i + 1,xs.set i s) ⟨by show i + 1 <= _; omega,by simpa using h2,e3,?_⟩ (by simp only; omega)
    simp only
    rw [dB s (by omega),bw a hi,fX b i,<- hy,Nat.pow_succ]
    grind
   unfold jn
   simp only
   by_cases hj:i < b.length
   ·rw [if_pos hj,geE hj,aa]; exact key _ (by rw [geE hj]; rfl)
   ·rw [if_neg hj]; exact key _ (by rw [List.getElem?_eq_none (by omega)]; rfl)
  ·rw [if_neg hi]
   have:i = a.length:=by omega
   subst this
   rw [List.take_length,bJ hb,bJ (by omega)] at h4
   refine ⟨xs,rfl,h2,?_⟩
   have h5:=bU xs
   rw [h2] at h5
   by_cases hu:u.toNat = 0
   ·rw [hu] at h4; omega
   ·have:u.toNat = 1:=by omega
    rw [this] at h4; omega
end Go.Proofs.YtibdeoeglcngoaaGreatDoor
namespace Go.Proofs.YtibdeoeglcngoaaGreatDoor
open Go
theorem cL (a:List UInt64) {i:Nat} (h:i < a.length):val a = val (a.take i) + 18446744073709551616 ^ i * a[i].toNat + 18446744073709551616 ^ (i + 1) * val (a.drop (i + 1)):=by
 conv=>lhs; rw [<- List.take_append_drop (i + 1) a,dx]
 rw [bw a h,List.length_take,Nat.min_eq_left (by omega)]
theorem kR {a b:List UInt64} (hb:Nm b) (h:a.length < b.length):val a < val b:=by
 have h1:=bU a
 have h2:=gS hb (by intro e; rw [e] at h; simp at h)
 have h3:18446744073709551616 ^ a.length <= 18446744073709551616 ^ (b.length - 1):=Nat.pow_le_pow_right (by omega) (by omega)
 omega
theorem em {a b:List UInt64} {i:Nat} (ha:i < a.length) (hb:i < b.length) (hd:a.drop (i + 1) = b.drop (i + 1)) (h:a[i] < b[i]):val a < val b:=by
 rw [cL a ha,cL b hb,hd]
 have h1:=bU (a.take i)
 rw [List.length_take,Nat.min_eq_left (by omega)] at h1
 have h2:18446744073709551616 ^ i * (a[i].toNat + 1) <= 18446744073709551616 ^ i * b[i].toNat:=Nat.mul_le_mul_left _ (UInt64.lt_iff_toNat_lt.1 h)
 rw [Nat.mul_add] at h2
 omega
theorem dS (n:Nat) (a b:List UInt64) (ha:Nm a) (hb:Nm b) (hn:a.length < n) (hl:a.length < 4294967296):∃ c,a9_p n a b = some c/\(c < 0 ↔ val a < val b)/\(c = 0 ↔ val a = val b):=by
 unfold a9_p
 by_cases h:a.length = b.length
 ·rw [if_pos h]
  have hh:=aw (B:=a9_l1 n a b) (fun z:Int=>(z + 1).toNat) (fun z=>-1 <= z/\z < a.length/\a.drop (z + 1).toNat = b.drop (z + 1).toNat)
   (fun r=>(r = .inl (-1)/\val a < val b) ∨ (r = .inl 1/\val b < val a) ∨ (r = .inr ()/\a = b)) ?_ n ((a.length:Int) - 1) ⟨by omega,by omega,?_⟩ (by omega)
  ·obtain ⟨r,hr,h1 | h1 | h1⟩:=hh
   ·rw [hr,h1.1]; exact ⟨_,rfl,by have:=h1.2; omega,by have:=h1.2; omega⟩
   ·rw [hr,h1.1]; exact ⟨_,rfl,by have:=h1.2; omega,by have:=h1.2; omega⟩
   ·rw [hr,h1.1,h1.2]; exact ⟨_,rfl,by omega,by omega⟩
  ·intro z J ⟨h1,h2,h3⟩ hJ
   unfold a9_l1
   simp only
   by_cases h0:0 <= z
   ·have e1:(z + 1).toNat = z.toNat + 1:=by omega
    rw [e1] at h3
    rw [if_pos h0,bq h0 (by omega),aa,bq h0 (by omega),aa]
    split
    ·rename_i hlt; exact ⟨_,rfl,.inl ⟨rfl,em (by omega) (by omega) h3 hlt⟩⟩
    ·rename_i h4
     split
     ·rename_i hlt; exact ⟨_,rfl,.inr (.inl ⟨rfl,em (by omega) (by omega) h3.symm hlt⟩)⟩
     ·rename_i h5
      have he:a[z.toNat]'(by omega) = b[z.toNat]'(by omega):=UInt64.toNat_inj.1 (by rw [UInt64.lt_iff_toNat_lt] at h4 h5; omega)
      rw [aK (by omega) (by omega),aa]
      refine hJ (z - 1) ⟨by omega,by omega,?_⟩ (by omega)
      rw [show (z - 1 + 1).toNat = z.toNat by omega,List.drop_eq_getElem_cons (by omega),List.drop_eq_getElem_cons (l:=b) (by omega),h3,he]
   ·rw [if_neg h0]
    have e1:(z + 1).toNat = 0:=by omega
    rw [e1] at h3
    exact ⟨_,rfl,.inr (.inr ⟨rfl,by simpa using h3⟩)⟩
  ·rw [show ((a.length:Int) - 1 + 1).toNat = a.length by omega,List.drop_length,h,List.drop_length]
 ·rw [if_neg h]
  refine ⟨_,rfl,?_⟩
  by_cases h1:a.length < b.length
  ·have:=kR hb h1; omega
  ·have:=kR (a:=b) ha (by omega); omega
theorem iK (a:UInt64):(shrU a 32).toNat = a.toNat / 4294967296:=by
 unfold shrU; rw [if_pos (by decide),UInt64.toNat_ofNat']
 have:=a.toNat_lt
 omega
theorem lR (a:UInt64):(a &&& (4294967295:UInt64)).toNat = a.toNat % 4294967296:=by
 rw [UInt64.toNat_and]; exact Nat.and_two_pow_sub_one_eq_mod a.toNat 32
theorem jV (x1 x0 y1 y0:Nat) (h1:x1 < 4294967296) (h2:x0 < 4294967296) (h3:y1 < 4294967296) (h4:y0 < 4294967296) :
  ((x1 * y0 + x0 * y0 / 4294967296) < 18446744073709551616)/\((x1 * y0 + x0 * y0 / 4294967296) % 4294967296 + x0 * y1 < 18446744073709551616)/\
  x1 * y1 + (x1 * y0 + x0 * y0 / 4294967296) / 4294967296 + ((x1 * y0 + x0 * y0 / 4294967296) % 4294967296 + x0 * y1) / 4294967296 < 18446744073709551616/\
  (((x1 * 4294967296 + x0) * (y1 * 4294967296 + y0)) % 18446744073709551616) + 18446744073709551616 * (x1 * y1 + (x1 * y0 + x0 * y0 / 4294967296) / 4294967296 + ((x1 * y0 + x0 * y0 / 4294967296) % 4294967296 + x0 * y1) / 4294967296) = (x1 * 4294967296 + x0) * (y1 * 4294967296 + y0):=by
 have e:(x1 * 4294967296 + x0) * (y1 * 4294967296 + y0) = 18446744073709551616 * (x1 * y1) + 4294967296 * (x1 * y0 + x0 * y1) + x0 * y0:=by grind
 have b1:x1 * y1 <= 4294967295 * 4294967295:=Nat.mul_le_mul (by omega) (by omega)
 have b2:x1 * y0 <= 4294967295 * 4294967295:=Nat.mul_le_mul (by omega) (by omega)
 have b3:x0 * y1 <= 4294967295 * 4294967295:=Nat.mul_le_mul (by omega) (by omega)
 have b4:x0 * y0 <= 4294967295 * 4294967295:=Nat.mul_le_mul (by omega) (by omega)
 rw [e]
 generalize x1 * y1 = s at *
 generalize x1 * y0 = q at *
 generalize x0 * y1 = r at *
 generalize x0 * y0 = p at *
 clear e h1 h2 h3 h4
 refine ⟨by omega,by omega,by omega,by omega⟩
theorem kV (n:Nat) (x y:UInt64):∃ hi lo,bV_p n x y = some (hi,lo)/\lo.toNat + 18446744073709551616 * hi.toNat = x.toNat * y.toNat:=by
 refine ⟨_,_,rfl,?_⟩
 have hx:=x.toNat_lt
 have hy:=y.toNat_lt
 have ex:x.toNat = x.toNat / 4294967296 * 4294967296 + x.toNat % 4294967296:=by omega
 have ey:y.toNat = y.toNat / 4294967296 * 4294967296 + y.toNat % 4294967296:=by omega
 obtain ⟨h1,h2,h3,h4⟩:=jV (x.toNat / 4294967296) (x.toNat % 4294967296) (y.toNat / 4294967296) (y.toNat % 4294967296) (by omega) (by omega) (by omega) (by omega)
 rw [<- ex,<- ey] at h4
 have b1:x.toNat / 4294967296 * (y.toNat / 4294967296) < 18446744073709551616:=by omega
 have b2:x.toNat / 4294967296 * (y.toNat % 4294967296) < 18446744073709551616:=by omega
 have b3:x.toNat % 4294967296 * (y.toNat / 4294967296) < 18446744073709551616:=by omega
 have b4:x.toNat % 4294967296 * (y.toNat % 4294967296) < 18446744073709551616:=by
  have:x.toNat % 4294967296 * (y.toNat % 4294967296) <= 4294967295 * 4294967295:=Nat.mul_le_mul (by omega) (by omega)
  omega
 simp only [UInt64.toNat_add,UInt64.toNat_mul,iK,lR,show (2:Nat) ^ 64 = 18446744073709551616 from rfl]
 rw [Nat.mod_eq_of_lt b1,Nat.mod_eq_of_lt b2,Nat.mod_eq_of_lt b3,Nat.mod_eq_of_lt b4,Nat.mod_eq_of_lt h1,Nat.mod_eq_of_lt h2]
 rw [Nat.mod_eq_of_lt (a:=x.toNat / 4294967296 * (y.toNat / 4294967296) + _) (by omega),Nat.mod_eq_of_lt h3]
 exact h4
theorem mult_in (n:Nat) (b:List UInt64) (x:UInt64) (i:Nat) (xs0:List UInt64) (hi:i + b.length < xs0.length) (hn:b.length < n) :
  ∃ xs u,ao (aB_l1 n b x i) n (0,0,xs0) = some (xs,u)/\xs.length = xs0.length/\val (xs.take (i + b.length)) + 18446744073709551616 ^ (i + b.length) * u.toNat = val (xs0.take (i + b.length)) + x.toNat * val b * 18446744073709551616 ^ i:=by
 have h:=aw (B:=aB_l1 n b x i) (fun s:UInt64 × Nat × List UInt64=>b.length - s.2.1) (fun s=>s.2.1 <= b.length/\s.2.2.length = xs0.length/\(∀ k,i + s.2.1 <= k -> s.2.2[k]? = xs0[k]?)/\val (s.2.2.take (i + s.2.1)) + 18446744073709551616 ^ (i + s.2.1) * s.1.toNat = val (xs0.take (i + s.2.1)) + x.toNat * val (b.take s.2.1) * 18446744073709551616 ^ i)
  (fun r:List UInt64 × UInt64=>r.1.length = xs0.length/\val (r.1.take (i + b.length)) + 18446744073709551616 ^ (i + b.length) * r.2.toNat = val (xs0.take (i + b.length)) + x.toNat * val b * 18446744073709551616 ^ i) ?_ n (0,0,xs0) ⟨by simp,rfl,fun _ _=>rfl,by simp [val]⟩ (by simpa using hn)
 ·obtain ⟨⟨xs,u⟩,h1,h2,h3⟩:=h; exact ⟨xs,u,h1,h2,h3⟩
 ·rintro ⟨u,j,xs⟩ J ⟨h1,h2,h3,h4⟩ hJ
  simp only at h1 h2 h3 h4 hJ
  unfold aB_l1
  simp only
  by_cases hj:j < b.length
  ·obtain ⟨hi', lo,e1,e2⟩:=kV n x b[j]
   have hx0:xs[i + j]'(by omega) = xs0[i + j]'(by omega):=by
    have:=h3 (i + j) (by omega)
    rw [geE (by omega),geE (by omega)] at this
    exact Option.some.inj this
   rw [if_pos hj,geE hj,aa,e1,aa,geE (by omega),aa]
   obtain ⟨s,c,f1,f2,f3⟩:=eJ (xs[i + j]'(by omega)) lo 0 (by simp)
   obtain ⟨s', c', g1,g2,g3⟩:=eJ s u 0 (by simp)
   simp only [f1,aa,g1]
   rw [ba _ (by omega),aa]
   simp only [UInt64.toNat_zero,Nat.add_zero] at f2 g2
   have bx:x.toNat * b[j].toNat <= 18446744073709551615 * 18446744073709551615:=Nat.mul_le_mul (by have:=x.toNat_lt; omega) (by have:=b[j].toNat_lt; omega)
   have bo:=(xs[i + j]'(by omega)).toNat_lt
   have bu:=u.toNat_lt
   have e3:(hi' + c + c').toNat = hi'.toNat + c.toNat + c'.toNat:=by
    rw [UInt64.toNat_add,UInt64.toNat_add]; omega
   have e4:s'.toNat + 18446744073709551616 * (hi' + c + c').toNat = (xs[i + j]'(by omega)).toNat + x.toNat * b[j].toNat + u.toNat:=by rw [e3]; omega
   refine hJ (hi' + c + c', j + 1,xs.set (i + j) s') ⟨hj,by simpa using h2,fun k hk=>?_,?_⟩ (by simp only; omega)
   ·simp only at hk ⊢
    rw [List.getElem?_set_ne (by omega)]; exact h3 k (by omega)
   ·simp only
    rw [<- Nat.add_assoc,dB s' (by omega),bw xs0 (by omega),bw b hj,<- hx0,Nat.pow_succ]
    rw [Nat.pow_add] at h4 ⊢
    grind
  ·rw [if_neg hj]
   have:j = b.length:=by omega
   subst this
   refine ⟨_,rfl,h2,?_⟩
   simp only
   rw [h4,List.take_length]
theorem fO (n:Nat) (a b:List UInt64) (hn:a.length < n/\b.length < n) (hl:a.length + b.length <= 4294967296):∃ xs,aB_p n a b = some xs/\xs.length = a.length + b.length/\val xs = val a * val b:=by
 have h:=aw (B:=aB_l2 n a b) (fun s:Nat × List UInt64=>a.length - s.1) (fun s=>s.1 <= a.length/\s.2.length = a.length + b.length/\val (s.2.take (s.1 + b.length)) = val (a.take s.1) * val b)
  (fun r:List UInt64=>r.length = a.length + b.length/\val r = val a * val b) ?_ n (0,List.replicate (a.length + b.length) 0) ⟨by simp,by simp,?_⟩ (by simpa using hn.1)
 ·obtain ⟨xs,h1,h2,h3⟩:=h
  refine ⟨xs,?_,h2,h3⟩
  unfold aB_p
  rw [cu _ _ hl,aa,h1,aa]
 ·rintro ⟨i,xs⟩ J ⟨h1,h2,h3⟩ hJ
  simp only at h1 h2 h3 hJ
  unfold aB_l2
  simp only
  by_cases hi:i < a.length
  ·obtain ⟨ys,u,e1,e2,e3⟩:=mult_in n b a[i] i xs (by omega) hn.2
   rw [if_pos hi,geE hi,aa,e1,aa]
   simp only
   rw [geE (by omega),aa,ba _ (by omega),aa]
   refine hJ (i + 1,ys.set (i + b.length) u) ⟨hi,by simp; omega,?_⟩ (by simp only; omega)
   simp only
   rw [show i + 1 + b.length = i + b.length + 1 by omega,dB u (by omega),bw a hi,e3,h3]
   grind
  ·rw [if_neg hi]
   have:i = a.length:=by omega
   subst this
   rw [List.take_length,bJ (by omega)] at h3
   exact ⟨xs,rfl,h2,h3⟩
 ·simp only [List.take_zero,val,Nat.zero_mul]
  exact bQ _ fun x hx=>(List.mem_replicate.1 (List.mem_of_mem_take hx)).2
def L (z:Int):Tg:=⟨decide (z < 0),dg z.natAbs⟩
def Fit (l:Nat) (z:Int):Prop:=z.natAbs < 18446744073709551616 ^ l
theorem Fit.len {l:Nat} {z:Int} (h:Fit l z):(dg z.natAbs).length <= l:=eO h
def sg (s:Bool) (m:Nat):Int:=if s = true then -(m:Int) else m
theorem ke (s:Bool) (m:Nat):(⟨s && decide (0 < m),dg m⟩:Tg) = L (sg s m):=by
 unfold L sg
 cases s
 ·simp
 ·simp
theorem sg_of (z:Int):z = sg (decide (z < 0)) z.natAbs:=by
 unfold sg; split <;> rename_i h <;> simp at h <;> omega
theorem gL (s:Bool) (m:Nat):(sg s m).natAbs = m:=by unfold sg; split <;> omega
theorem bF (n l:Nat) (z:Int) (h:Fit l z) (hn:l < n) (hl:l < 1000000):aM_p n (L z) = some (L (-z)):=by
 unfold aM_p
 have h1:=h.len
 rw [aE n _ _ (by show (dg z.natAbs).length < n; omega) (by show (dg z.natAbs).length <= _; omega),aa]
 show some (⟨!decide (z < 0) && decide (0 < val (dg z.natAbs)),dg (val (dg z.natAbs))⟩:Tg) = _
 rw [aA,ke]
 refine congrArg (fun x=>some (L x)) ?_
 unfold sg
 by_cases hz:z < 0 <;> simp [hz] <;> omega
theorem cr (n l m:Nat) (a b:Int) (ha:Fit l a) (hb:Fit m b) (hn:l + m < n) (hl:l + m < 1000000):ax_p n (L a) (L b) = some (L (a * b)):=by
 unfold ax_p
 have h1:=ha.len
 have h2:=hb.len
 obtain ⟨xs,e1,e2,e3⟩:=fO n (L a).fo (L b).fo ⟨by show (dg a.natAbs).length < n; omega,by show (dg b.natAbs).length < n; omega⟩ (by show (dg a.natAbs).length + (dg b.natAbs).length <= _; omega)
 have e4:xs.length = (dg a.natAbs).length + (dg b.natAbs).length:=e2
 rw [e1,aa,aE n _ _ (by omega) (by omega),aa,e3]
 show some (⟨!(decide (a < 0) == decide (b < 0)) && decide (0 < val (dg a.natAbs) * val (dg b.natAbs)),dg (val (dg a.natAbs) * val (dg b.natAbs))⟩:Tg) = _
 rw [aA,aA,ke]
 refine congrArg (fun x=>some (L x)) ?_
 conv=>rhs; rw [sg_of a,sg_of b]
 unfold sg
 by_cases h3:a < 0 <;> by_cases h4:b < 0 <;> simp [h3,h4,Int.neg_mul,Int.mul_neg,Int.neg_mul_neg]
theorem er {a b:Nat} (h:a <= b):(dg a).length <= (dg b).length:=eO (Nat.lt_of_le_of_lt h (by have:=bU (dg b); rwa [aA] at this))
theorem jr (n l a b:Nat) (s:Bool) (h:a <= b) (hl:(dg b).length <= l) (hn:l < n) (hl2:l < 1000000):((bj_p n (dg b) (dg a)).bind fun y67=>(al_p n s y67).bind fun y75=>some y75) = some (L (sg s (b - a))):=by
 obtain ⟨xs,e1,e2,e3⟩:=hH n (dg b) (dg a) (er h) (by rw [aA,aA]; exact h) (by omega) (by omega)
 rw [e1,aa,aE n _ _ (by omega) (by omega),aa,e3,aA,aA,ke]
theorem cQ (n l:Nat) (a b:Int) (ha:Fit l a) (hb:Fit l b) (hn:l + 1 < n) (hl:l < 1000000):aW_p n (L a) (L b) = some (L (a + b)):=by
 unfold aW_p
 have h1:=ha.len
 have h2:=hb.len
 by_cases h:((L a).fj == (L b).fj) = true
 ·rw [if_pos h]
  obtain ⟨xs,e1,e2,e3⟩:=lx n (L a).fo (L b).fo ⟨by show (dg a.natAbs).length < n; omega,by show (dg b.natAbs).length < n; omega⟩ ⟨by show (dg a.natAbs).length < _; omega,by show (dg b.natAbs).length < _; omega⟩
  have e4:xs.length <= max (dg a.natAbs).length (dg b.natAbs).length + 1:=e2
  rw [e1,aa,aE n _ _ (by omega) (by omega),aa,e3]
  show some (⟨decide (a < 0) && decide (0 < val (dg a.natAbs) + val (dg b.natAbs)),dg (val (dg a.natAbs) + val (dg b.natAbs))⟩:Tg) = _
  rw [aA,aA,ke]
  refine congrArg (fun x=>some (L x)) ?_
  have h3:decide (a < 0) = decide (b < 0):=eq_of_beq h
  unfold sg
  by_cases h4:a < 0 <;> by_cases h5:b < 0 <;> simp [h4,h5] at h3 ⊢ <;> omega
 ·rw [if_neg h]
  obtain ⟨c,e1,e2,e3⟩:=dS n (L a).fo (L b).fo (eQ _) (eQ _) (by show (dg a.natAbs).length < n; omega) (by show (dg a.natAbs).length < _; omega)
  have h3:decide (a < 0) ≠ decide (b < 0):=fun e=>h (by rw [beq_iff_eq]; exact e)
  rw [e1,aa]
  unfold jn
  simp only
  have e4:c < 0 ↔ a.natAbs < b.natAbs:=by rw [e2]; show val (dg a.natAbs) < val (dg b.natAbs) ↔ _; rw [aA,aA]
  by_cases hc:c < 0
  ·rw [if_pos hc]
   show ((bj_p n (dg b.natAbs) (dg a.natAbs)).bind fun y67=>(al_p n (decide (b < 0)) y67).bind fun y75=>some y75) = _
   rw [jr n l _ _ _ (by omega) h2 (by omega) hl]
   refine congrArg (fun x=>some (L x)) ?_
   unfold sg
   by_cases h4:a < 0 <;> by_cases h5:b < 0 <;> simp [h4,h5] at h3 ⊢ <;> omega
  ·rw [if_neg hc]
   show ((bj_p n (dg a.natAbs) (dg b.natAbs)).bind fun y67=>(al_p n (decide (a < 0)) y67).bind fun y75=>some y75) = _
   rw [jr n l _ _ _ (by omega) h1 (by omega) hl]
   refine congrArg (fun x=>some (L x)) ?_
   unfold sg
   by_cases h4:a < 0 <;> by_cases h5:b < 0 <;> simp [h4,h5] at h3 ⊢ <;> omega
theorem Fit.neg {l:Nat} {z:Int} (h:Fit l z):Fit l (-z):=by unfold Fit at *; rwa [Int.natAbs_neg]
theorem ig (n l:Nat) (a b:Int) (ha:Fit l a) (hb:Fit l b) (hn:l + 1 < n) (hl:l < 1000000):bR_p n (L a) (L b) = some (L (a - b)):=by
 unfold bR_p
 rw [bF n l b hb (by omega) hl,aa,cQ n l a (-b) ha hb.neg hn hl,aa,Int.sub_eq_add_neg]
theorem eB (n:Nat) (a:Int):bp_p n (L a) = some a.sign:=by
 unfold bp_p
 by_cases h:a < 0
 ·rw [if_pos (by simpa [L] using h),Int.sign_eq_neg_one_of_neg h]
 ·rw [if_neg (by simpa [L] using h)]
  by_cases h0:a = 0
  ·subst h0; rw [if_pos (by simp [L,dg0])]; rfl
  ·rw [if_neg,Int.sign_eq_one_of_pos (by omega)]
   show ¬ (dg a.natAbs).length = 0
   rw [fR (by omega)]; simp
end Go.Proofs.YtibdeoeglcngoaaGreatDoor
namespace Go.Proofs.YtibdeoeglcngoaaGreatDoor
open Go
theorem dg1 {m:Nat} (h0:m ≠ 0) (h:m < 18446744073709551616):dg m = [UInt64.ofNat m]:=by
 rw [fR h0,show m / 18446744073709551616 = 0 by omega,dg0]
theorem ic {m:Nat} (h0:m ≠ 0) (h:m < 18446744073709551616):UInt64.ofNat m ≠ 0:=fun e=>by
 have:=congrArg UInt64.toNat e
 rw [UInt64.toNat_ofNat'] at this
 simp at this; omega
theorem bR {m:Nat} (h:m < 18446744073709551616):(UInt64.ofNat m).toNat = m:=by rw [UInt64.toNat_ofNat']; exact Nat.mod_eq_of_lt h
theorem lj (n:Nat) (x y:UInt64) (h:y ≠ 0):au_p n 0 x y = some (x / y,x % y):=by
 unfold au_p
 have h1:¬ y <= 0:=fun h1=>h (UInt64.toNat_inj.1 (by rw [UInt64.le_iff_toNat_le] at h1; simpa using h1))
 rw [if_neg h,if_neg h1,if_pos rfl]
 unfold gR jW
 rw [if_neg h,aa,if_neg h,aa]
theorem eH (n a b:Nat) (ha:a < 18446744073709551616) (hb:b < 18446744073709551616) (h0:b ≠ 0) (hn:4 < n):∃ q,aw_p n (dg a) (dg b) = some (q,dg (a % b))/\q.length <= 1/\val q = a / b:=by
 obtain ⟨k,rfl⟩:∃ k,n = k + 3:=⟨n - 3,by omega⟩
 rw [dg1 h0 hb]
 unfold aw_p
 by_cases h:a = 0
 ·subst h
  refine ⟨[],?_,by simp,by simp [val]⟩
  rw [dg0,Nat.zero_mod,dg0]
  rw [cu _ _ (by simp),aa,if_pos (show [UInt64.ofNat b].length = 1 from rfl),bt]
  unfold aw_l1
  simp only
  rw [if_neg (by decide),aa]
  simp only
  rw [aE _ _ _ (by simp) (by simp),aa]
  simp [val,dg0]
 ·have hm:a % b < 18446744073709551616:=Nat.lt_of_le_of_lt (Nat.mod_le _ _) ha
  have e2:(UInt64.ofNat a % UInt64.ofNat b).toNat = a % b:=by rw [UInt64.toNat_mod,bR ha,bR hb]
  refine ⟨[UInt64.ofNat a / UInt64.ofNat b],?_,by simp,?_⟩
  ·rw [dg1 h ha,cu _ _ (by simp),aa,if_pos (show [UInt64.ofNat b].length = 1 from rfl),bt]
   unfold aw_l1
   simp only
   rw [if_pos (show (0:Int) <= ((([UInt64.ofNat a]:List UInt64).length:Nat):Int) - 1 by simp),bq (by simp) (by simp),aa]
   simp only [leC,leN,List.getElem?_cons_zero,aa]
   show ((au_p (k + 3) 0 (UInt64.ofNat a) (UInt64.ofNat b)).bind _).bind _ = _
   rw [lj _ _ _ (ic h0 hb),aa]
   show (((some (0:UInt64)).bind _)).bind _ = _
   rw [aa]
   show ((put [(0:UInt64)] ((0:Nat):Int) _).bind _).bind _ = _
   rw [ba _ (by decide),aa]
   show (((some (-1:Int)).bind _)).bind _ = _
   rw [aa,bt]
   simp only
   rw [if_neg (by decide),aa]
   simp only
   rw [aE _ _ _ (by simp) (by simp),aa]
   simp [val,e2]
  ·simp only [val]
   rw [UInt64.toNat_div,bR ha,bR hb]; simp
theorem cG {a b q r:Int} (h:a = b * q + r) (h0:0 <= r) (h1:r < b.natAbs):a / b = q/\a % b = r:=by
 by_cases hb:0 < b
 ·exact (Int.ediv_emod_unique hb).2 ⟨by rw [h]; omega,h0,by omega⟩
 ·have hb2:0 < -b:=by omega
  have h3:a = (-b) * (-q) + r:=by rw [h,Int.neg_mul_neg]
  obtain ⟨e1,e2⟩:=(Int.ediv_emod_unique (a:=a) (r:=r) (q:=-q) hb2).2 ⟨by rw [h3]; omega,h0,by omega⟩
  rw [Int.ediv_neg] at e1
  rw [Int.emod_neg] at e2
  exact ⟨by omega,e2⟩
def W1 (z:Int):Prop:=z.natAbs < 18446744073709551616
theorem im (n:Nat) (a b:Int) (ha:W1 a) (hb:W1 b) (h0:b ≠ 0) (hn:10 < n):bh_p n (L a) (L b) = some (L (a / b),L (a % b)):=by
 obtain ⟨q,e1,e2,e3⟩:=eH n a.natAbs b.natAbs ha hb (by omega) (by omega)
 have hm:a.natAbs % b.natAbs < b.natAbs:=Nat.mod_lt _ (by omega)
 have hl:(dg (a.natAbs % b.natAbs)).length <= 1:=eO (by rw [Nat.pow_one]; unfold W1 at hb; omega)
 have hdm:=Nat.div_add_mod a.natAbs b.natAbs
 have hq:a.natAbs / b.natAbs <= a.natAbs:=Nat.div_le_self _ _
 unfold bh_p
 rw [show (L a).fo = dg a.natAbs from rfl,show (L b).fo = dg b.natAbs from rfl,e1,aa]
 simp only
 rw [aE n _ _ (by omega) (by omega),aa,aE n _ _ (by omega) (by omega),aa,e3,aA]
 generalize hx:a.natAbs / b.natAbs = x at *
 generalize hy:a.natAbs % b.natAbs = y at *
 simp only [ke]
 show (if (decide (a < 0) && decide (0 < y)) = true then _ else _) = _
 unfold W1 at ha hb
 have hab:(b.natAbs:Int) * x + y = a.natAbs:=by exact_mod_cast hdm
 by_cases hr:a < 0/\0 < y
 ·obtain ⟨h1,h2⟩:=hr
  rw [if_pos (by simp [h1,h2])]
  have f1:(⟨false,dg b.natAbs⟩:Tg) = L b.natAbs:=by unfold L; simp
  have f2:(⟨!(L b).fj,([(1:UInt64)]:List UInt64)⟩:Tg) = L (if b < 0 then 1 else -1):=by
   unfold L
   by_cases hb0:b < 0 <;> simp [hb0] <;> rw [dg1 (by decide) (by decide)] <;> rfl
  rw [f1,f2,cQ n 1 _ _ ?_ ?_ (by omega) (by omega),aa,cQ n 1 _ _ ?_ ?_ (by omega) (by omega),aa]
  ·have e:sg (!(decide (a < 0) == decide (b < 0))) x + (if b < 0 then 1 else -1) = a / b/\sg (decide (a < 0)) y + b.natAbs = a % b:=by
    have:=cG (a:=a) (b:=b) (q:=sg (!(decide (a < 0) == decide (b < 0))) x + (if b < 0 then 1 else -1)) (r:=sg (decide (a < 0)) y + b.natAbs) ?_ ?_ ?_
    ·exact ⟨this.1.symm,this.2.symm⟩
    ·unfold sg
     by_cases hb0:b < 0
     ·have:(b.natAbs:Int) = -b:=by omega
      rw [this] at hab ⊢
      have h3:(a.natAbs:Int) = -a:=by omega
      simp [h1,hb0]
      rw [Int.mul_add]; grind
     ·have:(b.natAbs:Int) = b:=by omega
      rw [this] at hab ⊢
      have h3:(a.natAbs:Int) = -a:=by omega
      simp [h1,hb0]
      rw [Int.mul_add]; grind
    ·unfold sg; simp [h1]; omega
    ·unfold sg; simp [h1]; omega
   show some (L (sg (!(decide (a < 0) == decide (b < 0))) x + (if b < 0 then 1 else -1)),L (sg (decide (a < 0)) y + b.natAbs)) = _
   rw [e.1,e.2]
  ·unfold Fit; rw [Nat.pow_one,gL]; omega
  ·unfold Fit; rw [Nat.pow_one]; split <;> decide
  ·unfold Fit; rw [Nat.pow_one,gL]; omega
  ·unfold Fit; rw [Nat.pow_one]; omega
 ·rw [if_neg (by simpa using hr)]
  have e:=cG (a:=a) (b:=b) (q:=sg (!(decide (a < 0) == decide (b < 0))) x) (r:=sg (decide (a < 0)) y) ?_ ?_ ?_
  ·rw [e.1,e.2]; rfl
  ·unfold sg
   by_cases h1:a < 0
   ·have hy0:y = 0:=by omega
    have h3:(a.natAbs:Int) = -a:=by omega
    by_cases hb0:b < 0
    ·have:(b.natAbs:Int) = -b:=by omega
     rw [this] at hab; simp [h1,hb0,hy0] at hab ⊢; grind
    ·have:(b.natAbs:Int) = b:=by omega
     rw [this] at hab; simp [h1,hb0,hy0] at hab ⊢; grind
   ·have h3:(a.natAbs:Int) = a:=by omega
    by_cases hb0:b < 0
    ·have:(b.natAbs:Int) = -b:=by omega
     rw [this] at hab; simp [h1,hb0] at hab ⊢; grind
    ·have:(b.natAbs:Int) = b:=by omega
     rw [this] at hab; simp [h1,hb0] at hab ⊢; grind
  ·unfold sg
   by_cases h1:a < 0
   ·have hy0:y = 0:=by omega
    simp [hy0]
   ·simp [h1]
  ·unfold sg
   by_cases h1:a < 0
   ·have hy0:y = 0:=by omega
    simp [hy0]; omega
   ·simp [h1]; omega
theorem kB (n:Nat) (a b:Int) (ha:W1 a) (hb:W1 b) (hn:18446744073709551616 < n):ar_p n (L a) (L b) = some (L (Nat.gcd a.natAbs b.natAbs:Nat)):=by
 have h:=aw (B:=ar_l1 n) (fun s:List UInt64 × List UInt64=>val s.2) (fun s=>∃ x y,s = (dg x,dg y)/\x < 18446744073709551616/\y < 18446744073709551616/\Nat.gcd x y = Nat.gcd a.natAbs b.natAbs)
  (fun r=>r = dg (Nat.gcd a.natAbs b.natAbs)) ?_ n (dg a.natAbs,dg b.natAbs) ⟨_,_,rfl,ha,hb,rfl⟩ (by simp only [aA]; unfold W1 at hb; omega)
 ·obtain ⟨r,h1,rfl⟩:=h
  unfold ar_p
  rw [show (L a).fo = dg a.natAbs from rfl,show (L b).fo = dg b.natAbs from rfl,h1,aa]
  unfold L
  simp
 ·rintro _ J ⟨x,y,rfl,h1,h2,h3⟩ hJ
  unfold ar_l1
  simp only
  by_cases h0:y = 0
  ·subst h0
   rw [if_neg (by rw [dg0]; simp)]
   exact ⟨_,rfl,by rw [<- h3,Nat.gcd_zero_right]⟩
  ·obtain ⟨q,e1,_,_⟩:=eH n x y h1 h2 h0 (by omega)
   have hm:x % y < y:=Nat.mod_lt _ (by omega)
   rw [if_pos (by rw [dg1 h0 h2]; simp),e1,aa]
   simp only
   refine hJ (dg y,dg (x % y)) ⟨_,_,rfl,h2,by omega,?_⟩ (by simp only [aA]; exact hm)
   rw [<- h3,Nat.gcd_comm x y,Nat.gcd_rec y x,Nat.gcd_comm]
end Go.Proofs.YtibdeoeglcngoaaGreatDoor
namespace Go.Proofs.YtibdeoeglcngoaaGreatDoor
open Go
def W8 (z:Int):UInt64 × UInt64 × UInt64 × UInt64 × UInt64 × UInt64 × UInt64 × UInt64:=
 if z < 0 then (ae z,18446744073709551615,18446744073709551615,18446744073709551615,18446744073709551615,18446744073709551615,18446744073709551615,18446744073709551615) else (ae z,0,0,0,0,0,0,0)
def Sm (z:Int):Prop:=z.natAbs < 9223372036854775808
theorem Sm.w {z:Int} (h:Sm z):W1 z:=by unfold Sm W1 at *; omega
theorem ep {z:Int} (h:Sm z) (h0:z < 0):(ae z).toNat = 18446744073709551616 - z.natAbs:=by
 unfold ae Sm at *; rw [UInt64.toNat_ofNat']; omega
theorem ez {z:Int} (h:Sm z) (h0:¬ z < 0):ae z = UInt64.ofNat z.natAbs:=by
 unfold ae Sm at *; congr 1; omega
theorem lz (n:Nat) (z:Int) (hn:10 < n):cm_p n z = some (W8 z):=by
 obtain ⟨k,rfl⟩:∃ k,n = k + 9:=⟨n - 9,by omega⟩
 unfold cm_p W8
 by_cases h:z < 0
 ·rw [if_pos h,if_pos h]
  simp [bt,cm_l1,br]
 ·rw [if_neg h,if_neg h]
theorem sub_m1:sub64 0 18446744073709551615 1 = some (0,1):=rfl
theorem sub_01:sub64 0 0 1 = some (18446744073709551615,1):=rfl
theorem read_ok (n:Nat) (z:Int) (h:Sm z):cu_p n (W8 z) = some ⟨decide (z < 0),(UInt64.ofNat z.natAbs,0,0,0,0,0,0,0)⟩:=by
 unfold cu_p W8
 by_cases h0:z < 0
 ·rw [if_pos h0]
  have e:sub64 0 (ae z) 0 = some (UInt64.ofNat z.natAbs,1):=by
   unfold sub64
   rw [if_pos (by decide),ep h h0]
   unfold Sm at h
   rw [if_pos (by simp; omega)]
   congr 2
   simp; congr 1; omega
  rw [if_pos (show shrU 18446744073709551615 63 = 1 from rfl)]
  unfold aP_p
  simp only [e,aa,sub_m1]
  simp [h0]; rfl
 ·rw [if_neg h0]
  rw [if_neg (show ¬ shrU 0 63 = 1 from by decide),ez h h0]
  simp [h0]; decide
theorem dG (n:Nat) (z:Int) (h:Sm z) (hn:10 < n):bb_p n (W8 z) = some (L z):=by
 unfold bb_p
 rw [read_ok n z h,aa]
 simp only
 rw [show app ([]:List UInt64) [UInt64.ofNat z.natAbs,0,0,0,0,0,0,0] = some [UInt64.ofNat z.natAbs,0,0,0,0,0,0,0] from rfl,aa,aE n _ _ (by simpa using by omega) (by simp),aa]
 have e:val [UInt64.ofNat z.natAbs,0,0,0,0,0,0,0] = z.natAbs:=by
  have:=h.w; unfold W1 at this
  simp only [val,bR this]; simp
 rw [e]
 unfold L
 by_cases h0:z < 0
 ·simp [h0]; omega
 ·simp [h0]
theorem from_ok (n:Nat) (z:Int) (h:Sm z) (hn:10 < n):cy_p n z = some (L z):=by
 unfold cy_p; rw [lz n z hn,aa,dG n z h hn,aa]
theorem lU {m:Nat} (h:m < 18446744073709551616):aJ (dg m) 0 0 = UInt64.ofNat m:=by
 by_cases h0:m = 0
 ·subst h0; rw [dg0]; rfl
 ·rw [dg1 h0 h]; rfl
theorem bM {m:Nat} (j:Nat) (h:m < 18446744073709551616):aJ (dg m) (j + 1) 0 = 0:=by
 by_cases h0:m = 0
 ·subst h0; rw [dg0]; rfl
 ·rw [dg1 h0 h]; rfl
theorem jI (n:Nat) (z:Int) (h:Sm z) (hn:10 < n):bm_p n (L z) = some (W8 z,0):=by
 have hw:=h.w
 unfold W1 at hw
 have hl:¬ 8 < (L z).fo.length:=by
  have:(dg z.natAbs).length <= 1:=eO (by rw [Nat.pow_one]; exact hw)
  show ¬ 8 < (dg z.natAbs).length
  omega
 unfold bm_p
 rw [if_neg hl,show (L z).fo = dg z.natAbs from rfl,lU hw,bM 0 hw,bM 1 hw,bM 2 hw,bM 3 hw,bM 4 hw,bM 5 hw,bM 6 hw]
 unfold bD_p
 have ho:∀ x:UInt64,aG_p n (x,0,0,0,0,0,0,0) (0,0,0,0,0,0,0,9223372036854775808) = some (-1):=fun x=>by
  obtain ⟨k,rfl⟩:∃ k,n = k + 1:=⟨n - 1,by omega⟩
  unfold aG_p
  rw [bt]
  rfl
 rw [ho,aa,if_neg (by decide),if_neg (by decide)]
 unfold W8
 by_cases h0:z < 0
 ·have e:sub64 0 (UInt64.ofNat z.natAbs) 0 = some (ae z,1):=by
   unfold sub64
   rw [if_pos (by decide),bR hw]
   rw [if_pos (by simp; omega)]
   congr 2
   refine UInt64.toNat_inj.1 ?_
   rw [ep h h0,UInt64.toNat_ofNat']
   unfold Sm at h
   simp; omega
  rw [if_pos h0,if_pos (by simpa [L] using h0)]
  unfold aP_p
  simp only [e,aa,sub_01]
 ·rw [if_neg h0,if_neg (by simpa [L] using h0),aa,ez h h0]
def Rt (q:Rat):Th:=⟨L q.num,L q.den⟩
def Sh (q:Rat):Ta:=⟨W8 q.num,W8 q.den⟩
theorem gQ {x y:Int} (hy:0 < y) (hc:x.natAbs.Coprime y.natAbs):(Rat.divInt x y).num = x/\((Rat.divInt x y).den:Int) = y:=by
 have e:Rat.divInt x y = { num:=x,den:=y.natAbs,den_nz:=by omega,reduced:=hc }:=by
  rw [Rat.mk_eq_divInt]; congr 1; omega
 rw [e]; exact ⟨rfl,by simp only; omega⟩
theorem jY (n:Nat) (a b:Int) (ha:W1 a) (hb:W1 b) (h0:b ≠ 0) (hn:18446744073709551616 < n) :
  br_p n (L a) (L b) = some (Rt (Rat.divInt a b))/\(Rat.divInt a b).num.natAbs <= a.natAbs/\(Rat.divInt a b).den <= b.natAbs:=by
 have hg:0 < Nat.gcd a.natAbs b.natAbs:=Nat.gcd_pos_of_pos_right _ (by omega)
 have hgb:Nat.gcd a.natAbs b.natAbs <= b.natAbs:=Nat.gcd_le_right _ (by omega)
 have hgw:W1 ((Nat.gcd a.natAbs b.natAbs:Nat):Int):=by unfold W1 at *; omega
 obtain ⟨x,hx⟩:((Nat.gcd a.natAbs b.natAbs:Nat):Int) ∣ a:=Int.ofNat_dvd_left.2 (Nat.gcd_dvd_left _ _)
 obtain ⟨y,hy⟩:((Nat.gcd a.natAbs b.natAbs:Nat):Int) ∣ b:=Int.ofNat_dvd_left.2 (Nat.gcd_dvd_right _ _)
 have hco:=Nat.coprime_div_gcd_div_gcd hg
 generalize Nat.gcd a.natAbs b.natAbs = g at *
 have hg0:(g:Int) ≠ 0:=by omega
 have e1:a / (g:Int) = x:=by rw [hx]; exact Int.mul_ediv_cancel_left _ hg0
 have e2:b / (g:Int) = y:=by rw [hy]; exact Int.mul_ediv_cancel_left _ hg0
 have e3:a.natAbs = g * x.natAbs:=by rw [hx,Int.natAbs_mul]; rfl
 have e4:b.natAbs = g * y.natAbs:=by rw [hy,Int.natAbs_mul]; rfl
 have hc:x.natAbs.Coprime y.natAbs:=by
  rw [e3,e4,Nat.mul_div_cancel_left _ hg,Nat.mul_div_cancel_left _ hg] at hco; exact hco
 have hxl:x.natAbs <= a.natAbs:=by rw [e3]; exact Nat.le_mul_of_pos_left _ hg
 have hyl:y.natAbs <= b.natAbs:=by rw [e4]; exact Nat.le_mul_of_pos_left _ hg
 have hy0:y ≠ 0:=fun e=>h0 (by rw [hy,e,Int.mul_zero])
 have eq:Rat.divInt a b = Rat.divInt x y:=by
  conv=>lhs; rw [hx,hy]
  exact Rat.divInt_mul_left hg0
 have xw:Fit 1 x:=by unfold Fit; unfold W1 at ha; rw [Nat.pow_one]; omega
 have yw:Fit 1 y:=by unfold Fit; unfold W1 at hb; rw [Nat.pow_one]; omega
 have gc:ar_p n (L a) (L b) = some (L g):=by
  have:=kB n a b ha hb hn
  rw [this]
  have h5:Nat.gcd a.natAbs b.natAbs = g:=by
   rw [e3,e4,Nat.gcd_mul_left,show Nat.gcd x.natAbs y.natAbs = 1 from hc,Nat.mul_one]
  rw [h5]
 unfold br_p
 rw [gc,aa,im n a g ha hgw hg0 (by omega),aa,im n b g hb hgw hg0 (by omega),aa,e1,e2]
 simp only
 rw [eq]
 by_cases hs:y < 0
 ·rw [if_pos (by simpa [L] using hs),bF n 1 x xw (by omega) (by omega),aa,bF n 1 y yw (by omega) (by omega),aa]
  have h5:=gQ (x:=-x) (y:=-y) (by omega) (by rwa [Int.natAbs_neg,Int.natAbs_neg])
  rw [Rat.neg_divInt_neg] at h5
  unfold Rt
  rw [h5.1,h5.2]
  exact ⟨rfl,by rw [Int.natAbs_neg]; exact hxl,by have:=h5.2; omega⟩
 ·rw [if_neg (by simpa [L] using hs)]
  have h5:=gQ (x:=x) (y:=y) (by omega) hc
  unfold Rt
  rw [h5.1,h5.2]
  exact ⟨rfl,hxl,by have:=h5.2; omega⟩
end Go.Proofs.YtibdeoeglcngoaaGreatDoor
namespace Go.Proofs.YtibdeoeglcngoaaGreatDoor
open Go
theorem W8_ne {z:Int} (h:Sm z) (h0:z ≠ 0):W8 z ≠ (0,0,0,0,0,0,0,0):=fun e=>by
 have e1:ae z = 0:=by
  have:=congrArg Prod.fst e
  unfold W8 at this
  split at this <;> exact this
 by_cases hz:z < 0
 ·have:=ep h hz
  rw [e1] at this; unfold Sm at h; simp at this; omega
 ·rw [ez h hz] at e1
  exact ic (by omega) h.w e1
theorem kG (n:Nat) (q:Rat) (h1:Sm q.num) (h2:Sm (q.den:Int)) (hn:10 < n):aX_p n (Rt q) = some (Sh q,0):=by
 unfold aX_p
 rw [show (Rt q).fv = L q.num from rfl,show (Rt q).fp = L q.den from rfl,jI n _ h1 hn,aa,jI n _ h2 hn,aa]
 rfl
theorem ii (n:Nat) (a b:Int) (ha:Sm a) (hb:Sm b) (h0:b ≠ 0) (hn:18446744073709551616 < n):cr_p n a b = some (Sh (Rat.divInt a b),0):=by
 obtain ⟨e1,e2,e3⟩:=jY n a b ha.w hb.w h0 hn
 unfold cr_p
 rw [lz n a (by omega),aa,lz n b (by omega),aa]
 unfold cx_p
 rw [if_neg (W8_ne hb h0),dG n a ha (by omega),aa,dG n b hb (by omega),aa,e1,aa,kG n _ (by unfold Sm at *; omega) (by unfold Sm at *; omega) (by omega)]
 rfl
end Go.Proofs.YtibdeoeglcngoaaGreatDoor
namespace Go.Proofs.YtibdeoeglcngoaaGreatDoor
open Go
theorem cK {x y:Int} (h:y ≠ 0):dC x y = some (x.tmod y):=if_neg h
theorem eb {α:Type} (xs ys:List α) (h:xs.length + ys.length <= 1000000):app xs ys = some (xs ++ ys):=if_pos (Nat.le_trans h (by decide))
theorem lA (n:Nat) (d:Tj) (i:Int) (h:0 <= i):∃ y,aO_p n d i = some y/\0 <= y/\y < 256:=by
 unfold aO_p
 split
 ·rw [bq h (by omega),aa]
  have:=(d.fLabels[i.toNat]'(by omega)).toNat_lt
  exact ⟨_,rfl,by omega,by omega⟩
 ·exact ⟨_,rfl,by omega,by omega⟩
theorem kC (n:Nat) (d:Tj) (hn:20 < n):∃ l,ao (ae_l2 n d) n (0,[]) = some l/\1 <= l.length/\l.length <= 9/\∀ x ∈ l,0 <= x/\x < 8:=by
 have hu:(d.fN % 9).toNat < 9:=by rw [UInt8.toNat_mod]; exact Nat.mod_lt _ (by decide)
 have hk:(d.fK % 8).toNat < 8:=by rw [UInt8.toNat_mod]; exact Nat.mod_lt _ (by decide)
 have h:=aw (B:=ae_l2 n d) (fun s:Int × List Int=>10 - s.1.toNat) (fun s=>0 <= s.1/\s.1 <= (1 + (d.fN % 9).toNat:Nat)/\s.2.length = s.1.toNat/\∀ x ∈ s.2,0 <= x/\x < 8)
  (fun l=>1 <= l.length/\l.length <= 9/\∀ x ∈ l,0 <= x/\x < 8) ?_ n (0,[]) ⟨by simp,by omega,by simp,by simp⟩ (by simp only; omega)
 ·obtain ⟨l,e,h⟩:=h; exact ⟨l,e,h⟩
 ·rintro ⟨z,xs⟩ J ⟨h1,h2,h3,h4⟩ hJ
  simp only at h1 h2 h3 h4 hJ
  unfold ae_l2 bc_p
  simp only [aa]
  split
  ·rename_i h5
   obtain ⟨y,e,y0,y1⟩:=lA n d z h1
   rw [e,aa,cK (by omega),aa,eb _ _ (by simp only [leC,leN]; omega),aa,aK (by omega) (by omega),aa]
   refine hJ _ ⟨by simp only; omega,by simp only; omega,by simp only [List.length_append,leC,leN]; omega,fun x hx=>?_⟩ (by simp only; omega)
   rcases List.mem_append.1 hx with hx | hx
   ·exact h4 x hx
   ·rw [List.mem_singleton.1 hx,Int.tmod_eq_emod_of_nonneg y0]
    have a1:=Int.emod_nonneg y (b:=((1 + (d.fK % 8).toNat:Nat):Int)) (by omega)
    have a2:=Int.emod_lt_of_pos y (b:=((1 + (d.fK % 8).toNat:Nat):Int)) (by omega)
    omega
  ·rename_i h5
   exact ⟨_,rfl,by omega,by omega,h4⟩
theorem kz (n:Nat) (l:List Int) (h1:1 <= l.length) (h2:l.length <= 9) (h:∀ x ∈ l,0 <= x/\x < 8) (hn:20 < n):aE_p n l 8 = some true:=by
 have hh:=aw (B:=aE_l1 n l 8) (fun i:Nat=>l.length - i) (fun i=>i <= l.length) (fun r=>r = .inr ()) ?_ n 0 (Nat.zero_le _) (by omega)
 ·obtain ⟨r,e,rfl⟩:=hh
  unfold aE_p
  rw [e]
  show (if 1 <= l.length then some (decide (l.length <= 64)) else some false) = _
  rw [if_pos h1,decide_eq_true (by omega)]
 ·intro i J hi hJ
  unfold aE_l1
  simp only
  split
  ·rename_i h0
   have:=h l[i] (List.getElem_mem _)
   rw [geE h0,aa,if_neg (by omega),if_neg (by omega)]
   exact hJ (i + 1) h0 (by omega)
  ·exact ⟨_,rfl,rfl⟩
def bK (p:List Int) (k:Int):Prop:=(∀ x ∈ p,0 <= x/\x < k)/\∀ d,0 <= d -> d < k -> d ∈ p
theorem ma (n:Nat) (l:List Int) (h1:1 <= l.length) (h2:l.length <= 9) (h:∀ x ∈ l,0 <= x/\x < 8) (hn:20 < n):∃ p z,aH_p n l = some (p,0)/\p.length = l.length/\bK p z/\z <= 8:=by
 have hh:=aw (B:=aH_l1 n l) (fun s:Int × Nat × List Int × List Int=>l.length - s.2.1)
  (fun s=>s.2.1 <= l.length/\s.2.2.1.length = s.2.1/\s.2.2.2.length = 8/\0 <= s.1/\s.1 + s.2.2.2.count (-1) = 8/\(∀ v ∈ s.2.2.2,v = -1 ∨ 0 <= v/\v < s.1)/\bK s.2.2.1 s.1)
  (fun p=>∃ z,p.length = l.length/\bK p z/\z <= 8) ?_ n (0,0,[],[-1,-1,-1,-1,-1,-1,-1,-1]) ⟨by simp,rfl,rfl,by simp,by decide,by simp,by simp,fun d h3 h4=>by simp only at h4; omega⟩ (by simp only; omega)
 ·obtain ⟨p,e,z,h3,h4,h5⟩:=hh
  refine ⟨p,z,?_,h3,h4,h5⟩
  unfold aH_p
  rw [kz n l h1 h2 h hn,aa,if_pos rfl,e,aa]
 ·rintro ⟨z,i,xs,m⟩ J ⟨a1,a2,a3,a4,a5,a6,a7,a8⟩ hJ
  simp only at a1 a2 a3 a4 a5 a6 a7 a8 hJ
  unfold aH_l1
  simp only
  split
  ·rename_i hi
   have hx:=h l[i] (List.getElem_mem _)
   have hm:l[i].toNat < m.length:=by omega
   rw [geE hi,aa,bq hx.1 hm,aa]
   unfold jn
   simp only
   have hv:=a6 m[l[i].toNat] (List.getElem_mem _)
   by_cases hneg:m[l[i].toNat] < 0
   ·have hv1:m[l[i].toNat] = -1:=by omega
    have hc:0 < m.count (-1):=by rw [<- hv1]; exact List.count_pos_iff.2 (List.getElem_mem _)
    rw [if_pos hneg,ba _ hm,aa,aK (by omega) (by omega),aa,bq hx.1 (by simpa using hm),aa,List.getElem_set_self,eb _ _ (by simp only [leC,leN]; omega),aa]
    refine hJ _ ⟨by simp only; omega,by simp only [List.length_append,leC,leN]; omega,by simpa using a3,by simp only; omega,?_,?_,?_,?_⟩ (by simp only; omega)
    ·simp only
     rw [List.count_set hm,hv1]
     have:((z == (-1:Int)) = false):=by rw [beq_eq_false_iff_ne]; omega
     simp only [this]
     simp only [beq_self_eq_true,if_true]
     simp
     omega
    ·intro v hv2
     rcases List.mem_or_eq_of_mem_set hv2 with hv2 | rfl
     ·rcases a6 v hv2 with h5 | h5
      ·exact .inl h5
      ·exact .inr ⟨h5.1,by simp only; omega⟩
     ·exact .inr ⟨a4,by simp only; omega⟩
    ·intro x hx2
     simp only at hx2 ⊢
     rcases List.mem_append.1 hx2 with hx2 | hx2
     ·have:=a7 x hx2; omega
     ·rw [List.mem_singleton.1 hx2]; omega
    ·intro d d0 d1
     simp only at d1 ⊢
     by_cases hd:d = z
     ·subst hd; exact List.mem_append_right _ (List.mem_singleton.2 rfl)
     ·exact List.mem_append_left _ (a8 d d0 (by omega))
   ·rw [if_neg hneg,bq hx.1 hm,aa,eb _ _ (by simp only [leC,leN]; omega),aa]
    refine hJ _ ⟨by simp only; omega,by simp only [List.length_append,leC,leN]; omega,a3,a4,a5,a6,?_,?_⟩ (by simp only; omega)
    ·intro x hx2
     simp only at hx2 ⊢
     rcases List.mem_append.1 hx2 with hx2 | hx2
     ·exact a7 x hx2
     ·rw [List.mem_singleton.1 hx2]; omega
    ·intro d d0 d1
     exact List.mem_append_left _ (a8 d d0 d1)
  ·exact ⟨_,rfl,z,by omega,⟨a7,a8⟩,by omega⟩
theorem kK (n:Nat) (d:Tj) (hn:20 < n):∃ p k,ae_p n d = some (p,k)/\1 <= p.length/\p.length <= 9/\bK p k/\1 <= k/\k <= 8:=by
 obtain ⟨l,e1,l1,l2,l3⟩:=kC n d hn
 obtain ⟨p,z,e2,p1,p2,p3⟩:=ma n l l1 l2 l3 hn
 have hh:=aw (B:=ae_l1 n (p,0)) (fun s:Int × Nat=>p.length - s.2) (fun s=>s.2 <= p.length/\0 <= s.1/\s.1 <= 8/\(∀ j (h:j < p.length),j < s.2 -> p[j] + 1 <= s.1)/\(s.1 = 0/\s.2 = 0 ∨ s.1 - 1 ∈ p))
  (fun k=>1 <= k/\k <= 8/\(∀ x ∈ p,x < k)/\k - 1 ∈ p) ?_ n (0,0) ⟨by simp,by simp,by simp,fun j _ h=>by simp at h,.inl ⟨rfl,rfl⟩⟩ (by simp only; omega)
 ·obtain ⟨k,e3,k1,k2,k3,k4⟩:=hh
  refine ⟨p,k,?_,by omega,by omega,⟨fun x hx=>⟨(p2.1 x hx).1,k3 x hx⟩,fun d d0 d1=>p2.2 d d0 (by have:=(p2.1 _ k4).2; omega)⟩,k1,k2⟩
  unfold ae_p
  rw [e1,aa,e2,aa,e3,aa]
 ·rintro ⟨z', i⟩ J ⟨a1,a2,a3,a4,a5⟩ hJ
  simp only at a1 a2 a3 a4 a5 hJ
  unfold ae_l1
  simp only
  split
  ·rename_i hi
   have hx:=p2.1 p[i] (List.getElem_mem _)
   rw [geE hi,aa,aK (by omega) (by omega),aa]
   refine hJ _ ⟨hi,by simp only; omega,by simp only; omega,fun j hj h4=>?_,?_⟩ (by simp only; omega)
   ·simp only at h4 ⊢
    by_cases hj2:j = i
    ·subst hj2; omega
    ·have:=a4 j hj (by omega); omega
   ·right
    simp only
    by_cases hm:z' <= p[i] + 1
    ·rw [Int.max_eq_right hm,show p[i] + 1 - 1 = p[i] by omega]; exact List.getElem_mem _
    ·rw [Int.max_eq_left (by omega)]
     rcases a5 with ⟨h5,h6⟩ | h5
     ·omega
     ·exact h5
  ·rename_i hi
   rcases a5 with ⟨h5,h6⟩ | h5
   ·omega
   ·refine ⟨_,rfl,by have:=(p2.1 _ h5).1; omega,a3,fun x hx=>?_,h5⟩
    obtain ⟨j,hj,rfl⟩:=List.getElem_of_mem hx
    have:=a4 j hj (by omega); omega
end Go.Proofs.YtibdeoeglcngoaaGreatDoor
namespace Go.Proofs.YtibdeoeglcngoaaGreatDoor
open Go
def FU:Nat:=18446744073709552000
def nm (i:Nat):ByteArray:=⟨#[117,UInt8.ofNat (97 + i),97]⟩
theorem nm_inj {i j:Nat} (hi:i < 9) (hj:j < 9) (h:nm i = nm j):i = j:=by
 have h1:=congrArg (fun b:ByteArray=>b.data[1]!) h
 have h2:UInt8.ofNat (97 + i) = UInt8.ofNat (97 + j):=h1
 have h3:=congrArg UInt8.toNat h2
 rw [UInt8.toNat_ofNat', UInt8.toNat_ofNat'] at h3
 omega
theorem nm_sea {i:Nat} (h:nm i = ⟨#[115,101,97]⟩):False:=by
 have h1:=congrArg (fun b:ByteArray=>b.data[0]!) h
 have h2:(117:UInt8) = 115:=h1
 exact absurd h2 (by decide)
theorem dJ {κ ν:Type} [DecidableEq κ]:∀ (D:List (κ × ν)) (k x:κ) (v:ν),dR (aW D k v) x = if x = k then some v else dR D x
 | [],k,x,v=>by simp [aW,dR]
 | e :: D,k,x,v=>by
  unfold aW
  split
  ·rename_i h; subst h; simp only [dR]; split <;> rfl
  ·rename_i h
   simp only [dR]
   rw [dJ D k x v]
   by_cases h1:x = k
   ·subst h1; simp [h]
   ·simp [h1]
theorem bP (n:Nat) (l:List Bool) (h:∀ b ∈ l,b = true) (hn:l.length < n):aK_p n l = some true:=by
 have hh:=aw (B:=ap_l1 n l false) (fun i:Nat=>l.length - i) (fun i=>i <= l.length) (fun r=>r = .inr ()) ?_ n 0 (Nat.zero_le _) (by omega)
 ·obtain ⟨r,e,rfl⟩:=hh
  unfold aK_p aN_p ap_p
  rw [e]
  rfl
 ·intro i J hi hJ
  unfold ap_l1
  simp only
  split
  ·rename_i h0
   rw [geE h0,aa,h l[i] (List.getElem_mem _),if_neg (by decide)]
   exact hJ (i + 1) h0 (by omega)
  ·exact ⟨_,rfl,rfl⟩
theorem bE (n:Nat) (l:List Int) (a bh:Int) (hl:(l.length:Int) = a) (h:∀ x ∈ l,0 <= x/\x <= bh) (hn:l.length < n):aC_p n l a bh = some true:=by
 have hh:=aw (B:=aC_l1 n l bh) (fun i:Nat=>l.length - i) (fun i=>i <= l.length) (fun r=>r = .inr ()) ?_ n 0 (Nat.zero_le _) (by omega)
 ·obtain ⟨r,e,rfl⟩:=hh
  unfold aC_p
  rw [if_pos hl,e]
  rfl
 ·intro i J hi hJ
  unfold aC_l1 bU_p
  simp only
  split
  ·rename_i h0
   have:=h l[i] (List.getElem_mem _)
   rw [geE h0,aa,if_neg (by omega),aa,decide_eq_false (by omega),if_neg (by decide)]
   exact hJ (i + 1) h0 (by omega)
  ·exact ⟨_,rfl,rfl⟩
theorem jd (n:Nat) (d:Ti) (i:Int) (h:0 <= i):∃ y,aA_p n d i = some y/\0 <= y/\y <= 255:=by
 unfold aA_p
 split
 ·exact ⟨_,rfl,by omega,by omega⟩
 ·rename_i h0
  have h1:=Int.emod_nonneg i (b:=(d.fNums.length:Int)) (by omega)
  have h2:=Int.emod_lt_of_pos i (b:=(d.fNums.length:Int)) (by omega)
  rw [cK (by omega),aa,Int.tmod_eq_emod_of_nonneg h,bq h1 (by omega),aa]
  have:=(d.fNums[(i % (d.fNums.length:Int)).toNat]'(by omega)).toNat_lt
  exact ⟨_,rfl,by omega,by omega⟩
theorem il (n:Nat) (d:Ti) (c at_ bh:Int) (h0:0 <= c) (h1:c <= 100) (h2:0 <= at_) (h3:at_ <= 1000) (h4:0 <= bh) (hn:200 < n):∃ l,am_p n d c at_ bh = some l/\(l.length:Int) = c/\∀ x ∈ l,0 <= x/\x <= bh/\x <= 255:=by
 have hh:=aw (B:=am_l1 n c at_ d bh) (fun s:Int × List Int=>101 - s.1.toNat) (fun s=>0 <= s.1/\s.1 <= c/\(s.2.length:Int) = s.1/\∀ x ∈ s.2,0 <= x/\x <= bh/\x <= 255)
  (fun l=>(l.length:Int) = c/\∀ x ∈ l,0 <= x/\x <= bh/\x <= 255) ?_ n (0,[]) ⟨by simp,h0,by simp,by simp⟩ (by simp only; omega)
 ·obtain ⟨l,e,h⟩:=hh
  refine ⟨l,?_,h⟩
  unfold am_p
  rw [e,aa]
 ·rintro ⟨z,xs⟩ J ⟨a1,a2,a3,a4⟩ hJ
  simp only at a1 a2 a3 a4 hJ
  unfold am_l1
  simp only
  split
  ·obtain ⟨y,e,y0,y1⟩:=jd n d (at_ + z) (by omega)
   rw [aK (by omega) (by omega),aa,e,aa,eb _ _ (by simp only [leC,leN]; omega),aa,aK (by omega) (by omega),aa]
   refine hJ _ ⟨by simp only; omega,by simp only; omega,by simp only [List.length_append,leC,leN]; omega,fun x hx=>?_⟩ (by simp only; omega)
   rcases List.mem_append.1 hx with hx | hx
   ·exact a4 x hx
   ·rw [List.mem_singleton.1 hx]; omega
  ·exact ⟨_,rfl,by omega,a4⟩
def gO (G P L:Int) (u:Tc):Prop:=u.ft = false/\(0 <= u.fA/\u.fA <= 255)/\((u.fh.length:Int) = G/\∀ x ∈ u.fh,0 <= x/\x <= u.fA)/\((u.fVotes.length:Int) = P/\∀ x ∈ u.fVotes,0 <= x/\x <= 255)/\((u.fE.length:Int) = L/\∀ x ∈ u.fE,0 <= x/\x <= 63)
def sea (G P L:Int):Tc:=⟨⟨#[115,101,97]⟩,0,List.replicate G.toNat 0,List.replicate P.toNat 0,List.replicate L.toNat 0,true⟩
structure RollOk (r:Tf) (us:List Tc):Prop where
 g:0 <= r.fh/\r.fh <= 2
 p:0 <= r.fc/\r.fc <= 3
 l:0 <= r.fe/\r.fe <= 2
 len:1 <= us.length/\us.length <= 9
 land:∀ i (h:i < us.length),us[i].fw = nm i/\gO r.fh r.fc r.fe us[i]
 all:r.fu = us ∨ r.fu = us ++ [sea r.fh r.fc r.fe]
theorem iV (n:Nat) (d:Ti) (z:Int) (h0:0 <= z) (h1:z <= 100) (hn:200 < n):∃ l,ao (aa_l1 n d z) n (0,[]) = some l/\l.length = (d.fe % 3).toNat/\∀ x ∈ l,0 <= x/\x <= 63:=by
 have hk:(d.fe % 3).toNat < 3:=by rw [UInt8.toNat_mod]; exact Nat.mod_lt _ (by decide)
 refine aw (B:=aa_l1 n d z) (fun s:Nat × List Int=>3 - s.1) (fun s=>s.1 <= (d.fe % 3).toNat/\s.2.length = s.1/\∀ x ∈ s.2,0 <= x/\x <= 63) _ ?_ n (0,[]) ⟨by simp,rfl,by simp⟩ (by simp only; omega)
 rintro ⟨i,xs⟩ J ⟨a1,a2,a3⟩ hJ
 simp only at a1 a2 a3 hJ
 unfold aa_l1
 simp only
 split
 ·rename_i hi
  obtain ⟨y,e,y0,y1⟩:=jd n d (9 * z + 7 + i) (by omega)
  rw [aK (by omega) (by omega),aa,aK (by omega) (by omega),aa,aK (by omega) (by omega),aa,e,aa,cK (by decide),aa,eb _ _ (by simp only [leC,leN]; omega),aa]
  refine hJ _ ⟨by simp only; omega,by simp only [List.length_append,leC,leN]; omega,fun x hx=>?_⟩ (by simp only; omega)
  rcases List.mem_append.1 hx with hx | hx
  ·exact a3 x hx
  ·rw [List.mem_singleton.1 hx,Int.tmod_eq_emod_of_nonneg y0]
   have a1:=Int.emod_nonneg y (b:=(3:Int)) (by omega)
   have a2:=Int.emod_lt_of_pos y (b:=(3:Int)) (by omega)
   omega
 ·exact ⟨_,rfl,by omega,a3⟩
theorem name_ok (i:Nat) (h:i < 9):(li ⟨#[117]⟩ (bstr ([aG (97 + (i:Int)),aG (97 + 0)]:List UInt8))) = some (nm i):=by
 have:aG (97 + (i:Int)) = UInt8.ofNat (97 + i):=by unfold aG; congr 1; omega
 rw [this]; rfl
theorem kP (n:Nat) (d:Ti) (m:Nat) (h1:1 <= m) (h2:m <= 9) (hn:200 < n):∃ r us,aa_p n d m = some r/\us.length = m/\RollOk r us/\r.fh = ((d.fh % 3).toNat:Int)/\r.fc = ((d.fc % 4).toNat:Int)/\r.fe = ((d.fe % 3).toNat:Int):=by
 have hG:(d.fh % 3).toNat < 3:=by rw [UInt8.toNat_mod]; exact Nat.mod_lt _ (by decide)
 have hP:(d.fc % 4).toNat < 4:=by rw [UInt8.toNat_mod]; exact Nat.mod_lt _ (by decide)
 have hL:(d.fe % 3).toNat < 3:=by rw [UInt8.toNat_mod]; exact Nat.mod_lt _ (by decide)
 have hW:(d.ft % 2).toNat < 2:=by rw [UInt8.toNat_mod]; exact Nat.mod_lt _ (by decide)
 have hh:=aw (B:=aa_l3 n (m:Int) d) (fun s:Int × List Tc=>10 - s.1.toNat) (fun s=>0 <= s.1/\s.1 <= m/\(s.2.length:Int) = s.1/\∀ i (h:i < s.2.length),s.2[i].fw = nm i/\gO ((d.fh % 3).toNat:Int) ((d.fc % 4).toNat:Int) ((d.fe % 3).toNat:Int) s.2[i])
  (fun us=>us.length = m/\∀ i (h:i < us.length),us[i].fw = nm i/\gO ((d.fh % 3).toNat:Int) ((d.fc % 4).toNat:Int) ((d.fe % 3).toNat:Int) us[i]) ?_ n (0,[]) ⟨by simp,by simp,by simp,fun i h=>by simp at h⟩ (by simp only; omega)
 ·obtain ⟨us,e,u1,u2⟩:=hh
  have hs:=aw (B:=aa_l2 n d) (fun s:Nat × List Tc=>2 - s.1) (fun s=>s.1 <= (d.ft % 2).toNat/\(s.1 = 0/\s.2 = us ∨ s.1 = 1/\s.2 = us ++ [sea (d.fh % 3).toNat (d.fc % 4).toNat (d.fe % 3).toNat]))
   (fun all=>all = us ∨ all = us ++ [sea (d.fh % 3).toNat (d.fc % 4).toNat (d.fe % 3).toNat]) ?_ n (0,us) ⟨by simp,.inl ⟨rfl,rfl⟩⟩ (by simp only; omega)
  ·obtain ⟨all,e2,ha⟩:=hs
   refine ⟨⟨(d.fh % 3).toNat,(d.fc % 4).toNat,(d.fe % 3).toNat,all⟩,us,?_,u1,⟨by simp only; omega,by simp only; omega,by simp only; omega,by omega,u2,ha⟩,rfl,rfl,rfl⟩
   unfold aa_p
   rw [e,aa,e2,aa]
  ·rintro ⟨i,xs⟩ J ⟨a1,a2⟩ hJ
   simp only at a1 a2 hJ
   unfold aa_l2
   simp only
   split
   ·rename_i hi
    have hi0:i = 0/\xs = us:=by
     rcases a2 with a2 | a2
     ·exact a2
     ·omega
    obtain ⟨rfl,rfl⟩:=hi0
    rw [cu _ _ (by omega),aa,cu _ _ (by omega),aa,cu _ _ (by omega),aa,eb _ _ (by simp only [leC,leN]; omega),aa]
    exact hJ _ ⟨by simp only; omega,.inr ⟨rfl,rfl⟩⟩ (by simp only; omega)
   ·exact ⟨_,rfl,a2.elim (fun h=>.inl h.2) (fun h=>.inr h.2)⟩
 ·rintro ⟨z,xs⟩ J ⟨a1,a2,a3,a4⟩ hJ
  simp only at a1 a2 a3 a4 hJ
  unfold aa_l3
  simp only
  split
  ·rename_i hz
   obtain ⟨i,rfl⟩:∃ i:Nat,z = i:=⟨z.toNat,by omega⟩
   have t1:Int.tmod (i:Int) 26 = i:=by rw [Int.tmod_eq_emod_of_nonneg (by omega)]; omega
   have t2:Int.tdiv (i:Int) 26 = 0:=by rw [Int.tdiv_eq_ediv_of_nonneg (by omega)]; omega
   obtain ⟨y,e,y0,y1⟩:=jd n d (9 * (i:Int)) (by omega)
   obtain ⟨g,eg,g1,g2⟩:=il n d ((d.fh % 3).toNat:Nat) (9 * (i:Int) + 1) y (by omega) (by omega) (by omega) (by omega) y0 hn
   obtain ⟨v,ev,v1,v2⟩:=il n d ((d.fc % 4).toNat:Nat) (9 * (i:Int) + 3) 255 (by omega) (by omega) (by omega) (by omega) (by omega) hn
   obtain ⟨q,eq,q1,q2⟩:=iV n d (i:Int) (by omega) (by omega) hn
   rw [cK (by decide),aa,t1,aK (by omega) (by omega),aa]
   unfold dM
   rw [if_neg (by decide),t2,aK (by omega) (by omega),aa,cK (by decide),aa,show Int.tmod 0 26 = 0 from rfl,aK (by omega) (by omega),aa,aK (by omega) (by omega),aa,e,aa,name_ok i (by omega)]
   simp only [aa]
   rw [aK (by omega) (by omega)]
   simp only [aa,eg]
   rw [aK (by omega) (by omega)]
   simp only [aa,ev,eq]
   rw [eb _ _ (by simp only [leC,leN]; omega)]
   simp only [aa]
   try rw [aK (by omega) (by omega),aa]
   refine hJ _ ⟨by simp only; omega,by simp only; omega,by simp only [List.length_append,leC,leN]; omega,fun j hj=>?_⟩ (by simp only; omega)
   simp only at hj ⊢
   by_cases hji:j < xs.length
   ·rw [List.getElem_append_left hji]; exact a4 j hji
   ·have:j = i:=by simp only [List.length_append,leC,leN] at hj; omega
    subst this
    rw [List.getElem_append_right (by omega)]
    simp only [List.getElem_singleton]
    exact ⟨trivial,rfl,⟨y0,y1⟩,⟨g1,fun x hx=>⟨(g2 x hx).1,(g2 x hx).2.1⟩⟩,⟨v1,fun x hx=>⟨(v2 x hx).1,(v2 x hx).2.2⟩⟩,⟨by rw [q1],q2⟩⟩
  ·exact ⟨_,rfl,by omega,a4⟩
end Go.Proofs.YtibdeoeglcngoaaGreatDoor
namespace Go.Proofs.YtibdeoeglcngoaaGreatDoor
open Go
theorem kS:(List.range 9).all (fun i=>decide (aq_p FU (nm i) ⟨#[65,66,67,68,69,70,71,72,73,74,75,76,77,78,79,80,81,82,83,84,85,86,87,88,89,90,97,98,99,100,101,102,103,104,105,106,107,108,109,110,111,112,113,114,115,116,117,118,119,120,121,122,48,49,50,51,52,53,54,55,56,57,45,95]⟩ = some ⟨#[]⟩)) = true:=by kernel_rfl
theorem trim_nm {i:Nat} (h:i < 9):aq_p FU (nm i) ⟨#[65,66,67,68,69,70,71,72,73,74,75,76,77,78,79,80,81,82,83,84,85,86,87,88,89,90,97,98,99,100,101,102,103,104,105,106,107,108,109,110,111,112,113,114,115,116,117,118,119,120,121,122,48,49,50,51,52,53,54,55,56,57,45,95]⟩ = some ⟨#[]⟩:=of_decide_eq_true (List.all_eq_true.1 kS i (List.mem_range.2 h))
theorem kX:aq_p FU ⟨#[115,101,97]⟩ ⟨#[65,66,67,68,69,70,71,72,73,74,75,76,77,78,79,80,81,82,83,84,85,86,87,88,89,90,97,98,99,100,101,102,103,104,105,106,107,108,109,110,111,112,113,114,115,116,117,118,119,120,121,122,48,49,50,51,52,53,54,55,56,57,45,95]⟩ = some ⟨#[]⟩:=by kernel_rfl
theorem bg:(1000000:Nat) < FU:=by decide
theorem iO (r:Tf) (u:Tc) {i:Nat} (hi:i < 9) (hG:r.fh <= 6) (hP:r.fc <= 12) (hL:r.fe <= 3) (hn:u.fw = nm i) (h:gO r.fh r.fc r.fe u):bC_p FU r u = some true:=by
 obtain ⟨w,pp,g,v,q⟩:=h
 have hF:=bg
 unfold bC_p jn
 simp only
 rw [if_neg (by rw [w]; decide),hn,trim_nm hi,aa,bE FU _ _ _ g.1 g.2 (by omega),aa,bE FU _ _ _ v.1 (fun x hx=>⟨(v.2 x hx).1,by have:=(v.2 x hx).2; omega⟩) (by omega),aa,bE FU _ _ _ q.1 (fun x hx=>⟨(q.2 x hx).1,by have:=(q.2 x hx).2; omega⟩) (by omega),aa]
 rw [bP FU _ ?_ (by simp only [leC,leN]; omega),aa]
 have e1:¬ nm i = ⟨#[]⟩:=fun e=>by have:=congrArg ByteArray.size e; exact absurd this (by show ¬ (3:Nat) = 0; decide)
 have e2:(nm i).size <= 12:=by show (3:Nat) <= 12; decide
 simp [e1,e2,pp.1]
 omega
theorem jU (r:Tf) (hG:0 <= r.fh/\r.fh <= 6) (hP:0 <= r.fc/\r.fc <= 12) (hL:0 <= r.fe/\r.fe <= 3):bC_p FU r (sea r.fh r.fc r.fe) = some true:=by
 have hF:=bg
 have z:∀ (n:Nat) (x:Int),x ∈ List.replicate n (0:Int) -> 0 <= x/\x <= 0:=fun n x hx=>by rw [(List.mem_replicate.1 hx).2]; omega
 unfold bC_p jn sea
 simp only
 rw [if_pos trivial,kX,aa,bE FU _ _ _ (by rw [List.length_replicate]; omega) (z _) (by rw [List.length_replicate]; omega),aa,bE FU _ _ ((0:Nat):Int) (by rw [List.length_replicate]; omega) (z _) (by rw [List.length_replicate]; omega),aa,bE FU _ _ ((0:Nat):Int) (by rw [List.length_replicate]; omega) (z _) (by rw [List.length_replicate]; omega),aa]
 rw [bP FU _ ?_ (by simp only [leC,leN]; omega),aa]
 have e1:¬ (⟨#[115,101,97]⟩:ByteArray) = ⟨#[]⟩:=fun e=>by have:=congrArg ByteArray.size e; exact absurd this (by show ¬ (3:Nat) = 0; decide)
 have e2:(⟨#[115,101,97]⟩:ByteArray).size <= 12:=by show (3:Nat) <= 12; decide
 simp [e1,e2]
theorem RollOk.unit {r:Tf} {us:List Tc} (h:RollOk r us) {j:Nat} (hj:j < r.fu.length):(∃ h2:j < us.length,r.fu[j] = us[j]) ∨ (j = us.length/\r.fu[j] = sea r.fh r.fc r.fe):=by
 obtain ⟨G,P,L,U⟩:=r
 rcases h.all with e | e
 ·simp only at e hj ⊢
  subst e; exact .inl ⟨hj,rfl⟩
 ·simp only at e hj ⊢
  subst e
  by_cases h2:j < us.length
  ·exact .inl ⟨h2,List.getElem_append_left h2⟩
  ·have h3:j = us.length:=by simp only [List.length_append,leC,leN] at hj; omega
   subst h3
   exact .inr ⟨rfl,by rw [List.getElem_append_right (by omega)]; simp⟩
theorem RollOk.size {r:Tf} {us:List Tc} (h:RollOk r us):us.length <= r.fu.length/\r.fu.length <= us.length + 1:=by
 rcases h.all with e | e <;> rw [e] <;> simp
theorem gx (r:Tf) (us:List Tc) (h:RollOk r us):aF_p FU r = some 0:=by
 have hF:=bg
 have hs:=h.size
 have hl:=h.len
 have hg:=h.g
 have hp:=h.p
 have hv:=h.l
 unfold aF_p
 rw [bP FU _ ?_ (by simp only [leC,leN]; omega),aa,if_pos rfl]
 ·have hh:=aw (B:=aF_l1 FU r) (fun s:Bool × Nat × List (ByteArray × Bool)=>r.fu.length - s.2.1)
   (fun s=>s.2.1 <= r.fu.length/\(s.2.1 <= us.length -> s.1 = false)/\∀ x,dR s.2.2 x ≠ none -> ∃ j,∃ hj:j < r.fu.length,j < s.2.1/\r.fu[j].fw = x) (fun r=>r = .inr ()) ?_ FU (false,0,[]) ⟨by simp,fun _=>rfl,fun x hx=>absurd rfl hx⟩ (by simp only; omega)
  ·obtain ⟨x,e,rfl⟩:=hh
   rw [e]; rfl
  ·rintro ⟨q,i,D⟩ J ⟨a1,a2,a3⟩ hJ
   simp only at a1 a2 a3 hJ
   unfold aF_l1
   simp only
   split
   ·rename_i hi
    have hnone:dR D r.fu[i].fw = none:=by
     rcases hm:dR D r.fu[i].fw with _ | b
     ·rfl
     ·exfalso
      obtain ⟨j,hj,hji,he⟩:=a3 r.fu[i].fw (by rw [hm]; simp)
      rcases h.unit hi with ⟨h2,e2⟩ | ⟨h2,e2⟩ <;> rcases h.unit hj with ⟨h3,e3⟩ | ⟨h3,e3⟩
      ·rw [e2,e3,(h.land i h2).1,(h.land j h3).1] at he
       have:=nm_inj (by omega) (by omega) he; omega
      ·omega
      ·rw [e2,e3,(h.land j h3).1] at he
       exact nm_sea he
      ·omega
    have hmD:az D r.fu[i].fw false = false:=by unfold az; rw [hnone]; rfl
    have next:∀ b,(i + 1 <= us.length -> b = false) -> ∃ x,J (b,i + 1,aW D r.fu[i].fw true) = some x/\x = .inr ():=fun b hb=>by
     refine hJ (b,i + 1,aW D r.fu[i].fw true) ⟨hi,hb,fun x hx=>?_⟩ (by simp only; omega)
     simp only at hx ⊢
     rw [dJ] at hx
     by_cases hx2:x = r.fu[i].fw
     ·exact ⟨i,hi,by omega,hx2.symm⟩
     ·rw [if_neg hx2] at hx
      obtain ⟨j,hj,hji,he⟩:=a3 x hx
      exact ⟨j,hj,by omega,he⟩
    rw [geE hi,aa]
    rcases h.unit hi with ⟨h2,e2⟩ | ⟨h2,e2⟩
    ·have hu:=h.land i h2
     have hw:r.fu[i].ft = false:=by rw [e2]; exact hu.2.1
     have hq:q = false:=a2 (by omega)
     have hr:bC_p FU r r.fu[i] = some true:=by rw [e2]; exact iO r us[i] (by omega) (by omega) (by omega) (by omega) hu.1 hu.2
     rw [hr,aa,hw,if_neg (by decide),hmD,hq]
     by_cases h0:0 < i
     ·rw [if_pos h0,bP FU _ (by simp) (by simp only [leC,leN]; omega),aa,if_pos rfl]
      exact next false fun _=>rfl
     ·rw [if_neg h0,bP FU _ (by simp) (by simp only [leC,leN]; omega),aa,if_pos rfl]
      exact next false fun _=>rfl
    ·have hw:r.fu[i].ft = true:=by rw [e2]; rfl
     have hr:bC_p FU r r.fu[i] = some true:=by rw [e2]; exact jU r ⟨hg.1,by omega⟩ ⟨hp.1,by omega⟩ ⟨hv.1,by omega⟩
     rw [hr,aa,hw,if_pos rfl,hmD,if_pos (by omega),bP FU _ (by simp) (by simp only [leC,leN]; omega),aa,if_pos rfl]
     exact next true fun h5=>by omega
   ·exact ⟨_,rfl,rfl⟩
 ·simp; omega
def tot (us:List Tc):Int:=(us.map (·.fA)).sum
end Go.Proofs.YtibdeoeglcngoaaGreatDoor
namespace Go.Proofs.YtibdeoeglcngoaaGreatDoor
open Go
set_option maxRecDepth 8000
theorem fH (l:List Bool) (hn:l.length <= 1000):aK_p FU l = some (decide (∀ b ∈ l,b = true)):=by
 have hF:=bg
 by_cases h:∀ b ∈ l,b = true
 ·rw [decide_eq_true h]; exact bP FU l h (by omega)
 ·rw [decide_eq_false h]
  have hh:=aw (B:=ap_l1 FU l false) (fun i:Nat=>l.length - i) (fun i=>i <= l.length/\∀ b ∈ l.take i,b = true) (fun r=>∃ j:Nat,r = .inl (j:Int)) ?_ FU 0 ⟨Nat.zero_le _,by simp⟩ (by omega)
  ·obtain ⟨r,e,j,rfl⟩:=hh
   unfold aK_p aN_p ap_p
   rw [e]
   show (((some (j:Int)).bind fun y1=>some (decide (0 <= y1))).bind fun y1=>some (!y1)) = some false
   rw [aa,aa,decide_eq_true (by omega)]; rfl
  ·rintro i J ⟨hi,h2⟩ hJ
   unfold ap_l1
   simp only
   split
   ·rename_i h0
    rw [geE h0,aa]
    rcases hb:l[i] with _ | _
    ·rw [if_pos (by decide)]; exact ⟨_,rfl,i,rfl⟩
    ·rw [if_neg (by decide)]
     refine hJ (i + 1) ⟨h0,fun b hb2=>?_⟩ (by omega)
     rw [List.take_succ_eq_append_getElem h0,List.mem_append,List.mem_singleton,hb] at hb2
     exact hb2.elim (h2 b) id
   ·rw [List.take_of_length_le (by omega)] at h2
    exact absurd h2 h
def Wi (l:List Int) (a bh:Int):Prop:=(l.length:Int) = a/\∀ x ∈ l,0 <= x/\x <= bh
instance (l:List Int) (a bh:Int):Decidable (Wi l a bh):=by unfold Wi; infer_instance
theorem dK (l:List Int) (a bh:Int) (hn:l.length <= 1000):aC_p FU l a bh = some (decide (Wi l a bh)):=by
 have hF:=bg
 unfold aC_p
 by_cases hl:(l.length:Int) = a
 ·rw [if_pos hl]
  have hh:=aw (B:=aC_l1 FU l bh) (fun i:Nat=>l.length - i) (fun i=>i <= l.length/\∀ x ∈ l.take i,0 <= x/\x <= bh) (fun r=>r = .inr ()/\Wi l a bh ∨ r = .inl false/\¬ Wi l a bh) ?_ FU 0 ⟨Nat.zero_le _,by simp⟩ (by omega)
  ·obtain ⟨r,e,hr⟩:=hh
   rw [e]
   rcases hr with ⟨rfl,hr⟩ | ⟨rfl,hr⟩
   ·rw [decide_eq_true hr]; rfl
   ·rw [decide_eq_false hr]; rfl
  ·rintro i J ⟨hi,h2⟩ hJ
   unfold aC_l1 bU_p
   simp only
   split
   ·rename_i h0
    rw [geE h0,aa]
    by_cases h3:0 <= l[i]/\l[i] <= bh
    ·rw [if_neg (by omega),aa,decide_eq_false (by omega),if_neg (by decide)]
     refine hJ (i + 1) ⟨h0,fun x hx=>?_⟩ (by omega)
     rw [List.take_succ_eq_append_getElem h0,List.mem_append,List.mem_singleton] at hx
     rcases hx with hx | rfl
     ·exact h2 x hx
     ·exact h3
    ·have hbad:¬ Wi l a bh:=fun h=>h3 (h.2 _ (List.getElem_mem _))
     by_cases h4:l[i] < 0
     ·rw [if_pos h4,aa,if_pos rfl,decide_eq_true (Nat.zero_le _)]
      exact ⟨_,rfl,.inr ⟨rfl,hbad⟩⟩
     ·rw [if_neg h4,aa,decide_eq_true (by omega),if_pos rfl,decide_eq_true (Nat.zero_le _)]
      exact ⟨_,rfl,.inr ⟨rfl,hbad⟩⟩
   ·rw [List.take_of_length_le (by omega)] at h2
    exact ⟨_,rfl,.inl ⟨rfl,hl,h2⟩⟩
 ·rw [if_neg hl,decide_eq_false fun h=>hl h.1]
def NS:List ByteArray:=⟨#[115,101,97]⟩ :: (List.range 13).map nm
@[reducible] def ltrs:ByteArray:=⟨#[65,66,67,68,69,70,71,72,73,74,75,76,77,78,79,80,81,82,83,84,85,86,87,88,89,90,97,98,99,100,101,102,103,104,105,106,107,108,109,110,111,112,113,114,115,116,117,118,119,120,121,122,48,49,50,51,52,53,54,55,56,57,45,95]⟩
theorem ns_all:NS.all (fun b=>decide (aq_p FU b ltrs = some ⟨#[]⟩) && !decide (b = ⟨#[]⟩) && decide (b.size <= 12)) = true:=by kernel_rfl
theorem ns_ok {b:ByteArray} (h:b ∈ NS):aq_p FU b ltrs = some ⟨#[]⟩/\¬ b = ⟨#[]⟩/\b.size <= 12:=by
 have:=List.all_eq_true.1 ns_all b h
 simpa [Bool.and_eq_true,and_assoc] using this
def UV (r:Tf) (u:Tc):Prop:=0 <= u.fA/\u.fA <= (if u.ft = true then 0 else 1000000000)/\Wi u.fh r.fh u.fA/\Wi u.fVotes r.fc (if u.ft = true then 0 else 1000000000)/\Wi u.fE r.fe (if u.ft = true then 0 else 63)
instance (r:Tf) (u:Tc):Decidable (UV r u):=by unfold UV; infer_instance
structure Sm4 (u:Tc):Prop where
 n:u.fw ∈ NS
 g:u.fh.length <= 1000
 v:u.fVotes.length <= 1000
 q:u.fE.length <= 1000
theorem ln (r:Tf) (u:Tc) (h:Sm4 u):bC_p FU r u = some (decide (UV r u)):=by
 obtain ⟨n1,n3,n4⟩:=ns_ok h.n
 have key:∀ (V P:Nat),V = (if u.ft = true then 0 else 1000000000) -> P = (if u.ft = true then 0 else 63) -> ((aq_p FU u.fw ltrs).bind fun y30=>(aC_p FU u.fh r.fh u.fA).bind fun y31=>(aC_p FU u.fVotes r.fc ((V:Nat):Int)).bind fun y32=>(aC_p FU u.fE r.fe ((P:Nat):Int)).bind fun y33=>(aK_p FU ([(!(decide (u.fw = ⟨#[]⟩))),(decide (u.fw.size <= 12)),(decide (y30 = ⟨#[]⟩)),(decide (0 <= u.fA)),(decide (u.fA <= ((V:Nat):Int))),y31,y32,y33]:List Bool)).bind fun y40=>some y40) = some (decide (UV r u)):=by
  intro V P hV hP
  rw [n1,aa,dK _ _ _ h.g,aa,dK _ _ _ h.v,aa,dK _ _ _ h.q,aa,fH _ (by simp),aa]
  refine congrArg some (decide_eq_decide.2 ?_)
  have eV:((V:Nat):Int) = (if u.ft = true then 0 else 1000000000):=by rw [hV]; split <;> rfl
  have eP:((P:Nat):Int) = (if u.ft = true then 0 else 63):=by rw [hP]; split <;> rfl
  rw [eV,eP]
  unfold UV
  simp only [List.mem_cons,List.not_mem_nil,or_false,forall_eq_or_imp,forall_eq,Bool.not_eq_true', decide_eq_false_iff_not,decide_eq_true_eq]
  constructor
  ·rintro ⟨_,_,_,a,b,c,d,e⟩; exact ⟨a,b,c,d,e⟩
  ·rintro ⟨a,b,c,d,e⟩; exact ⟨n3,n4,trivial,a,b,c,d,e⟩
 unfold bC_p jn
 simp only
 by_cases hw:u.ft = true
 ·rw [if_pos hw]; exact key 0 0 (by rw [if_pos hw]) (by rw [if_pos hw])
 ·rw [if_neg hw]; exact key 1000000000 63 (by rw [if_neg hw]) (by rw [if_neg hw])
structure RV (r:Tf):Prop where
 g:0 <= r.fh/\r.fh <= 6
 p:0 <= r.fc/\r.fc <= 12
 l:0 <= r.fe/\r.fe <= 3
 n:1 <= r.fu.length/\r.fu.length <= 64
 u:∀ i (h:i < r.fu.length),UV r r.fu[i]
 nm:∀ i (h:i < r.fu.length) j (h' : j < i),r.fu[j].fw ≠ r.fu[i].fw
 w:∀ i (h:i < r.fu.length) j (h' : j < i),r.fu[j].ft = true -> r.fu[i].ft = true
 z:∀ h:0 < r.fu.length,r.fu[0].ft = false
open Classical in
theorem dA (r:Tf) (h:∀ u ∈ r.fu,Sm4 u):aF_p FU r = some (if RV r then 0 else 161):=by
 have hF:=bg
 unfold aF_p
 rw [fH _ (by simp),aa]
 by_cases h0:((0 <= r.fh/\r.fh <= 6)/\(0 <= r.fc/\r.fc <= 12)/\(0 <= r.fe/\r.fe <= 3)/\1 <= r.fu.length/\r.fu.length <= 64)
 ·rw [if_pos]
  ·have hh:=aw (B:=aF_l1 FU r) (fun s:Bool × Nat × List (ByteArray × Bool)=>r.fu.length - s.2.1)
    (fun s=>s.2.1 <= r.fu.length/\(s.2.1 = 0 -> s.1 = false)/\(∀ h:0 < s.2.1,∀ h' : s.2.1 - 1 < r.fu.length,s.1 = r.fu[s.2.1 - 1].ft)/\(∀ x,az s.2.2 x false = true ↔ ∃ j,∃ hj:j < r.fu.length,j < s.2.1/\r.fu[j].fw = x)/\
     (∀ i (h:i < r.fu.length),i < s.2.1 -> UV r r.fu[i])/\(∀ i (h:i < r.fu.length) j (h' : j < i),i < s.2.1 -> r.fu[j].fw ≠ r.fu[i].fw)/\(∀ i (h:i < r.fu.length) j (h' : j < i),i < s.2.1 -> r.fu[j].ft = true -> r.fu[i].ft = true)/\(∀ h:0 < r.fu.length,0 < s.2.1 -> r.fu[0].ft = false))
    (fun y=>y = .inr ()/\RV r ∨ y = .inl 161/\¬ RV r) ?_ FU (false,0,[]) ⟨Nat.zero_le _,fun _=>rfl,fun h=>absurd h (by simp),fun x=>⟨fun hx=>by simp [az,dR] at hx,fun ⟨j,_,hj,_⟩=>by simp at hj⟩,fun i _ hi=>by simp at hi,fun i _ j _ hi=>by simp at hi,fun i _ j _ hi=>by simp at hi,fun _ hi=>by simp at hi⟩ (by simp only; omega)
   ·obtain ⟨y,e,hy⟩:=hh
    rw [e]
    rcases hy with ⟨rfl,hv⟩ | ⟨rfl,hv⟩
    ·rw [if_pos hv]; rfl
    ·rw [if_neg hv]; rfl
   ·rintro ⟨q,i,D⟩ J ⟨a1,a2,a3,a4,a5,a6,a7,a8⟩ hJ
    simp only at a1 a2 a3 a4 a5 a6 a7 a8 hJ
    unfold aF_l1
    simp only
    by_cases hi:i < r.fu.length
    ·rw [if_pos hi,geE hi,aa,ln r _ (h _ (List.getElem_mem _)),aa]
     -- what has to hold of this unit
     have good:UV r r.fu[i] -> az D r.fu[i].fw false = false -> (q = true -> r.fu[i].ft = true) -> (i = 0 -> r.fu[i].ft = false) -> ∃ y,J (r.fu[i].ft,i + 1,aW D r.fu[i].fw true) = some y/\(y = .inr ()/\RV r ∨ y = .inl 161/\¬ RV r):=by
      intro g1 g2 g3 g4
      have gn:∀ j (hj:j < i),r.fu[j].fw ≠ r.fu[i].fw:=fun j hj e=>by
       have:=(a4 r.fu[i].fw).2 ⟨j,by omega,hj,e⟩
       rw [g2] at this; cases this
      have gw:∀ j (hj:j < i),r.fu[j].ft = true -> r.fu[i].ft = true:=fun j hj hw=>by
       refine g3 ?_
       rw [a3 (by omega) (by omega)]
       by_cases e:j = i - 1
       ·subst e; exact hw
       ·exact a7 (i - 1) (by omega) j (by omega) (by omega) hw
      refine hJ _ ⟨hi,fun e=>absurd e (by simp),fun _ h' =>rfl,fun x=>?_,fun k hk hki=>?_,fun k hk j hj hki=>?_,fun k hk j hj hki=>?_,fun hk _=>?_⟩ (by simp only; omega)
      ·simp only
       unfold az
       rw [dJ]
       have:=a4 x
       unfold az at this
       by_cases e:x = r.fu[i].fw
       ·rw [if_pos e]
        exact ⟨fun _=>⟨i,hi,by omega,e.symm⟩,fun _=>rfl⟩
       ·rw [if_neg e,this]
        constructor
        ·rintro ⟨j,hj,hji,ej⟩; exact ⟨j,hj,by omega,ej⟩
        ·rintro ⟨j,hj,hji,ej⟩
         by_cases e2:j = i
         ·subst e2; exact absurd ej.symm e
         ·exact ⟨j,hj,by omega,ej⟩
      ·by_cases e:k = i
       ·subst e; exact g1
       ·exact a5 k hk (by simp only at hki; omega)
      ·by_cases e:k = i
       ·subst e; exact gn j hj
       ·exact a6 k hk j hj (by simp only at hki; omega)
      ·by_cases e:k = i
       ·subst e; exact gw j hj
       ·exact a7 k hk j hj (by simp only at hki; omega)
      ·by_cases e:i = 0
       ·subst e; exact g4 rfl
       ·exact a8 hk (by omega)
     have bad:(¬ UV r r.fu[i] ∨ az D r.fu[i].fw false = true ∨ (q = true/\r.fu[i].ft = false) ∨ (i = 0/\r.fu[i].ft = true)) -> ¬ RV r:=by
      rintro hb hv
      rcases hb with hb | hb | ⟨hb,hb2⟩ | ⟨hb,hb2⟩
      ·exact hb (hv.u i hi)
      ·obtain ⟨j,hj,hji,e⟩:=(a4 _).1 hb
       exact hv.nm i hi j hji e
      ·by_cases e:i = 0
       ·rw [a2 e] at hb; cases hb
       ·have:=hv.w i hi (i - 1) (by omega) (by rw [<- a3 (by omega) (by omega)]; exact hb)
        rw [hb2] at this; cases this
      ·subst hb
       have:=hv.z hi
       rw [hb2] at this; cases this
     have fin:∀ l:List Bool,l.length <= 1000 -> ((∀ b ∈ l,b = true) ↔ (UV r r.fu[i]/\az D r.fu[i].fw false = false/\(q = true -> r.fu[i].ft = true)/\(i = 0 -> r.fu[i].ft = false))) -> ∃ y,((aK_p FU l).bind fun y=>(if y = true then J (r.fu[i].ft,i + 1,aW D r.fu[i].fw true) else some (.inl (161:Int)))) = some y/\(y = .inr ()/\RV r ∨ y = .inl 161/\¬ RV r):=by
      intro l hl hiff
      rw [fH l hl,aa]
      by_cases hq:∀ b ∈ l,b = true
      ·rw [if_pos (decide_eq_true hq)]
       obtain ⟨g1,g2,g3,g4⟩:=hiff.1 hq
       exact good g1 g2 g3 g4
      ·rw [if_neg (by simpa using hq)]
       refine ⟨_,rfl,.inr ⟨rfl,bad ?_⟩⟩
       refine Classical.byContradiction fun hc=>hq (hiff.2 ?_)
       simp only [not_or,not_and,Bool.not_eq_true,Classical.not_not] at hc
       obtain ⟨c1,c2,c3,c4⟩:=hc
       refine ⟨c1,c2,fun e=>?_,fun e=>?_⟩
       ·rcases hww:r.fu[i].ft with _ | _
        ·exact absurd hww (by simpa using c3 e)
        ·rfl
       ·simpa using c4 e
     rcases hw:r.fu[i].ft with _ | _
     ·rw [if_neg (by decide)]
      by_cases hp:0 < i
      ·rw [if_pos hp]
       have:=fin [decide (UV r r.fu[i]),!(az D r.fu[i].fw false),!q,true] (by simp) (by
        rw [hw]
        simp only [List.mem_cons,List.not_mem_nil,or_false,forall_eq_or_imp,forall_eq,Bool.not_eq_true', decide_eq_true_eq]
        constructor
        ·rintro ⟨b1,b2,b3,_⟩; exact ⟨b1,b2,fun e=>(by rw [e] at b3; cases b3),fun _=>trivial⟩
        ·rintro ⟨b1,b2,b3,_⟩; exact ⟨b1,b2,by rcases q with _ | _; rfl; exact absurd (b3 rfl) (by decide),trivial⟩)
       rw [hw] at this
       exact this
      ·rw [if_neg hp]
       have:=fin [decide (UV r r.fu[i]),!(az D r.fu[i].fw false),!q,!r.fu[i].ft] (by simp) (by
        rw [hw]
        simp only [List.mem_cons,List.not_mem_nil,or_false,forall_eq_or_imp,forall_eq,Bool.not_eq_true', decide_eq_true_eq]
        constructor
        ·rintro ⟨b1,b2,b3,_⟩; exact ⟨b1,b2,fun e=>(by rw [e] at b3; cases b3),fun _=>trivial⟩
        ·rintro ⟨b1,b2,b3,_⟩; exact ⟨b1,b2,by rcases q with _ | _; rfl; exact absurd (b3 rfl) (by decide),trivial⟩)
       rw [hw] at this
       exact this
     ·rw [if_pos rfl]
      by_cases hp:0 < i
      ·rw [if_pos hp]
       have:=fin [decide (UV r r.fu[i]),!(az D r.fu[i].fw false),true,true] (by simp) (by
        rw [hw]
        simp only [List.mem_cons,List.not_mem_nil,or_false,forall_eq_or_imp,forall_eq,Bool.not_eq_true', decide_eq_true_eq]
        constructor
        ·rintro ⟨b1,b2,_,_⟩; exact ⟨b1,b2,fun _=>trivial,fun e=>by omega⟩
        ·rintro ⟨b1,b2,_,_⟩; exact ⟨b1,b2,trivial,trivial⟩)
       rw [hw] at this
       exact this
      ·rw [if_neg hp]
       have:=fin [decide (UV r r.fu[i]),!(az D r.fu[i].fw false),true,!r.fu[i].ft] (by simp) (by
        rw [hw]
        simp only [List.mem_cons,List.not_mem_nil,or_false,forall_eq_or_imp,forall_eq,Bool.not_eq_true', decide_eq_true_eq]
        constructor
        ·rintro ⟨_,_,_,b4⟩; cases b4
        ·rintro ⟨_,_,_,b4⟩; exact absurd (b4 (by omega)) (by decide))
       rw [hw] at this
       exact this
    ·rw [if_neg hi]
     refine ⟨_,rfl,.inl ⟨rfl,h0.1,h0.2.1,h0.2.2.1,h0.2.2.2,fun i hi2=>a5 i hi2 (by omega),fun i hi2 j hj=>a6 i hi2 j hj (by omega),fun i hi2 j hj=>a7 i hi2 j hj (by omega),fun hi2=>a8 hi2 (by omega)⟩⟩
  ·simp only [List.mem_cons,List.not_mem_nil,or_false,forall_eq_or_imp,forall_eq,decide_eq_true_eq]
   omega
 ·rw [if_neg,if_neg fun hv:RV r=>h0 ⟨hv.g,hv.p,hv.l,hv.n⟩]
  simp only [List.mem_cons,List.not_mem_nil,or_false,forall_eq_or_imp,forall_eq,decide_eq_true_eq]
  omega
end Go.Proofs.YtibdeoeglcngoaaGreatDoor
namespace Go.Proofs.YtibdeoeglcngoaaGreatDoor
open Go
theorem dQ {κ ν:Type} [DecidableEq κ]:∀ (D:List (κ × ν)) (k:κ) (v:ν),(aW D k v).map Prod.fst = if k ∈ D.map Prod.fst then D.map Prod.fst else D.map Prod.fst ++ [k]
 | [],k,v=>by simp [aW]
 | e :: D,k,v=>by
  unfold aW
  by_cases h:k = e.1
  ·rw [if_pos h]; simp [h]
  ·rw [if_neg h]
   simp only [List.map_cons,dQ D k v,List.mem_cons]
   by_cases h2:k ∈ D.map Prod.fst
   ·simp [h2]
   ·rw [if_neg h2,if_neg (by rintro (h3 | h3); exact h h3; exact h2 h3)]; rfl
theorem jT {l:List Int} {k:Int} (hk:0 <= k) (hn:l.Nodup) (h:∀ x,x ∈ l ↔ 0 <= x/\x < k):(l.length:Int) = k:=by
 have h2:((List.range k.toNat).map fun i:Nat=>(i:Int)).Nodup:=by
  unfold List.Nodup
  exact List.Pairwise.map _ (fun a b hab=>by omega) List.nodup_range
 have h3:l.length <= ((List.range k.toNat).map fun i:Nat=>(i:Int)).length:=hn.length_le_of_subset fun x hx=>List.mem_map.2 ⟨x.toNat,List.mem_range.2 (by have:=(h x).1 hx; omega),by have:=(h x).1 hx; omega⟩
 have h4:((List.range k.toNat).map fun i:Nat=>(i:Int)).length <= l.length:=h2.length_le_of_subset fun x hx=>by
  obtain ⟨i,hi,rfl⟩:=List.mem_map.1 hx
  have:=List.mem_range.1 hi
  exact (h _).2 ⟨by omega,by omega⟩
 rw [List.length_map,List.length_range] at h3 h4
 omega
end Go.Proofs.YtibdeoeglcngoaaGreatDoor
namespace Go.Proofs.YtibdeoeglcngoaaGreatDoor
open Go
set_option maxRecDepth 8000
structure Lnd (r:Tf) (us:List Tc):Prop where
 all:∃ ws,r.fu = us ++ ws/\∀ u ∈ ws,u.ft = true
 w:∀ u ∈ us,u.ft = false
theorem Lnd.at {r:Tf} {us:List Tc} (h:Lnd r us) {i:Nat} (hi:i < r.fu.length):(∃ h2:i < us.length,r.fu[i] = us[i]/\r.fu[i].ft = false) ∨ us.length <= i/\r.fu[i].ft = true:=by
 obtain ⟨ws,e,hw⟩:=h.all
 have hz:r.fu.length = us.length + ws.length:=by rw [e,List.length_append]
 by_cases h2:i < us.length
 ·have e0:r.fu[i] = us[i]:=by simp only [e]; exact List.getElem_append_left h2
  exact .inl ⟨h2,e0,by rw [e0]; exact h.w _ (List.getElem_mem _)⟩
 ·refine .inr ⟨by omega,hw _ ?_⟩
  have:r.fu[i] = ws[i - us.length]'(by omega):=by simp only [e]; exact List.getElem_append_right (by omega)
  rw [this]; exact List.getElem_mem _
theorem Lnd.le {r:Tf} {us:List Tc} (h:Lnd r us):us.length <= r.fu.length:=by
 obtain ⟨ws,e,_⟩:=h.all
 rw [e,List.length_append]; omega
def gy (p:List Int) (n:Nat) (k:Int):Prop:=p.length = n/\bK p k
theorem eW (e:Int):ak_p FU false e = some (.ok ()):=rfl
theorem iG:ak_p FU true 220 = some (.error ⟨220⟩):=rfl
theorem gY {l:List Int} {k:Int} (hk:0 <= k) (hn:l.Nodup) (h:∀ x ∈ l,0 <= x/\x < k) (hl:(l.length:Int) = k):∀ d,0 <= d -> d < k -> d ∈ l:=fun d d0 d1=>by
 refine Classical.byContradiction fun hd=>?_
 have h2:((List.range k.toNat).map fun i:Nat=>(i:Int)).Nodup:=by
  unfold List.Nodup
  exact List.Pairwise.map _ (fun a b hab=>by omega) List.nodup_range
 have h3:(d :: l).length <= ((List.range k.toNat).map fun i:Nat=>(i:Int)).length:=(List.nodup_cons.2 ⟨hd,hn⟩).length_le_of_subset fun x hx=>by
  have hx2:0 <= x/\x < k:=by
   rcases List.mem_cons.1 hx with rfl | hx
   ·exact ⟨d0,d1⟩
   ·exact h x hx
  exact List.mem_map.2 ⟨x.toNat,List.mem_range.2 (by omega),by omega⟩
 rw [leC,List.length_map,List.length_range] at h3
 omega
theorem used_eq (r:Tf) (p:List Int) (k:Int) (hl:p.length <= 1000):∃ y,ao (ai_l1 FU p ⟨r,k⟩) FU (0,[]) = some y/\((∃ D:List (Int × Bool),y = .inr D/\(∀ x ∈ p,0 <= x/\x < k)/\(D.map Prod.fst).Nodup/\∀ x,x ∈ D.map Prod.fst ↔ x ∈ p) ∨ y = .inl (.error ⟨220⟩)/\¬ ∀ x ∈ p,0 <= x/\x < k):=by
 have hF:=bg
 refine aw (B:=ai_l1 FU p ⟨r,k⟩) (fun s:Nat × List (Int × Bool)=>p.length - s.1) (fun s=>s.1 <= p.length/\(∀ x ∈ p.take s.1,0 <= x/\x < k)/\(s.2.map Prod.fst).Nodup/\∀ x,x ∈ s.2.map Prod.fst ↔ x ∈ p.take s.1) _ ?_ FU (0,[]) ⟨by simp,by simp,by simp,by simp⟩ (by simp only; omega)
 rintro ⟨i,D⟩ J ⟨a1,a0,a2,a3⟩ hJ
 simp only at a0 a1 a2 a3 hJ
 unfold ai_l1
 simp only
 by_cases hi:i < p.length
 ·rw [if_pos hi,geE hi,aa]
  by_cases hx:0 <= p[i]/\p[i] < k
  ·rw [if_neg (by omega),decide_eq_false (by omega),eW, aa]
   unfold exc
   simp only
   refine hJ _ ⟨hi,fun x hx2=>?_,?_,fun x=>?_⟩ (by simp only; omega)
   ·simp only at hx2
    rw [List.take_succ_eq_append_getElem hi,List.mem_append,List.mem_singleton] at hx2
    rcases hx2 with hx2 | rfl
    ·exact a0 x hx2
    ·exact hx
   ·simp only
    rw [dQ]
    split
    ·exact a2
    ·rename_i h5
     rw [List.nodup_append]
     exact ⟨a2,by simp,fun a ha b hb=>by rw [List.mem_singleton.1 hb]; exact fun e=>h5 (e ▸ ha)⟩
   ·simp only
    rw [dQ,<- List.take_append_getElem hi,List.mem_append,<- a3 x,List.mem_singleton]
    split
    ·rename_i h5
     constructor
     ·exact .inl
     ·rintro (h6 | rfl)
      ·exact h6
      ·exact h5
    ·rw [List.mem_append,List.mem_singleton]
  ·have hbad:¬ ∀ x ∈ p,0 <= x/\x < k:=fun h=>hx (h _ (List.getElem_mem _))
   by_cases h1:p[i] < 0
   ·rw [if_pos h1,iG,aa]
    exact ⟨_,rfl,.inr ⟨rfl,hbad⟩⟩
   ·rw [if_neg h1,decide_eq_true (by omega),iG,aa]
    exact ⟨_,rfl,.inr ⟨rfl,hbad⟩⟩
 ·rw [if_neg hi]
  rw [List.take_of_length_le (by omega)] at a0 a3
  exact ⟨_,rfl,.inl ⟨D,rfl,a0,a2,a3⟩⟩
open Classical in
theorem kj (r:Tf) (p:List Int) (k:Int) (hk:1 <= k) (hl:p.length <= 1000):(thn (ao (ai_l1 FU p ⟨r,k⟩) FU (0,[])) (fun D443=>(ak_p FU (!(decide (((D443.length:Nat):Int) = k))) (220:Int)).bind fun y497=>exc y497 (fun _=>some (Except.ok ())) (fun e498=>some (.error e498)))) = some (if bK p k then .ok () else .error ⟨220⟩):=by
 obtain ⟨y,e,hy⟩:=used_eq r p k hl
 rw [e]
 rcases hy with ⟨D,rfl,h1,h2,h3⟩ | ⟨rfl,h1⟩
 ·unfold thn
  simp only
  by_cases hD:(D.length:Int) = k
  ·rw [decide_eq_true hD]
   have hp:bK p k:=⟨h1,fun d d0 d1=>(h3 d).1 (gY (by omega) h2 (fun x hx=>h1 x ((h3 x).1 hx)) (by rw [List.length_map]; exact hD) d d0 d1)⟩
   rw [if_pos hp]; rfl
  ·rw [decide_eq_false hD]
   have hp:¬ bK p k:=fun hp=>hD (by
    have:=jT (l:=D.map Prod.fst) (k:=k) (by omega) h2 fun x=>by
     rw [h3 x]; exact ⟨fun hx=>hp.1 x hx,fun hx=>hp.2 x hx.1 hx.2⟩
    rwa [List.length_map] at this)
   rw [if_neg hp]; rfl
 ·have hp:¬ bK p k:=fun hp=>h1 hp.1
  rw [if_neg hp]; rfl
open Classical in
theorem kI {r:Tf} {us:List Tc} (h:Lnd r us) (hn:r.fu.length <= 1000) (p:List Int) (k:Int) (hk:1 <= k) (hl:p.length <= 1000):ai_p FU ⟨r,k⟩ p = some (if gy p us.length k then .ok () else .error ⟨220⟩):=by
 have hF:=bg
 have hle:=h.le
 have lab:=kj r p k hk hl
 have tailOk:∀ z:Int,z = us.length -> ((ak_p FU (!(decide (((p.length:Nat):Int) = z))) (220:Int)).bind fun y182=>exc y182 (fun _=>thn (ao (ai_l1 FU p ⟨r,k⟩) FU (0,([]:List (Int × Bool)))) (fun D265=>(ak_p FU (!(decide (((D265.length:Nat):Int) = k))) (220:Int)).bind fun y319=>exc y319 (fun _=>some (Except.ok ())) (fun e320=>some (.error e320)))) (fun e183=>some (.error e183))) = some (if gy p us.length k then .ok () else .error ⟨220⟩):=by
  rintro z rfl
  by_cases hz:((p.length:Nat):Int) = us.length
  ·rw [decide_eq_true hz]
   simp only [Bool.not_true]
   rw [eW, aa]
   unfold exc
   simp only
   refine lab.trans ?_
   by_cases hp:bK p k
   ·rw [if_pos hp,if_pos ⟨by omega,hp⟩]
   ·rw [if_neg hp,if_neg fun hf:gy p us.length k=>hp hf.2]
  ·rw [decide_eq_false hz,if_neg fun hf:gy p us.length k=>hz (by rw [hf.1])]
   rfl
 have hh:=aw (B:=ai_l3 FU ⟨r,k⟩ p) (fun s:Nat × Int=>r.fu.length - s.1) (fun s=>s.1 <= us.length/\s.2 = s.1) (fun y=>y = .inl (if gy p us.length k then .ok () else .error ⟨220⟩) ∨ y = .inr (us.length:Int)) ?_ FU (0,0) ⟨by simp,by simp⟩ (by simp only; omega)
 ·obtain ⟨y,e,hy⟩:=hh
  unfold ai_p
  rw [e]
  rcases hy with rfl | rfl
  ·rfl
  ·exact tailOk _ rfl
 ·rintro ⟨i,z⟩ J ⟨a1,a2⟩ hJ
  simp only at a1 a2 hJ
  subst a2
  unfold ai_l3
  simp only
  by_cases hi:i < r.fu.length
  ·rw [if_pos hi,geE hi,aa]
   rcases h.at hi with ⟨h2,_,hw⟩ | ⟨h2,hw⟩
   ·rw [if_neg (by rw [hw]; decide),aK (by omega) (by omega),aa]
    exact hJ _ ⟨by simp only; omega,by simp only; omega⟩ (by simp only; omega)
   ·rw [if_pos hw]
    refine ⟨.inl (if gy p us.length k then .ok () else .error ⟨220⟩),?_,.inl rfl⟩
    exact congrArg (Option.map _) (tailOk (i:Int) (by omega))
  ·rw [if_neg hi]
   exact ⟨_,rfl,.inr (by rw [show i = us.length by omega])⟩
open Classical in
theorem iz {r:Tf} (hS:∀ u ∈ r.fu,Sm4 u) (p:List Int) (k:Int) (hk:1 <= k) (hk8:k <= 8) (hl:p.length <= 1000) (us:List Tc) (hL:RV r -> Lnd r us):b9_p FU r p k = some (if RV r then if gy p us.length k then 0 else 220 else 161):=by
 unfold b9_p bP_p bO_p
 rw [dA r hS,aa]
 by_cases hv:RV r
 ·have hn:=hv.n
  rw [if_pos hv,if_pos hv]
  unfold bK_p
  rw [if_pos rfl,aa]
  unfold exc
  simp only
  rw [if_neg (by omega),decide_eq_false (by omega),eW, aa]
  simp only
  rw [aa]
  simp only
  rw [kI (hL hv) (by omega) p k hk hl]
  by_cases hf:gy p us.length k
  ·rw [if_pos hf,if_pos hf]; rfl
  ·rw [if_neg hf,if_neg hf]; rfl
 ·rw [if_neg hv,if_neg hv]
  rfl
end Go.Proofs.YtibdeoeglcngoaaGreatDoor
namespace Go.Proofs.YtibdeoeglcngoaaGreatDoor
open Go
set_option maxRecDepth 8000
structure D0 (r:Tf):Prop where
 n:r.fu.length <= 13
 s:∀ u ∈ r.fu,Sm4 u
 k:∀ u ∈ r.fu,u.fVotes.length <= 100/\u.fh.length <= 100
 q:∀ u ∈ r.fu,∀ x ∈ u.fE,0 <= x/\x <= 2
theorem nm_ns {i:Nat} (h:i < 13):nm i ∈ NS:=List.mem_cons_of_mem _ (List.mem_map.2 ⟨i,List.mem_range.2 h,rfl⟩)
theorem idxK {α:Type} {xs:List α} {j:Nat} (h:j < xs.length):idx xs (j:Int) = some xs[j]:=bq (i:=(j:Int)) (by omega) h
structure Dn (r:Tf):Prop where
 n:r.fu.length <= 13
 s:∀ u ∈ r.fu,Sm4 u
end Go.Proofs.YtibdeoeglcngoaaGreatDoor
namespace Go.Proofs.YtibdeoeglcngoaaGreatDoor
open Go
theorem de:∀ {xs:List UInt64} {j:Nat} (v:UInt64) (h:j < xs.length),val (xs.set j v) + 18446744073709551616 ^ j * xs[j].toNat = val xs + 18446744073709551616 ^ j * v.toNat
 | x :: xs,0,v,_=>by simp only [List.set_cons_zero,val,List.getElem_cons_zero,Nat.pow_zero]; omega
 | x :: xs,j + 1,v,h=>by
  have:=de (xs:=xs) (j:=j) v (by simpa using h)
  simp only [List.set_cons_succ,val,List.getElem_cons_succ,Nat.pow_succ]
  grind
theorem jb {a b:UInt64} {s:Nat} (ha:a.toNat < 2 ^ s) (hb:2 ^ s ∣ b.toNat):(a ||| b).toNat = a.toNat + b.toNat:=by
 obtain ⟨y,e⟩:=hb
 rw [UInt64.toNat_or,e,Nat.or_comm,<- Nat.two_pow_add_eq_or_of_lt ha,Nat.add_comm]
theorem cV (w:Nat):18446744073709551616 ^ w = 2 ^ (64 * w):=by
 rw [show (18446744073709551616:Nat) = 2 ^ 64 from rfl,<- Nat.pow_mul]
theorem dw (x:UInt64) {s:Nat} (hs:s < 64):(shlU x s).toNat = x.toNat * 2 ^ s % 18446744073709551616:=by
 unfold shlU; rw [if_pos hs,UInt64.toNat_ofNat']
theorem bD (x:UInt64) {s:Nat} (hs:s < 64):(shrU x s).toNat = x.toNat / 2 ^ s:=by
 unfold shrU; rw [if_pos hs,UInt64.toNat_ofNat']
 exact Nat.mod_eq_of_lt (Nat.lt_of_le_of_lt (Nat.div_le_self _ _) x.toNat_lt)
theorem split64 {s:Nat} (hs:s <= 64):(18446744073709551616:Nat) = 2 ^ (64 - s) * 2 ^ s:=by
 rw [<- Nat.pow_add,show 64 - s + s = 64 by omega]
theorem fU (x:UInt64) {s:Nat} (h0:0 < s) (hs:s < 64):(shlU x s).toNat + 18446744073709551616 * (shrU x (64 - s)).toNat = x.toNat * 2 ^ s/\2 ^ s ∣ (shlU x s).toNat/\(shrU x (64 - s)).toNat < 2 ^ s:=by
 have e:=split64 (s:=s) (by omega)
 have e1:x.toNat * 2 ^ s / 18446744073709551616 = x.toNat / 2 ^ (64 - s):=by
  rw [e]; exact Nat.mul_div_mul_right _ _ (Nat.two_pow_pos s)
 have e2:x.toNat * 2 ^ s % 18446744073709551616 = x.toNat % 2 ^ (64 - s) * 2 ^ s:=by
  rw [e]; exact Nat.mul_mod_mul_right ..
 rw [dw x hs,bD x (by omega)]
 refine ⟨?_,?_,?_⟩
 ·rw [<- e1]; exact Nat.mod_add_div ..
 ·rw [e2]; exact Nat.dvd_mul_left ..
 ·refine Nat.div_lt_of_lt_mul ?_
  rw [<- e]; exact x.toNat_lt
theorem db (x:UInt64):shlU x 0 = x:=by
 refine UInt64.toNat_inj.1 ?_
 rw [dw x (by decide),Nat.pow_zero,Nat.mul_one]
 exact Nat.mod_eq_of_lt x.toNat_lt
theorem dn (x:UInt64):(0:UInt64) ||| x = x:=by
 refine UInt64.toNat_inj.1 ?_
 rw [UInt64.toNat_or]; simp
theorem bit_add {q:List UInt64} {k:Nat} (h:k / 64 < q.length) (hd:2 ^ (k + 1) ∣ val q) (hb:(shlU 1 (k % 64)).toNat = 2 ^ (k % 64)):val (q.set (k / 64) (q[k / 64] ||| shlU 1 (k % 64))) = val q + 2 ^ k:=by
 have hs:=cL q h
 have hl:=bU (q.take (k / 64))
 rw [List.length_take,Nat.min_eq_left (by omega)] at hl
 have hk:k = 64 * (k / 64) + k % 64:=by omega
 have hm:k % 64 < 64:=by omega
 have e1:2 ^ (k + 1) = 18446744073709551616 ^ (k / 64) * 2 ^ (k % 64 + 1):=by rw [cV,<- Nat.pow_add]; congr 1; omega
 have e2:(18446744073709551616:Nat) = 2 ^ (k % 64 + 1) * 2 ^ (63 - k % 64):=by rw [<- Nat.pow_add,show k % 64 + 1 + (63 - k % 64) = 64 by omega]
 have h0:val (q.take (k / 64)) = 0:=by
  have h1:18446744073709551616 ^ (k / 64) ∣ val q:=Nat.dvd_trans ⟨_,e1⟩ hd
  rw [hs,Nat.pow_succ,Nat.mul_assoc,Nat.add_assoc,<- Nat.mul_add] at h1
  have h2:=(Nat.dvd_add_left (Nat.dvd_mul_right ..)).1 h1
  exact Nat.eq_zero_of_dvd_of_lt h2 hl
 have h3:2 ^ (k % 64 + 1) ∣ (q[k / 64]).toNat:=by
  rw [e1,hs,h0,Nat.zero_add,show (18446744073709551616:Nat) ^ (k / 64 + 1) = 18446744073709551616 ^ (k / 64) * 18446744073709551616 from Nat.pow_succ ..,Nat.mul_assoc (18446744073709551616 ^ (k / 64)) 18446744073709551616,<- Nat.mul_add] at hd
  have h4:=Nat.dvd_of_mul_dvd_mul_left (Nat.pow_pos (by decide)) hd
  have h5:2 ^ (k % 64 + 1) ∣ 18446744073709551616 * val (q.drop (k / 64 + 1)):=Nat.dvd_trans ⟨_,e2⟩ (Nat.dvd_mul_right ..)
  exact (Nat.dvd_add_left h5).1 h4
 have h6:(q[k / 64] ||| shlU 1 (k % 64)).toNat = 2 ^ (k % 64) + (q[k / 64]).toNat:=by
  rw [UInt64.or_comm]
  have:=jb (a:=shlU 1 (k % 64)) (b:=q[k / 64]) (s:=k % 64 + 1) (by rw [hb]; exact Nat.pow_lt_pow_right (by decide) (by omega)) h3
  rw [this,hb]
 have h7:=de (q[k / 64] ||| shlU 1 (k % 64)) h
 have e3:2 ^ k = 18446744073709551616 ^ (k / 64) * 2 ^ (k % 64):=by rw [cV,<- Nat.pow_add]; congr 1
 rw [h6,Nat.mul_add,<- e3] at h7
 omega
theorem shl_one {s:Nat} (hs:s < 64):(shlU 1 s).toNat = 2 ^ s:=by
 rw [dw 1 hs]
 have:2 ^ s < 2 ^ 64:=Nat.pow_lt_pow_right (by decide) hs
 simp only [UInt64.toNat_one,Nat.one_mul]
 exact Nat.mod_eq_of_lt (by omega)
theorem kJ {a b q r k:Nat} (h1:a = b * q + r) (h2:r < b * 2 ^ (k + 1)) (h3:2 ^ (k + 1) ∣ q) :
  (b * 2 ^ k <= r -> a = b * (q + 2 ^ k) + (r - b * 2 ^ k)/\r - b * 2 ^ k < b * 2 ^ k/\2 ^ k ∣ q + 2 ^ k)/\(r < b * 2 ^ k -> 2 ^ k ∣ q):=by
 have h4:2 ^ k ∣ q:=Nat.dvd_trans ⟨2,by rw [Nat.pow_succ]⟩ h3
 rw [Nat.pow_succ,<- Nat.mul_assoc] at h2
 refine ⟨fun h=>⟨?_,by omega,Nat.dvd_add h4 (Nat.dvd_refl _)⟩,fun _=>h4⟩
 rw [Nat.mul_add]; omega
def eu (x y:Nat):Nat:=if y = 0 then 0 else (if x < y then 1 else 0) + Nat.log2 (x * y) + 1
theorem eu_step {x y:Nat} (h:y ≠ 0):eu y (x % y) < eu x y:=by
 have hm:x % y < y:=Nat.mod_lt _ (by omega)
 unfold eu
 rw [if_neg h]
 by_cases h0:x % y = 0
 ·rw [if_pos h0]; omega
 ·rw [if_neg h0,if_neg (show ¬ y < x % y by omega)]
  by_cases h1:x < y
  ·rw [if_pos h1,Nat.mod_eq_of_lt h1,Nat.mul_comm y x]; omega
  ·rw [if_neg h1]
   have h2:2 * (x % y) < x ∨ 2 * (x % y) = x:=by
    have h3:=Nat.div_add_mod x y
    have h4:1 <= x / y:=Nat.div_pos (by omega) (by omega)
    have h5:y * 1 <= y * (x / y):=Nat.mul_le_mul_left _ h4
    omega
   have h6:2 * (y * (x % y)) <= x * y:=by
    rw [Nat.mul_comm x y,Nat.mul_left_comm]
    exact Nat.mul_le_mul_left _ (by omega)
   have h7:y * (x % y) ≠ 0:=Nat.mul_ne_zero h h0
   have h8:Nat.log2 (y * (x % y)) + 1 <= Nat.log2 (x * y):=by
    rw [Nat.le_log2 (by omega),Nat.pow_succ]
    have:=Nat.log2_self_le h7
    omega
   omega
theorem eu_le {x y l:Nat} (hx:x < 2 ^ l) (hy:y < 2 ^ l):eu x y <= 2 * l + 2:=by
 unfold eu
 split
 ·omega
 ·rename_i h
  have h1:Nat.log2 (x * y) <= 2 * l:=by
   by_cases h0:x * y = 0
   ·rw [h0]; simp
   ·have:Nat.log2 (x * y) < 2 * l:=by
     rw [Nat.log2_lt h0,Nat.two_mul,Nat.pow_add]
     exact Nat.mul_lt_mul'' hx hy
    omega
  split <;> omega
end Go.Proofs.YtibdeoeglcngoaaGreatDoor
namespace Go.Proofs.YtibdeoeglcngoaaGreatDoor
open Go
def bln (m:Nat):Nat:=if m = 0 then 0 else Nat.log2 m + 1
theorem gB (m:Nat):m < 2 ^ bln m:=by
 unfold bln
 split
 ·rename_i h; rw [h]; decide
 ·rename_i h; exact Nat.lt_log2_self
theorem eL {m:Nat} (h:m ≠ 0):2 ^ (bln m - 1) <= m:=by
 unfold bln
 rw [if_neg h]
 exact Nat.log2_self_le h
theorem df {m:Nat} (h:m ≠ 0):1 <= bln m:=by unfold bln; rw [if_neg h]; omega
theorem lP {m l:Nat} (h1:2 ^ l <= m) (h2:m < 2 ^ (l + 1)):bln m = l + 1:=by
 have h0:m ≠ 0:=fun e=>by have:=Nat.two_pow_pos l; omega
 have h3:=gB m
 have h4:=eL h0
 have h5:=df h0
 have h6:=(Nat.pow_lt_pow_iff_right (by decide:1 < 2)).1 (Nat.lt_of_le_of_lt h1 h3)
 have h7:=(Nat.pow_lt_pow_iff_right (by decide:1 < 2)).1 (Nat.lt_of_le_of_lt h4 h2)
 omega
theorem cJ {m s:Nat} (h:2 ^ s <= m):bln m = s + bln (m / 2 ^ s):=by
 have hp:=Nat.two_pow_pos s
 have h0:m / 2 ^ s ≠ 0:=fun e=>by have:=Nat.div_pos h hp; omega
 have h1:=gB (m / 2 ^ s)
 have h2:=eL h0
 have h3:=df h0
 have e1:2 ^ (s + (bln (m / 2 ^ s) - 1)) <= m:=by
  rw [Nat.pow_add,Nat.mul_comm]
  exact (Nat.le_div_iff_mul_le hp).1 h2
 have e2:m < 2 ^ (s + bln (m / 2 ^ s)):=by
  rw [Nat.pow_add,Nat.mul_comm]
  exact (Nat.div_lt_iff_lt_mul hp).1 h1
 have:=lP (l:=s + (bln (m / 2 ^ s) - 1)) e1 (by rw [show s + (bln (m / 2 ^ s) - 1) + 1 = s + bln (m / 2 ^ s) by omega]; exact e2)
 omega
theorem bV {m l:Nat} (h:m < 2 ^ l):bln m <= l:=by
 by_cases h0:m = 0
 ·subst h0; simp [bln]
 ·have h4:=eL h0
  have h7:=(Nat.pow_lt_pow_iff_right (by decide:1 < 2)).1 (Nat.lt_of_le_of_lt h4 h)
  have:=df h0
  omega
theorem tab_all:(List.range 256).all (fun v=>decide (ct[v]? = some (UInt8.ofNat (bln v)))) = true:=by kernel_rfl
theorem tab_ok {v:Nat} (h:v < 256):ct[v]? = some (UInt8.ofNat (bln v)):=of_decide_eq_true (List.all_eq_true.1 tab_all v (List.mem_range.2 h))
theorem jM (u:UInt64) (z:Int) (h:u.toNat < 256) (hz:0 <= z/\z <= 64):((ct[(dH u).toNat]?).bind fun z27=>(chk (z + ((z27.toNat:Nat):Int))).bind fun s29=>some s29) = some (z + bln u.toNat):=by
 have hb:=bV (l:=8) (m:=u.toNat) (by omega)
 have e:(dH u).toNat = u.toNat:=by unfold dH; rw [UInt8.toNat_ofNat']; omega
 have e2:(UInt8.ofNat (bln u.toNat)).toNat = bln u.toNat:=by rw [UInt8.toNat_ofNat']; omega
 rw [e,tab_ok h,aa,e2,aK (by omega) (by omega),aa]
theorem iv (n:Nat) (x:UInt64):bw_p n x = some (bln x.toNat:Int):=by
 have hx:=x.toNat_lt
 have k16:∀ (u:UInt64) (z:Int),u.toNat < 65536 -> (0 <= z/\z <= 48) -> ((if (256:UInt64) <= u then (chk (z + 8)).bind fun s31=>((ct[(dH (shrU u 8)).toNat]?).bind fun z27=>(chk (s31 + ((z27.toNat:Nat):Int))).bind fun s29=>some s29) else ((ct[(dH u).toNat]?).bind fun z27=>(chk (z + ((z27.toNat:Nat):Int))).bind fun s29=>some s29))) = some (z + bln u.toNat):=fun u z hu hz=>by
  by_cases c:(256:UInt64) <= u
  ·have c2:256 <= u.toNat:=by rw [UInt64.le_iff_toNat_le] at c; simpa using c
   rw [if_pos c,aK (by omega) (by omega),aa,jM _ _ (by rw [bD _ (by decide)]; omega) (by omega),bD _ (by decide),cJ (m:=u.toNat) (s:=8) (by omega)]
   congr 1; omega
  ·have c2:u.toNat < 256:=by rw [UInt64.le_iff_toNat_le] at c; simpa using c
   rw [if_neg c,jM _ _ c2 (by omega)]
 have k32:∀ (u:UInt64) (z:Nat),u.toNat < 4294967296 -> z <= 32 -> ((if (65536:UInt64) <= u then (chk ((z:Int) + 16)).bind fun s33=>(if (256:UInt64) <= shrU u 16 then (chk (s33 + 8)).bind fun s31=>((ct[(dH (shrU (shrU u 16) 8)).toNat]?).bind fun z27=>(chk (s31 + ((z27.toNat:Nat):Int))).bind fun s29=>some s29) else ((ct[(dH (shrU u 16)).toNat]?).bind fun z27=>(chk (s33 + ((z27.toNat:Nat):Int))).bind fun s29=>some s29)) else (if (256:UInt64) <= u then (chk ((z:Int) + 8)).bind fun s31=>((ct[(dH (shrU u 8)).toNat]?).bind fun z27=>(chk (s31 + ((z27.toNat:Nat):Int))).bind fun s29=>some s29) else ((ct[(dH u).toNat]?).bind fun z27=>(chk ((z:Int) + ((z27.toNat:Nat):Int))).bind fun s29=>some s29)))) = some ((z:Int) + bln u.toNat):=fun u z hu hz=>by
  by_cases c:(65536:UInt64) <= u
  ·have c2:65536 <= u.toNat:=by rw [UInt64.le_iff_toNat_le] at c; simpa using c
   rw [if_pos c,aK (by omega) (by omega),aa,k16 _ _ (by rw [bD _ (by decide)]; omega) (by omega),bD _ (by decide),cJ (m:=u.toNat) (s:=16) (by omega)]
   congr 1; omega
  ·have c2:u.toNat < 65536:=by rw [UInt64.le_iff_toNat_le] at c; simpa using c
   rw [if_neg c,k16 _ _ c2 (by omega)]
 unfold bw_p jn
 simp only
 by_cases c:(4294967296:UInt64) <= x
 ·have c2:4294967296 <= x.toNat:=by rw [UInt64.le_iff_toNat_le] at c; simpa using c
  rw [if_pos c]
  refine (k32 (shrU x 32) 32 (by rw [bD _ (by decide)]; omega) (by omega)).trans ?_
  rw [bD _ (by decide),cJ (m:=x.toNat) (s:=32) (by omega)]
  congr 1
 ·have c2:x.toNat < 4294967296:=by rw [UInt64.le_iff_toNat_le] at c; simpa using c
  rw [if_neg c]
  refine (k32 x 0 c2 (by omega)).trans ?_
  congr 1; omega
theorem lz_ok (n:Nat) (x:UInt64):aI_p n x = some (64 - bln x.toNat:Int):=by
 have:=bV (l:=64) (m:=x.toNat) (by have:=x.toNat_lt; omega)
 unfold aI_p
 rw [iv,aa,aK (by omega) (by omega),aa]
theorem div_top {m lo t l:Nat} (hv:m = lo + 18446744073709551616 ^ l * t) (hlow:lo < 18446744073709551616 ^ l):m / 2 ^ (64 * l) = t:=by
 rw [<- cV,hv,Nat.add_mul_div_left _ _ (Nat.lt_of_le_of_lt (Nat.zero_le _) hlow),Nat.div_eq_of_lt hlow,Nat.zero_add]
theorem gg (n:Nat) (m:Nat) (hl:(dg m).length <= 1000000):bX_p n (dg m) = some (bln m:Int):=by
 unfold bX_p
 by_cases h0:m = 0
 ·subst h0
  rw [dg0,if_pos (show ([]:List UInt64).length = 0 from rfl)]
  unfold bln
  rw [if_pos rfl]; rfl
 ·have hne:dg m ≠ []:=fun e=>h0 (by have:=aA m; rw [e] at this; exact this.symm)
  obtain ⟨l,hl1⟩:∃ l,(dg m).length = l + 1:=⟨(dg m).length - 1,by cases h:dg m with | nil=>exact absurd h hne | cons x xs=>simp⟩
  have hlast:l < (dg m).length:=by omega
  have hv:=cL (dg m) hlast
  rw [List.drop_eq_nil_of_le (by omega),aA,show val ([]:List UInt64) = 0 from rfl,Nat.mul_zero,Nat.add_zero] at hv
  have hlow:=bU ((dg m).take l)
  rw [List.length_take,Nat.min_eq_left (by omega)] at hlow
  have htop:(dg m)[l] ≠ 0:=eQ m _ (by rw [List.getLast?_eq_getElem?,hl1]; exact geE hlast)
  have ht0:((dg m)[l]).toNat ≠ 0:=fun e=>htop (UInt64.toNat_inj.1 (by simpa using e))
  have hb:bln m = 64 * l + bln ((dg m)[l]).toNat:=by
   have e:m / 2 ^ (64 * l) = ((dg m)[l]).toNat:=div_top hv hlow
   have:=cJ (m:=m) (s:=64 * l) (by
    have h1:2 ^ (64 * l) * 1 <= 2 ^ (64 * l) * ((dg m)[l]).toNat:=Nat.mul_le_mul_left _ (by omega)
    rw [cV] at hv
    omega)
   rw [e] at this
   exact this
  have hbt:=bV (l:=64) (m:=((dg m)[l]).toNat) (by have:=((dg m)[l]).toNat_lt; omega)
  have hi:((((dg m).length:Nat):Int) - 1).toNat = l:=by omega
  rw [if_neg (by omega),aK (by omega) (by omega),aa,bq (by omega) (by omega),aa]
  simp only [hi]
  rw [lz_ok,aa,aK (by omega) (by omega),aa,hb]
  congr 1; omega
theorem lS (k:Nat) (h:k < 1000000000):dM (k:Int) 64 = some ((k / 64:Nat):Int):=by
 unfold dM
 rw [if_neg (by decide),Int.tdiv_eq_ediv_of_nonneg (by omega),aK (by omega) (by omega)]
 congr 1
theorem rem64 (k:Nat):dC (k:Int) 64 = some ((k % 64:Nat):Int):=by
 rw [cK (by decide),Int.tmod_eq_emod_of_nonneg (by omega)]
 congr 1
theorem dP (k:Nat):dy (k:Int) = some k:=by unfold dy; rw [if_pos (Int.natCast_nonneg _),Int.toNat_natCast]
theorem lv {α:Type} {xs:List α} {i:Nat} (h:i < xs.length):idx xs (i:Int) = some xs[i]:=by
 rw [bq (by omega) (by rw [Int.toNat_natCast]; exact h)]
 simp only [Int.toNat_natCast]
theorem putN {α:Type} {xs:List α} {i:Nat} (x:α) (h:i < xs.length):put xs ((((i:Nat):Int).toNat:Nat):Int) x = some (xs.set i x):=by rw [Int.toNat_natCast]; exact ba x h
theorem kL (n:Nat) (a:List UInt64) (k:Nat) (hk:k < 1000000) (hl:a.length < 100000) (hn:200000 < n):bQ_p n a (k:Int) = some (dg (val a * 2 ^ k)):=by
 have hkw:2 ^ k = 18446744073709551616 ^ (k / 64) * 2 ^ (k % 64):=by rw [cV,<- Nat.pow_add]; congr 1; omega
 have hs:k % 64 < 64:=Nat.mod_lt _ (by decide)
 have hh:=aw (B:=bQ_l1 n a (k:Int)) (fun s:Nat × List UInt64=>a.length - s.1) (fun s=>s.1 <= a.length/\∃ hx:s.2.length = a.length + k / 64 + 1,val s.2 = val (a.take s.1) * 2 ^ k/\(∀ j (h:j < s.2.length),s.1 + k / 64 < j -> s.2[j] = 0)/\(s.2[s.1 + k / 64]?.getD 0).toNat < 2 ^ (k % 64))
  (fun xs=>xs.length = a.length + k / 64 + 1/\val xs = val a * 2 ^ k) ?_ n (0,List.replicate (a.length + k / 64 + 1) 0) ⟨Nat.zero_le _,by simp,?_,fun j h _=>by simp,?_⟩ (by simp only; omega)
 ·obtain ⟨xs,e,h1,h2⟩:=hh
  unfold bQ_p
  rw [lS k (by omega),aa,aK (by omega) (by omega),aa,aK (by omega) (by omega),aa,show ((a.length:Nat):Int) + ((k / 64:Nat):Int) + 1 = ((a.length + k / 64 + 1:Nat):Int) by omega,cu _ _ (by omega),aa,e,aa,aE n false xs (by omega) (by omega),aa,h2]
 ·rintro ⟨i,xs⟩ J ⟨a1,a2,a3,a4,a5⟩ hJ
  simp only at a1 a2 a3 a4 a5 hJ
  unfold bQ_l1
  simp only
  by_cases hi:i < a.length
  ·have hw:i + k / 64 < xs.length:=by omega
   have hw1:i + k / 64 + 1 < xs.length:=by omega
   rw [geE hw] at a5
   have a5' : (xs[i + k / 64]).toNat < 2 ^ (k % 64):=a5
   rw [if_pos hi,geE hi,aa,lS k (by omega),aa,aK (by omega) (by omega),aa,show ((i:Nat):Int) + ((k / 64:Nat):Int) = ((i + k / 64:Nat):Int) by omega,lv hw,aa,rem64,aa,dP,aa,putN _ hw,aa,aa]
   have e0:val (a.take (i + 1)) * 2 ^ k = val (a.take i) * 2 ^ k + 18446744073709551616 ^ (i + k / 64) * (a[i].toNat * 2 ^ (k % 64)):=by
    rw [bw a hi,Nat.add_mul,hkw,Nat.pow_add]
    congr 1
    grind
   by_cases c:0 < k % 64
   ·obtain ⟨s1,s2,s3⟩:=fU a[i] c hs
    have hor:=jb (a:=xs[i + k / 64]) (b:=shlU a[i] (k % 64)) a5' s2
    have v1:=de (xs[i + k / 64] ||| shlU a[i] (k % 64)) hw
    rw [hor,Nat.mul_add] at v1
    generalize hys:xs.set (i + k / 64) (xs[i + k / 64] ||| shlU a[i] (k % 64)) = ys at *
    have hyl:ys.length = xs.length:=by rw [<- hys,List.length_set]
    have hy1:i + k / 64 + 1 < ys.length:=by omega
    have hy0:ys[i + k / 64 + 1] = 0:=by
     have:=a4 (i + k / 64 + 1) hw1 (by omega)
     simp only [<- hys]
     rw [List.getElem_set_ne (by omega)]; exact this
    have v2:=de (shrU a[i] (64 - k % 64)) hy1
    rw [hy0] at v2
    rw [if_pos (by omega),aa,aK (by omega) (by omega),aa,aK (by omega) (by omega),aa,aa,aK (by omega) (by omega),aa,show (64:Int) - ((k % 64:Nat):Int) = ((64 - k % 64:Nat):Int) by omega,dP,aa,show ((i:Nat):Int) + ((k / 64:Nat):Int) + 1 = ((i + k / 64 + 1:Nat):Int) by omega,lv hy1,aa,putN _ hy1,aa]
    refine hJ _ ⟨hi,by simp only [List.length_set]; omega,?_,fun j hj hlt=>?_,?_⟩ (by simp only; omega)
    ·simp only
     rw [e0,<- s1,Nat.mul_add,<- Nat.mul_assoc,<- Nat.pow_succ]
     simp only [UInt64.toNat_zero,Nat.mul_zero,Nat.add_zero] at v2
     rw [v2,<- a3]
     show val ys + 18446744073709551616 ^ (i + k / 64 + 1) * _ = val xs + (_ + 18446744073709551616 ^ (i + k / 64 + 1) * _)
     omega
    ·simp only at hj hlt ⊢
     rw [List.getElem_set_ne (by omega)]
     simp only [<- hys]
     rw [List.getElem_set_ne (by omega)]
     exact a4 j (by simpa [<- hys] using hj) (by omega)
    ·simp only
     rw [show i + 1 + k / 64 = i + k / 64 + 1 by omega,List.getElem?_set_self hy1]
     exact s3
   ·have c0:k % 64 = 0:=by omega
    rw [c0,Nat.pow_zero] at a5'
    have hz:xs[i + k / 64] = 0:=UInt64.toNat_inj.1 (by simp; omega)
    have v1:=de (xs[i + k / 64] ||| shlU a[i] (k % 64)) hw
    rw [hz,dn,c0,db] at v1
    rw [if_neg (by omega),hz,dn,c0,db]
    refine hJ _ ⟨hi,by simp only [List.length_set]; omega,?_,fun j hj hlt=>?_,?_⟩ (by simp only; omega)
    ·simp only
     rw [e0,c0,Nat.pow_zero,Nat.mul_one,<- a3]
     simp only [UInt64.toNat_zero,Nat.mul_zero,Nat.add_zero] at v1
     exact v1
    ·simp only at hj hlt ⊢
     rw [List.getElem_set_ne (by omega)]
     exact a4 j (by simpa using hj) (by omega)
    ·simp only
     rw [show i + 1 + k / 64 = i + k / 64 + 1 by omega,List.getElem?_set_ne (by omega),geE hw1,a4 _ hw1 (by omega),c0]
     decide
  ·rw [if_neg hi]
   rw [List.take_of_length_le (by omega)] at a3
   exact ⟨_,rfl,a2,a3⟩
 ·simp only [List.take_zero,val,Nat.zero_mul]
  exact bQ _ fun x hx=>(List.mem_replicate.1 hx).2
 ·simp only
  rw [List.getElem?_replicate]
  split <;> simp <;> exact Nat.two_pow_pos _
end Go.Proofs.YtibdeoeglcngoaaGreatDoor
namespace Go.Proofs.YtibdeoeglcngoaaGreatDoor
open Go
set_option maxRecDepth 8000
theorem kh {B:(UInt64 × UInt64 -> Option UInt64) -> UInt64 × UInt64 -> Option UInt64} {y1 y0 un:UInt64}
  (hB:∀ J q rh,B J (q,rh) = if (4294967296:UInt64) <= q then (if (4294967296:UInt64) <= rh + y1 then some (q - 1) else J (q - 1,rh + y1)) else (if 4294967296 * rh + un < q * y0 then (if (4294967296:UInt64) <= rh + y1 then some (q - 1) else J (q - 1,rh + y1)) else some q))
  {U:Nat} (h1:2147483648 <= y1.toNat) (h1' : y1.toNat < 4294967296) (h0:y0.toNat < 4294967296) (hu:un.toNat < 4294967296) (hU:U < y1.toNat * 4294967296 + y0.toNat) (q0 r0:UInt64) (e:U = q0.toNat * y1.toNat + r0.toNat) (hr:r0.toNat < y1.toNat) (n:Nat) (hn:4294967300 < n) :
  ∃ q:UInt64,ao B n (q0,r0) = some q/\q.toNat = (U * 4294967296 + un.toNat) / (y1.toNat * 4294967296 + y0.toNat):=by
 obtain ⟨V,hV⟩:∃ V,y1.toNat * 4294967296 + y0.toNat = V:=⟨_,rfl⟩
 obtain ⟨N,hN⟩:∃ N,U * 4294967296 + un.toNat = N:=⟨_,rfl⟩
 rw [hV] at hU
 rw [hV,hN]
 have hVp:0 < V:=by omega
 obtain ⟨D,hD⟩:∃ D,N / V = D:=⟨_,rfl⟩
 have hle:∀ x,x <= D ↔ x * V <= N:=fun x=>by rw [<- hD]; exact Nat.le_div_iff_mul_le hVp
 have hlt:∀ x,D < x ↔ N < x * V:=fun x=>by rw [<- hD]; exact Nat.div_lt_iff_lt_mul hVp
 rw [hD]
 have hNV:D < 4294967296:=by
  rw [hlt]
  omega
 have hq0:q0.toNat <= 4294967297:=by
  have h2:q0.toNat * 2147483648 <= q0.toNat * y1.toNat:=Nat.mul_le_mul_left _ h1
  by_cases h3:q0.toNat <= 4294967297
  ·exact h3
  ·exfalso
   have h4:4294967298 * y1.toNat <= q0.toNat * y1.toNat:=Nat.mul_le_mul_right _ (by omega)
   omega
 have up:D <= q0.toNat:=by
  rw [<- hD]
  have h3:N / V <= N / (y1.toNat * 4294967296):=Nat.div_le_div_left (by omega) (by omega)
  have h4:N / (y1.toNat * 4294967296) = U / y1.toNat:=by
   rw [Nat.mul_comm,<- Nat.div_div_eq_div_mul]
   congr 1
   omega
  have h5:U / y1.toNat = q0.toNat:=by
   rw [e,Nat.mul_comm,Nat.add_comm,Nat.add_mul_div_left _ _ (by omega),Nat.div_eq_of_lt hr,Nat.zero_add]
  rw [h4,h5] at h3
  exact h3
 refine aw (B:=B) (fun s:UInt64 × UInt64=>s.1.toNat) (fun s=>U = s.1.toNat * y1.toNat + s.2.toNat/\s.2.toNat < 4294967296/\D <= s.1.toNat/\s.1.toNat <= 4294967297) (fun q=>q.toNat = D) ?_ n (q0,r0) ⟨e,by simp only; omega,up,hq0⟩ (by simp only; omega)
 rintro ⟨q,rh⟩ J ⟨i1,i2,i3,i4⟩ hJ
 simp only at i1 i2 i3 i4 hJ
 rw [hB]
 have c32:(4294967296:UInt64).toNat = 4294967296:=rfl
 have hrh:(rh + y1).toNat = rh.toNat + y1.toNat:=by rw [UInt64.toNat_add]; omega
 -- what follows once the guess is too great
 have over:D + 1 <= q.toNat -> ∃ r,(if (4294967296:UInt64) <= rh + y1 then some (q - 1) else J (q - 1,rh + y1)) = some r/\r.toNat = D:=fun ho=>by
  have hq1:(q - 1).toNat = q.toNat - 1:=by
   rw [UInt64.toNat_sub]
   have:=q.toNat_lt
   simp only [UInt64.toNat_one]
   omega
  have e1:q.toNat * y1.toNat = (q.toNat - 1) * y1.toNat + y1.toNat:=by
   rw [<- Nat.succ_mul]; congr 1; omega
  split
  ·rename_i hbig
   rw [UInt64.le_iff_toNat_le,c32,hrh] at hbig
   refine ⟨_,rfl,?_⟩
   rw [hq1]
   refine Nat.le_antisymm ?_ (by omega)
   rw [hle,<- hV,Nat.mul_add,<- Nat.mul_assoc]
   have h5:(q.toNat - 1) * y0.toNat <= 4294967296 * 4294967295:=Nat.mul_le_mul (by omega) (by omega)
   omega
  ·rename_i hbig
   rw [UInt64.le_iff_toNat_le,c32,hrh] at hbig
   exact hJ _ ⟨by simp only; rw [hq1,hrh]; omega,by simp only; rw [hrh]; omega,by simp only; rw [hq1]; omega,by simp only; rw [hq1]; omega⟩ (by simp only; rw [hq1]; omega)
 by_cases c:(4294967296:UInt64) <= q
 ·rw [if_pos c]
  rw [UInt64.le_iff_toNat_le,c32] at c
  exact over (by omega)
 ·rw [if_neg c]
  rw [UInt64.le_iff_toNat_le,c32] at c
  have m1:(4294967296 * rh + un).toNat = 4294967296 * rh.toNat + un.toNat:=by
   rw [UInt64.toNat_add,UInt64.toNat_mul,c32]; omega
  have m2:(q * y0).toNat = q.toNat * y0.toNat:=by
   rw [UInt64.toNat_mul]
   have:q.toNat * y0.toNat <= 4294967295 * 4294967295:=Nat.mul_le_mul (by omega) (by omega)
   omega
  have eqV:q.toNat * V = q.toNat * y1.toNat * 4294967296 + q.toNat * y0.toNat:=by rw [<- hV,Nat.mul_add,<- Nat.mul_assoc]
  by_cases c2:4294967296 * rh + un < q * y0
  ·rw [if_pos c2]
   rw [UInt64.lt_iff_toNat_lt,m1,m2] at c2
   refine over ?_
   have:D < q.toNat:=by
    rw [hlt,eqV]
    omega
   omega
  ·rw [if_neg c2]
   rw [UInt64.lt_iff_toNat_lt,m1,m2] at c2
   refine ⟨_,rfl,Nat.le_antisymm ?_ i3⟩
   rw [hle,eqV]
   omega
theorem jQ {N M R:Nat} (h:N = M + R) (hR:R < 18446744073709551616):(18446744073709551616 - M % 18446744073709551616 + N % 18446744073709551616) % 18446744073709551616 = R:=by omega
theorem glue2 {hi lo p u t w:Nat} (t1:u = hi * p + t) (t2:w + 18446744073709551616 * t = lo * p):(hi * 18446744073709551616 + lo) * p = u * 18446744073709551616 + w:=by
 rw [Nat.add_mul,Nat.mul_right_comm hi 18446744073709551616 p,t1,<- t2]
 generalize hi * p = z
 omega
theorem glue {P Q R1 R0 u w:Nat} (h1:P + R1 = u * 4294967296 + w / 4294967296) (h2:Q + R0 = R1 * 4294967296 + w % 4294967296):u * 18446744073709551616 + w = P * 4294967296 + Q + R0:=by omega
theorem kn (n:Nat) (hi lo y:UInt64) (h:hi.toNat < y.toNat) (hn:4294967300 < n):∃ q r:UInt64,au_p n hi lo y = some (q,r)/\hi.toNat * 18446744073709551616 + lo.toNat = q.toNat * y.toNat + r.toNat/\r.toNat < y.toNat:=by
 have hy:=y.toNat_lt
 have hlo:=lo.toNat_lt
 have hy0:y ≠ 0:=fun e=>by rw [e] at h; simp at h
 unfold au_p
 rw [if_neg hy0,if_neg (by rw [UInt64.le_iff_toNat_le]; omega)]
 by_cases h0:hi = 0
 ·subst h0
  rw [if_pos rfl]
  unfold gR jW
  rw [if_neg hy0,aa,if_neg hy0,aa]
  refine ⟨_,_,rfl,?_,?_⟩
  ·rw [UInt64.toNat_div,UInt64.toNat_mod]
   have:=Nat.div_add_mod lo.toNat y.toNat
   rw [Nat.mul_comm] at this
   simp; omega
  ·rw [UInt64.toNat_mod]; exact Nat.mod_lt _ (by omega)
 ·rw [if_neg h0,lz_ok,aa]
  have hyn:y.toNat ≠ 0:=by omega
  have b1:=df hyn
  have b2:=bV (l:=64) (m:=y.toNat) (by omega)
  have b3:=gB y.toNat
  have b4:=eL hyn
  obtain ⟨s,hs⟩:∃ s,s = 64 - bln y.toNat:=⟨_,rfl⟩
  have e1:(ae (64 - (bln y.toNat:Int))).toNat = s:=by unfold ae; rw [UInt64.toNat_ofNat']; omega
  have e2:((64:UInt64) - ae (64 - (bln y.toNat:Int))).toNat = 64 - s:=by
   rw [UInt64.toNat_sub,e1]
   simp only [show (64:UInt64).toNat = 64 from rfl]
   omega
  have hs64:s < 64:=by omega
  have hps:=Nat.two_pow_pos s
  -- the divisor,moved
  have v2:y.toNat * 2 ^ s < 18446744073709551616:=by
   have:y.toNat * 2 ^ s < 2 ^ bln y.toNat * 2 ^ s:=Nat.mul_lt_mul_of_pos_right b3 hps
   rw [<- Nat.pow_add,show bln y.toNat + s = 64 by omega] at this
   exact this
  have v1:9223372036854775808 <= y.toNat * 2 ^ s:=by
   have:2 ^ (bln y.toNat - 1) * 2 ^ s <= y.toNat * 2 ^ s:=Nat.mul_le_mul_right _ b4
   rw [<- Nat.pow_add,show bln y.toNat - 1 + s = 63 by omega] at this
   exact this
  have hyv:(shlU y s).toNat = y.toNat * 2 ^ s:=by rw [dw y hs64,Nat.mod_eq_of_lt v2]
  have hhi:hi.toNat * 2 ^ s < 18446744073709551616:=Nat.lt_of_le_of_lt (Nat.mul_le_mul_right _ (Nat.le_of_lt h)) v2
  have hhv:(shlU hi s).toNat = hi.toNat * 2 ^ s:=by rw [dw hi hs64,Nat.mod_eq_of_lt hhi]
  -- the dividend,moved
  have hun:∃ t:Nat,(shlU hi s ||| shrU lo (64 - s)).toNat = hi.toNat * 2 ^ s + t/\(shlU lo s).toNat + 18446744073709551616 * t = lo.toNat * 2 ^ s:=by
   by_cases s0:s = 0
   ·subst s0
    refine ⟨0,?_,by rw [db]; simp⟩
    rw [db,show shrU lo (64 - 0) = 0 from by unfold shrU; rw [if_neg (by decide)],UInt64.toNat_or]
    simp
   ·obtain ⟨t1,t2,t3⟩:=fU lo (by omega) hs64
    refine ⟨(shrU lo (64 - s)).toNat,?_,t1⟩
    rw [UInt64.or_comm,jb t3 (by rw [hhv]; exact Nat.dvd_mul_left ..),hhv,Nat.add_comm]
  obtain ⟨t,t1,t2⟩:=hun
  rw [e1,e2]
  generalize hyy:shlU y s = yy at *
  generalize hun32:shlU hi s ||| shrU lo (64 - s) = un32 at *
  generalize hun10:shlU lo s = un10 at *
  have hun10l:=un10.toNat_lt
  have hun32l:=un32.toNat_lt
  -- both halves of the divisor
  have w1:(shrU yy 32).toNat = yy.toNat / 4294967296:=iK yy
  have w0:(yy &&& (4294967295:UInt64)).toNat = yy.toNat % 4294967296:=lR yy
  have x1:(shrU un10 32).toNat = un10.toNat / 4294967296:=iK un10
  have x0:(un10 &&& (4294967295:UInt64)).toNat = un10.toNat % 4294967296:=lR un10
  have hyyl:=yy.toNat_lt
  have hV:(shrU yy 32).toNat * 4294967296 + (yy &&& (4294967295:UInt64)).toNat = yy.toNat:=by rw [w1,w0]; omega
  have hy1:2147483648 <= (shrU yy 32).toNat:=by rw [w1]; omega
  have hy1' : (shrU yy 32).toNat < 4294967296:=by rw [w1]; omega
  have hy0' : (yy &&& (4294967295:UInt64)).toNat < 4294967296:=by rw [w0]; omega
  have hne:shrU yy 32 ≠ 0:=fun e=>by rw [e] at hy1; simp at hy1
  have hUV:un32.toNat < yy.toNat:=by
   have h5:(hi.toNat * 18446744073709551616 + lo.toNat) * 2 ^ s < y.toNat * 18446744073709551616 * 2 ^ s:=Nat.mul_lt_mul_of_pos_right (by omega) hps
   rw [Nat.add_mul,Nat.mul_right_comm,Nat.mul_right_comm y.toNat] at h5
   omega
  -- the first digit
  have d1:∀ (U:UInt64) (hU:U.toNat < yy.toNat) (un:UInt64) (hu:un.toNat < 4294967296) (B:(UInt64 × UInt64 -> Option UInt64) -> UInt64 × UInt64 -> Option UInt64) (hB:∀ J q rh,B J (q,rh) = if (4294967296:UInt64) <= q then (if (4294967296:UInt64) <= rh + shrU yy 32 then some (q - 1) else J (q - 1,rh + shrU yy 32)) else (if 4294967296 * rh + un < q * (yy &&& (4294967295:UInt64)) then (if (4294967296:UInt64) <= rh + shrU yy 32 then some (q - 1) else J (q - 1,rh + shrU yy 32)) else some q)),
    ∃ q:UInt64,ao B n (U / shrU yy 32,U - U / shrU yy 32 * shrU yy 32) = some q/\q.toNat = (U.toNat * 4294967296 + un.toNat) / yy.toNat:=fun U hU un hu B hB=>by
   have hm:=Nat.div_add_mod U.toNat (shrU yy 32).toNat
   have hml:=Nat.mod_lt U.toNat (show 0 < (shrU yy 32).toNat by omega)
   have hUl:=U.toNat_lt
   have e3:(U - U / shrU yy 32 * shrU yy 32).toNat = U.toNat % (shrU yy 32).toNat:=by
    rw [UInt64.toNat_sub,UInt64.toNat_mul,UInt64.toNat_div]
    rw [Nat.mul_comm] at hm
    have:U.toNat / (shrU yy 32).toNat * (shrU yy 32).toNat <= U.toNat:=by omega
    rw [Nat.mod_eq_of_lt (a:=U.toNat / (shrU yy 32).toNat * (shrU yy 32).toNat) (by omega)]
    omega
   obtain ⟨q,a1,a2⟩:=kh hB (U:=U.toNat) hy1 hy1' hy0' hu (by rw [hV]; exact hU) (U / shrU yy 32) (U - U / shrU yy 32 * shrU yy 32) (by rw [UInt64.toNat_div,e3,Nat.mul_comm]; exact hm.symm) (by rw [e3]; exact hml) n hn
   exact ⟨q,a1,by rw [a2,hV]⟩
  obtain ⟨q1,l2,q1v⟩:=d1 un32 hUV (shrU un10 32) (by rw [x1]; omega) (au_l2 n y (64 - (bln y.toNat:Int)) lo) (fun J q rh=>by unfold au_l2; simp only [e1,hyy,hun10])
  have hm1:=Nat.div_add_mod (un32.toNat * 4294967296 + (shrU un10 32).toNat) yy.toNat
  have hml1:=Nat.mod_lt (un32.toNat * 4294967296 + (shrU un10 32).toNat) (show 0 < yy.toNat by omega)
  rw [<- q1v] at hm1
  generalize hR1:(un32.toNat * 4294967296 + (shrU un10 32).toNat) % yy.toNat = R1 at hm1 hml1
  have u21:(un32 * 4294967296 + shrU un10 32 - q1 * yy).toNat = R1:=by
   rw [UInt64.toNat_sub,UInt64.toNat_add,UInt64.toNat_mul,UInt64.toNat_mul]
   rw [show (4294967296:UInt64).toNat = 4294967296 from rfl]
   have:=jQ (N:=un32.toNat * 4294967296 + (shrU un10 32).toNat) (M:=q1.toNat * yy.toNat) (R:=R1) (by rw [Nat.mul_comm q1.toNat]; exact hm1.symm) (by omega)
   generalize q1.toNat * yy.toNat = M at *
   omega
  obtain ⟨q0,l1,q0v⟩:=d1 (un32 * 4294967296 + shrU un10 32 - q1 * yy) (by rw [u21]; exact hml1) (un10 &&& (4294967295:UInt64)) (by rw [x0]; omega) (au_l1 n y (64 - (bln y.toNat:Int)) lo) (fun J q rh=>by unfold au_l1; simp only [e1,hyy,hun10])
  rw [u21] at q0v
  have hm0:=Nat.div_add_mod (R1 * 4294967296 + (un10 &&& (4294967295:UInt64)).toNat) yy.toNat
  have hml0:=Nat.mod_lt (R1 * 4294967296 + (un10 &&& (4294967295:UInt64)).toNat) (show 0 < yy.toNat by omega)
  rw [<- q0v] at hm0
  generalize hR0:(R1 * 4294967296 + (un10 &&& (4294967295:UInt64)).toNat) % yy.toNat = R0 at hm0 hml0
  have u00:((un32 * 4294967296 + shrU un10 32 - q1 * yy) * 4294967296 + (un10 &&& (4294967295:UInt64)) - q0 * yy).toNat = R0:=by
   rw [UInt64.toNat_sub,UInt64.toNat_add,UInt64.toNat_mul,UInt64.toNat_mul,u21]
   rw [show (4294967296:UInt64).toNat = 4294967296 from rfl]
   have:=jQ (N:=R1 * 4294967296 + (un10 &&& (4294967295:UInt64)).toNat) (M:=q0.toNat * yy.toNat) (R:=R0) (by rw [Nat.mul_comm q0.toNat]; exact hm0.symm) (by omega)
   generalize q0.toNat * yy.toNat = M at *
   omega
  have q1l:q1.toNat < 4294967296:=by
   rw [q1v,Nat.div_lt_iff_lt_mul (by omega)]; rw [x1]; omega
  have q0l:q0.toNat < 4294967296:=by
   rw [q0v,Nat.div_lt_iff_lt_mul (by omega)]; rw [x0]; omega
  -- all together
  have all:(hi.toNat * 18446744073709551616 + lo.toNat) * 2 ^ s = (q1.toNat * 4294967296 + q0.toNat) * y.toNat * 2 ^ s + R0:=by
   have a1:(hi.toNat * 18446744073709551616 + lo.toNat) * 2 ^ s = un32.toNat * 18446744073709551616 + un10.toNat:=by
    exact glue2 t1 t2
   have a2:(q1.toNat * 4294967296 + q0.toNat) * y.toNat * 2 ^ s = yy.toNat * q1.toNat * 4294967296 + yy.toNat * q0.toNat:=by
    rw [Nat.mul_assoc,<- hyv]; grind
   rw [a1,a2]
   rw [x1] at hm1
   rw [x0] at hm0
   exact glue hm1 hm0
  have hq:(q1 * 4294967296 + q0).toNat = q1.toNat * 4294967296 + q0.toNat:=by
   rw [UInt64.toNat_add,UInt64.toNat_mul,show (4294967296:UInt64).toNat = 4294967296 from rfl]; omega
  have hd:2 ^ s ∣ R0:=by
   have:=(Nat.dvd_add_right (Nat.dvd_mul_left (2 ^ s) ((q1.toNat * 4294967296 + q0.toNat) * y.toNat))).1 (by rw [<- all]; exact Nat.dvd_mul_left ..)
   exact this
  obtain ⟨rr,hrr⟩:=hd
  have hrv:(shrU ((un32 * 4294967296 + shrU un10 32 - q1 * yy) * 4294967296 + (un10 &&& (4294967295:UInt64)) - q0 * yy) s).toNat = rr:=by
   rw [bD _ hs64,u00,hrr,Nat.mul_div_cancel_left _ hps]
  unfold jn gR
  rw [if_neg hne,aa,aa]
  dsimp only
  rw [l2,aa,aa,if_neg hne,aa,aa]
  try dsimp only
  rw [l1,aa,aa,aa]
  refine ⟨_,_,rfl,?_,?_⟩
  ·rw [hq,hrv]
   rw [hrr,Nat.mul_comm (2 ^ s) rr,<- Nat.add_mul] at all
   exact Nat.mul_right_cancel hps all
  ·rw [hrv]
   rw [hrr,Nat.mul_comm,hyv] at hml0
   exact Nat.lt_of_mul_lt_mul_right hml0
end Go.Proofs.YtibdeoeglcngoaaGreatDoor
namespace Go.Proofs.YtibdeoeglcngoaaGreatDoor
open Go
set_option maxRecDepth 8000
theorem lq (a:Nat):bln a <= 64 * (dg a).length:=bV (by
 have:=bU (dg a)
 rw [aA,cV] at this
 exact this)
theorem dg_one {m:Nat} (h:(dg m).length = 1):∃ y:UInt64,dg m = [y]/\y.toNat = m:=by
 rcases e:dg m with _ | ⟨y,_ | ⟨z,zs⟩⟩
 ·rw [e] at h; simp at h
 ·refine ⟨y,rfl,?_⟩
  have:=aA m
  rw [e] at this
  simp only [val] at this
  omega
 ·rw [e] at h; simp at h
theorem fP {xs:List UInt64} {i:Nat} (v:UInt64) (h:i < xs.length):(xs.set i v).drop i = v :: xs.drop (i + 1):=by
 rw [List.drop_eq_getElem_cons (by simpa using h),List.getElem_set_self,List.drop_set_of_lt (by omega)]
theorem iU (n:Nat) (a:List UInt64) (y:UInt64) (hy:0 < y.toNat) (hl:a.length < 100000) (hn:4294967300 < n):∃ u xs,ao (aw_l1 n a [y]) n (0,((a.length:Nat):Int) - 1,List.replicate a.length 0) = some (u,xs)/\xs.length = a.length/\val a = val xs * y.toNat + u.toNat/\u.toNat < y.toNat:=by
 have hh:=aw (B:=aw_l1 n a [y]) (fun s:UInt64 × Int × List UInt64=>(s.2.1 + 1).toNat) (fun s=>(-1 <= s.2.1/\s.2.1 < a.length)/\s.2.2.length = a.length/\val (a.drop (s.2.1 + 1).toNat) = val (s.2.2.drop (s.2.1 + 1).toNat) * y.toNat + s.1.toNat/\s.1.toNat < y.toNat)
  (fun r=>r.2.length = a.length/\val a = val r.2 * y.toNat + r.1.toNat/\r.1.toNat < y.toNat) ?_ n (0,((a.length:Nat):Int) - 1,List.replicate a.length 0) ⟨by simp only; omega,by simp,?_,by simpa using hy⟩ (by simp only; omega)
 ·obtain ⟨⟨u,xs⟩,e,h1,h2,h3⟩:=hh; exact ⟨u,xs,e,h1,h2,h3⟩
 ·rintro ⟨u,z,xs⟩ J ⟨a1,a2,a3,a4⟩ hJ
  simp only at a1 a2 a3 a4 hJ
  unfold aw_l1
  simp only
  by_cases hz:0 <= z
  ·obtain ⟨k,rfl⟩:∃ k:Nat,z = k:=⟨z.toNat,by omega⟩
   have e0:(((k:Int) + 1).toNat) = k + 1:=by omega
   rw [e0] at a3
   have hka:k < a.length:=by omega
   have hkx:k < xs.length:=by omega
   obtain ⟨q,r,d1,d2,d3⟩:=kn n u a[k] y a4 hn
   rw [if_pos hz,lv hka,aa]
   simp only [List.getElem?_cons_zero,aa]
   rw [d1,aa,lv hkx,aa,putN _ hkx,aa,aK (by omega) (by omega),aa]
   have eN:(((k:Int) - 1 + 1)).toNat = k:=by omega
   refine hJ (_,_,_) ⟨by simp only; omega,by simpa using a2,?_,d3⟩ (by simp only; omega)
   simp only
   rw [eN,fP q hkx,List.drop_eq_getElem_cons hka]
   simp only [val]
   rw [a3,Nat.add_mul,Nat.mul_add,<- Nat.mul_assoc]
   omega
  ·rw [if_neg hz]
   have e0:(z + 1).toNat = 0:=by omega
   rw [e0] at a3
   exact ⟨_,rfl,a2,by simpa using a3,a4⟩
 ·simp only
  rw [show ((((a.length:Nat):Int) - 1 + 1)).toNat = a.length by omega,List.drop_length,List.drop_eq_nil_of_le (by simp)]
  simp [val]
theorem ir (n:Nat) (a b:Nat) (h0:b ≠ 0) (ha:(dg a).length < 10000) (hb:(dg b).length < 10000) (hn:18446744073709551616 < n):∃ q,aw_p n (dg a) (dg b) = some (q,dg (a % b))/\q.length <= (dg a).length/\val q = a / b:=by
 unfold aw_p
 rw [cu _ _ (by omega),aa]
 by_cases h1:(dg b).length = 1
 ·obtain ⟨y,e,hy⟩:=dg_one h1
  obtain ⟨u,xs,l1,l2,l3,l4⟩:=iU n (dg a) y (by omega) (by omega) (by omega)
  rw [e,if_pos (show ([y]:List UInt64).length = 1 from rfl),l1,aa]
  simp only
  rw [aE n false _ (by simp only [leC,leN]; omega) (by simp),aa]
  rw [aA,hy] at l3
  rw [hy] at l4
  have hu:=(Nat.div_mod_unique (a:=a) (b:=b) (c:=u.toNat) (d:=val xs) (by omega)).2 ⟨by rw [Nat.mul_comm]; omega,l4⟩
  refine ⟨xs,?_,by omega,hu.1.symm⟩
  simp only [val,Nat.mul_zero,Nat.add_zero]
  rw [hu.2]
 ·rw [if_neg h1,gg n a (by omega),aa,gg n b (by omega),aa]
  have bla:=lq a
  have blb:=lq b
  rw [aK (by omega) (by omega),aa]
  have hbp:=df h0
  have hbg:=eL h0
  have hal:=gB a
  by_cases hK:(bln a:Int) - bln b < 0
  ·obtain ⟨m,rfl⟩:∃ m,n = m + 1:=⟨n - 1,by omega⟩
   have hab:a < b:=Nat.lt_of_lt_of_le hal (Nat.le_trans (Nat.pow_le_pow_right (by decide) (by omega)) hbg)
   rw [bt]
   unfold aw_l2
   simp only
   rw [if_neg (by omega),aa]
   refine ⟨_,by rw [Nat.mod_eq_of_lt hab],by simp,?_⟩
   rw [Nat.div_eq_of_lt hab]
   exact bQ _ fun x hx=>(List.mem_replicate.1 hx).2
  ·obtain ⟨K,hKe⟩:∃ K:Nat,(bln a:Int) - bln b = K:=⟨bln a - bln b,by omega⟩
   rw [hKe]
   have hstart:a < b * 2 ^ (K + 1):=by
    have h2:2 ^ bln a <= b * 2 ^ (K + 1):=by
     have:2 ^ (bln b - 1) * 2 ^ (K + 1) <= b * 2 ^ (K + 1):=Nat.mul_le_mul_right _ hbg
     rw [<- Nat.pow_add,show bln b - 1 + (K + 1) = bln a by omega] at this
     exact this
    omega
   have hh:=aw (B:=aw_l2 n (dg b)) (fun s:List UInt64 × Int × List UInt64=>(s.2.1 + 1).toNat)
    (fun s=>(-1 <= s.2.1/\s.2.1 <= K)/\s.2.2.length = (dg a).length/\∃ R,s.1 = dg R/\R <= a/\a = b * val s.2.2 + R/\R < b * 2 ^ (s.2.1 + 1).toNat/\2 ^ (s.2.1 + 1).toNat ∣ val s.2.2)
    (fun r=>r.1.length = (dg a).length/\val r.1 = a / b/\r.2 = dg (a % b)) ?_ n (dg a,(K:Int),List.replicate (dg a).length 0)
    ⟨by simp only; omega,by simp,a,rfl,Nat.le_refl _,?_,?_,?_⟩ (by simp only; omega)
   ·obtain ⟨⟨q,r⟩,e,e1,e2,e3⟩:=hh
    simp only at e1 e2 e3
    rw [e,aa]
    simp only
    rw [e3]
    exact ⟨q,rfl,by omega,e2⟩
   ·rintro ⟨rw_,z,q⟩ J ⟨a1,a2,R,rfl,a3,a4,a5,a6⟩ hJ
    simp only at a1 a2 a3 a4 a5 a6 hJ
    unfold aw_l2
    simp only
    by_cases hz:0 <= z
    ·obtain ⟨k,rfl⟩:∃ k:Nat,z = k:=⟨z.toNat,by omega⟩
     have e0:(((k:Int) + 1).toNat) = k + 1:=by omega
     rw [e0] at a5 a6
     have eN:(((k:Int) - 1 + 1)).toNat = k:=by omega
     have hRl:=er a3
     obtain ⟨st1,st2⟩:=kJ a4 a5 a6
     rw [if_pos hz,kL n (dg b) k (by omega) (by omega) (by omega),aa,aA]
     obtain ⟨c,ec,c1,c2⟩:=dS n (dg R) (dg (b * 2 ^ k)) (eQ _) (eQ _) (by omega) (by omega)
     rw [aA,aA] at c1 c2
     rw [ec,aa]
     unfold jn
     simp only
     by_cases hc:0 <= c
     ·have hge:b * 2 ^ k <= R:=by omega
      obtain ⟨g1,g2,g3⟩:=st1 hge
      obtain ⟨xs,t1,t2,t3⟩:=hH n (dg R) (dg (b * 2 ^ k)) (er hge) (by rw [aA,aA]; exact hge) (by omega) (by omega)
      rw [aA,aA] at t3
      have hkq:k / 64 < q.length:=by
       have h2:2 ^ k < 2 ^ (64 * (dg a).length):=by
        have h3:=bU (dg a)
        rw [aA,cV] at h3
        have h4:1 * 2 ^ k <= b * 2 ^ k:=Nat.mul_le_mul_right _ (by omega)
        omega
       have h5:=(Nat.pow_lt_pow_iff_right (by decide:1 < 2)).1 h2
       omega
      have hbit:=bit_add hkq a6 (shl_one (Nat.mod_lt _ (by decide)))
      rw [if_pos hc,t1,aa,aE n false xs (by omega) (by omega),aa,lS k (by omega),aa,lv hkq,aa,rem64,aa,dP,aa,putN _ hkq,aa]
      simp only
      rw [aK (by omega) (by omega),aa,t3]
      refine hJ (_,_,_) ⟨by simp only; omega,by simpa using a2,R - b * 2 ^ k,rfl,by omega,?_,?_,?_⟩ (by simp only; omega)
      ·simp only; rw [hbit]; exact g1
      ·simp only; rw [eN]; exact g2
      ·simp only; rw [eN,hbit]; exact g3
     ·rw [if_neg hc,aK (by omega) (by omega),aa]
      refine hJ (_,_,_) ⟨by simp only; omega,a2,R,rfl,a3,a4,?_,?_⟩ (by simp only; omega)
      ·simp only; rw [eN]; omega
      ·simp only; rw [eN]; exact st2 (by omega)
    ·rw [if_neg hz]
     have e0:(z + 1).toNat = 0:=by omega
     rw [e0,Nat.pow_zero,Nat.mul_one] at a5
     have hu:=(Nat.div_mod_unique (a:=a) (b:=b) (c:=R) (d:=val q) (by omega)).2 ⟨by omega,a5⟩
     exact ⟨_,rfl,a2,hu.1.symm,by simp only; rw [hu.2]⟩
   ·simp only
    rw [bQ _ fun x hx=>(List.mem_replicate.1 hx).2]; omega
   ·simp only
    rw [show (((K:Int) + 1).toNat) = K + 1 by omega]
    exact hstart
   ·simp only
    rw [bQ _ fun x hx=>(List.mem_replicate.1 hx).2]
    exact Nat.dvd_zero _
theorem kH (n l:Nat) (a b:Int) (ha:Fit l a) (hb:Fit l b) (h0:b ≠ 0) (hl:l < 5000) (hn:18446744073709551616 < n):bh_p n (L a) (L b) = some (L (a / b),L (a % b)):=by
 have hal:=ha.len
 have hbl:=hb.len
 obtain ⟨q,e1,e2,e3⟩:=ir n a.natAbs b.natAbs (by omega) (by omega) (by omega) hn
 have hm:a.natAbs % b.natAbs < b.natAbs:=Nat.mod_lt _ (by omega)
 have hl2:(dg (a.natAbs % b.natAbs)).length <= l:=eO (Nat.lt_trans hm hb)
 have hdm:=Nat.div_add_mod a.natAbs b.natAbs
 have hq:a.natAbs / b.natAbs <= a.natAbs:=Nat.div_le_self _ _
 unfold bh_p
 rw [show (L a).fo = dg a.natAbs from rfl,show (L b).fo = dg b.natAbs from rfl,e1,aa]
 simp only
 rw [aE n _ _ (by omega) (by omega),aa,aE n _ _ (by omega) (by omega),aa,e3,aA]
 generalize hx:a.natAbs / b.natAbs = x at *
 generalize hy:a.natAbs % b.natAbs = y at *
 simp only [ke]
 show (if (decide (a < 0) && decide (0 < y)) = true then _ else _) = _
 have hqf:x < 18446744073709551616 ^ l:=Nat.lt_of_le_of_lt hq ha
 have hyf:y < 18446744073709551616 ^ l:=Nat.lt_trans hm hb
 have hpw:2 * 18446744073709551616 ^ l <= 18446744073709551616 ^ (l + 1):=by rw [Nat.pow_succ,Nat.mul_comm]; exact Nat.mul_le_mul_left _ (by decide)
 have hp1:1 <= 18446744073709551616 ^ l:=Nat.pow_pos (by decide)
 have hbb:b.natAbs < 18446744073709551616 ^ l:=hb
 have hab:(b.natAbs:Int) * x + y = a.natAbs:=by exact_mod_cast hdm
 by_cases hr:a < 0/\0 < y
 ·obtain ⟨h1,h2⟩:=hr
  rw [if_pos (by simp [h1,h2])]
  have f1:(⟨false,dg b.natAbs⟩:Tg) = L b.natAbs:=by unfold L; simp
  have f2:(⟨!(L b).fj,([(1:UInt64)]:List UInt64)⟩:Tg) = L (if b < 0 then 1 else -1):=by
   unfold L
   by_cases hb0:b < 0 <;> simp [hb0] <;> rw [dg1 (by decide) (by decide)] <;> rfl
  rw [f1,f2,cQ n (l + 1) _ _ ?_ ?_ (by omega) (by omega),aa,cQ n (l + 1) _ _ ?_ ?_ (by omega) (by omega),aa]
  ·have e:sg (!(decide (a < 0) == decide (b < 0))) x + (if b < 0 then 1 else -1) = a / b/\sg (decide (a < 0)) y + b.natAbs = a % b:=by
    have:=cG (a:=a) (b:=b) (q:=sg (!(decide (a < 0) == decide (b < 0))) x + (if b < 0 then 1 else -1)) (r:=sg (decide (a < 0)) y + b.natAbs) ?_ ?_ ?_
    ·exact ⟨this.1.symm,this.2.symm⟩
    ·unfold sg
     by_cases hb0:b < 0
     ·have:(b.natAbs:Int) = -b:=by omega
      rw [this] at hab ⊢
      have h3:(a.natAbs:Int) = -a:=by omega
      simp [h1,hb0]
      rw [Int.mul_add]; grind
     ·have:(b.natAbs:Int) = b:=by omega
      rw [this] at hab ⊢
      have h3:(a.natAbs:Int) = -a:=by omega
      simp [h1,hb0]
      rw [Int.mul_add]; grind
    ·unfold sg; simp [h1]; omega
    ·unfold sg; simp [h1]; omega
   show some (L (sg (!(decide (a < 0) == decide (b < 0))) x + (if b < 0 then 1 else -1)),L (sg (decide (a < 0)) y + b.natAbs)) = _
   rw [e.1,e.2]
  ·unfold Fit; rw [gL]; omega
  ·unfold Fit; split <;> simp <;> omega
  ·unfold Fit; rw [gL]; omega
  ·unfold Fit; rw [Int.natAbs_natCast]; omega
 ·rw [if_neg (by simpa using hr)]
  have e:=cG (a:=a) (b:=b) (q:=sg (!(decide (a < 0) == decide (b < 0))) x) (r:=sg (decide (a < 0)) y) ?_ ?_ ?_
  ·rw [e.1,e.2]; rfl
  ·unfold sg
   by_cases h1:a < 0
   ·have hy0:y = 0:=by omega
    have h3:(a.natAbs:Int) = -a:=by omega
    by_cases hb0:b < 0
    ·have:(b.natAbs:Int) = -b:=by omega
     rw [this] at hab; simp [h1,hb0,hy0] at hab ⊢; grind
    ·have:(b.natAbs:Int) = b:=by omega
     rw [this] at hab; simp [h1,hb0,hy0] at hab ⊢; grind
   ·have h3:(a.natAbs:Int) = a:=by omega
    by_cases hb0:b < 0
    ·have:(b.natAbs:Int) = -b:=by omega
     rw [this] at hab; simp [h1,hb0] at hab ⊢; grind
    ·have:(b.natAbs:Int) = b:=by omega
     rw [this] at hab; simp [h1,hb0] at hab ⊢; grind
  ·unfold sg
   by_cases h1:a < 0
   ·have hy0:y = 0:=by omega
    simp [hy0]
   ·simp [h1]
  ·unfold sg
   by_cases h1:a < 0
   ·have hy0:y = 0:=by omega
    simp [hy0]; omega
   ·simp [h1]; omega
theorem jH (n l:Nat) (a b:Int) (ha:Fit l a) (hb:Fit l b) (hl:l < 5000) (hn:18446744073709551616 < n):ar_p n (L a) (L b) = some (L (Nat.gcd a.natAbs b.natAbs:Nat)):=by
 obtain ⟨M,hM⟩:∃ M:Nat,M = 64 * l:=⟨_,rfl⟩
 have hx2:a.natAbs < 2 ^ M:=by unfold Fit at ha; rw [cV,<- hM] at ha; exact ha
 have hy2:b.natAbs < 2 ^ M:=by unfold Fit at hb; rw [cV,<- hM] at hb; exact hb
 have he:=eu_le hx2 hy2
 have h:=aw (B:=ar_l1 n) (fun s:List UInt64 × List UInt64=>eu (val s.1) (val s.2)) (fun s=>∃ x y,s = (dg x,dg y)/\(dg x).length < 10000/\(dg y).length < 10000/\Nat.gcd x y = Nat.gcd a.natAbs b.natAbs)
  (fun r=>r = dg (Nat.gcd a.natAbs b.natAbs)) ?_ n (dg a.natAbs,dg b.natAbs) ⟨_,_,rfl,by have:=ha.len; omega,by have:=hb.len; omega,rfl⟩ (by simp only [aA]; omega)
 ·obtain ⟨r,h1,rfl⟩:=h
  unfold ar_p
  rw [show (L a).fo = dg a.natAbs from rfl,show (L b).fo = dg b.natAbs from rfl,h1,aa]
  unfold L
  simp
 ·rintro _ J ⟨x,y,rfl,h1,h2,h3⟩ hJ
  unfold ar_l1
  simp only
  by_cases h0:y = 0
  ·subst h0
   rw [if_neg (by rw [dg0]; simp)]
   exact ⟨_,rfl,by rw [<- h3,Nat.gcd_zero_right]⟩
  ·obtain ⟨q,e1,_,_⟩:=ir n x y h0 h1 h2 hn
   have hm:x % y < y:=Nat.mod_lt _ (by omega)
   have hyl:0 < (dg y).length:=by
    rcases e:dg y with _ | ⟨z,zs⟩
    ·have:=aA y; rw [e] at this; exact absurd this.symm h0
    ·simp
   rw [if_pos hyl,e1,aa]
   simp only
   refine hJ (dg y,dg (x % y)) ⟨_,_,rfl,h2,Nat.lt_of_le_of_lt (er (Nat.le_of_lt hm)) h2,?_⟩ (by simp only [aA]; exact eu_step h0)
   rw [<- h3,Nat.gcd_comm x y,Nat.gcd_rec y x,Nat.gcd_comm]
theorem lowestG (n l:Nat) (a b:Int) (ha:Fit l a) (hb:Fit l b) (h0:b ≠ 0) (hl:l < 5000) (hn:18446744073709551616 < n) :
  br_p n (L a) (L b) = some (Rt (Rat.divInt a b))/\(Rat.divInt a b).num.natAbs <= a.natAbs/\(Rat.divInt a b).den <= b.natAbs:=by
 have hg:0 < Nat.gcd a.natAbs b.natAbs:=Nat.gcd_pos_of_pos_right _ (by omega)
 have hgb:Nat.gcd a.natAbs b.natAbs <= b.natAbs:=Nat.gcd_le_right _ (by omega)
 have hgw:Fit l ((Nat.gcd a.natAbs b.natAbs:Nat):Int):=by unfold Fit at *; rw [Int.natAbs_natCast]; omega
 obtain ⟨x,hx⟩:((Nat.gcd a.natAbs b.natAbs:Nat):Int) ∣ a:=Int.ofNat_dvd_left.2 (Nat.gcd_dvd_left _ _)
 obtain ⟨y,hy⟩:((Nat.gcd a.natAbs b.natAbs:Nat):Int) ∣ b:=Int.ofNat_dvd_left.2 (Nat.gcd_dvd_right _ _)
 have hco:=Nat.coprime_div_gcd_div_gcd hg
 generalize Nat.gcd a.natAbs b.natAbs = g at *
 have hg0:(g:Int) ≠ 0:=by omega
 have e1:a / (g:Int) = x:=by rw [hx]; exact Int.mul_ediv_cancel_left _ hg0
 have e2:b / (g:Int) = y:=by rw [hy]; exact Int.mul_ediv_cancel_left _ hg0
 have e3:a.natAbs = g * x.natAbs:=by rw [hx,Int.natAbs_mul]; rfl
 have e4:b.natAbs = g * y.natAbs:=by rw [hy,Int.natAbs_mul]; rfl
 have hc:x.natAbs.Coprime y.natAbs:=by
  rw [e3,e4,Nat.mul_div_cancel_left _ hg,Nat.mul_div_cancel_left _ hg] at hco; exact hco
 have hxl:x.natAbs <= a.natAbs:=by rw [e3]; exact Nat.le_mul_of_pos_left _ hg
 have hyl:y.natAbs <= b.natAbs:=by rw [e4]; exact Nat.le_mul_of_pos_left _ hg
 have hy0:y ≠ 0:=fun e=>h0 (by rw [hy,e,Int.mul_zero])
 have eq:Rat.divInt a b = Rat.divInt x y:=by
  conv=>lhs; rw [hx,hy]
  exact Rat.divInt_mul_left hg0
 have xw:Fit l x:=Nat.lt_of_le_of_lt hxl ha
 have yw:Fit l y:=Nat.lt_of_le_of_lt hyl hb
 have gc:ar_p n (L a) (L b) = some (L g):=by
  have:=jH n l a b ha hb hl hn
  rw [this]
  have h5:Nat.gcd a.natAbs b.natAbs = g:=by
   rw [e3,e4,Nat.gcd_mul_left,show Nat.gcd x.natAbs y.natAbs = 1 from hc,Nat.mul_one]
  rw [h5]
 unfold br_p
 rw [gc,aa,kH n l a g ha hgw hg0 hl hn,aa,kH n l b g hb hgw hg0 hl hn,aa,e1,e2]
 simp only
 rw [eq]
 by_cases hs:y < 0
 ·rw [if_pos (by simpa [L] using hs),bF n l x xw (by omega) (by omega),aa,bF n l y yw (by omega) (by omega),aa]
  have h5:=gQ (x:=-x) (y:=-y) (by omega) (by rwa [Int.natAbs_neg,Int.natAbs_neg])
  rw [Rat.neg_divInt_neg] at h5
  unfold Rt
  rw [h5.1,h5.2]
  exact ⟨rfl,by rw [Int.natAbs_neg]; exact hxl,by have:=h5.2; omega⟩
 ·rw [if_neg (by simpa [L] using hs)]
  have h5:=gQ (x:=x) (y:=y) (by omega) hc
  unfold Rt
  rw [h5.1,h5.2]
  exact ⟨rfl,hxl,by have:=h5.2; omega⟩
end Go.Proofs.YtibdeoeglcngoaaGreatDoor
namespace Go.Proofs.YtibdeoeglcngoaaGreatDoor
open Go
set_option maxRecDepth 8000
abbrev T8:=UInt64 × UInt64 × UInt64 × UInt64 × UInt64 × UInt64 × UInt64 × UInt64
def wv (t:T8):List UInt64:=[t.1,t.2.1,t.2.2.1,t.2.2.2.1,t.2.2.2.2.1,t.2.2.2.2.2.1,t.2.2.2.2.2.2.1,t.2.2.2.2.2.2.2]
theorem jk:∀ {xs ys:List UInt64},xs.length = ys.length -> val xs = val ys -> xs = ys
 | [],[],_,_=>rfl
 | x :: xs,[],h,_=>by simp at h
 | [],y :: ys,h,_=>by simp at h
 | x :: xs,y :: ys,h,e=>by
  simp only [val] at e
  have hx:=x.toNat_lt
  have hy:=y.toNat_lt
  have e1:x = y:=UInt64.toNat_inj.1 (by omega)
  have e2:val xs = val ys:=by omega
  rw [e1,jk (by simpa using h) e2]
theorem wv_inj {s t:T8} (h:val (wv s) = val (wv t)):s = t:=by
 have:=jk (by rfl) h
 unfold wv at this
 obtain ⟨s1,s2,s3,s4,s5,s6,s7,s8⟩:=s
 obtain ⟨t1,t2,t3,t4,t5,t6,t7,t8⟩:=t
 simp only [List.cons.injEq,and_true] at this
 simp only [Prod.mk.injEq]
 exact this
def HB:Nat:=9223372036854775808 * 18446744073709551616 ^ 7
def FB:Nat:=18446744073709551616 ^ 8
theorem dT:FB = 2 * HB:=by unfold FB HB; rfl
theorem cZ:0 < HB:=by unfold HB; decide
theorem wv_lt (t:T8):val (wv t) < FB:=bU (wv t)
def Wn (m:Nat):T8:=(UInt64.ofNat m,UInt64.ofNat (m / 18446744073709551616),UInt64.ofNat (m / 18446744073709551616 / 18446744073709551616),UInt64.ofNat (m / 18446744073709551616 / 18446744073709551616 / 18446744073709551616),UInt64.ofNat (m / 18446744073709551616 / 18446744073709551616 / 18446744073709551616 / 18446744073709551616),UInt64.ofNat (m / 18446744073709551616 / 18446744073709551616 / 18446744073709551616 / 18446744073709551616 / 18446744073709551616),UInt64.ofNat (m / 18446744073709551616 / 18446744073709551616 / 18446744073709551616 / 18446744073709551616 / 18446744073709551616 / 18446744073709551616),UInt64.ofNat (m / 18446744073709551616 / 18446744073709551616 / 18446744073709551616 / 18446744073709551616 / 18446744073709551616 / 18446744073709551616 / 18446744073709551616))
theorem bH (m:Nat) (xs:List UInt64) (h:val xs = m / 18446744073709551616):val (UInt64.ofNat m :: xs) = m:=by
 simp only [val]
 rw [UInt64.toNat_ofNat', h]
 exact Nat.mod_add_div m 18446744073709551616
theorem Wn_val {m:Nat} (h:m < FB):val (wv (Wn m)) = m:=by
 unfold wv Wn
 refine bH _ _ (bH _ _ (bH _ _ (bH _ _ (bH _ _ (bH _ _ (bH _ _ ?_))))))
 simp only [val]
 rw [UInt64.toNat_ofNat', Nat.mul_zero,Nat.add_zero]
 refine Nat.mod_eq_of_lt ?_
 simp only [Nat.div_div_eq_div_mul]
 refine Nat.div_lt_of_lt_mul ?_
 exact h
def Fw (z:Int):Prop:=-(HB:Int) <= z/\z < HB
def Wg (z:Int):T8:=Wn (z % (FB:Int)).toNat
theorem fG (z:Int):(val (wv (Wg z)):Int) = z % (FB:Int):=by
 have hp:=cZ
 have hf:=dT
 have h0:=Int.emod_nonneg z (b:=(FB:Int)) (by omega)
 have h1:=Int.emod_lt_of_pos z (b:=(FB:Int)) (by omega)
 unfold Wg
 rw [Wn_val (by omega)]
 omega
theorem Wg_pos {z:Int} (h:Fw z) (h0:0 <= z):val (wv (Wg z)) = z.natAbs:=by
 have hp:=cZ
 have hf:=dT
 have:=fG z
 rw [Int.emod_eq_of_lt h0 (by have:=h.2; omega)] at this
 omega
theorem Wg_neg {z:Int} (h:Fw z) (h0:z < 0):val (wv (Wg z)) + z.natAbs = FB:=by
 have hp:=cZ
 have hf:=dT
 have:=fG z
 have e:z % (FB:Int) = z + FB:=by
  rw [<- Int.add_emod_right]
  exact Int.emod_eq_of_lt (by have:=h.1; omega) (by omega)
 rw [e] at this
 have:=h.1
 omega
theorem bA {s b c a c1 c2 Vs Vb Va K:Nat} (h1:s + b + c = a + 18446744073709551616 * c1) (h2:Vs + Vb + c1 = Va + K * c2):(s + 18446744073709551616 * Vs) + (b + 18446744073709551616 * Vb) + c = (a + 18446744073709551616 * Va) + 18446744073709551616 * K * c2:=by
 rw [Nat.mul_assoc]
 have:=congrArg (18446744073709551616 * ·) h2
 simp only [Nat.mul_add] at this
 omega
theorem fW (n:Nat) (a b:T8):∃ s c,aP_p n a b = some (s,c)/\val (wv s) + val (wv b) = val (wv a) + FB * c.toNat/\c.toNat <= 1:=by
 obtain ⟨a1,a2,a3,a4,a5,a6,a7,a8⟩:=a
 obtain ⟨b1,b2,b3,b4,b5,b6,b7,b8⟩:=b
 obtain ⟨s1,c1,e1,f1,g1⟩:=bm a1 b1 0 (by decide)
 obtain ⟨s2,c2,e2,f2,g2⟩:=bm a2 b2 c1 g1
 obtain ⟨s3,c3,e3,f3,g3⟩:=bm a3 b3 c2 g2
 obtain ⟨s4,c4,e4,f4,g4⟩:=bm a4 b4 c3 g3
 obtain ⟨s5,c5,e5,f5,g5⟩:=bm a5 b5 c4 g4
 obtain ⟨s6,c6,e6,f6,g6⟩:=bm a6 b6 c5 g5
 obtain ⟨s7,c7,e7,f7,g7⟩:=bm a7 b7 c6 g6
 obtain ⟨s8,c8,e8,f8,g8⟩:=bm a8 b8 c7 g7
 refine ⟨(s1,s2,s3,s4,s5,s6,s7,s8),c8,?_,?_,g8⟩
 ·unfold aP_p
  simp only [e1,e2,e3,e4,e5,e6,e7,e8,aa]
 ·have hFB:FB = 18446744073709551616 * (18446744073709551616 * (18446744073709551616 * (18446744073709551616 * (18446744073709551616 * (18446744073709551616 * (18446744073709551616 * (18446744073709551616 * 1))))))):=rfl
  have:=bA f1 (bA f2 (bA f3 (bA f4 (bA f5 (bA f6 (bA f7 (bA f8 (show 0 + 0 + c8.toNat = 0 + 1 * c8.toNat by omega))))))))
  rw [<- hFB,show (0:UInt64).toNat = 0 from rfl,Nat.add_zero] at this
  simp only [wv,val]
  exact this
theorem kD (n:Nat) (a b:T8) (hn:10 < n):∃ c,aG_p n a b = some c/\(c < 0 ↔ val (wv a) < val (wv b))/\(c = 0 ↔ val (wv a) = val (wv b)):=by
 have hh:=aw (B:=aG_l1 n a b) (fun z:Int=>(z + 1).toNat) (fun z=>-1 <= z/\z < 8/\(wv a).drop (z + 1).toNat = (wv b).drop (z + 1).toNat)
  (fun r=>(r = .inl (-1)/\val (wv a) < val (wv b)) ∨ (r = .inl 1/\val (wv b) < val (wv a)) ∨ (r = .inr ()/\wv a = wv b)) ?_ n 7 ⟨by omega,by omega,rfl⟩ (by omega)
 ·obtain ⟨r,hr,h1 | h1 | h1⟩:=hh
  ·unfold aG_p
   rw [hr,h1.1]; exact ⟨_,rfl,by have:=h1.2; omega,by have:=h1.2; omega⟩
  ·unfold aG_p
   rw [hr,h1.1]; exact ⟨_,rfl,by have:=h1.2; omega,by have:=h1.2; omega⟩
  ·unfold aG_p
   rw [hr,h1.1,h1.2]; exact ⟨_,rfl,by omega,by omega⟩
 ·intro z J ⟨h1,h2,h3⟩ hJ
  unfold aG_l1
  simp only
  have la:(wv a).length = 8:=rfl
  have lb:(wv b).length = 8:=rfl
  by_cases h0:0 <= z
  ·have e1:(z + 1).toNat = z.toNat + 1:=by omega
   rw [e1] at h3
   rw [if_pos h0]
   show ∃ r,((idx (wv a) z).bind fun z64=>(idx (wv b) z).bind fun z68=>if z64 = z68 then (chk (z - 1)).bind fun s73=>J s73 else if z64 < z68 then some (Sum.inl (-1:Int)) else some (Sum.inl (1:Int))) = some r/\_
   rw [bq h0 (by omega),aa,bq h0 (by omega),aa]
   split
   ·rename_i he
    rw [aK (by omega) (by omega),aa]
    refine hJ (z - 1) ⟨by omega,by omega,?_⟩ (by omega)
    rw [show (z - 1 + 1).toNat = z.toNat by omega,List.drop_eq_getElem_cons (by omega),List.drop_eq_getElem_cons (l:=wv b) (by omega),h3,he]
   ·rename_i hne
    split
    ·rename_i hlt; exact ⟨_,rfl,.inl ⟨rfl,em (by omega) (by omega) h3 hlt⟩⟩
    ·rename_i h5
     refine ⟨_,rfl,.inr (.inl ⟨rfl,em (by omega) (by omega) h3.symm ?_⟩)⟩
     rw [UInt64.lt_iff_toNat_lt] at h5 ⊢
     have:((wv a)[z.toNat]'(by omega)).toNat ≠ ((wv b)[z.toNat]'(by omega)).toNat:=fun e=>hne (UInt64.toNat_inj.1 e)
     omega
  ·rw [if_neg h0]
   have e1:(z + 1).toNat = 0:=by omega
   rw [e1] at h3
   exact ⟨_,rfl,.inr (.inr ⟨rfl,by simpa using h3⟩)⟩
theorem gu (t:T8):shrU t.2.2.2.2.2.2.2 63 = 1 ↔ HB <= val (wv t):=by
 obtain ⟨t1,t2,t3,t4,t5,t6,t7,t8⟩:=t
 have h1:=bU [t1,t2,t3,t4,t5,t6,t7]
 have e:val (wv (t1,t2,t3,t4,t5,t6,t7,t8)) = val [t1,t2,t3,t4,t5,t6,t7] + 18446744073709551616 ^ 7 * t8.toNat:=by
  have:=dx [t1,t2,t3,t4,t5,t6,t7] [t8]
  simp only [leC,leN] at this
  show val ([t1,t2,t3,t4,t5,t6,t7] ++ [t8]) = _
  rw [this]
  simp [val]
 rw [e]
 simp only [leC,leN] at h1
 have h8:=t8.toNat_lt
 have hs:(shrU t8 63).toNat = t8.toNat / 9223372036854775808:=bD t8 (by decide)
 have hsw:shrU t8 63 = 1 ↔ 9223372036854775808 <= t8.toNat:=by
  constructor
  ·intro h
   have:=congrArg UInt64.toNat h
   rw [hs] at this
   simp only [UInt64.toNat_one] at this
   omega
  ·intro h
   refine UInt64.toNat_inj.1 ?_
   rw [hs]
   simp only [UInt64.toNat_one]
   omega
 show shrU t8 63 = 1 ↔ _
 rw [hsw]
 unfold HB
 generalize val [t1,t2,t3,t4,t5,t6,t7] = lo at *
 generalize hP:(18446744073709551616:Nat) ^ 7 = P at *
 constructor
 ·intro h
  have:=Nat.mul_le_mul_left P h
  rw [Nat.mul_comm] at this
  omega
 ·intro h
  by_cases c:9223372036854775808 <= t8.toNat
  ·exact c
  ·exfalso
   have:=Nat.mul_le_mul_left P (show t8.toNat + 1 <= 9223372036854775808 by omega)
   rw [Nat.mul_add,Nat.mul_comm P 9223372036854775808] at this
   omega
theorem jy (n:Nat) (z:Int) (h:Fw z) (hn:10 < n):bb_p n (Wg z) = some (L z):=by
 have hp:=cZ
 have hf:=dT
 have fin:∀ (b:Bool) (t:T8),val (wv t) = z.natAbs -> (b && decide (0 < z.natAbs)) = decide (z < 0) -> ((app ([]:List UInt64) ([t.1,t.2.1,t.2.2.1,t.2.2.2.1,t.2.2.2.2.1,t.2.2.2.2.2.1,t.2.2.2.2.2.2.1,t.2.2.2.2.2.2.2]:List UInt64)).bind fun xs=>(al_p n b xs).bind fun y=>some y) = some (L z):=fun b t hv hb=>by
  show ((app ([]:List UInt64) (wv t)).bind fun xs=>(al_p n b xs).bind fun y=>some y) = some (L z)
  rw [eb [] (wv t) (by show 0 + 8 <= 1000000; decide),aa,List.nil_append,aE n b (wv t) (by show 8 < n; omega) (by show 8 <= 4294967296; decide),aa,hv,hb]
  rfl
 unfold bb_p cu_p
 by_cases h0:z < 0
 ·have hv:=Wg_neg h h0
  have hge:HB <= val (wv (Wg z)):=by have:=h.1; omega
  obtain ⟨s,c,e,e2,e3⟩:=fW n (0,0,0,0,0,0,0,0) (Wg z)
  have hz:val (wv ((0,0,0,0,0,0,0,0):T8)) = 0:=rfl
  rw [hz] at e2
  have hs:=wv_lt s
  have hc:c.toNat = 1:=by
   by_cases hc0:c.toNat = 0
   ·rw [hc0] at e2; omega
   ·omega
  rw [hc] at e2
  rw [if_pos ((gu _).2 hge),e,aa,aa]
  exact fin _ s (by omega) (by rw [decide_eq_true ((gu _).2 hge),decide_eq_true (by omega:0 < z.natAbs),decide_eq_true h0]; rfl)
 ·have hv:=Wg_pos h (by omega)
  have hlt:¬ shrU (Wg z).2.2.2.2.2.2.2 63 = 1:=fun e=>by have:=(gu _).1 e; have:=h.2; omega
  rw [if_neg hlt,aa]
  exact fin _ (Wg z) hv (by rw [decide_eq_false hlt,decide_eq_false h0]; rfl)
theorem lC {z:Int} {t:T8} (h:(val (wv t):Int) = z % (FB:Int)):t = Wg z:=wv_inj (by have:=fG z; omega)
theorem lT {ws:List UInt64} (h:ws.length <= 8):val (wv (aJ ws 0 0,aJ ws 1 0,aJ ws 2 0,aJ ws 3 0,aJ ws 4 0,aJ ws 5 0,aJ ws 6 0,aJ ws 7 0)) = val ws:=by
 unfold wv aJ
 rcases ws with _ | ⟨a,_ | ⟨b,_ | ⟨c,_ | ⟨d,_ | ⟨e,_ | ⟨f,_ | ⟨g,_ | ⟨i,_ | ⟨j,xs⟩⟩⟩⟩⟩⟩⟩⟩⟩
 any_goals simp [val]
 simp only [leC] at h
 omega
open Classical in
theorem toldG (n:Nat) (z:Int) (hn:10 < n):bm_p n (L z) = some (if Fw z then (Wg z,0) else ((0,0,0,0,0,0,0,0),6)):=by
 have hp:=cZ
 have hf:=dT
 have hdg:=aA z.natAbs
 unfold bm_p
 by_cases hl:8 < (dg z.natAbs).length
 ·have h1:=gS (eQ z.natAbs) (by intro e; rw [e] at hl; simp at hl)
  have h2:18446744073709551616 ^ 8 <= 18446744073709551616 ^ ((dg z.natAbs).length - 1):=Nat.pow_le_pow_right (by decide) (by omega)
  have hbig:FB <= z.natAbs:=by unfold FB; omega
  rw [if_pos (show 8 < (L z).fo.length from hl),if_neg fun h:Fw z=>by have:=h.1; have:=h.2; omega]
 ·have hv:=lT (ws:=dg z.natAbs) (by omega)
  rw [if_neg (show ¬ 8 < (L z).fo.length from hl)]
  show ((bD_p n ⟨decide (z < 0),(aJ (dg z.natAbs) 0 0,aJ (dg z.natAbs) 1 0,aJ (dg z.natAbs) 2 0,aJ (dg z.natAbs) 3 0,aJ (dg z.natAbs) 4 0,aJ (dg z.natAbs) 5 0,aJ (dg z.natAbs) 6 0,aJ (dg z.natAbs) 7 0)⟩).bind _) = _
  generalize hT:((aJ (dg z.natAbs) 0 0,aJ (dg z.natAbs) 1 0,aJ (dg z.natAbs) 2 0,aJ (dg z.natAbs) 3 0,aJ (dg z.natAbs) 4 0,aJ (dg z.natAbs) 5 0,aJ (dg z.natAbs) 6 0,aJ (dg z.natAbs) 7 0):T8) = t at *
  rw [hdg] at hv
  unfold bD_p
  obtain ⟨c,ec,c1,c2⟩:=kD n t (0,0,0,0,0,0,0,9223372036854775808) hn
  have hlim:val (wv ((0,0,0,0,0,0,0,9223372036854775808):T8)) = HB:=by decide
  rw [hlim,hv] at c1 c2
  simp only
  rw [ec,aa]
  obtain ⟨s,cc,e,e2,e3⟩:=fW n (0,0,0,0,0,0,0,0) t
  have hz:val (wv ((0,0,0,0,0,0,0,0):T8)) = 0:=rfl
  rw [hz,hv] at e2
  have hs:=wv_lt s
  have neg:z < 0 -> Fw z -> s = Wg z:=fun h0 hw=>by
   refine lC ?_
   have hc:cc.toNat = 1:=by
    by_cases hc0:cc.toNat = 0
    ·rw [hc0] at e2; omega
    ·omega
   rw [hc] at e2
   have e5:z % (FB:Int) = z + FB:=by
    rw [<- Int.add_emod_right]
    exact Int.emod_eq_of_lt (by have:=hw.1; omega) (by omega)
   rw [e5]; omega
  by_cases g1:0 < c
  ·rw [if_pos g1,aa,if_neg fun h:Fw z=>by have:=h.1; have:=h.2; omega]
  ·rw [if_neg g1]
   by_cases g2:c = 0
   ·rw [if_pos g2]
    by_cases h0:z < 0
    ·have hw:Fw z:=⟨by omega,by omega⟩
     rw [if_pos (decide_eq_true h0),e,aa,aa,if_pos hw,neg h0 hw]
    ·rw [if_neg (by simpa using h0),aa,if_neg fun h:Fw z=>by have:=h.2; omega]
   ·rw [if_neg g2]
    by_cases h0:z < 0
    ·have hw:Fw z:=⟨by omega,by omega⟩
     rw [if_pos (decide_eq_true h0),e,aa,aa,if_pos hw,neg h0 hw]
    ·have hw:Fw z:=⟨by omega,by omega⟩
     rw [if_neg (by simpa using h0),aa,if_pos hw]
     rw [show t = Wg z from lC (by rw [Int.emod_eq_of_lt (by omega) (by have:=hw.2; omega)]; omega)]
end Go.Proofs.YtibdeoeglcngoaaGreatDoor
namespace Go.Proofs.YtibdeoeglcngoaaGreatDoor
open Go
set_option maxRecDepth 8000
def Sg (q:Rat):Ta:=⟨Wg q.num,Wg q.den⟩
def FQ (q:Rat):Prop:=Fw q.num/\Fw (q.den:Int)
def noS:Ta:=⟨(0,0,0,0,0,0,0,0),(0,0,0,0,0,0,0,0)⟩
theorem Fw.fit {z:Int} (h:Fw z):Fit 8 z:=by
 have h1:=dT
 have h2:=cZ
 unfold Fit
 show z.natAbs < FB
 have:=h.1
 have:=h.2
 omega
theorem FQ.n {q:Rat} (h:FQ q):Fit 8 q.num:=h.1.fit
theorem FQ.d {q:Rat} (h:FQ q):Fit 8 (q.den:Int):=h.2.fit
theorem FQ.ndnz {q:Rat}:(q.den:Int) ≠ 0:=by have:=q.den_pos; omega
theorem W8_Wg {z:Int} (h:Sm z):W8 z = Wg z:=by
 have hp:9223372036854775808 <= HB:=by unfold HB; decide
 have hf:=dT
 refine lC ?_
 unfold W8
 by_cases h0:z < 0
 ·have e5:z % (FB:Int) = z + FB:=by
   rw [<- Int.add_emod_right]
   exact Int.emod_eq_of_lt (by unfold Sm at h; omega) (by omega)
  rw [if_pos h0,e5]
  have hv:val (wv ((ae z,18446744073709551615,18446744073709551615,18446744073709551615,18446744073709551615,18446744073709551615,18446744073709551615,18446744073709551615):T8)) = (ae z).toNat + 18446744073709551616 * val [18446744073709551615,18446744073709551615,18446744073709551615,18446744073709551615,18446744073709551615,18446744073709551615,18446744073709551615]:=rfl
  have hc:18446744073709551616 * val [18446744073709551615,18446744073709551615,18446744073709551615,18446744073709551615,18446744073709551615,18446744073709551615,18446744073709551615] + 18446744073709551616 = FB:=by decide
  rw [hv,ep h h0]
  unfold Sm at h
  omega
 ·rw [if_neg h0,Int.emod_eq_of_lt (by omega) (by unfold Sm at h; omega)]
  have hv:val (wv ((ae z,0,0,0,0,0,0,0):T8)) = (ae z).toNat:=by unfold wv; simp [val]
  rw [hv,ez h h0,bR h.w]
  omega
theorem Sh_Sg {q:Rat} (h1:Sm q.num) (h2:Sm (q.den:Int)):Sh q = Sg q:=by unfold Sh Sg; rw [W8_Wg h1,W8_Wg h2]
theorem kQ {x y:Int} (hx:Fw x) (hy:Fw y) (e:Wg x = Wg y):x = y:=by
 have h1:=fG x
 have h2:=fG y
 rw [e,h2] at h1
 have hf:=dT
 have hp:=cZ
 have a:=hx.1; have b:=hx.2; have c:=hy.1; have d:=hy.2
 have e3:=Int.emod_eq_emod_iff_emod_sub_eq_zero.1 h1
 obtain ⟨k,hk⟩:=Int.dvd_of_emod_eq_zero e3
 by_cases k0:k = 0
 ·rw [k0,Int.mul_zero] at hk; omega
 ·by_cases kp:1 <= k
  ·have:(FB:Int) * 1 <= FB * k:=Int.mul_le_mul_of_nonneg_left kp (by omega)
   omega
  ·have:(FB:Int) * k <= FB * (-1):=Int.mul_le_mul_of_nonneg_left (show k <= -1 by omega) (by omega)
   omega
theorem Sg_inj {x y:Rat} (hx:FQ x) (hy:FQ y) (e:Sg x = Sg y):x = y:=by
 unfold Sg at e
 injection e with e1 e2
 have h1:=kQ hx.1 hy.1 e1
 have h2:=kQ hx.2 hy.2 e2
 exact Rat.ext h1 (by omega)
theorem dN (n:Nat) (q:Rat) (h:FQ q) (hn:10 < n):ay_p n (Sg q) = some (Rt q):=by
 unfold ay_p
 rw [show (Sg q).fN = Wg q.num from rfl,show (Sg q).fD = Wg q.den from rfl,jy n _ h.1 hn,aa,jy n _ h.2 hn,aa]
 rfl
open Classical in
theorem rtoldG (n:Nat) (q:Rat) (hn:10 < n):aX_p n (Rt q) = some (if FQ q then (Sg q,0) else (noS,6)):=by
 unfold aX_p
 rw [show (Rt q).fv = L q.num from rfl,show (Rt q).fp = L q.den from rfl,toldG n _ hn,aa,toldG n _ hn,aa]
 by_cases h1:Fw q.num
 ·by_cases h2:Fw (q.den:Int)
  ·rw [if_pos h1,if_pos h2,if_pos (show FQ q from ⟨h1,h2⟩)]
   rfl
  ·rw [if_pos h1,if_neg h2,if_neg fun h:FQ q=>h2 h.2]
   rfl
 ·rw [if_neg h1,if_neg fun h:FQ q=>h1 h.1]
  rfl
theorem checkG (n:Nat) (q:Rat) (h:FQ q) (hn:18446744073709551616 < n):cn_p n (Sg q) = some 0:=by
 have hd:=q.den_pos
 unfold cn_p
 rw [from_ok n 1 (by unfold Sm; decide) (by omega),aa,dN n q h (by omega),aa,show (Rt q).fv = L q.num from rfl,show (Rt q).fp = L q.den from rfl,eB,aa,Int.sign_eq_one_of_pos (by omega),if_neg (by decide)]
 rw [jH n 8 _ _ h.n h.d (by decide) hn,aa,show Nat.gcd q.num.natAbs (q.den:Int).natAbs = 1 from q.reduced]
 unfold bL_p
 rw [ig n 1 _ _ (by unfold Fit; decide) (by unfold Fit; decide) (by omega) (by omega),aa,eB]
 rfl
theorem valid1G (n:Nat) (q:Rat) (h:FQ q) (hn:18446744073709551616 < n):cb_p n (Sg q) = some true:=by
 unfold cb_p; rw [checkG n q h hn]; rfl
theorem validG (n:Nat) (l:List Rat) (h:∀ q ∈ l,FQ q) (hl:l.length < n) (hn:18446744073709551616 < n):aD_p n (l.map Sg) = some true:=by
 have hh:=aw (B:=aD_l1 n (l.map Sg)) (fun i:Nat=>l.length - i) (fun i=>i <= l.length) (fun r=>r = .inr ()) ?_ n 0 (Nat.zero_le _) (by simpa using hl)
 ·obtain ⟨r,e,rfl⟩:=hh
  unfold aD_p
  rw [e]; rfl
 ·intro i J hi hJ
  unfold aD_l1
  simp only
  by_cases h0:i < l.length
  ·rw [if_pos (by simpa using h0),geE (by simpa using h0),aa,List.getElem_map]
   rw [valid1G n _ (h l[i] (List.getElem_mem _)) hn,aa,if_pos rfl]
   exact hJ (i + 1) h0 (by omega)
  ·rw [if_neg (by simpa using h0)]
   exact ⟨_,rfl,rfl⟩
theorem gN (n:Nat) (a b:Rat) (ha:FQ a) (hb:FQ b) (hn:18446744073709551616 < n):aD_p n [Sg a,Sg b] = some true:=
 validG n [a,b] (fun q hq=>by
  rcases List.mem_cons.1 hq with rfl | hq
  ·exact ha
  ·rw [List.mem_singleton.1 hq]; exact hb) (by simp only [leC,leN]; omega) hn
theorem Fit.mul {l m:Nat} {a b:Int} (ha:Fit l a) (hb:Fit m b):Fit (l + m) (a * b):=by
 unfold Fit at *
 rw [Int.natAbs_mul,Nat.pow_add]
 exact Nat.mul_lt_mul'' ha hb
theorem Fit.add {l:Nat} {a b:Int} (ha:Fit l a) (hb:Fit l b):Fit (l + 1) (a + b):=by
 unfold Fit at *
 have:2 * 18446744073709551616 ^ l <= 18446744073709551616 ^ (l + 1):=by rw [Nat.pow_succ,Nat.mul_comm]; exact Nat.mul_le_mul_left _ (by decide)
 omega
theorem Fit.mono {l m:Nat} {a:Int} (ha:Fit l a) (h:l <= m):Fit m a:=Nat.lt_of_lt_of_le ha (Nat.pow_le_pow_right (by decide) h)
structure RF (l:Nat) (q:Rat):Prop where
 n:Fit l q.num
 d:Fit l (q.den:Int)
theorem FQ.rf {q:Rat} (h:FQ q):RF 8 q:=⟨h.n,h.d⟩
theorem RF.of {l:Nat} {a b:Int} (ha:Fit l a) (hb:Fit l b) (h1:(Rat.divInt a b).num.natAbs <= a.natAbs) (h2:(Rat.divInt a b).den <= b.natAbs):RF l (Rat.divInt a b):=
 ⟨Nat.lt_of_le_of_lt h1 ha,by unfold Fit; rw [Int.natAbs_natCast]; exact Nat.lt_of_le_of_lt h2 hb⟩
theorem plusG (n l:Nat) (a b:Rat) (ha:RF l a) (hb:RF l b) (hl:l < 1000) (hn:18446744073709551616 < n):bs_p n (Rt a) (Rt b) = some (Rt (a + b))/\RF (l + l + 1) (a + b):=by
 have d0:(a.den:Int) * b.den ≠ 0:=Int.mul_ne_zero FQ.ndnz FQ.ndnz
 have e:a + b = Rat.divInt (a.num * b.den + b.num * a.den) (a.den * b.den):=by
  conv=>lhs; rw [<- Rat.num_divInt_den a,<- Rat.num_divInt_den b]
  exact Rat.divInt_add_divInt _ _ FQ.ndnz FQ.ndnz
 have f1:=(ha.n.mul hb.d).add (hb.n.mul ha.d)
 have f2:=(ha.d.mul hb.d).mono (show l + l <= l + l + 1 by omega)
 obtain ⟨e1,e2,e3⟩:=lowestG n (l + l + 1) _ _ f1 f2 d0 (by omega) hn
 rw [<- e] at e1 e2 e3
 refine ⟨?_,?_⟩
 ·unfold bs_p Rt
  rw [cr n l l _ _ ha.n hb.d (by omega) (by omega),aa,cr n l l _ _ hb.n ha.d (by omega) (by omega),aa,cQ n (l + l) _ _ (ha.n.mul hb.d) (hb.n.mul ha.d) (by omega) (by omega),aa,cr n l l _ _ ha.d hb.d (by omega) (by omega),aa,e1]
  rfl
 ·rw [e]; rw [e] at e2 e3; exact RF.of f1 f2 e2 e3
theorem RF.neg {l:Nat} {q:Rat} (h:RF l q):RF l (-q):=⟨by rw [Rat.neg_num]; exact h.n.neg,by rw [Rat.neg_den]; exact h.d⟩
theorem turnedG (n l:Nat) (a:Rat) (ha:RF l a) (hl:l < 1000) (hn:18446744073709551616 < n):bA_p n (Rt a) = some (Rt (-a)):=by
 unfold bA_p Rt
 rw [bF n l _ ha.n (by omega) (by omega),aa,Rat.neg_num,Rat.neg_den]
open Classical in
theorem stoldG (n:Nat) (q:Rat) (hn:10 < n):aR_p n (Rt q) 0 = some (if FQ q then (Sg q,0) else (noS,6)):=by
 unfold aR_p
 rw [if_pos rfl,rtoldG n q hn]
 rfl
open Classical in
theorem subG (n:Nat) (a b:Rat) (ha:FQ a) (hb:FQ b) (hn:18446744073709551616 < n):cv_p n (Sg a) (Sg b) = some (if FQ (a - b) then (Sg (a - b),0) else (noS,6)):=by
 obtain ⟨e1,_⟩:=plusG n 8 a (-b) ha.rf hb.rf.neg (by decide) hn
 rw [<- Rat.sub_eq_add_neg] at e1
 unfold cv_p
 rw [gN n a b ha hb hn,aa,if_pos rfl,dN n a ha (by omega),aa,dN n b hb (by omega),aa]
 unfold bN_p
 rw [turnedG n 8 b hb.rf (by decide) hn,aa,e1,aa,aa,stoldG n _ (by omega)]
 rfl
end Go.Proofs.YtibdeoeglcngoaaGreatDoor
namespace Go.Proofs.YtibdeoeglcngoaaGreatDoor
open Go
set_option maxRecDepth 8000
theorem gt {a b:Int} (hb:b ≠ 0):(Rat.divInt a b).num * b = a * (Rat.divInt a b).den:=by
 have h:=Rat.num_divInt_den (Rat.divInt a b)
 exact (Rat.divInt_eq_divInt_iff FQ.ndnz hb).1 h
theorem kT {a b:Int} (hb:b ≠ 0):(Rat.divInt a b).num.natAbs <= a.natAbs/\(Rat.divInt a b).den <= b.natAbs:=by
 have h:=congrArg Int.natAbs (gt (a:=a) hb)
 rw [Int.natAbs_mul,Int.natAbs_mul,Int.natAbs_natCast] at h
 have hc:=(Rat.divInt a b).reduced
 have hd:=(Rat.divInt a b).den_pos
 generalize (Rat.divInt a b).num.natAbs = x at *
 generalize (Rat.divInt a b).den = y at *
 have hbp:0 < b.natAbs:=by omega
 constructor
 ·by_cases h0:a.natAbs = 0
  ·rw [h0,Nat.zero_mul] at h
   rcases Nat.mul_eq_zero.1 h with h1 | h1
   ·omega
   ·omega
  ·exact Nat.le_of_dvd (by omega) (hc.dvd_of_dvd_mul_right (by rw [<- h]; exact Nat.dvd_mul_right ..))
 ·exact Nat.le_of_dvd hbp (hc.symm.dvd_of_dvd_mul_left (by rw [h]; exact Nat.dvd_mul_left ..))
def Bt (i j:Nat) (q:Rat):Prop:=q.num.natAbs < 2 ^ i/\q.den < 2 ^ j
theorem hb_pow (w:Nat):9223372036854775808 * 18446744073709551616 ^ w = 2 ^ (63 + 64 * w):=by
 rw [Nat.pow_add,<- cV]
def hbl:Nat:=511
theorem hb_pow' {w l:Nat} (h:l = 63 + 64 * w):9223372036854775808 * 18446744073709551616 ^ w = 2 ^ l:=by subst h; exact hb_pow w
theorem kM:HB = 2 ^ hbl:=hb_pow' (w:=7) (l:=hbl) rfl
theorem Bt.fq {i j:Nat} {q:Rat} (h:Bt i j q) (hi:i <= 500) (hj:j <= 500):FQ q:=by
 have e:hbl = 511:=rfl
 have h1:2 ^ i <= HB:=by rw [kM]; exact Nat.pow_le_pow_right (by decide) (by omega)
 have h2:2 ^ j <= HB:=by rw [kM]; exact Nat.pow_le_pow_right (by decide) (by omega)
 have h3:=h.1
 have h4:=h.2
 exact ⟨⟨by omega,by omega⟩,⟨by omega,by omega⟩⟩
theorem Bt.of {i j:Nat} {a b:Int} (hb:b ≠ 0) (h1:a.natAbs < 2 ^ i) (h2:b.natAbs < 2 ^ j):Bt i j (Rat.divInt a b):=by
 obtain ⟨d1,d2⟩:=kT (a:=a) hb
 exact ⟨by omega,by omega⟩
theorem gq {a b i j:Nat} (ha:a < 2 ^ i) (hb:b < 2 ^ j):a * b < 2 ^ (i + j):=by
 rw [Nat.pow_add]; exact Nat.mul_lt_mul'' ha hb
theorem Bt.add {i1 j1 i2 j2 i:Nat} {a b:Rat} (ha:Bt i1 j1 a) (hb:Bt i2 j2 b) (h1:i1 + j2 + 1 <= i) (h2:i2 + j1 + 1 <= i):Bt i (j1 + j2) (a + b):=by
 have d0:(a.den:Int) * b.den ≠ 0:=Int.mul_ne_zero FQ.ndnz FQ.ndnz
 have e:a + b = Rat.divInt (a.num * b.den + b.num * a.den) (a.den * b.den):=by
  conv=>lhs; rw [<- Rat.num_divInt_den a,<- Rat.num_divInt_den b]
  exact Rat.divInt_add_divInt _ _ FQ.ndnz FQ.ndnz
 have m1:(a.num * b.den).natAbs < 2 ^ (i1 + j2):=by rw [Int.natAbs_mul,Int.natAbs_natCast]; exact gq ha.1 hb.2
 have m2:(b.num * a.den).natAbs < 2 ^ (i2 + j1):=by rw [Int.natAbs_mul,Int.natAbs_natCast]; exact gq hb.1 ha.2
 have p1:2 ^ (i1 + j2) <= 2 ^ (i - 1):=Nat.pow_le_pow_right (by decide) (by omega)
 have p2:2 ^ (i2 + j1) <= 2 ^ (i - 1):=Nat.pow_le_pow_right (by decide) (by omega)
 have p3:2 ^ i = 2 * 2 ^ (i - 1):=by rw [<- Nat.pow_succ']; congr 1; omega
 rw [e]
 exact Bt.of d0 (by omega) (by rw [Int.natAbs_mul,Int.natAbs_natCast,Int.natAbs_natCast]; exact gq ha.2 hb.2)
theorem Bt.neg {i j:Nat} {q:Rat} (h:Bt i j q):Bt i j (-q):=⟨by rw [Rat.neg_num,Int.natAbs_neg]; exact h.1,by rw [Rat.neg_den]; exact h.2⟩
theorem Bt.sub {i1 j1 i2 j2 i:Nat} {a b:Rat} (ha:Bt i1 j1 a) (hb:Bt i2 j2 b) (h1:i1 + j2 + 1 <= i) (h2:i2 + j1 + 1 <= i):Bt i (j1 + j2) (a - b):=by
 rw [Rat.sub_eq_add_neg]; exact Bt.add ha hb.neg h1 h2
section
variable {n:Nat} {a b:Rat}
theorem sub_q (ha:FQ a) (hb:FQ b) (h:FQ (a - b)) (hn:18446744073709551616 < n):cv_p n (Sg a) (Sg b) = some (Sg (a - b),0):=by rw [subG n a b ha hb hn,if_pos h]
end
end Go.Proofs.YtibdeoeglcngoaaGreatDoor
namespace Go.Proofs.YtibdeoeglcngoaaGreatDoor
open Go
set_option maxRecDepth 8000
theorem eX:(18446744073709551616:Nat) < FU:=by decide
theorem of_sg {a b:Int} (ha:Sm a) (hb:Sm b) (h0:b ≠ 0):cr_p FU a b = some (Sg (Rat.divInt a b),0):=by
 have hd:=kT (a:=a) h0
 rw [ii FU a b ha hb h0 eX,Sh_Sg (by unfold Sm at *; omega) (by unfold Sm at *; omega)]
theorem fqd {a b:Int} (h0:b ≠ 0) (ha:a.natAbs < 1152921504606846976) (hb:b.natAbs < 1152921504606846976):FQ (Rat.divInt a b):=
 (Bt.of (i:=60) (j:=60) h0 ha hb).fq (by decide) (by decide)
theorem cmpG {a b:Rat} (ha:FQ a) (hb:FQ b):ci_p FU (Sg a) (Sg b) = some ((a.num * b.den - b.num * a.den).sign,0):=by
 have hF:=eX
 unfold ci_p
 rw [gN FU a b ha hb eX,aa,if_pos rfl,dN FU a ha (by omega),aa,dN FU b hb (by omega),aa]
 unfold bW_p Rt
 rw [cr FU 8 8 _ _ ha.n hb.d (by omega) (by omega),aa,cr FU 8 8 _ _ hb.n ha.d (by omega) (by omega),aa]
 unfold bL_p
 rw [ig FU 16 _ _ (ha.n.mul hb.d) (hb.n.mul ha.d) (by omega) (by omega),aa,eB]
 rfl
end Go.Proofs.YtibdeoeglcngoaaGreatDoor
namespace Go.Proofs.YtibdeoeglcngoaaGreatDoor
open Go
set_option maxRecDepth 8000
theorem exE {ε α β:Type} (x:ε) (f:α -> Option β) (g:ε -> Option β):exc (.error x) f g = g x:=rfl
theorem exO {ε α β:Type} (x:α) (f:α -> Option β) (g:ε -> Option β):exc (.ok x) f g = f x:=rfl
theorem jl {r:Tf} {us:List Tc} (hv:RV r) (h:Lnd r us) {i:Nat} (hi:i < us.length):∃ h2:i < r.fu.length,r.fu[i] = us[i]/\UV r us[i]:=by
 obtain ⟨ws,e,_⟩:=h.all
 have hi2:i < r.fu.length:=by rw [e,List.length_append]; omega
 have h1:=hv.u i hi2
 have e0:r.fu[i] = us[i]:=by simp only [e]; exact List.getElem_append_left hi
 rw [e0] at h1
 exact ⟨hi2,e0,h1⟩
theorem kN {α:Type} {l:List α} {i:Nat} {x:α} (h:l[i]? = some x):l.take (i + 1) = l.take i ++ [x]:=by
 obtain ⟨hi,rfl⟩:=List.getElem?_eq_some_iff.1 h
 exact List.take_succ_eq_append_getElem hi
def Vu (P:Nat) (u:Tc):Prop:=u.fVotes.length = P/\∀ x ∈ u.fVotes,0 <= x/\x <= 1000000000
theorem vu_of {r:Tf} {u:Tc} {P:Nat} (hP:r.fc = P) (h:UV r u):Vu P u:=by
 obtain ⟨w1,w2⟩:=h.2.2.2.1
 exact ⟨by omega,fun x hx=>by have:=w2 x hx; split at this <;> omega⟩
def ee (a b:List Int):List Int:=List.zipWith (· + ·) a b
theorem lh {a b:List Int} {P:Nat} (h1:a.length = P) (h2:b.length = P):(ee a b).length = P:=by unfold ee; rw [List.length_zipWith]; omega
def vd (us:List Tc) (p:List Int) (P:Nat) (d:Int):Nat -> List Int
 | 0=>List.replicate P 0
 | i + 1=>if p[i]? = some d then ee (vd us p P d i) ((us[i]?.map (·.fVotes)).getD []) else vd us p P d i
theorem kU {us:List Tc} {p:List Int} {P i:Nat} {d:Int} (h1:i < us.length) (h:p[i]? = some d):vd us p P d (i + 1) = ee (vd us p P d i) us[i].fVotes:=by
 show (if p[i]? = some d then ee (vd us p P d i) ((us[i]?.map (·.fVotes)).getD []) else vd us p P d i) = _
 rw [if_pos h,geE h1]; rfl
theorem vd_no {us:List Tc} {p:List Int} {P i:Nat} {d:Int} (h:p[i]? ≠ some d):vd us p P d (i + 1) = vd us p P d i:=by
 show (if p[i]? = some d then ee (vd us p P d i) ((us[i]?.map (·.fVotes)).getD []) else vd us p P d i) = _
 rw [if_neg h]
theorem jx {us:List Tc} {P:Nat} (hU:∀ u ∈ us,Vu P u) (p:List Int) (d:Int):∀ i ≤ us.length,(vd us p P d i).length = P/\∀ x ∈ vd us p P d i,0 <= x/\x <= (i:Int) * 1000000000
 | 0,_=>⟨by simp [vd],fun x hx=>by rw [List.eq_of_mem_replicate hx]; omega⟩
 | i + 1,hi=>by
  obtain ⟨l1,l2⟩:=jx hU p d i (by omega)
  have hu:=hU us[i] (List.getElem_mem _)
  by_cases h:p[i]? = some d
  ·rw [kU (by omega) h]
   refine ⟨lh l1 hu.1,fun x hx=>?_⟩
   obtain ⟨j,hj,rfl⟩:=List.getElem_of_mem hx
   unfold ee at hj ⊢
   rw [List.length_zipWith] at hj
   rw [List.getElem_zipWith]
   have h1:=l2 _ (List.getElem_mem (show j < (vd us p P d i).length by omega))
   have h2:=hu.2 _ (List.getElem_mem (show j < us[i].fVotes.length by omega))
   omega
  ·rw [vd_no h]
   exact ⟨l1,fun x hx=>by have:=l2 x hx; omega⟩
def vts (us:List Tc) (p:List Int) (P k i:Nat):List (List Int):=(List.range k).map fun d:Nat=>vd us p P (d:Int) i
theorem cM (us:List Tc) (p:List Int) (P k i:Nat):(vts us p P k i).length = k:=by unfold vts; simp
theorem eI (us:List Tc) (p:List Int) (P:Nat) {k d:Nat} (i:Nat) (h:d < k):(vts us p P k i)[d]? = some (vd us p P (d:Int) i):=by
 unfold vts
 rw [List.getElem?_map,List.getElem?_range h]; rfl
def Part (a b row:List Int) (j:Nat):Prop:=row.length = a.length/\∀ c:Nat,c < a.length -> row[c]? = some ((a[c]?.getD 0) + if c < j then b[c]?.getD 0 else 0)
theorem Part.done {a b row:List Int} (h:Part a b row b.length) (hl:a.length = b.length):row = ee a b:=by
 apply List.ext_getElem?
 intro c
 unfold ee
 rw [List.getElem?_zipWith]
 by_cases hc:c < a.length
 ·rw [h.2 c hc,if_pos (by omega),geE hc,geE (show c < b.length by omega)]; rfl
 ·rw [List.getElem?_eq_none (by rw [h.1]; omega),List.getElem?_eq_none (show a.length <= c by omega)]
theorem Part.zero (a b:List Int):Part a b a 0:=⟨rfl,fun c hc=>by rw [if_neg (by omega),geE hc]; simp⟩
theorem Part.step {a b row:List Int} {j:Nat} (h:Part a b row j) (hj:j < a.length) (hb:j < b.length):Part a b (row.set j (a[j] + b[j])) (j + 1):=by
 refine ⟨by rw [List.length_set]; exact h.1,fun c hc=>?_⟩
 rw [List.getElem?_set]
 by_cases hjc:j = c
 ·subst hjc
  rw [if_pos rfl,if_pos (by rw [h.1]; exact hj),if_pos (by omega),geE hj,geE hb]; rfl
 ·rw [if_neg hjc,h.2 c hc]
  by_cases hlt:c < j
  ·rw [if_pos hlt,if_pos (by omega)]
  ·rw [if_neg hlt,if_neg (by omega)]
theorem Part.at {a b row:List Int} {j:Nat} (h:Part a b row j) (hj:j < a.length):row[j]? = some a[j]:=by
 rw [h.2 j hj,if_neg (by omega),geE hj]; simp
structure Cn (r:Tf) (us:List Tc) (p:List Int) (k P:Nat):Prop where
 v:RV r
 l:Lnd r us
 f:gy p us.length (k:Int)
 k1:1 <= k
 k8:k <= 8
 P:r.fc = P
theorem Cn.vu {r:Tf} {us:List Tc} {p:List Int} {k P:Nat} (h:Cn r us p k P):∀ u ∈ us,Vu P u:=fun u hu=>by
 obtain ⟨i,hi,rfl⟩:=List.getElem_of_mem hu
 obtain ⟨_,_,h1⟩:=jl h.v h.l hi
 exact vu_of h.P h1
theorem Cn.m {r:Tf} {us:List Tc} {p:List Int} {k P:Nat} (h:Cn r us p k P):us.length <= 64:=Nat.le_trans h.l.le h.v.n.2
theorem Cn.p12 {r:Tf} {us:List Tc} {p:List Int} {k P:Nat} (h:Cn r us p k P):P <= 12:=by have:=h.v.p; have:=h.P; omega
theorem Cn.at {r:Tf} {us:List Tc} {p:List Int} {k P:Nat} (h:Cn r us p k P) {i:Nat} (hi:i < p.length):∃ d:Nat,p[i] = (d:Int)/\d < k/\i < us.length:=by
 have hx:=h.f.2.1 p[i] (List.getElem_mem hi)
 have:=h.f.1
 exact ⟨p[i].toNat,by omega,by omega,by omega⟩
theorem row_ok {r:Tf} {us:List Tc} {p:List Int} {k P:Nat} (h:Cn r us p k P) {i d:Nat} (hi:i < us.length) (hd:d < k) (xs:List (List Int)) (hx:xs.length = k) (hrow:xs[d]? = some (vd us p P (d:Int) i)) :
  ao (aj_l1 FU us[i] (d:Int)) FU (0,xs) = some (xs.set d (ee (vd us p P (d:Int) i) us[i].fVotes)):=by
 have hF:=bg
 have hu:=h.vu us[i] (List.getElem_mem hi)
 have hm:=h.m; have hp:=h.p12
 obtain ⟨v1,v2⟩:=jx h.vu p (d:Int) i (by omega)
 have hh:=aw (B:=aj_l1 FU us[i] (d:Int)) (fun s:Nat × List (List Int)=>P - s.1) (fun s=>s.1 <= P/\∃ row,s.2 = xs.set d row/\Part (vd us p P (d:Int) i) us[i].fVotes row s.1) (fun y=>y = xs.set d (ee (vd us p P (d:Int) i) us[i].fVotes)) ?_ FU (0,xs) ⟨Nat.zero_le _,vd us p P (d:Int) i,?_,.zero _ _⟩ (by simp only; omega)
 ·obtain ⟨y,e,rfl⟩:=hh; exact e
 ·rintro ⟨j,ys⟩ J ⟨a1,row,a2,a3⟩ hJ
  simp only at a1 a2 a3 hJ
  subst a2
  unfold aj_l1
  simp only
  by_cases hj:j < P
  ·have j1:j < us[i].fVotes.length:=by rw [hu.1]; exact hj
   have j2:j < (vd us p P (d:Int) i).length:=by omega
   have b1:=hu.2 _ (List.getElem_mem j1)
   have b2:=v2 _ (List.getElem_mem j2)
   have hr:=a3.at j2
   have hrl:=a3.1
   rw [if_pos j1,geE j1,aa,bS,List.getElem?_set,if_pos rfl,if_pos (by omega),aa,hr,aa,aK (by omega) (by omega),aa,ba _ (by omega),aa,Int.toNat_natCast,List.set_set]
   exact hJ _ ⟨hj,_,rfl,a3.step j2 j1⟩ (by simp only; omega)
  ·rw [if_neg (by rw [hu.1]; exact hj)]
   have:j = us[i].fVotes.length:=by have:=hu.1; omega
   subst this
   exact ⟨_,rfl,by rw [a3.done (by rw [v1,hu.1])]⟩
 ·apply List.ext_getElem?
  intro c
  rw [List.getElem?_set]
  by_cases hc:d = c
  ·subst hc; rw [if_pos rfl,if_pos (by omega),hrow]
  ·rw [if_neg hc]
theorem ld {r:Tf} {us:List Tc} {p:List Int} {k P:Nat} (h:Cn r us p k P) {i d:Nat} (hip:i < p.length) (hi:i < us.length) (hd:d < k) (e:p[i] = (d:Int)):vts us p P k (i + 1) = (vts us p P k i).set d (ee (vd us p P (d:Int) i) us[i].fVotes):=by
 apply List.ext_getElem?
 intro c
 rw [List.getElem?_set]
 have hpi:p[i]? = some (d:Int):=by rw [geE hip,e]
 by_cases hc:d = c
 ·subst hc
  rw [if_pos rfl,if_pos (by rw [cM]; exact hd),eI _ _ _ _ hd,kU hi hpi]
 ·rw [if_neg hc]
  by_cases hck:c < k
  ·rw [eI _ _ _ _ hck,eI _ _ _ _ hck,vd_no (by rw [hpi]; intro hx; have:=Option.some.inj hx; omega)]
  ·rw [List.getElem?_eq_none (by rw [cM]; omega),List.getElem?_eq_none (by rw [cM]; omega)]
theorem ix {r:Tf} {us:List Tc} {p:List Int} {k P:Nat} (h:Cn r us p k P):aj_p FU ⟨r,p,(k:Int)⟩ = some (vts us p P k us.length):=by
 have hF:=bg
 have h8:=h.k8; have hm:=h.m; have hp:=h.p12; have hpl:=h.f.1
 unfold aj_p
 rw [show mk (k:Int) ([]:List Int) = some (List.replicate k []) from if_pos ⟨by omega,by omega⟩,aa]
 have hh:=aw (B:=aj_l3 FU (List.replicate k []) ⟨r,p,(k:Int)⟩) (fun s:Nat × List (List Int)=>k - s.1) (fun s=>s.1 <= k/\s.2.length = k/\∀ d:Nat,d < s.1 -> s.2[d]? = some (List.replicate P 0)) (fun y=>y = vts us p P k 0) ?_ FU (0,List.replicate k []) ⟨Nat.zero_le _,by simp,fun d hd=>by omega⟩ (by simp only; omega)
 ·obtain ⟨y,e,rfl⟩:=hh
  rw [e,aa]
  have hh:=aw (B:=aj_l2 FU ⟨r,p,(k:Int)⟩) (fun s:Nat × List (List Int)=>p.length - s.1) (fun s=>s.1 <= p.length/\s.2 = vts us p P k s.1) (fun y=>y = vts us p P k us.length) ?_ FU (0,vts us p P k 0) ⟨Nat.zero_le _,rfl⟩ (by simp only; omega)
  ·obtain ⟨y,e,rfl⟩:=hh
   rw [e]; rfl
  ·rintro ⟨i,xs⟩ J ⟨a1,a2⟩ hJ
   simp only at a1 a2 hJ
   subst a2
   unfold aj_l2
   simp only
   by_cases hip:i < p.length
   ·obtain ⟨d,e,hd,hi⟩:=h.at hip
    obtain ⟨u1,u2,_⟩:=jl h.v h.l hi
    rw [if_pos hip,geE hip,aa,geE u1,aa,u2,e,row_ok h hi hd _ (cM ..) (eI _ _ _ _ hd),aa,<- ld h hip hi hd e]
    exact hJ _ ⟨hip,rfl⟩ (by simp only; omega)
   ·rw [if_neg hip]
    exact ⟨_,rfl,by rw [show i = us.length by omega]⟩
 ·rintro ⟨i,xs⟩ J ⟨a1,a2,a3⟩ hJ
  simp only at a1 a2 a3 hJ
  unfold aj_l3
  simp only
  by_cases hi:i < k
  ·rw [if_pos (by simpa using hi),h.P,cu _ _ (by omega),aa,geE (by omega),aa]
   refine hJ _ ⟨hi,by simp only [List.length_set]; exact a2,fun d hd=>?_⟩ (by simp only; omega)
   simp only at hd ⊢
   rw [List.getElem?_set]
   by_cases hid:i = d
   ·subst hid; rw [if_pos rfl,if_pos (by omega)]
   ·rw [if_neg hid]; exact a3 d (by omega)
  ·rw [if_neg (by simpa using hi)]
   refine ⟨xs,rfl,?_⟩
   apply List.ext_getElem?
   intro d
   by_cases hd:d < k
   ·rw [a3 d (by omega),eI _ _ _ _ hd]; rfl
   ·rw [List.getElem?_eq_none (by omega),List.getElem?_eq_none (by rw [cM]; omega)]
def at0 (l:List Int) (x:Nat):Int:=l[x]?.getD 0
theorem jN {l:List Int} {x:Nat} (h:x < l.length):at0 l x = l[x]:=by unfold at0; rw [geE h]; rfl
def Tb (k P:Nat) (vs:List (List Int)):Prop:=vs.length = k/\∀ v ∈ vs,v.length = P
theorem Cn.tb {r:Tf} {us:List Tc} {p:List Int} {k P:Nat} (h:Cn r us p k P):Tb k P (vts us p P k us.length):=by
 refine ⟨cM ..,fun v hv=>?_⟩
 unfold vts at hv
 obtain ⟨d,_,rfl⟩:=List.mem_map.1 hv
 exact (jx h.vu p (d:Int) us.length (Nat.le_refl _)).1
end Go.Proofs.YtibdeoeglcngoaaGreatDoor
namespace Go.Proofs.YtibdeoeglcngoaaGreatDoor
open Go
set_option maxRecDepth 8000
theorem pofs {a b:Int} (ha:Sm a) (hb:Sm b) (h0:b ≠ 0):aY_p FU a b = some (.ok (Sg (Rat.divInt a b))):=by
 unfold aY_p
 rw [of_sg ha hb h0,aa]
 rfl
structure Vs (k P:Nat) (vs:List (List Int)):Prop where
 t:Tb k P vs
 k8:k <= 8
 p12:P <= 12
 b:∀ v ∈ vs,∀ x ∈ v,0 <= x/\x <= 64000000000
theorem Cn.vs {r:Tf} {us:List Tc} {p:List Int} {k P:Nat} (h:Cn r us p k P):Vs k P (vts us p P k us.length):=by
 refine ⟨h.tb,h.k8,h.p12,fun v hv x hx=>?_⟩
 unfold vts at hv
 obtain ⟨d,_,rfl⟩:=List.mem_map.1 hv
 have h1:=(jx h.vu p (d:Int) us.length (Nat.le_refl _)).2 x hx
 have h2:=h.m
 omega
theorem Vs.at {k P:Nat} {vs:List (List Int)} (h:Vs k P vs) {i a:Nat} (hi:i < vs.length) (ha:a < P):∃ h2:a < vs[i].length,vs[i][a] = at0 vs[i] a/\0 <= at0 vs[i] a/\at0 vs[i] a <= 64000000000:=by
 have h1:=h.t.2 _ (List.getElem_mem hi)
 have h2:a < vs[i].length:=by omega
 have h3:=h.b _ (List.getElem_mem hi) _ (List.getElem_mem h2)
 exact ⟨h2,(jN h2).symm,by rw [jN h2]; exact h3⟩
def dl (a b:Nat) (vs:List (List Int)):List (Int × Int):=(vs.map fun v=>(at0 v a,at0 v b)).filter fun e=>!(decide (e.1 = 0/\e.2 = 0))
theorem iQ (a b:Nat) (vs:List (List Int)):(dl a b vs).length <= vs.length:=by
 unfold dl
 exact Nat.le_trans (List.length_filter_le _ _) (by simp)
theorem jp (a b:Nat) (vs:List (List Int)) {i:Nat} (hi:i < vs.length):dl a b (vs.take (i + 1)) = if at0 vs[i] a = 0/\at0 vs[i] b = 0 then dl a b (vs.take i) else dl a b (vs.take i) ++ [(at0 vs[i] a,at0 vs[i] b)]:=by
 unfold dl
 rw [List.take_succ_eq_append_getElem hi,List.map_append,List.filter_append]
 by_cases h:at0 vs[i] a = 0/\at0 vs[i] b = 0
 ·rw [if_pos h,List.map_cons,List.filter_cons_of_neg (by simp [h])]; simp
 ·rw [if_neg h,List.map_cons,List.filter_cons_of_pos (by rw [Bool.not_eq_true']; exact decide_eq_false h)]; simp
structure Dl (D:List (Int × Int)):Prop where
 n:D.length <= 8
 b:∀ e ∈ D,(0 <= e.1/\e.1 <= 64000000000)/\(0 <= e.2/\e.2 <= 64000000000)/\0 < e.1 + e.2
theorem dl_in {k P:Nat} {vs:List (List Int)} (h:Vs k P vs) {a b:Nat} (ha:a < P) (hb:b < P):Dl (dl a b vs):=by
 refine ⟨Nat.le_trans (iQ a b vs) (by rw [h.t.1]; exact h.k8),fun e he=>?_⟩
 unfold dl at he
 obtain ⟨h1,h2⟩:=List.mem_filter.1 he
 obtain ⟨v,hv,rfl⟩:=List.mem_map.1 h1
 obtain ⟨i,hi,rfl⟩:=List.getElem_of_mem hv
 obtain ⟨_,_,a1,a2⟩:=h.at hi ha
 obtain ⟨_,_,b1,b2⟩:=h.at hi hb
 simp only [Bool.not_eq_true', decide_eq_false_iff_not] at h2
 simp only
 omega
theorem duelsP {k P:Nat} {vs:List (List Int)} (h:Vs k P vs) {a b:Nat} (ha:a < P) (hb:b < P):ao (aQ_l1 FU vs (a:Int) (b:Int)) FU (0,[]) = some (dl a b vs):=by
 have hF:=bg
 have hl:=h.t.1; have h8:=h.k8
 have hh:=aw (B:=aQ_l1 FU vs (a:Int) (b:Int)) (fun s:Nat × List (Int × Int)=>vs.length - s.1) (fun s=>s.1 <= vs.length/\s.2 = dl a b (vs.take s.1)) (fun y=>y = dl a b vs) ?_ FU (0,[]) ⟨Nat.zero_le _,by simp [dl]⟩ (by simp only; omega)
 ·obtain ⟨y,e,rfl⟩:=hh; exact e
 ·rintro ⟨i,xs⟩ J ⟨a1,a2⟩ hJ
  simp only at a1 a2 hJ
  subst a2
  unfold aQ_l1 jn
  simp only
  by_cases hi:i < vs.length
  ·obtain ⟨u1,u2,_,_⟩:=h.at hi ha
   obtain ⟨v1,v2,_,_⟩:=h.at hi hb
   have hn:=jp a b vs hi
   have hdl:=iQ a b (vs.take i)
   rw [List.length_take] at hdl
   rw [if_pos hi,geE hi,aa,idxK u1,aa,idxK v1,aa,u2,v2]
   by_cases hc:at0 vs[i] a = 0/\at0 vs[i] b = 0
   ·rw [if_pos hc] at hn ⊢
    exact hJ _ ⟨hi,hn.symm⟩ (by simp only; omega)
   ·rw [if_neg hc] at hn ⊢
    rw [eb _ _ (by simp only [leC,leN]; omega),aa]
    exact hJ _ ⟨hi,hn.symm⟩ (by simp only; omega)
  ·rw [if_neg hi,List.take_of_length_le (by omega)]
   exact ⟨_,rfl,rfl⟩
theorem pfail (e:Int) (he:e ≠ 0):aJ_p FU true e = some (.error ⟨e⟩):=by
 unfold aJ_p bT_p
 rw [if_pos rfl,if_neg he,aa,exE]
theorem lM (e:Int):aJ_p FU false e = some (.ok ()):=by
 unfold aJ_p
 rw [if_neg (by decide)]
theorem duels_p {r:Tf} {us:List Tc} {p:List Int} {k P:Nat} (h:Cn r us p k P) (ho:aV_p FU r p (k:Int) = some (.ok ⟨r,p,(k:Int)⟩)) {a b:Nat} (ha:a < P) (hb:b < P) (hab:a ≠ b) :
  aQ_p FU r p (k:Int) (a:Int) (b:Int) = some (if (dl a b (vts us p P k us.length)).length = 0 then .error ⟨7⟩ else .ok (dl a b (vts us p P k us.length))):=by
 unfold aQ_p jn
 rw [ho,aa,exO]
 simp only
 rw [if_neg (by omega),h.P,if_neg (by omega),if_neg (by omega),if_neg (by omega),decide_eq_false (by omega),lM,aa,exO,ix h,aa,duelsP h.vs ha hb,aa]
 by_cases h0:(dl a b (vts us p P k us.length)).length = 0
 ·rw [decide_eq_true h0,pfail 7 (by decide),aa,exE,if_pos h0]
 ·rw [decide_eq_false h0,lM,aa,exO,if_neg h0]
def gn (D:List (Int × Int)):Nat -> Int × Int
 | 0=>(0,0)
 | i + 1=>match D[i]? with
  | some e=>((gn D i).1 + 2 * (e.1 - e.2) - (if e.2 < e.1 then e.1 + e.2 else if e.1 < e.2 then -(e.1 + e.2) else 0),(gn D i).2 + (e.1 + e.2))
  | none=>gn D i
end Go.Proofs.YtibdeoeglcngoaaGreatDoor
namespace Go.Proofs.YtibdeoeglcngoaaGreatDoor
open Go
set_option maxRecDepth 8000
theorem lc {α β:Type} (x:α) (K:α -> Option β):thn (some (.inr x:β ⊕ α)) K = K x:=rfl
theorem ju (z:Int):z.sign < 0 ↔ z < 0:=by
 rcases Int.lt_trichotomy z 0 with h | h | h
 ·rw [Int.sign_eq_neg_one_of_neg h]; omega
 ·rw [h]; decide
 ·rw [Int.sign_eq_one_of_pos h]; omega
def sc (a b:Rat):Int:=(a.num * b.den - b.num * a.den).sign
theorem iX (a b:Rat):sc a b < 0 ↔ ¬ b <= a:=by
 unfold sc
 rw [ju,Rat.le_iff]
 omega
theorem cmp_p {a b:Rat} (ha:FQ a) (hb:FQ b):bM_p FU (Sg a) (Sg b) = some (.ok (sc a b)):=by
 unfold bM_p bv_p
 rw [cmpG ha hb,aa,if_pos rfl,aa,exO]
 rfl
def lW (q:List Rat) (n:Nat):Prop:=∀ (i j:Nat) a b,i < j -> j < n -> q[i]? = some a -> q[j]? = some b -> a <= b
theorem down_ok (q0:List Rat) (hq:∀ x ∈ q0,FQ x) (z:Nat) (hz:z < q0.length) (h12:q0.length <= 12) (hs:lW q0 z) :
  ∃ q:List Rat,ao (ah_l1 FU 0) FU ((z:Int),q0.map Sg) = some (.inr (q.map Sg))/\q.length = q0.length/\q.Perm q0/\lW q (z + 1):=by
 have hF:=bg
 have hh:=aw (B:=ah_l1 FU 0) (fun s=>s.1.toNat) (fun s=>∃ (k:Nat) (q:List Rat),s.1 = (k:Int)/\s.2 = q.map Sg/\k <= z/\q.length = q0.length/\q.Perm q0/\(∀ (i j:Nat) a b,i < j -> j < z + 1 -> i ≠ k -> j ≠ k -> q[i]? = some a -> q[j]? = some b -> a <= b)/\(∀ (j:Nat) a b,k < j -> j < z + 1 -> q[k]? = some a -> q[j]? = some b -> a <= b))
  (fun y=>∃ q:List Rat,y = .inr (q.map Sg)/\q.length = q0.length/\q.Perm q0/\lW q (z + 1)) ?_ FU ((z:Int),q0.map Sg) ⟨z,q0,rfl,rfl,Nat.le_refl _,rfl,List.Perm.refl _,fun i j a b h1 h2 h3 h4 h5 h6=>hs i j a b h1 (by omega) h5 h6,fun j a b h1 h2=>by omega⟩ (by simp only [Int.toNat_natCast]; omega)
 ·obtain ⟨y,e,q,rfl,h1⟩:=hh; exact ⟨q,e,h1⟩
 ·rintro ⟨jz,xs⟩ J ⟨k,q,e1,e2,hk,hl,hp,h1,h2⟩ hJ
  simp only at e1 e2 hJ
  subst e1 e2
  unfold ah_l1
  simp only
  have whole:(∀ a b,0 < k -> q[k - 1]? = some a -> q[k]? = some b -> a <= b) -> lW q (z + 1):=fun hkk i j a b hij hj ha hb=>by
   by_cases hik:i = k
   ·subst hik; exact h2 j a b hij hj ha hb
   ·by_cases hjk:j = k
    ·subst hjk
     by_cases hi1:i = j - 1
     ·subst hi1; exact hkk a b (by omega) ha hb
     ·have hm:q[j - 1]? = some (q[j - 1]'(by omega)):=geE _
      exact Rat.le_trans (h1 i (j - 1) a _ (by omega) (by omega) hik (by omega) ha hm) (hkk _ b (by omega) hm hb)
    ·exact h1 i j a b hij hj hik hjk ha hb
  by_cases h0:(((0:Nat):Int)) < (k:Int)
  ·have hkl:k < q.length:=by omega
   have hk1:k - 1 < q.length:=by omega
   have f1:=hq _ (hp.mem_iff.1 (List.getElem_mem hkl))
   have f2:=hq _ (hp.mem_iff.1 (List.getElem_mem hk1))
   have g1:(q.map Sg)[k]? = some (Sg q[k]):=by rw [List.getElem?_map,geE hkl]; rfl
   have g2:(q.map Sg)[k - 1]? = some (Sg q[k - 1]):=by rw [List.getElem?_map,geE hk1]; rfl
   have ek:(k:Int) - 1 = ((k - 1:Nat):Int):=by omega
   rw [if_pos h0,bS,g1,aa,aK (by omega) (by omega),aa,ek,bS,g2,aa,cmp_p f1 f2,aa,exO]
   by_cases hlt:sc q[k] q[k - 1] < 0
   ·have hs1:((q.map Sg).set k (Sg q[k - 1])) = (q.set k q[k - 1]).map Sg:=List.map_set.symm
    have hs2:(((q.set k q[k - 1]).map Sg).set (k - 1) (Sg q[k])) = ((q.set k q[k - 1]).set (k - 1) q[k]).map Sg:=List.map_set.symm
    rw [if_pos hlt,aa,aa,bS,g2,aa,Int.toNat_natCast,ba _ (by rw [List.length_map]; omega),aa,hs1,bS,List.getElem?_map,geE (show k - 1 < (q.set k q[k - 1]).length by rw [List.length_set]; omega),Option.map_some,aa,Int.toNat_natCast,ba _ (by rw [List.length_map,List.length_set]; omega),aa,hs2,aa]
    have get:∀ (i:Nat),((q.set k q[k - 1]).set (k - 1) q[k])[i]? = if i = k - 1 then some q[k] else if i = k then some q[k - 1] else q[i]?:=fun i=>by
     rw [List.getElem?_set,List.getElem?_set]
     by_cases hp1:k - 1 = i
     ·rw [if_pos hp1,if_pos (show i = k - 1 from hp1.symm),if_pos (by rw [List.length_set]; omega)]
     ·rw [if_neg hp1,if_neg (show ¬ i = k - 1 from fun e=>hp1 e.symm)]
      by_cases hp2:k = i
      ·rw [if_pos hp2,if_pos (show i = k from hp2.symm),if_pos (by omega)]
      ·rw [if_neg hp2,if_neg (show ¬ i = k from fun e=>hp2 e.symm)]
    have hgk:q[k]? = some q[k]:=geE hkl
    have hgk1:q[k - 1]? = some q[k - 1]:=geE hk1
    refine hJ _ ⟨k - 1,_,rfl,rfl,by omega,by simp only [List.length_set]; exact hl,?_,fun i j a b hij hj hi1 hj1 ha hb=>?_,fun j a b hij hj ha hb=>?_⟩ (by simp only [Int.toNat_natCast]; omega)
    ·exact (List.set_set_perm (by omega) (by omega)).trans hp
    ·rw [get,if_neg hi1] at ha
     rw [get,if_neg hj1] at hb
     by_cases hik:i = k
     ·rw [if_pos hik] at ha
      rw [if_neg (by omega)] at hb
      cases ha
      exact h1 (k - 1) j _ b (by omega) hj (by omega) (by omega) hgk1 hb
     ·rw [if_neg hik] at ha
      by_cases hjk:j = k
      ·rw [if_pos hjk] at hb
       cases hb
       exact h1 i (k - 1) a _ (by omega) (by omega) hik (by omega) ha hgk1
      ·rw [if_neg hjk] at hb
       exact h1 i j a b hij hj hik hjk ha hb
    ·rw [get,if_pos rfl] at ha
     cases ha
     rw [get,if_neg (by omega)] at hb
     by_cases hjk:j = k
     ·rw [if_pos hjk] at hb
      cases hb
      have:=(iX _ _).1 hlt
      exact (Rat.le_total).resolve_left this
     ·rw [if_neg hjk] at hb
      exact h2 j _ b (by omega) hj hgk hb
   ·rw [if_neg hlt]
    refine ⟨_,rfl,q,rfl,hl,hp,whole fun a b _ ha hb=>?_⟩
    rw [geE (by omega)] at ha hb
    cases ha; cases hb
    exact Classical.byContradiction fun hc=>hlt ((iX _ _).2 hc)
  ·rw [if_neg h0]
   exact ⟨_,rfl,q,rfl,hl,hp,whole fun a b h=>by omega⟩
theorem sort_ok (q0:List Rat) (hq:∀ x ∈ q0,FQ x) (h12:q0.length <= 12):∃ q:List Rat,ao (ah_l2 FU q0.length 0) FU (1,q0.map Sg) = some (.inr (q.map Sg))/\q.Perm q0/\q.Pairwise (· <= ·):=by
 have hF:=bg
 have hh:=aw (B:=ah_l2 FU q0.length 0) (fun s=>13 - s.1.toNat) (fun s=>∃ (k:Nat) (q:List Rat),s.1 = (k:Int)/\s.2 = q.map Sg/\1 <= k/\(k <= q0.length ∨ k = 1)/\q.length = q0.length/\q.Perm q0/\lW q k)
  (fun y=>∃ q:List Rat,y = .inr (q.map Sg)/\q.Perm q0/\q.Pairwise (· <= ·)) ?_ FU (1,q0.map Sg) ⟨1,q0,rfl,rfl,by omega,.inr rfl,rfl,List.Perm.refl _,fun i j a b h1 h2=>by omega⟩ (by simp only; omega)
 ·obtain ⟨y,e,q,rfl,h1⟩:=hh; exact ⟨q,e,h1⟩
 ·rintro ⟨jz,xs⟩ J ⟨k,q,e1,e2,k1,hk,hl,hp,h2⟩ hJ
  simp only at e1 e2 hJ
  subst e1 e2
  unfold ah_l2 jn
  simp only
  by_cases hlt:(k:Int) < ((q0.length:Nat):Int)
  ·obtain ⟨q', y1,y2,y3,y4⟩:=down_ok q (fun x hx=>hq x (hp.mem_iff.1 hx)) k (by omega) (by omega) h2
   have nx:=hJ (((k + 1:Nat):Int),q'.map Sg) ⟨k + 1,q', rfl,rfl,by omega,.inl (by omega),by omega,y3.trans hp,y4⟩ (by simp only [Int.toNat_natCast]; omega)
   rw [if_pos hlt,y1,lc,aK (by omega) (by omega),aa]
   exact nx
  ·rw [if_neg hlt]
   refine ⟨_,rfl,q,rfl,hp,List.pairwise_iff_getElem.2 fun i j hi hj hij=>?_⟩
   exact h2 i j _ _ hij (by omega) (geE hi) (geE hj)
def qe (e:Int × Int):Rat:=Rat.divInt e.1 (e.1 + e.2)
def qs (D:List (Int × Int)):List Rat:=D.map qe
theorem qe_bt {D:List (Int × Int)} (h:Dl D) {e:Int × Int} (he:e ∈ D):Bt 36 37 (qe e):=by
 have:=h.b e he
 exact Bt.of (by omega) (by omega) (by omega)
theorem qs_bt {D:List (Int × Int)} (h:Dl D):∀ x ∈ qs D,Bt 36 37 x:=fun x hx=>by
 obtain ⟨e,he,rfl⟩:=List.mem_map.1 hx
 exact qe_bt h he
theorem qs_fq {D:List (Int × Int)} (h:Dl D):∀ x ∈ qs D,FQ x:=fun x hx=>(qs_bt h x hx).fq (by decide) (by decide)
theorem listP {D:List (Int × Int)} (h:Dl D):ao (ah_l4 FU D) FU (0,[]) = some (.inr ((qs D).map Sg)):=by
 have hF:=bg
 have h8:=h.n
 have hh:=aw (B:=ah_l4 FU D) (fun s:Nat × List Ta=>D.length - s.1) (fun s=>s.1 <= D.length/\s.2 = ((qs D).map Sg).take s.1) (fun y=>y = .inr ((qs D).map Sg)) ?_ FU (0,[]) ⟨Nat.zero_le _,by simp⟩ (by simp only; omega)
 ·obtain ⟨y,e,rfl⟩:=hh; exact e
 ·rintro ⟨i,xs⟩ J ⟨a1,a2⟩ hJ
  simp only at a1 a2 hJ
  subst a2
  unfold ah_l4 bI_p bg_p
  simp only
  by_cases hi:i < D.length
  ·have hb:=h.b _ (List.getElem_mem hi)
   have hx:((qs D).map Sg)[i]? = some (Sg (qe D[i])):=by unfold qs; rw [List.getElem?_map,List.getElem?_map,geE hi]; rfl
   rw [if_pos hi,geE hi,aa,aK (by omega) (by omega),aa,aa,pofs (by unfold Sm; omega) (by unfold Sm; omega) (by omega),aa,exO,aa,exO,eb _ _ (by simp only [List.length_take,leC,leN]; omega),aa]
   exact hJ _ ⟨hi,(kN hx).symm⟩ (by simp only; omega)
  ·rw [if_neg hi,List.take_of_length_le (by unfold qs; rw [List.length_map,List.length_map]; omega)]
   exact ⟨_,rfl,rfl⟩
theorem lens64 (k:Nat):∃ y,ca_p FU (ae ((k:Nat):Int)) = some y:=by
 unfold ca_p
 rw [iv]; exact ⟨_,rfl⟩
theorem kg {r:Tf} {p:List Int} {k:Nat} {a b:Int} {D:List (Int × Int)} (hD:Dl D) (e:aQ_p FU r p (k:Int) a b = some (.ok D)):∃ q:List Rat,ah_p FU r p (k:Int) a b = some (.ok (q.map Sg))/\q.Perm (qs D)/\q.Pairwise (· <= ·):=by
 have h8:=hD.n
 have hql:(qs D).length = D.length:=by unfold qs; simp
 obtain ⟨q,q1,q2,q3⟩:=sort_ok (qs D) (qs_fq hD) (by omega)
 obtain ⟨y,y1⟩:=lens64 ((qs D).map Sg).length
 refine ⟨q,?_,q2,q3⟩
 unfold ah_p
 rw [e,aa,exO,listP hD]
 unfold thn
 simp only
 rw [y1,aa]
 obtain ⟨m,hm⟩:∃ m,FU = m + 1:=⟨FU - 1,by have:=bg; omega⟩
 have:ao (ah_l3 FU ((qs D).map Sg)) FU (0,((qs D).map Sg).length,y,true,true) = ah_l3 FU ((qs D).map Sg) (ao (ah_l3 FU ((qs D).map Sg)) m) (0,((qs D).map Sg).length,y,true,true):=by
  conv=>lhs; arg 2; rw [hm]
  rfl
 rw [this]
 unfold ah_l3
 simp only
 rw [aK (by rw [List.length_map]; omega) (by rw [List.length_map]; omega),aa,if_pos (by rw [List.length_map]; omega),aK (by omega) (by omega),aa,show (((0:Nat):Int) + 1) = 1 from rfl,List.length_map,q1]
 rfl
/-! ### The reference puts each share into its place -/
end Go.Proofs.YtibdeoeglcngoaaGreatDoor
namespace Go.Proofs.YtibdeoeglcngoaaGreatDoor
open Go
set_option maxRecDepth 8000
structure Sl (l:List Rat):Prop where
 n0:0 < l.length
 n8:l.length <= 8
 b:∀ x ∈ l,Bt 36 37 x
theorem Sl.fq {l:List Rat} (h:Sl l):∀ x ∈ l,FQ x:=fun x hx=>(h.b x hx).fq (by decide) (by decide)
theorem lessP {a b:Rat} (ha:FQ a) (hb:FQ b) (h:FQ (a - b)):bB_p FU (Sg a) (Sg b) = some (.ok (Sg (a - b))):=by
 unfold bB_p ao_p
 rw [sub_q ha hb h eX,aa,if_pos rfl,aa,exO]
theorem sl_of {D:List (Int × Int)} (hD:Dl D) (h0:0 < D.length) {q:List Rat} (hp:q.Perm (qs D)):Sl q:=by
 have hl:=hp.length_eq
 have hql:(qs D).length = D.length:=by unfold qs; simp
 have h8:=hD.n
 exact ⟨by omega,by omega,fun x hx=>qs_bt hD x (hp.mem_iff.1 hx)⟩
theorem hf_fq:FQ (Rat.divInt 1 2):=fqd (by decide) (by decide) (by decide)
end Go.Proofs.YtibdeoeglcngoaaGreatDoor
namespace Go.Proofs.YtibdeoeglcngoaaGreatDoor
open Go
set_option maxRecDepth 8000
theorem rev_ok (xs0:List Ta) (h0:0 < xs0.length) (h8:xs0.length <= 8):ao (az_l2 FU) FU (0,((xs0.length:Nat):Int) - 1,xs0) = some xs0.reverse:=by
 have hF:=bg
 have hh:=aw (B:=az_l2 FU) (fun s:Int × Int × List Ta=>(s.2.1 + 1).toNat) (fun s=>∃ i:Nat,s.1 = (i:Int)/\s.2.1 = ((xs0.length:Nat):Int) - 1 - (i:Int)/\2 * i <= xs0.length + 1/\s.2.2.length = xs0.length/\∀ c:Nat,c < xs0.length -> s.2.2[c]? = if c < i ∨ xs0.length - 1 < c + i then xs0[xs0.length - 1 - c]? else xs0[c]?) (fun y=>y = xs0.reverse) ?_ FU (0,((xs0.length:Nat):Int) - 1,xs0) ⟨0,rfl,by simp,by omega,rfl,fun c hc=>by rw [if_neg (by omega)]⟩ (by simp only; omega)
 ·obtain ⟨y,e,rfl⟩:=hh; exact e
 ·rintro ⟨z,w,xs⟩ J ⟨i,a0,a1,a2,a3,a4⟩ hJ
  simp only at a0 a1 a3 a4 hJ
  subst a0 a1
  unfold az_l2
  simp only
  by_cases hlt:(i:Int) < ((xs0.length:Nat):Int) - 1 - (i:Int)
  ·have ej:((xs0.length:Nat):Int) - 1 - (i:Int) = ((xs0.length - 1 - i:Nat):Int):=by omega
   have hi:i < xs0.length:=by omega
   have hj:xs0.length - 1 - i < xs0.length:=by omega
   have g1:=a4 i hi
   have g2:=a4 (xs0.length - 1 - i) hj
   rw [if_neg (by omega),geE hi] at g1
   rw [if_neg (by omega),geE hj] at g2
   rw [if_pos hlt,ej,bS,g2,aa,bS,g1,aa,Int.toNat_natCast,ba _ (by omega),aa,bS,geE (by rw [List.length_set]; omega),aa,Int.toNat_natCast,ba _ (by rw [List.length_set]; omega),aa,aK (by omega) (by omega),aa,aK (by omega) (by omega),aa]
   refine hJ _ ⟨i + 1,by simp,by simp only; omega,by omega,by simp only [List.length_set]; exact a3,fun c hc=>?_⟩ (by simp only; omega)
   simp only
   rw [List.getElem?_set,List.length_set]
   by_cases c1:xs0.length - 1 - i = c
   ·subst c1
    rw [if_pos rfl,if_pos (by omega),if_pos (by omega),show xs0.length - 1 - (xs0.length - 1 - i) = i by omega,geE hi]
   ·rw [if_neg c1,List.getElem?_set]
    by_cases c2:i = c
    ·subst c2
     rw [if_pos rfl,if_pos (by omega),if_pos (by omega),geE hj]
    ·rw [if_neg c2,a4 c hc]
     by_cases c3:c < i ∨ xs0.length - 1 < c + i
     ·rw [if_pos c3,if_pos (by omega)]
     ·rw [if_neg c3,if_neg (by omega)]
  ·rw [if_neg hlt]
   refine ⟨xs,rfl,?_⟩
   apply List.ext_getElem?
   intro c
   by_cases hc:c < xs0.length
   ·rw [a4 c hc,List.getElem?_reverse hc]
    split
    ·rfl
    ·congr 1; omega
   ·rw [List.getElem?_eq_none (by omega),List.getElem?_eq_none (by rw [List.length_reverse]; omega)]
def stp (out:List Td) (t:Ta) (n:Int):List Td:=
 let s:=out[out.length - 1]?.getD ⟨noS,0,0⟩
 if 0 < out.length/\s.fB = t then out.set (out.length - 1) ⟨s.fB,n,s.fF + 1⟩ else out ++ [⟨t,n,1⟩]
def sAt (R:List Rat) (i:Nat):Ta:=Sg (Rat.divInt 1 2 - (R[i]?.getD 0))
def sw (R:List Rat):Nat -> List Td
 | 0=>[]
 | i + 1=>stp (sw R i) (sAt R i) ((i:Int) + 1)
def SwI (out:List Td) (i:Nat):Prop:=out.length <= i/\(∀ s ∈ out,1 <= s.fF/\s.fF <= (i:Int))/\∀ s,out[out.length - 1]? = some s -> 0 < out.length -> s.fC = (i:Int)
theorem gE {out:List Td} {t:Ta} {n:Int} (h0:0 < out.length) (e:out[out.length - 1].fB = t):stp out t n = out.set (out.length - 1) ⟨out[out.length - 1].fB,n,out[out.length - 1].fF + 1⟩:=by
 unfold stp
 rw [geE (show out.length - 1 < out.length by omega)]
 simp only [Option.getD_some]
 rw [if_pos ⟨h0,e⟩]
theorem eT {out:List Td} {t:Ta} {n:Int} (h:∀ h0:0 < out.length,out[out.length - 1].fB ≠ t):stp out t n = out ++ [⟨t,n,1⟩]:=by
 unfold stp
 simp only
 rw [if_neg]
 rintro ⟨h0,e⟩
 rw [geE (show out.length - 1 < out.length by omega)] at e
 exact h h0 e
theorem stp_in {out:List Td} {i:Nat} (h:SwI out i) (t:Ta):SwI (stp out t ((i:Int) + 1)) (i + 1):=by
 obtain ⟨h1,h2,h3⟩:=h
 by_cases hc:∃ h0:0 < out.length,out[out.length - 1].fB = t
 ·obtain ⟨h0,e⟩:=hc
  rw [gE h0 e]
  have ho:=h2 _ (List.getElem_mem (show out.length - 1 < out.length by omega))
  refine ⟨by rw [List.length_set]; omega,fun s hs=>?_,fun s hs _=>?_⟩
  ·rcases List.mem_or_eq_of_mem_set hs with hs | rfl
   ·have:=h2 s hs; omega
   ·simp only; omega
  ·rw [List.length_set,List.getElem?_set,if_pos rfl,if_pos (by omega)] at hs
   cases hs
   simp
 ·rw [eT fun h0 e=>hc ⟨h0,e⟩]
  refine ⟨by simp only [List.length_append,leC,leN]; omega,fun s hs=>?_,fun s hs _=>?_⟩
  ·rcases List.mem_append.1 hs with hs | hs
   ·have:=h2 s hs; omega
   ·rw [List.mem_singleton.1 hs]; simp only; omega
  ·simp at hs
   rw [<- hs]; simp
theorem sw_in (R:List Rat):∀ i,SwI (sw R i) i
 | 0=>⟨Nat.le_refl _,(fun s hs=>by cases hs),fun s hs h=>absurd h (by simp [sw])⟩
 | i + 1=>stp_in (sw_in R i) _
theorem ij {q:List Rat} (h:Sl q) {x:Rat} (hx:x ∈ q):FQ (Rat.divInt 1 2 - x):=
 (Bt.sub (i:=40) (Bt.of (i:=1) (j:=2) (by decide) (by decide) (by decide)) (h.b x hx) (by decide) (by decide)).fq (by decide) (by decide)
theorem swP {R:List Rat} (h:Sl R):ao (az_l1 FU (R.map Sg)) FU (0,[]) = some (.inr (sw R R.length)):=by
 have hF:=bg
 have h8:=h.n8
 have hh:=aw (B:=az_l1 FU (R.map Sg)) (fun s:Nat × List Td=>R.length - s.1) (fun s=>s.1 <= R.length/\s.2 = sw R s.1) (fun y=>y = .inr (sw R R.length)) ?_ FU (0,[]) ⟨Nat.zero_le _,rfl⟩ (by simp only; omega)
 ·obtain ⟨y,e,rfl⟩:=hh; exact e
 ·rintro ⟨i,xs⟩ J ⟨a1,a2⟩ hJ
  simp only at a1 a2 hJ
  unfold az_l1
  simp only
  rw [List.length_map]
  by_cases hi:i < R.length
  ·have hx:(R.map Sg)[i]? = some (Sg R[i]):=by rw [List.getElem?_map,geE hi]; rfl
   have es:sAt R i = Sg (Rat.divInt 1 2 - R[i]):=by unfold sAt; rw [geE hi]; rfl
   obtain ⟨s1,s2,s3⟩:=sw_in R i
   rw [<- a2] at s1 s2 s3
   have hstep:sw R (i + 1) = stp xs (sAt R i) ((i:Int) + 1):=by rw [a2]; rfl
   have ei:((i + 1:Nat):Int) = (i:Int) + 1:=by omega
   rw [if_pos hi,hx,aa,pofs (by unfold Sm; decide) (by unfold Sm; decide) (by decide),aa,exO,lessP hf_fq (h.fq _ (List.getElem_mem hi)) (ij h (List.getElem_mem hi)),aa,exO,<- es,ei]
   by_cases h0:0 < xs.length
   ·have hl:xs.length - 1 < xs.length:=by omega
    have ht:=s2 _ (List.getElem_mem hl)
    rw [if_pos h0,geE hl,aa]
    by_cases he:xs[xs.length - 1].fB = sAt R i
    ·rw [if_pos he,aK (by omega) (by omega),aa,ba _ hl,aa,List.getElem?_set,if_pos rfl,if_pos hl,aa,ba _ (by rw [List.length_set]; exact hl),aa,List.set_set]
     exact hJ _ ⟨hi,by simp only; rw [hstep,gE h0 he]⟩ (by simp only; omega)
    ·rw [if_neg he,eb _ _ (by simp only [leC,leN]; omega),aa]
     exact hJ _ ⟨hi,by simp only; rw [hstep,eT fun _=>he]⟩ (by simp only; omega)
   ·rw [if_neg h0,eb _ _ (by simp only [leC,leN]; omega),aa]
    exact hJ _ ⟨hi,by simp only; rw [hstep,eT fun hh=>absurd hh h0]⟩ (by simp only; omega)
  ·rw [if_neg hi]
   exact ⟨_,rfl,by rw [a2,show i = R.length by omega]⟩
theorem Sl.rev {q:List Rat} (h:Sl q):Sl q.reverse:=⟨by rw [List.length_reverse]; exact h.n0,by rw [List.length_reverse]; exact h.n8,fun x hx=>h.b x (List.mem_reverse.1 hx)⟩
theorem ku {r:Tf} {p:List Int} {k:Nat} {a b:Int} {q:List Rat} (h:Sl q) (e:ah_p FU r p (k:Int) a b = some (.ok (q.map Sg))):bF_p FU r p (k:Int) a b = some (sw q.reverse q.length,0):=by
 have h0:=h.n0; have h8:=h.n8
 unfold bF_p az_p
 rw [e,aa,exO,rev_ok _ (by rw [List.length_map]; exact h0) (by rw [List.length_map]; exact h8),aa,<- List.map_reverse,swP h.rev,lc,aa,exO,List.length_reverse]
end Go.Proofs.YtibdeoeglcngoaaGreatDoor
namespace Go.Proofs.YtibdeoeglcngoaaGreatDoor
open Go
set_option maxRecDepth 8000
theorem lE {r:Tf} {us:List Tc} (h:RollOk r us):∀ u ∈ r.fu,Sm4 u:=by
 have hg:=h.g; have hp:=h.p; have hl:=h.l; have hn:=h.len
 have land:∀ u ∈ us,Sm4 u:=fun u hu=>by
  obtain ⟨i,hi,rfl⟩:=List.getElem_of_mem hu
  obtain ⟨e,_,_,g,v,q⟩:=h.land i hi
  exact ⟨by rw [e]; exact nm_ns (by omega),by have:=g.1; omega,by have:=v.1; omega,by have:=q.1; omega⟩
 intro u hu
 rcases h.all with e | e
 ·rw [e] at hu; exact land u hu
 ·rw [e] at hu
  rcases List.mem_append.1 hu with hu | hu
  ·exact land u hu
  ·rw [List.mem_singleton.1 hu]
   refine ⟨List.mem_cons_self ..,?_,?_,?_⟩
   ·show (List.replicate _ (0:Int)).length <= _; rw [List.length_replicate]; omega
   ·show (List.replicate _ (0:Int)).length <= _; rw [List.length_replicate]; omega
   ·show (List.replicate _ (0:Int)).length <= _; rw [List.length_replicate]; omega
theorem rv_of {r:Tf} {us:List Tc} (h:RollOk r us):RV r:=by
 classical
 refine Classical.byContradiction fun hc=>?_
 have e:=dA r (lE h)
 rw [gx r us h,if_neg hc] at e
 cases e
theorem lnd_ok {r:Tf} {us:List Tc} (h:RollOk r us):Lnd r us:=by
 refine ⟨?_,fun u hu=>?_⟩
 ·rcases h.all with e | e
  ·exact ⟨[],by rw [e,List.append_nil],fun u hu=>by cases hu⟩
  ·exact ⟨_,e,fun u hu=>by rw [List.mem_singleton.1 hu]; rfl⟩
 ·obtain ⟨i,hi,rfl⟩:=List.getElem_of_mem hu
  exact (h.land i hi).2.1
theorem cn_of {r:Tf} {us:List Tc} {p:List Int} {k P:Nat} (h:RollOk r us) (hl:p.length = us.length) (hp:bK p (k:Int)) (h1:1 <= k) (h8:k <= 8) (hP:r.fc = P):Cn r us p k P:=
 ⟨rv_of h,lnd_ok h,⟨hl,hp⟩,h1,h8,hP⟩
theorem kx {r:Tf} {us:List Tc} {p:List Int} {k P:Nat} (h:RollOk r us) (hc:Cn r us p k P):aV_p FU r p (k:Int) = some (.ok ⟨r,p,(k:Int)⟩):=by
 classical
 have h1:=hc.k1; have h8:=hc.k8; have hpl:=hc.f.1; have hm:=hc.m
 have b1:=iz (lE h) p k (by omega) (by omega) (by omega) us fun _=>hc.l
 rw [if_pos hc.v,if_pos hc.f] at b1
 unfold aV_p bT_p
 rw [b1,aa,if_pos rfl,aa,exO]
end Go.Proofs.YtibdeoeglcngoaaGreatDoor
namespace Go.Proofs.YtibdeoeglcngoaaGreatDoor
open Go
set_option maxRecDepth 8000
theorem lQ (out:List Td) (w:Td) (t:Ta) (n:Int) (e:w.fB = t):stp (out ++ [w]) t n = out ++ [⟨w.fB,n,w.fF + 1⟩]:=by
 rw [gE (by simp) (by simpa using e)]
 simp
theorem stp_new (out:List Td) (w:Td) (t:Ta) (n:Int) (e:w.fB ≠ t):stp (out ++ [w]) t n = out ++ [w] ++ [⟨t,n,1⟩]:=eT fun h0=>by simpa using e
inductive Gd (R:List Rat):List Td -> Nat -> Prop
 | nil:Gd R [] 0
 | snoc {out:List Td} {a b:Nat} {x:Rat} (h:Gd R out a) (ab:a < b) (bn:b <= R.length) (hx:∀ k,a <= k -> k < b -> R[k]? = some x) (hy:∀ y,0 < a -> R[a - 1]? = some y -> ¬ y <= x):Gd R (out ++ [⟨Sg (Rat.divInt 1 2 - x),((b:Nat):Int),((b - a:Nat):Int)⟩]) b
theorem gd_sw {R:List Rat} (h:Sl R) (hs:R.Pairwise fun a b=>b <= a):∀ i,i <= R.length -> Gd R (sw R i) i
 | 0,_=>.nil
 | i + 1,hi=>by
  have g:=gd_sw h hs i (by omega)
  have hri:R[i]? = some R[i]:=geE (by omega)
  have es:sAt R i = Sg (Rat.divInt 1 2 - R[i]):=by unfold sAt; rw [hri]; rfl
  have hm:R[i] ∈ R:=List.getElem_mem _
  show Gd R (stp (sw R i) (sAt R i) ((i:Int) + 1)) (i + 1)
  rw [es,show (i:Int) + 1 = ((i + 1:Nat):Int) by omega]
  generalize sw R i = out at g
  have one:∀ k,i <= k -> k < i + 1 -> R[k]? = some R[i]:=fun k h1 h2=>by
   have e:k = i:=by omega
   subst e; exact hri
  have eone:((i + 1 - i:Nat):Int) = 1:=by omega
  cases g with
  | nil=>
   rw [eT fun h0=>absurd h0 (by simp)]
   have:=Gd.snoc (R:=R) (b:=0 + 1) .nil (by omega) hi one (fun y h0=>absurd h0 (by omega))
   exact this
  | @snoc out a _ x g ab bn hx hy=>
   have hl:=hx (i - 1) (by omega) (by omega)
   have hxm:x ∈ R:=List.mem_of_getElem? hl
   by_cases e:x = R[i]
   ·subst e
    rw [lQ _ _ _ _ rfl]
    have:=Gd.snoc (b:=i + 1) g (by omega) hi (fun k h1 h2=>by
     by_cases hk:k < i
     ·exact hx k h1 hk
     ·exact one k (by omega) h2) hy
    rw [show ((i + 1 - a:Nat):Int) = ((i - a:Nat):Int) + 1 by omega] at this
    exact this
   ·rw [stp_new _ _ _ _ fun hc=>e (by have:=Sg_inj (ij h hxm) (ij h hm) hc; grind)]
    have:=Gd.snoc (b:=i + 1) (Gd.snoc g ab bn hx hy) (by omega) hi one (fun y h0 hy' =>by
     rw [hl] at hy'
     cases hy'
     intro hc
     have hle:R[i] <= x:=by
      have:=List.pairwise_iff_getElem.1 hs (i - 1) i (by omega) (by omega) (by omega)
      rw [geE (by omega)] at hl
      cases hl
      exact this
     exact e (Rat.le_antisymm hc hle))
    rw [eone] at this
    exact this
def cg (R:List Rat) (i:Nat):Int:=(((R.take i).filter fun x=>!decide (x <= Rat.divInt 1 2)).length:Nat)
theorem jG {R:List Rat} {i:Nat} {x:Rat} (h:R[i]? = some x):cg R (i + 1) = cg R i + (if x <= Rat.divInt 1 2 then 0 else 1):=by
 obtain ⟨hi,rfl⟩:=List.getElem?_eq_some_iff.1 h
 unfold cg
 rw [List.take_succ_eq_append_getElem hi,List.filter_append,List.length_append]
 by_cases hc:R[i] <= Rat.divInt 1 2
 ·rw [if_pos hc,List.filter_cons_of_neg (by simp [hc])]; simp
 ·rw [if_neg hc,List.filter_cons_of_pos (by simp [hc])]; simp
theorem jq {R:List Rat} {a:Nat} {x:Rat} (hx:x <= Rat.divInt 1 2):∀ b,a <= b -> (∀ k,a <= k -> k < b -> R[k]? = some x) -> cg R b = cg R a
 | 0,h,_=>by rw [show a = 0 by omega]
 | b + 1,h,hk=>by
  by_cases e:a = b + 1
  ·rw [e]
  ·rw [jG (hk b (by omega) (by omega)),if_pos hx,jq hx b (by omega) fun k h1 h2=>hk k h1 (by omega)]; omega
theorem kY {R:List Rat} (hs:R.Pairwise fun a b=>b <= a) {b:Nat} {x:Rat} (hb:R[b]? = some x) (hx:¬ x <= Rat.divInt 1 2):∀ i ≤ b + 1,cg R i = (i:Int)
 | 0,_=>rfl
 | i + 1,hi=>by
  obtain ⟨hl,e⟩:=List.getElem?_eq_some_iff.1 hb
  have hh:¬ R[i] <= Rat.divInt 1 2:=fun hc=>by
   by_cases ei:i = b
   ·subst ei; exact hx (e ▸ hc)
   ·have:=List.pairwise_iff_getElem.1 hs i b (by omega) hl (by omega)
    rw [e] at this
    exact hx (Rat.le_trans this hc)
  rw [jG (geE (by omega)),if_neg hh,kY hs hb hx i (by omega)]; omega
theorem gj {a b c d:Int} (hb:0 < b) (hd:0 < d) (h:a * d <= c * b):Rat.divInt a b <= Rat.divInt c d:=by
 rw [Rat.le_iff]
 have h1:=gt (a:=a) (b:=b) (by omega)
 have h2:=gt (a:=c) (b:=d) (by omega)
 have p1:0 < ((Rat.divInt a b).den:Int):=by have:=(Rat.divInt a b).den_pos; omega
 have p2:0 < ((Rat.divInt c d).den:Int):=by have:=(Rat.divInt c d).den_pos; omega
 generalize (Rat.divInt a b).num = x at *
 generalize ((Rat.divInt a b).den:Int) = x' at *
 generalize (Rat.divInt c d).num = y at *
 generalize ((Rat.divInt c d).den:Int) = y' at *
 refine Int.le_of_mul_le_mul_right (a:=b * d) ?_ (Int.mul_pos hb hd)
 have e1:x * y' * (b * d) = a * d * (x' * y'):=by grind
 have e2:y * x' * (b * d) = c * b * (x' * y'):=by grind
 rw [e1,e2]
 exact Int.mul_le_mul_of_nonneg_right h (Int.le_of_lt (Int.mul_pos p1 p2))
theorem jO {a s:Int} (hs:0 < s):Rat.divInt a s <= Rat.divInt 1 2 ↔ 2 * a <= s:=by
 constructor
 ·intro h
  refine Classical.byContradiction fun hc=>?_
  have h2:=gj (a:=1) (b:=2) (c:=a) (d:=s) (by decide) hs (by omega)
  have:=(Rat.divInt_eq_divInt_iff (by omega) (by decide)).1 (Rat.le_antisymm h h2)
  omega
 ·intro h
  exact gj hs (by decide) (by omega)
def wn (D:List (Int × Int)):Nat:=(D.filter fun e=>decide (e.2 < e.1)).length
theorem wn_qs:∀ {D:List (Int × Int)},Dl D -> ((qs D).filter fun x=>!decide (x <= Rat.divInt 1 2)).length = wn D:=fun {D} hD=>by
 unfold qs wn
 rw [List.filter_map,List.length_map]
 congr 1
 refine List.filter_congr fun e he=>?_
 have hb:=hD.b e he
 show (!decide (qe e <= Rat.divInt 1 2)) = _
 unfold qe
 by_cases hc:e.2 < e.1
 ·rw [decide_eq_true hc,decide_eq_false fun h=>by have:=(jO (by omega)).1 h; omega]; rfl
 ·rw [decide_eq_false hc,decide_eq_true ((jO (by omega)).2 (by omega))]; rfl
theorem cg_wn {D:List (Int × Int)} (hD:Dl D) {q:List Rat} (hp:q.Perm (qs D)):cg q.reverse q.reverse.length = ((wn D:Nat):Int):=by
 unfold cg
 rw [List.take_length,((List.reverse_perm q).trans hp |>.filter _).length_eq,wn_qs hD]
theorem dw_next (vs:List (List Int)) {i:Nat} (hi:i < vs.length) (h0:0 <= at0 vs[i] 0) (h1:0 <= at0 vs[i] 1):((dl 0 1 (vs.take (i + 1))).length:Int) = (dl 0 1 (vs.take i)).length + (if 0 < at0 vs[i] 0 + at0 vs[i] 1 then 1 else 0)/\((wn (dl 0 1 (vs.take (i + 1))):Nat):Int) = wn (dl 0 1 (vs.take i)) + (if at0 vs[i] 1 < at0 vs[i] 0 then 1 else 0):=by
 rw [jp 0 1 vs hi]
 by_cases h:at0 vs[i] 0 = 0/\at0 vs[i] 1 = 0
 ·rw [if_pos h,if_neg (by omega),if_neg (by omega)]; simp
 ·rw [if_neg h,if_pos (by omega)]
  refine ⟨by simp,?_⟩
  unfold wn
  rw [List.filter_append,List.length_append]
  by_cases hc:at0 vs[i] 1 < at0 vs[i] 0
  ·rw [if_pos hc,List.filter_cons_of_pos (by simpa using hc)]; simp
  ·rw [if_neg hc,List.filter_cons_of_neg (by simpa using hc)]; simp
theorem ib {x:Rat}:(Rat.divInt 1 2 - x).num.sign < 0 ↔ ¬ x <= Rat.divInt 1 2:=by
 rw [ju,Rat.le_iff_sub_nonneg,<- Rat.num_nonneg]
 omega
theorem iJ {x y:Rat} (h:¬ y <= x):sc (Rat.divInt 1 2 - y) (Rat.divInt 1 2 - x) < 0:=by
 rw [iX]
 intro hc
 rw [Rat.le_iff_sub_nonneg] at hc h
 have e:Rat.divInt 1 2 - y - (Rat.divInt 1 2 - x) = x - y:=by grind
 rw [e] at hc
 exact h hc
theorem gd_le {R:List Rat} {out:List Td} {n:Nat} (h:Gd R out n):out.length <= n/\n <= R.length:=by
 induction h with
 | nil=>exact ⟨Nat.le_refl _,Nat.zero_le _⟩
 | snoc h ab bn hx hy ih=>exact ⟨by rw [List.length_append]; simp only [leC,leN]; omega,bn⟩
theorem gd_take {R:List Rat} {out:List Td} {n:Nat} (h:Gd R out n):∀ j ≤ out.length,∃ a,Gd R (out.take j) a/\(j = out.length -> a = n):=by
 induction h with
 | nil=>intro j hj; exact ⟨0,by rw [List.take_nil]; exact .nil,fun _=>rfl⟩
 | @snoc out a b x h ab bn hx hy ih=>
  intro j hj
  rw [List.length_append,List.length_singleton] at hj
  by_cases hc:j = out.length + 1
  ·refine ⟨b,?_,fun _=>rfl⟩
   rw [List.take_of_length_le (by rw [List.length_append,List.length_singleton]; omega)]
   exact .snoc h ab bn hx hy
  ·obtain ⟨c,h1,_⟩:=ih j (by omega)
   refine ⟨c,?_,fun e=>?_⟩
   ·rw [List.take_append_of_le_length (by omega)]; exact h1
   ·rw [List.length_append,List.length_singleton] at e; omega
theorem gd_step {R:List Rat} {out:List Td} {n:Nat} (h:Gd R out n) {j:Nat} (hj:j < out.length):∃ a b x,Gd R (out.take j) a/\a < b/\b <= R.length/\(∀ k,a <= k -> k < b -> R[k]? = some x)/\(∀ y,0 < a -> R[a - 1]? = some y -> ¬ y <= x)/\out[j] = ⟨Sg (Rat.divInt 1 2 - x),((b:Nat):Int),((b - a:Nat):Int)⟩/\Gd R (out.take (j + 1)) b:=by
 obtain ⟨b,h1,_⟩:=gd_take h (j + 1) (by omega)
 have h2:=h1
 rw [List.take_succ_eq_append_getElem hj] at h1
 generalize e:out.take j ++ [out[j]] = l at h1
 cases h1 with
 | nil=>exact absurd (congrArg List.length e) (by rw [List.length_append]; simp)
 | @snoc o a _ x g ab bn hx hy=>
  obtain ⟨e1,e2⟩:=List.append_inj' e rfl
  subst e1
  exact ⟨a,b,x,g,ab,bn,hx,hy,by simpa using e2,h2⟩
theorem gd_last {R:List Rat} {out:List Td} {n:Nat} (_h:Gd R out n) {j:Nat} (hj:j < out.length) {a:Nat} (g:Gd R (out.take j) a) (h0:0 < j):∃ y,0 < a/\R[a - 1]? = some y/\out[j - 1].fB = Sg (Rat.divInt 1 2 - y):=by
 have e:=List.take_succ_eq_append_getElem (l:=out) (i:=j - 1) (by omega)
 rw [show j - 1 + 1 = j by omega] at e
 rw [e] at g
 generalize e2:out.take (j - 1) ++ [out[j - 1]] = l at g
 cases g with
 | nil=>exact absurd (congrArg List.length e2) (by rw [List.length_append]; simp)
 | @snoc o c _ x g ab bn hx hy=>
  obtain ⟨_,e3⟩:=List.append_inj' e2 rfl
  have e4:=(List.cons.inj e3).1
  exact ⟨x,by omega,hx (a - 1) (by omega) (by omega),by rw [e4]⟩
theorem jF {R:List Rat} {out:List Td} {a b:Nat} (h:Gd R out a) (h' : Gd R out b):a = b:=by
 cases h with
 | nil=>
  generalize e:([]:List Td) = l at h'
  cases h' with
  | nil=>rfl
  | snoc=>exact absurd (congrArg List.length e) (by simp)
 | @snoc o c _ x g ab bn hx hy=>
  generalize e:o ++ [(⟨Sg (Rat.divInt 1 2 - x),((a:Nat):Int),((a - c:Nat):Int)⟩:Td)] = l at h'
  cases h' with
  | nil=>exact absurd (congrArg List.length e) (by simp)
  | snoc=>
   obtain ⟨_,e3⟩:=List.append_inj' e rfl
   have e4:=congrArg Td.fC (List.cons.inj e3).1
   simp only at e4
   omega
end Go.Proofs.YtibdeoeglcngoaaGreatDoor
namespace Go.Proofs.YtibdeoeglcngoaaGreatDoor
open Go
set_option maxRecDepth 8000
theorem votes_p {r:Tf} {us:List Tc} {p:List Int} {k P:Nat} (h:Cn r us p k P) (ho:aV_p FU r p (k:Int) = some (.ok ⟨r,p,(k:Int)⟩)):co_p FU r p (k:Int) = some (vts us p P k us.length,0):=by
 unfold co_p ce_p
 rw [ho,aa,exO,ix h,aa,aa,exO]
end Go.Proofs.YtibdeoeglcngoaaGreatDoor
namespace Go.Proofs.YtibdeoeglcngoaaGreatDoor
open Go
set_option maxRecDepth 8000
theorem signG {q:Rat} (h:FQ q):ct_p FU (Sg q) = some (q.num.sign,0):=by
 have hF:=eX
 unfold ct_p cq_p
 rw [gN FU q q h h hF,aa,if_pos rfl,dN FU q h (by omega),aa,aa,show (Rt q).fv = L q.num from rfl,eB,aa,aa]
theorem lD:bG_p FU = some true:=by kernel_rfl
theorem full_ok (n:Nat) (d:Ti) (m:Nat) (h1:1 <= m) (h2:m <= 9) (hn:200 < n):∃ r us,aS_p n d m = some r/\us.length = m/\RollOk r us/\r.fh = 2/\r.fc = 3/\r.fe = 2:=by
 obtain ⟨r,us,e,h,h', a,b,c⟩:=kP n ⟨2,3,2,d.ft,d.fNums⟩ m h1 h2 hn
 refine ⟨r,us,?_,h,h', a,b,c⟩
 unfold aS_p
 rw [e,aa]
theorem wn_le (D:List (Int × Int)):wn D <= D.length:=List.length_filter_le _ _
theorem je {vs:List (List Int)} {k:Nat} (hV:Vs k 3 vs):ao (ac_l2 FU (vs,0)) FU (0,0,0) = some (.inr (((dl 0 1 vs).length:Int),((wn (dl 0 1 vs):Nat):Int))):=by
 have hF:=bg
 have hl:=hV.t.1
 have h8:=hV.k8
 have hh:=aw (B:=ac_l2 FU (vs,0)) (fun s:Int × Int × Nat=>vs.length - s.2.2) (fun s=>s.2.2 <= vs.length/\s.1 = ((dl 0 1 (vs.take s.2.2)).length:Int)/\s.2.1 = ((wn (dl 0 1 (vs.take s.2.2)):Nat):Int)) (fun y=>y = .inr (((dl 0 1 vs).length:Int),((wn (dl 0 1 vs):Nat):Int))) ?_ FU (0,0,0) ⟨Nat.zero_le _,by simp [dl],by simp [dl,wn]⟩ (by simp only; omega)
 ·obtain ⟨y,e,rfl⟩:=hh; exact e
 ·rintro ⟨a,m,i⟩ J ⟨a1,a2,a3⟩ hJ
  simp only at a1 a2 a3 hJ
  unfold ac_l2 jn
  simp only
  by_cases hi:i < vs.length
  ·have hv3:=hV.t.2 _ (List.getElem_mem hi)
   obtain ⟨h0,x0,x1,x2⟩:=hV.at hi (show 0 < 3 by decide)
   obtain ⟨h1,y0,y1,y2⟩:=hV.at hi (show 1 < 3 by decide)
   obtain ⟨n1,n2⟩:=dw_next vs hi x1 y1
   have b1:=iQ 0 1 (vs.take i)
   have b2:=wn_le (dl 0 1 (vs.take i))
   rw [List.length_take] at b1
   rw [if_pos hi,geE hi,aa,if_pos hv3,geE h0,aa,geE h1,aa,x0,y0]
   generalize at0 vs[i] 0 = x at *
   generalize at0 vs[i] 1 = y at *
   rw [aK (x:=x + y) (by omega) (by omega),aa]
   have nx:∀ a' m', a' = a + (if 0 < x + y then 1 else 0) -> m' = m + (if y < x then 1 else 0) -> ∃ r,J (a', m', i + 1) = some r/\r = .inr (((dl 0 1 vs).length:Int),((wn (dl 0 1 vs):Nat):Int)):=fun a' m' e1 e2=>hJ (a', m', i + 1) ⟨hi,by simp only; omega,by simp only; omega⟩ (by simp only; omega)
   by_cases c1:0 < x + y
   ·rw [if_pos c1] at nx ⊢
    rw [aK (by omega) (by omega),aa]
    by_cases c2:y < x
    ·rw [if_pos c2] at nx ⊢
     rw [aK (by omega) (by omega),aa]
     exact nx _ _ rfl rfl
    ·rw [if_neg c2] at nx ⊢
     exact nx _ _ rfl (by omega)
   ·rw [if_neg c1] at nx ⊢
    by_cases c2:y < x
    ·rw [if_pos c2] at nx ⊢
     rw [aK (by omega) (by omega),aa]
     exact nx _ _ (by omega) rfl
    ·rw [if_neg c2] at nx ⊢
     exact nx _ _ (by omega) (by omega)
  ·rw [if_neg hi]
   refine ⟨_,rfl,?_⟩
   rw [a2,a3,List.take_of_length_le (by omega)]
theorem iR {R:List Rat} (h:Sl R) (hs:R.Pairwise fun a b=>b <= a) {out:List Td} {n:Nat} (g:Gd R out n):ao (ac_l1 FU (out,0)) FU (0,0,0) = some (.inr ((n:Int),cg R n)):=by
 have hF:=bg
 have h8:=h.n8
 obtain ⟨l1,l2⟩:=gd_le g
 have hh:=aw (B:=ac_l1 FU (out,0)) (fun s:Int × Int × Nat=>out.length - s.2.2) (fun s=>s.2.2 <= out.length/\∃ a:Nat,Gd R (out.take s.2.2) a/\s.1 = (a:Int)/\s.2.1 = cg R a) (fun y=>y = .inr ((n:Int),cg R n)) ?_ FU (0,0,0) ⟨Nat.zero_le _,0,by rw [List.take_zero]; exact .nil,rfl,rfl⟩ (by simp only; omega)
 ·obtain ⟨y,e,rfl⟩:=hh; exact e
 ·rintro ⟨z,m,i⟩ J ⟨a1,a,ga,a2,a3⟩ hJ
  simp only at a1 ga a2 a3 hJ
  unfold ac_l1 jn
  simp only
  by_cases hi:i < out.length
  ·obtain ⟨a', b,x,ga', ab,bn,hx,hy,eo,gb⟩:=gd_step g hi
   have ea:=jF ga ga'
   subst ea
   have hxb:=hx (b - 1) (by omega) (by omega)
   have hxm:x ∈ R:=List.mem_of_getElem? hxb
   have fx:=ij h hxm
   rw [if_pos hi,geE hi,aa,eo]
   simp only
   rw [signG fx,aa,if_pos rfl,if_neg (by omega),aK (by omega) (by omega),aa,if_pos (by omega)]
   simp only
   have nx:∃ r,(if (Rat.divInt 1 2 - x).num.sign < 0 then J ((b:Int),(b:Int),i + 1) else J ((b:Int),m,i + 1)) = some r/\r = .inr ((n:Int),cg R n):=by
    by_cases c:(Rat.divInt 1 2 - x).num.sign < 0
    ·rw [if_pos c]
     exact hJ _ ⟨hi,b,gb,rfl,by simp only; rw [kY hs hxb (ib.1 c) b (by omega)]⟩ (by simp only; omega)
    ·rw [if_neg c]
     have hle:x <= Rat.divInt 1 2:=Classical.byContradiction fun hc=>c (ib.2 hc)
     exact hJ _ ⟨hi,b,gb,rfl,by simp only; rw [a3,jq hle b (by omega) hx]⟩ (by simp only; omega)
   by_cases c0:0 < i
   ·obtain ⟨y,ha0,hya,eat⟩:=gd_last g hi ga c0
    have hl:i - 1 < out.length:=by omega
    have hym:y ∈ R:=List.mem_of_getElem? hya
    have hc:=iJ (hy y ha0 hya)
    unfold sc at hc
    rw [if_pos c0,geE hl,aa,eat,cmpG (ij h hym) fx,aa,if_pos rfl,if_neg (by simp only; omega)]
    exact nx
   ·rw [if_neg c0]
    exact nx
  ·rw [if_neg hi]
   refine ⟨_,rfl,?_⟩
   rw [List.take_of_length_le (by omega)] at ga
   rw [a2,a3,jF ga g]
theorem eM (a0:Tj) (a1:Ti):ac_p FU a0 a1 = some true:=by
 have hF:=bg
 obtain ⟨p,k,e0,p1,p2,hp,k1,k2⟩:=kK FU a0 (by omega)
 obtain ⟨r,us,e1,hus,hr,hG,hP,hL⟩:=full_ok FU a1 p.length p1 p2 (by omega)
 obtain ⟨k,rfl⟩:∃ j:Nat,k = (j:Int):=⟨k.toNat,by omega⟩
 have h:Cn r us p k 3:=cn_of hr hus.symm hp (by omega) (by omega) hP
 have ho:=kx hr h
 have q1:=votes_p h ho
 have q3:aQ_p FU r p (k:Int) 0 1 = _:=duels_p h ho (a:=0) (b:=1) (by decide) (by decide) (by decide)
 have hV:=h.vs
 generalize vts us p 3 k us.length = vs at *
 have hl:=hV.t.1
 have h8:=hV.k8
 have hD:=dl_in hV (a:=0) (b:=1) (by decide) (by decide)
 have e2:=je hV
 unfold ac_p
 rw [lD,aa,if_pos rfl,e0,aa]
 simp only
 rw [e1,aa,q1,aa]
 by_cases h0:(dl 0 1 vs).length = 0
 ·rw [if_pos h0] at q3
  have s1:ah_p FU r p (k:Int) 0 1 = some (.error ⟨7⟩):=by
   unfold ah_p
   rw [q3,aa,exE]
  have s2:bF_p FU r p (k:Int) 0 1 = some ([],7):=by
   unfold bF_p az_p
   rw [s1,aa,exE,aa,exE]
  rw [s2,aa,if_pos rfl,if_pos (by show ((vs.length:Nat):Int) = _; omega),e2,lc]
  simp only
  rw [if_pos (by omega)]
  rfl
 ·rw [if_neg h0] at q3
  obtain ⟨q,u1,u2,u3⟩:=kg hD q3
  have hS:=sl_of hD (by omega) u2
  have hn:=u2.length_eq
  unfold qs at hn
  rw [List.length_map] at hn
  have hs:(q.reverse).Pairwise fun a b=>b <= a:=List.pairwise_reverse.2 u3
  have g:=gd_sw hS.rev hs q.reverse.length (Nat.le_refl _)
  have e3:=iR hS.rev hs g
  have e4:=cg_wn hD u2
  rw [ku hS u1,aa,if_pos rfl,if_pos (by show ((vs.length:Nat):Int) = _; omega),e2,lc]
  simp only
  rw [List.length_reverse] at e3 e4
  rw [if_neg (by omega),e3,lc]
  simp only
  rw [if_pos trivial,if_pos (by omega),e4]
  exact congrArg some (decide_eq_true rfl)
theorem fI (a0:Tj) (a1:Ti):∃ n,ac_p n a0 a1 = some true:=⟨FU,eM a0 a1⟩
end Go.Proofs.YtibdeoeglcngoaaGreatDoor
