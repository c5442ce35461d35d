/- Plain laws: words, their value, and integers of any length: sum, difference, product. No program in sight but the printed functions. -/
import Derived.Test.YtgejkdheojkfiaaGreatDoorPA9
namespace Go.Proofs.YtgejkdheojkfiaaGreatDoor
open Go
theorem obind {α β:Type} (x:α) (f:α -> Option β):(some x).bind f = f x:=Eq.trans (Eq.refl _) (Eq.refl _)
theorem loopF_succ {α β:Type} (B:(α -> Option β) -> α -> Option β) (n:Nat) (s:α):loopF B (n + 1) s = B (loopF B n) s:=rfl
theorem loop_ok {α β:Type} {B:(α -> Option β) -> α -> Option β} (m:α -> Nat) (I:α -> Prop) (Q:β -> Prop)
    (step:∀ s J,I s -> (∀ s', I s' -> m s' < m s -> ∃ r,J s' = some r/\Q r) -> ∃ r,B J s = some r/\Q r):∀ n s,I s -> m s < n -> ∃ r,loopF B n s = some r/\Q r:=by
  intro n
  induction n with
  | zero=>intro s _ h; omega
  | succ n ih=>intro s hI h; exact step s (loopF B n) hI fun s' h1 h2=>ih s' h1 (by omega)
theorem chkI {x:Int} (h1:-9223372036854775808 <= x) (h2:x <= 9223372036854775807):chk x = some x:=if_pos ⟨h1,h2⟩
theorem idx_ok {α:Type} {xs:List α} {i:Int} (h0:0 <= i) (h:i.toNat < xs.length):idx xs i = some xs[i.toNat]:=by unfold idx; rw [if_pos h0,List.getElem?_eq_getElem h]
theorem put_ok {α:Type} {xs:List α} {i:Nat} (x:α) (h:i < xs.length):put xs (i:Int) x = some (xs.set i x):=by
  unfold put; rw [if_pos ⟨Int.natCast_nonneg _,by omega⟩]; rfl
theorem cut_ok {α:Type} {xs:List α} {z:Nat} (h:z <= xs.length):cut xs 0 (z:Int) = some (xs.take z):=by
  unfold cut; rw [if_pos ⟨Int.le_refl _,Int.natCast_nonneg _,by omega⟩]; rfl
theorem mk_ok {α:Type} (n:Nat) (x:α) (h:n <= 4294967296):mk (n:Int) x = some (List.replicate n x):=by
  unfold mk; rw [if_pos ⟨Int.natCast_nonneg _,by omega⟩]; rfl
def val:List UInt64 -> Nat
  | []=>0
  | x :: xs=>x.toNat + 18446744073709551616 * val xs
theorem val_app (xs ys:List UInt64):val (xs ++ ys) = val xs + 18446744073709551616 ^ xs.length * val ys:=by
  induction xs with
  | nil=>simp [val]
  | cons x xs ih=>simp only [List.cons_append,val,ih,List.length_cons,Nat.pow_succ]; grind
theorem val_lt (xs:List UInt64):val xs < 18446744073709551616 ^ xs.length:=by
  induction xs with
  | nil=>simp [val]
  | cons x xs ih=>
    have:=x.toNat_lt
    have h2:18446744073709551616 * (val xs + 1) <= 18446744073709551616 * 18446744073709551616 ^ xs.length:=Nat.mul_le_mul_left _ ih
    simp only [val,List.length_cons,Nat.pow_succ]
    rw [Nat.mul_comm (_ ^ _)]
    omega
theorem val_take (a:List UInt64) {i:Nat} (h:i < a.length):val (a.take (i + 1)) = val (a.take i) + 18446744073709551616 ^ i * a[i].toNat:=by
  rw [<- List.take_append_getElem h,val_app,List.length_take,Nat.min_eq_left (Nat.le_of_lt h)]
  simp [val]
theorem take_set {xs:List UInt64} {i:Nat} (s:UInt64) (h:i < xs.length):(xs.set i s).take (i + 1) = xs.take i ++ [s]:=by
  rw [<- List.take_append_getElem (by simpa using h),List.take_set_of_le (Nat.le_refl _)]
  simp
theorem val_set {xs:List UInt64} {i:Nat} (s:UInt64) (h:i < xs.length):val ((xs.set i s).take (i + 1)) = val (xs.take i) + 18446744073709551616 ^ i * s.toNat:=by
  rw [take_set s h,val_app,List.length_take,Nat.min_eq_left (Nat.le_of_lt h)]
  simp [val]
theorem val_zero:∀ (xs:List UInt64),(∀ x ∈ xs,x = 0) -> val xs = 0
  | [],_=>rfl
  | x :: xs,h=>by
    have h1:=h x (List.mem_cons_self ..)
    have h2:=val_zero xs fun y hy=>h y (List.mem_cons_of_mem _ hy)
    subst h1; simp [val,h2]
def dg (m:Nat):List UInt64:=if m = 0 then [] else UInt64.ofNat m :: dg (m / 18446744073709551616)
termination_by m
decreasing_by exact Nat.div_lt_self (by omega) (by omega)
theorem dg0:dg 0 = []:=by unfold dg; simp
theorem dg_ne {m:Nat} (h:m ≠ 0):dg m = UInt64.ofNat m :: dg (m / 18446744073709551616):=by rw [dg]; rw [if_neg h]
theorem val_dg (m:Nat):val (dg m) = m:=by
  induction m using Nat.strongRecOn with
  | _ m ih=>
    by_cases h:m = 0
    · subst h; rw [dg0]; rfl
    · rw [dg_ne h]; simp only [val]
      rw [ih _ (Nat.div_lt_self (by omega) (by omega)),UInt64.toNat_ofNat']
      exact Nat.mod_add_div m 18446744073709551616
def Nm (xs:List UInt64):Prop:=∀ x,xs.getLast? = some x -> x ≠ 0
theorem Nm.tail {x y:UInt64} {xs:List UInt64} (h:Nm (x :: y :: xs)):Nm (y :: xs):=fun z hz=>h z (by rw [List.getLast?_cons_cons]; exact hz)
theorem val_pos:∀ {xs:List UInt64},Nm xs -> xs ≠ [] -> 0 < val xs
  | [],_,h=>absurd rfl h
  | [x],h,_=>by
    have h1:=h x rfl
    have:x.toNat ≠ 0:=fun e=>h1 (UInt64.toNat_inj.1 (by simpa using e))
    simp only [val]; omega
  | x :: y :: xs,h,_=>by
    have:=val_pos h.tail (by simp)
    simp only [val] at this ⊢
    omega
theorem val_ge:∀ {xs:List UInt64},Nm xs -> xs ≠ [] -> 18446744073709551616 ^ (xs.length - 1) <= val xs
  | [],_,h=>absurd rfl h
  | [x],h,_=>by
    have h1:=val_pos h (by simp)
    show 18446744073709551616 ^ 0 <= _
    rw [Nat.pow_zero]; exact h1
  | x :: y :: xs,h,_=>by
    have h1:=val_ge h.tail (by simp)
    have h2:18446744073709551616 * 18446744073709551616 ^ xs.length <= 18446744073709551616 * val (y :: xs):=Nat.mul_le_mul_left _ (by simpa using h1)
    show 18446744073709551616 ^ (xs.length + 1) <= x.toNat + 18446744073709551616 * val (y :: xs)
    rw [Nat.pow_succ,Nat.mul_comm]; omega
theorem dg_val:∀ {xs:List UInt64},Nm xs -> dg (val xs) = xs
  | [],_=>dg0
  | x :: xs,h=>by
    have hp:=val_pos h (by simp)
    rw [dg_ne (by omega)]
    have hx:=x.toNat_lt
    have h1:UInt64.ofNat (val (x :: xs)) = x:=UInt64.toNat_inj.1 (by rw [UInt64.toNat_ofNat']; simp only [val]; omega)
    have h2:val (x :: xs) / 18446744073709551616 = val xs:=by simp only [val]; omega
    have h3:Nm xs:=by
      cases xs with
      | nil=>intro z hz; simp at hz
      | cons y ys=>exact h.tail
    rw [h1,h2,dg_val h3]
theorem dg_nm (m:Nat):Nm (dg m):=by
  induction m using Nat.strongRecOn with
  | _ m ih=>
    intro x hx
    by_cases h:m = 0
    · subst h; rw [dg0] at hx; cases hx
    · rw [dg_ne h] at hx
      by_cases h2:m / 18446744073709551616 = 0
      · rw [h2,dg0] at hx
        simp at hx
        intro e; subst e
        have:=congrArg UInt64.toNat hx
        rw [UInt64.toNat_ofNat'] at this
        simp at this; omega
      · have h3:=ih (m / 18446744073709551616) (Nat.div_lt_self (by omega) (by omega))
        rw [dg_ne h2] at hx h3
        rw [List.getLast?_cons_cons] at hx
        exact h3 x hx
theorem dg_len {m l:Nat} (h:m < 18446744073709551616 ^ l):(dg m).length <= l:=by
  by_cases h0:dg m = []
  · rw [h0]; simp
  · have h1:=val_ge (dg_nm m) h0
    rw [val_dg] at h1
    have h2:=Nat.lt_of_le_of_lt h1 h
    have h3:=(Nat.pow_lt_pow_iff_right (by omega)).1 h2
    omega
theorem trimmed_ok (n:Nat) (b:Bool) (ws:List UInt64) (hn:ws.length < n) (hl:ws.length <= 4294967296):ao_p n b ws = some ⟨b && decide (0 < val ws),dg (val ws)⟩:=by
  have h:=loop_ok (B:=ao_l1 n ws) (fun z:Int=>z.toNat) (fun z=>0 <= z/\z <= ws.length/\∀ i:Nat,z.toNat <= i -> ∀ h:i < ws.length,ws[i] = 0)
    (fun z=>∃ k:Nat,z = k/\k <= ws.length/\(∀ i:Nat,k <= i -> ∀ h:i < ws.length,ws[i] = 0)/\∀ h:0 < k,∀ h2:k - 1 < ws.length,ws[k - 1] ≠ 0) ?_ n (ws.length:Int) ⟨by omega,by omega,fun i h1 h2=>by omega⟩ (by simpa using hn)
  · obtain ⟨z,hz,k,rfl,hk,hz0,hz1⟩:=h
    have e:val ws = val (ws.take k):=by
      conv=>lhs; rw [<- List.take_append_drop k ws,val_app]
      rw [val_zero (ws.drop k) fun x hx=>?_]
      · simp
      · obtain ⟨i,hi,rfl⟩:=List.getElem_of_mem hx
        rw [List.getElem_drop]
        exact hz0 _ (by omega) _
    have hnm:Nm (ws.take k):=by
      intro x hx
      rw [List.getLast?_eq_getElem?,List.length_take,Nat.min_eq_left hk] at hx
      obtain ⟨h1,rfl⟩:=List.getElem?_eq_some_iff.1 hx
      have h2:k - 1 < ws.length:=by rw [List.length_take] at h1; omega
      by_cases h0:0 < k
      · rw [List.getElem_take]; exact hz1 h0 h2
      · rw [List.length_take] at h1; omega
    have e2:dg (val ws) = ws.take k:=by rw [e]; exact dg_val hnm
    have e3:decide (0 < val ws) = decide (0 < (k:Int)):=by
      rw [decide_eq_decide]
      constructor
      · intro h0
        by_cases hk0:k = 0
        · subst hk0; rw [e] at h0; simp [val] at h0
        · omega
      · intro h0; rw [e]; refine val_pos hnm fun h1=>?_
        have:=congrArg List.length h1
        rw [List.length_take,List.length_nil] at this; omega
    unfold ao_p jn
    simp only [hz,obind,cut_ok hk]
    cases b
    · simp [e2]
    · simp [e2,e3]
  · intro z J ⟨h1,h2,h3⟩ hJ
    unfold ao_l1
    simp only
    by_cases h0:0 < z
    · rw [if_pos h0,chkI (by omega) (by omega),obind,idx_ok (by omega) (by omega),obind]
      split
      · rename_i hx
        rw [obind]
        refine hJ (z - 1) ⟨by omega,by omega,fun i h4 h5=>?_⟩ (by omega)
        by_cases h6:i = (z - 1).toNat
        · subst h6; exact hx
        · exact h3 i (by omega) h5
      · rename_i hx
        refine ⟨z,rfl,z.toNat,by omega,by omega,h3,fun h4 h5=>?_⟩
        have:(z - 1).toNat = z.toNat - 1:=by omega
        simp only [this] at hx
        exact hx
    · rw [if_neg h0]
      exact ⟨z,rfl,0,by omega,by omega,fun i h4 h5=>h3 i (by omega) h5,fun h4=>by omega⟩
theorem add64_ok (x y c:UInt64) (h:c.toNat <= 1):∃ s d:UInt64,add64 x y c = some (s,d)/\s.toNat + 18446744073709551616 * d.toNat = x.toNat + y.toNat + c.toNat/\d.toNat <= 1:=by
  refine ⟨_,_,if_pos h,?_⟩
  have hx:=x.toNat_lt
  have hy:=y.toNat_lt
  rw [UInt64.toNat_ofNat', UInt64.toNat_ofNat']
  omega
theorem sub64_ok (x y c:UInt64) (h:c.toNat <= 1):∃ s d:UInt64,sub64 x y c = some (s,d)/\s.toNat + y.toNat + c.toNat = x.toNat + 18446744073709551616 * d.toNat/\d.toNat <= 1:=by
  refine ⟨_,_,if_pos h,?_⟩
  have hx:=x.toNat_lt
  have hy:=y.toNat_lt
  rw [UInt64.toNat_ofNat']
  split <;> simp <;> omega
theorem take_all {α:Type} {l:List α} {i:Nat} (h:l.length <= i):l.take i = l:=List.take_of_length_le h
theorem val_take2 (b:List UInt64) (i:Nat):val (b.take (i + 1)) = val (b.take i) + 18446744073709551616 ^ i * (b[i]?.getD 0).toNat:=by
  by_cases h:i < b.length
  · rw [val_take b h,List.getElem?_eq_getElem h]; rfl
  · rw [take_all (by omega),take_all (by omega),List.getElem?_eq_none (by omega)]; simp
theorem added_loop (n:Nat) (a b:List UInt64) (hb:b.length <= a.length) (hn:a.length < n):∃ xs u,loopF (cp_l1 n a b) n (0,0,List.replicate (a.length + 1) 0) = some (xs,u)/\xs.length = a.length + 1/\val (xs.take a.length) + 18446744073709551616 ^ a.length * u.toNat = val a + val b:=by
  have h:=loop_ok (B:=cp_l1 n a b) (fun s:UInt64 × Nat × List UInt64=>a.length - s.2.1) (fun s=>s.2.1 <= a.length/\s.2.2.length = a.length + 1/\s.1.toNat <= 1/\val (s.2.2.take s.2.1) + 18446744073709551616 ^ s.2.1 * s.1.toNat = val (a.take s.2.1) + val (b.take s.2.1))
    (fun r:List UInt64 × UInt64=>r.1.length = a.length + 1/\val (r.1.take a.length) + 18446744073709551616 ^ a.length * r.2.toNat = val a + val b) ?_ n (0,0,List.replicate (a.length + 1) 0) ⟨by simp,by simp,by simp,by simp [val]⟩ (by simpa using hn)
  · obtain ⟨⟨xs,u⟩,h1,h2,h3⟩:=h; exact ⟨xs,u,h1,h2,h3⟩
  · rintro ⟨u,i,xs⟩ J ⟨h1,h2,h3,h4⟩ hJ
    simp only at h1 h2 h3 h4 hJ
    unfold cp_l1
    simp only
    by_cases hi:i < a.length
    · rw [if_pos hi,List.getElem?_eq_getElem hi,obind]
      have key:∀ y:UInt64,y = b[i]?.getD 0 -> ∃ r,((add64 a[i] y u).bind fun z198=>(xs[i]?).bind fun x199=>(put xs ((i:Nat):Int) z198.1).bind fun xs212=>J (z198.2,i + 1,xs212)) = some r/\r.1.length = a.length + 1/\val (r.1.take a.length) + 18446744073709551616 ^ a.length * r.2.toNat = val a + val b:=by
        intro y hy
        obtain ⟨s,d,e1,e2,e3⟩:=add64_ok a[i] y u h3
        rw [e1,obind,List.getElem?_eq_getElem (by omega),obind,put_ok _ (by omega),obind]
        refine hJ (d,i + 1,xs.set i s) ⟨by show i + 1 <= _; omega,by simpa using h2,e3,?_⟩ (by simp only; omega)
        simp only
        rw [val_set s (by omega),val_take a hi,val_take2 b i,<- hy,Nat.pow_succ]
        grind
      unfold jn
      simp only
      by_cases hj:i < b.length
      · rw [if_pos hj,List.getElem?_eq_getElem hj,obind]; exact key _ (by rw [List.getElem?_eq_getElem hj]; rfl)
      · rw [if_neg hj]; exact key _ (by rw [List.getElem?_eq_none (by omega)]; rfl)
    · rw [if_neg hi]
      have:i = a.length:=by omega
      subst this
      refine ⟨_,rfl,h2,?_⟩
      simp only
      rw [h4,List.take_length,take_all hb]
theorem added_ok (n:Nat) (a b:List UInt64) (hn:a.length < n/\b.length < n) (hl:a.length < 4294967296/\b.length < 4294967296):∃ xs,cp_p n a b = some xs/\xs.length <= max a.length b.length + 1/\val xs = val a + val b:=by
  have key:∀ a b:List UInt64,b.length <= a.length -> a.length < n -> a.length < 4294967296 -> ∃ xs,((mk ((a.length + 1:Nat):Int) (0:UInt64)).bind fun xs17=>Option.bind (loopF (cp_l1 n a b) n ((0:UInt64),0,xs17)) (fun (xs157,u155)=>(xs157[a.length]?).bind fun x229=>(put xs157 ((a.length:Nat):Int) u155).bind fun xs241=>some xs241)) = some xs/\xs.length = a.length + 1/\val xs = val a + val b:=by
    intro a b hb h1 h2
    obtain ⟨xs,u,e1,e2,e3⟩:=added_loop n a b hb h1
    rw [mk_ok _ _ (by omega),obind,e1,obind]
    simp only
    rw [List.getElem?_eq_getElem (by omega),obind,put_ok _ (by omega),obind]
    refine ⟨_,rfl,by simpa using e2,?_⟩
    rw [<- e3]
    conv=>lhs; rw [<- take_all (l:=xs.set a.length u) (i:=a.length + 1) (by simp [e2])]
    exact val_set u (by omega)
  unfold cp_p jn
  simp only
  by_cases h:a.length < b.length
  · rw [if_pos h]
    obtain ⟨xs,e1,e2,e3⟩:=key b a (by omega) hn.2 hl.2
    exact ⟨xs,e1,by omega,by omega⟩
  · rw [if_neg h]
    obtain ⟨xs,e1,e2,e3⟩:=key a b (by omega) hn.1 hl.1
    exact ⟨xs,e1,by omega,e3⟩
theorem taken_ok (n:Nat) (a b:List UInt64) (hb:b.length <= a.length) (hv:val b <= val a) (hn:a.length < n) (hl:a.length < 4294967296):∃ xs,ca_p n a b = some xs/\xs.length = a.length/\val xs = val a - val b:=by
  have h:=loop_ok (B:=ca_l1 n a b) (fun s:UInt64 × Nat × List UInt64=>a.length - s.2.1) (fun s=>s.2.1 <= a.length/\s.2.2.length = a.length/\s.1.toNat <= 1/\val (s.2.2.take s.2.1) + val (b.take s.2.1) = val (a.take s.2.1) + 18446744073709551616 ^ s.2.1 * s.1.toNat)
    (fun r:List UInt64=>r.length = a.length/\val r = val a - val b) ?_ n (0,0,List.replicate a.length 0) ⟨by simp,by simp,by simp,by simp [val]⟩ (by simpa using hn)
  · obtain ⟨xs,h1,h2,h3⟩:=h
    refine ⟨xs,?_,h2,h3⟩
    unfold ca_p
    rw [mk_ok _ _ (by omega),obind,h1,obind]
  · rintro ⟨u,i,xs⟩ J ⟨h1,h2,h3,h4⟩ hJ
    simp only at h1 h2 h3 h4 hJ
    unfold ca_l1
    simp only
    by_cases hi:i < a.length
    · rw [if_pos hi,List.getElem?_eq_getElem hi,obind]
      have key:∀ y:UInt64,y = b[i]?.getD 0 -> ∃ r,((sub64 a[i] y u).bind fun z184=>(xs[i]?).bind fun x185=>(put xs ((i:Nat):Int) z184.1).bind fun xs198=>J (z184.2,i + 1,xs198)) = some r/\r.length = a.length/\val r = val a - val b:=by
        intro y hy
        obtain ⟨s,d,e1,e2,e3⟩:=sub64_ok a[i] y u h3
        rw [e1,obind,List.getElem?_eq_getElem (by omega),obind,put_ok _ (by omega),obind]
        refine hJ (d,i + 1,xs.set i s) ⟨by show i + 1 <= _; omega,by simpa using h2,e3,?_⟩ (by simp only; omega)
        simp only
        rw [val_set s (by omega),val_take a hi,val_take2 b i,<- hy,Nat.pow_succ]
        grind
      unfold jn
      simp only
      by_cases hj:i < b.length
      · rw [if_pos hj,List.getElem?_eq_getElem hj,obind]; exact key _ (by rw [List.getElem?_eq_getElem hj]; rfl)
      · rw [if_neg hj]; exact key _ (by rw [List.getElem?_eq_none (by omega)]; rfl)
    · rw [if_neg hi]
      have:i = a.length:=by omega
      subst this
      rw [List.take_length,take_all hb,take_all (by omega)] at h4
      refine ⟨xs,rfl,h2,?_⟩
      have h5:=val_lt xs
      rw [h2] at h5
      by_cases hu:u.toNat = 0
      · rw [hu] at h4; omega
      · have:u.toNat = 1:=by omega
        rw [this] at h4; omega
end Go.Proofs.YtgejkdheojkfiaaGreatDoor
/- Plain laws: words compared and multiplied; sum, difference and product of integers of any length. No program in sight but the printed functions. -/
namespace Go.Proofs.YtgejkdheojkfiaaGreatDoor
open Go
theorem val_split (a:List UInt64) {i:Nat} (h:i < a.length):val a = val (a.take i) + 18446744073709551616 ^ i * a[i].toNat + 18446744073709551616 ^ (i + 1) * val (a.drop (i + 1)):=by
  conv=>lhs; rw [<- List.take_append_drop (i + 1) a,val_app]
  rw [val_take a h,List.length_take,Nat.min_eq_left (by omega)]
theorem len_lt {a b:List UInt64} (hb:Nm b) (h:a.length < b.length):val a < val b:=by
  have h1:=val_lt a
  have h2:=val_ge hb (by intro e; rw [e] at h; simp at h)
  have h3:18446744073709551616 ^ a.length <= 18446744073709551616 ^ (b.length - 1):=Nat.pow_le_pow_right (by omega) (by omega)
  omega
theorem word_lt {a b:List UInt64} {i:Nat} (ha:i < a.length) (hb:i < b.length) (hd:a.drop (i + 1) = b.drop (i + 1)) (h:a[i] < b[i]):val a < val b:=by
  rw [val_split a ha,val_split b hb,hd]
  have h1:=val_lt (a.take i)
  rw [List.length_take,Nat.min_eq_left (by omega)] at h1
  have h2:18446744073709551616 ^ i * (a[i].toNat + 1) <= 18446744073709551616 ^ i * b[i].toNat:=Nat.mul_le_mul_left _ (UInt64.lt_iff_toNat_lt.1 h)
  rw [Nat.mul_add] at h2
  omega
theorem compared_ok (n:Nat) (a b:List UInt64) (ha:Nm a) (hb:Nm b) (hn:a.length < n) (hl:a.length < 4294967296):∃ c,bJ_p n a b = some c/\(c < 0 ↔ val a < val b)/\(c = 0 ↔ val a = val b):=by
  unfold bJ_p
  by_cases h:a.length = b.length
  · rw [if_pos h]
    have hh:=loop_ok (B:=bJ_l1 n a b) (fun z:Int=>(z + 1).toNat) (fun z=>-1 <= z/\z < a.length/\a.drop (z + 1).toNat = b.drop (z + 1).toNat)
      (fun r=>(r = .inl (-1)/\val a < val b) ∨ (r = .inl 1/\val b < val a) ∨ (r = .inr ()/\a = b)) ?_ n ((a.length:Int) - 1) ⟨by omega,by omega,?_⟩ (by omega)
    · obtain ⟨r,hr,h1 | h1 | h1⟩:=hh
      · rw [hr,h1.1]; exact ⟨_,rfl,by have:=h1.2; omega,by have:=h1.2; omega⟩
      · rw [hr,h1.1]; exact ⟨_,rfl,by have:=h1.2; omega,by have:=h1.2; omega⟩
      · rw [hr,h1.1,h1.2]; exact ⟨_,rfl,by omega,by omega⟩
    · intro z J ⟨h1,h2,h3⟩ hJ
      unfold bJ_l1
      simp only
      by_cases h0:0 <= z
      · have e1:(z + 1).toNat = z.toNat + 1:=by omega
        rw [e1] at h3
        rw [if_pos h0,idx_ok h0 (by omega),obind,idx_ok h0 (by omega),obind]
        split
        · rename_i hlt; exact ⟨_,rfl,.inl ⟨rfl,word_lt (by omega) (by omega) h3 hlt⟩⟩
        · rename_i h4
          split
          · rename_i hlt; exact ⟨_,rfl,.inr (.inl ⟨rfl,word_lt (by omega) (by omega) h3.symm hlt⟩)⟩
          · rename_i h5
            have he:a[z.toNat]'(by omega) = b[z.toNat]'(by omega):=UInt64.toNat_inj.1 (by rw [UInt64.lt_iff_toNat_lt] at h4 h5; omega)
            rw [chkI (by omega) (by omega),obind]
            refine hJ (z - 1) ⟨by omega,by omega,?_⟩ (by omega)
            rw [show (z - 1 + 1).toNat = z.toNat by omega,List.drop_eq_getElem_cons (by omega),List.drop_eq_getElem_cons (l:=b) (by omega),h3,he]
      · rw [if_neg h0]
        have e1:(z + 1).toNat = 0:=by omega
        rw [e1] at h3
        exact ⟨_,rfl,.inr (.inr ⟨rfl,by simpa using h3⟩)⟩
    · rw [show ((a.length:Int) - 1 + 1).toNat = a.length by omega,List.drop_length,h,List.drop_length]
  · rw [if_neg h]
    refine ⟨_,rfl,?_⟩
    by_cases h1:a.length < b.length
    · have:=len_lt hb h1; omega
    · have:=len_lt (a:=b) ha (by omega); omega
theorem shr32n (a:UInt64):(shrU a 32).toNat = a.toNat / 4294967296:=by
  unfold shrU; rw [if_pos (by decide),UInt64.toNat_ofNat']
  have:=a.toNat_lt
  omega
theorem and32 (a:UInt64):(a &&& (4294967295:UInt64)).toNat = a.toNat % 4294967296:=by
  rw [UInt64.toNat_and]; exact Nat.and_two_pow_sub_one_eq_mod a.toNat 32
theorem mul64_nat (x1 x0 y1 y0:Nat) (h1:x1 < 4294967296) (h2:x0 < 4294967296) (h3:y1 < 4294967296) (h4:y0 < 4294967296) :
    ((x1 * y0 + x0 * y0 / 4294967296) < 18446744073709551616)/\((x1 * y0 + x0 * y0 / 4294967296) % 4294967296 + x0 * y1 < 18446744073709551616)/\
    x1 * y1 + (x1 * y0 + x0 * y0 / 4294967296) / 4294967296 + ((x1 * y0 + x0 * y0 / 4294967296) % 4294967296 + x0 * y1) / 4294967296 < 18446744073709551616/\
    (((x1 * 4294967296 + x0) * (y1 * 4294967296 + y0)) % 18446744073709551616) + 18446744073709551616 * (x1 * y1 + (x1 * y0 + x0 * y0 / 4294967296) / 4294967296 + ((x1 * y0 + x0 * y0 / 4294967296) % 4294967296 + x0 * y1) / 4294967296) = (x1 * 4294967296 + x0) * (y1 * 4294967296 + y0):=by
  have e:(x1 * 4294967296 + x0) * (y1 * 4294967296 + y0) = 18446744073709551616 * (x1 * y1) + 4294967296 * (x1 * y0 + x0 * y1) + x0 * y0:=by grind
  have b1:x1 * y1 <= 4294967295 * 4294967295:=Nat.mul_le_mul (by omega) (by omega)
  have b2:x1 * y0 <= 4294967295 * 4294967295:=Nat.mul_le_mul (by omega) (by omega)
  have b3:x0 * y1 <= 4294967295 * 4294967295:=Nat.mul_le_mul (by omega) (by omega)
  have b4:x0 * y0 <= 4294967295 * 4294967295:=Nat.mul_le_mul (by omega) (by omega)
  rw [e]
  generalize x1 * y1 = s at *
  generalize x1 * y0 = q at *
  generalize x0 * y1 = r at *
  generalize x0 * y0 = p at *
  clear e h1 h2 h3 h4
  refine ⟨by omega,by omega,by omega,by omega⟩
theorem mul64_ok (n:Nat) (x y:UInt64):∃ hi lo,cK_p n x y = some (hi,lo)/\lo.toNat + 18446744073709551616 * hi.toNat = x.toNat * y.toNat:=by
  refine ⟨_,_,rfl,?_⟩
  have hx:=x.toNat_lt
  have hy:=y.toNat_lt
  have ex:x.toNat = x.toNat / 4294967296 * 4294967296 + x.toNat % 4294967296:=by omega
  have ey:y.toNat = y.toNat / 4294967296 * 4294967296 + y.toNat % 4294967296:=by omega
  obtain ⟨h1,h2,h3,h4⟩:=mul64_nat (x.toNat / 4294967296) (x.toNat % 4294967296) (y.toNat / 4294967296) (y.toNat % 4294967296) (by omega) (by omega) (by omega) (by omega)
  rw [<- ex,<- ey] at h4
  have b1:x.toNat / 4294967296 * (y.toNat / 4294967296) < 18446744073709551616:=by omega
  have b2:x.toNat / 4294967296 * (y.toNat % 4294967296) < 18446744073709551616:=by omega
  have b3:x.toNat % 4294967296 * (y.toNat / 4294967296) < 18446744073709551616:=by omega
  have b4:x.toNat % 4294967296 * (y.toNat % 4294967296) < 18446744073709551616:=by
    have:x.toNat % 4294967296 * (y.toNat % 4294967296) <= 4294967295 * 4294967295:=Nat.mul_le_mul (by omega) (by omega)
    omega
  simp only [UInt64.toNat_add,UInt64.toNat_mul,shr32n,and32,show (2:Nat) ^ 64 = 18446744073709551616 from rfl]
  rw [Nat.mod_eq_of_lt b1,Nat.mod_eq_of_lt b2,Nat.mod_eq_of_lt b3,Nat.mod_eq_of_lt b4,Nat.mod_eq_of_lt h1,Nat.mod_eq_of_lt h2]
  rw [Nat.mod_eq_of_lt (a:=x.toNat / 4294967296 * (y.toNat / 4294967296) + _) (by omega),Nat.mod_eq_of_lt h3]
  exact h4
theorem mult_in (n:Nat) (b:List UInt64) (x:UInt64) (i:Nat) (xs0:List UInt64) (hi:i + b.length < xs0.length) (hn:b.length < n) :
    ∃ xs u,loopF (aR_l1 n b x i) n (0,0,xs0) = some (xs,u)/\xs.length = xs0.length/\val (xs.take (i + b.length)) + 18446744073709551616 ^ (i + b.length) * u.toNat = val (xs0.take (i + b.length)) + x.toNat * val b * 18446744073709551616 ^ i:=by
  have h:=loop_ok (B:=aR_l1 n b x i) (fun s:UInt64 × Nat × List UInt64=>b.length - s.2.1) (fun s=>s.2.1 <= b.length/\s.2.2.length = xs0.length/\(∀ k,i + s.2.1 <= k -> s.2.2[k]? = xs0[k]?)/\val (s.2.2.take (i + s.2.1)) + 18446744073709551616 ^ (i + s.2.1) * s.1.toNat = val (xs0.take (i + s.2.1)) + x.toNat * val (b.take s.2.1) * 18446744073709551616 ^ i)
    (fun r:List UInt64 × UInt64=>r.1.length = xs0.length/\val (r.1.take (i + b.length)) + 18446744073709551616 ^ (i + b.length) * r.2.toNat = val (xs0.take (i + b.length)) + x.toNat * val b * 18446744073709551616 ^ i) ?_ n (0,0,xs0) ⟨by simp,rfl,fun _ _=>rfl,by simp [val]⟩ (by simpa using hn)
  · obtain ⟨⟨xs,u⟩,h1,h2,h3⟩:=h; exact ⟨xs,u,h1,h2,h3⟩
  · rintro ⟨u,j,xs⟩ J ⟨h1,h2,h3,h4⟩ hJ
    simp only at h1 h2 h3 h4 hJ
    unfold aR_l1
    simp only
    by_cases hj:j < b.length
    · obtain ⟨hi', lo,e1,e2⟩:=mul64_ok n x b[j]
      have hx0:xs[i + j]'(by omega) = xs0[i + j]'(by omega):=by
        have:=h3 (i + j) (by omega)
        rw [List.getElem?_eq_getElem (by omega),List.getElem?_eq_getElem (by omega)] at this
        exact Option.some.inj this
      rw [if_pos hj,List.getElem?_eq_getElem hj,obind,e1,obind,List.getElem?_eq_getElem (by omega),obind]
      obtain ⟨s,c,f1,f2,f3⟩:=add64_ok (xs[i + j]'(by omega)) lo 0 (by simp)
      obtain ⟨s', c', g1,g2,g3⟩:=add64_ok s u 0 (by simp)
      simp only [f1,obind,g1]
      rw [put_ok _ (by omega),obind]
      simp only [UInt64.toNat_zero,Nat.add_zero] at f2 g2
      have bx:x.toNat * b[j].toNat <= 18446744073709551615 * 18446744073709551615:=Nat.mul_le_mul (by have:=x.toNat_lt; omega) (by have:=b[j].toNat_lt; omega)
      have bo:=(xs[i + j]'(by omega)).toNat_lt
      have bu:=u.toNat_lt
      have e3:(hi' + c + c').toNat = hi'.toNat + c.toNat + c'.toNat:=by
        rw [UInt64.toNat_add,UInt64.toNat_add]; omega
      have e4:s'.toNat + 18446744073709551616 * (hi' + c + c').toNat = (xs[i + j]'(by omega)).toNat + x.toNat * b[j].toNat + u.toNat:=by rw [e3]; omega
      refine hJ (hi' + c + c', j + 1,xs.set (i + j) s') ⟨hj,by simpa using h2,fun k hk=>?_,?_⟩ (by simp only; omega)
      · simp only at hk ⊢
        rw [List.getElem?_set_ne (by omega)]; exact h3 k (by omega)
      · simp only
        rw [<- Nat.add_assoc,val_set s' (by omega),val_take xs0 (by omega),val_take b hj,<- hx0,Nat.pow_succ]
        rw [Nat.pow_add] at h4 ⊢
        grind
    · rw [if_neg hj]
      have:j = b.length:=by omega
      subst this
      refine ⟨_,rfl,h2,?_⟩
      simp only
      rw [h4,List.take_length]
theorem multiplied_ok (n:Nat) (a b:List UInt64) (hn:a.length < n/\b.length < n) (hl:a.length + b.length <= 4294967296):∃ xs,aR_p n a b = some xs/\xs.length = a.length + b.length/\val xs = val a * val b:=by
  have h:=loop_ok (B:=aR_l2 n a b) (fun s:Nat × List UInt64=>a.length - s.1) (fun s=>s.1 <= a.length/\s.2.length = a.length + b.length/\val (s.2.take (s.1 + b.length)) = val (a.take s.1) * val b)
    (fun r:List UInt64=>r.length = a.length + b.length/\val r = val a * val b) ?_ n (0,List.replicate (a.length + b.length) 0) ⟨by simp,by simp,?_⟩ (by simpa using hn.1)
  · obtain ⟨xs,h1,h2,h3⟩:=h
    refine ⟨xs,?_,h2,h3⟩
    unfold aR_p
    rw [mk_ok _ _ hl,obind,h1,obind]
  · rintro ⟨i,xs⟩ J ⟨h1,h2,h3⟩ hJ
    simp only at h1 h2 h3 hJ
    unfold aR_l2
    simp only
    by_cases hi:i < a.length
    · obtain ⟨ys,u,e1,e2,e3⟩:=mult_in n b a[i] i xs (by omega) hn.2
      rw [if_pos hi,List.getElem?_eq_getElem hi,obind,e1,obind]
      simp only
      rw [List.getElem?_eq_getElem (by omega),obind,put_ok _ (by omega),obind]
      refine hJ (i + 1,ys.set (i + b.length) u) ⟨hi,by simp; omega,?_⟩ (by simp only; omega)
      simp only
      rw [show i + 1 + b.length = i + b.length + 1 by omega,val_set u (by omega),val_take a hi,e3,h3]
      grind
    · rw [if_neg hi]
      have:i = a.length:=by omega
      subst this
      rw [List.take_length,take_all (by omega)] at h3
      exact ⟨xs,rfl,h2,h3⟩
  · simp only [List.take_zero,val,Nat.zero_mul]
    exact val_zero _ fun x hx=>(List.mem_replicate.1 (List.mem_of_mem_take hx)).2
def L (z:Int):Te:=⟨decide (z < 0),dg z.natAbs⟩
def Fit (l:Nat) (z:Int):Prop:=z.natAbs < 18446744073709551616 ^ l
theorem Fit.len {l:Nat} {z:Int} (h:Fit l z):(dg z.natAbs).length <= l:=dg_len h
def sg (s:Bool) (m:Nat):Int:=if s = true then -(m:Int) else m
theorem L_sg (s:Bool) (m:Nat):(⟨s && decide (0 < m),dg m⟩:Te) = L (sg s m):=by
  unfold L sg
  cases s
  · simp
  · simp
theorem sg_of (z:Int):z = sg (decide (z < 0)) z.natAbs:=by
  unfold sg; split <;> rename_i h <;> simp at h <;> omega
theorem sg_abs (s:Bool) (m:Nat):(sg s m).natAbs = m:=by unfold sg; split <;> omega
theorem turned_ok (n l:Nat) (z:Int) (h:Fit l z) (hn:l < n) (hl:l < 1000000):aW_p n (L z) = some (L (-z)):=by
  unfold aW_p
  have h1:=h.len
  rw [trimmed_ok n _ _ (by show (dg z.natAbs).length < n; omega) (by show (dg z.natAbs).length <= _; omega),obind]
  show some (⟨!decide (z < 0) && decide (0 < val (dg z.natAbs)),dg (val (dg z.natAbs))⟩:Te) = _
  rw [val_dg,L_sg]
  refine congrArg (fun x=>some (L x)) ?_
  unfold sg
  by_cases hz:z < 0 <;> simp [hz] <;> omega
theorem times_ok (n l m:Nat) (a b:Int) (ha:Fit l a) (hb:Fit m b) (hn:l + m < n) (hl:l + m < 1000000):aM_p n (L a) (L b) = some (L (a * b)):=by
  unfold aM_p
  have h1:=ha.len
  have h2:=hb.len
  obtain ⟨xs,e1,e2,e3⟩:=multiplied_ok n (L a).fm (L b).fm ⟨by show (dg a.natAbs).length < n; omega,by show (dg b.natAbs).length < n; omega⟩ (by show (dg a.natAbs).length + (dg b.natAbs).length <= _; omega)
  have e4:xs.length = (dg a.natAbs).length + (dg b.natAbs).length:=e2
  rw [e1,obind,trimmed_ok n _ _ (by omega) (by omega),obind,e3]
  show some (⟨!(decide (a < 0) == decide (b < 0)) && decide (0 < val (dg a.natAbs) * val (dg b.natAbs)),dg (val (dg a.natAbs) * val (dg b.natAbs))⟩:Te) = _
  rw [val_dg,val_dg,L_sg]
  refine congrArg (fun x=>some (L x)) ?_
  conv=>rhs; rw [sg_of a,sg_of b]
  unfold sg
  by_cases h3:a < 0 <;> by_cases h4:b < 0 <;> simp [h3,h4,Int.neg_mul,Int.mul_neg]
theorem dg_mono {a b:Nat} (h:a <= b):(dg a).length <= (dg b).length:=dg_len (Nat.lt_of_le_of_lt h (by have:=val_lt (dg b); rwa [val_dg] at this))
theorem diff_ok (n l a b:Nat) (s:Bool) (h:a <= b) (hl:(dg b).length <= l) (hn:l < n) (hl2:l < 1000000):((ca_p n (dg b) (dg a)).bind fun y67=>(ao_p n s y67).bind fun y75=>some y75) = some (L (sg s (b - a))):=by
  obtain ⟨xs,e1,e2,e3⟩:=taken_ok n (dg b) (dg a) (dg_mono h) (by rw [val_dg,val_dg]; exact h) (by omega) (by omega)
  rw [e1,obind,trimmed_ok n _ _ (by omega) (by omega),obind,e3,val_dg,val_dg,L_sg]
theorem plus_ok (n l:Nat) (a b:Int) (ha:Fit l a) (hb:Fit l b) (hn:l + 1 < n) (hl:l < 1000000):bH_p n (L a) (L b) = some (L (a + b)):=by
  unfold bH_p
  have h1:=ha.len
  have h2:=hb.len
  by_cases h:((L a).fc == (L b).fc) = true
  · rw [if_pos h]
    obtain ⟨xs,e1,e2,e3⟩:=added_ok n (L a).fm (L b).fm ⟨by show (dg a.natAbs).length < n; omega,by show (dg b.natAbs).length < n; omega⟩ ⟨by show (dg a.natAbs).length < _; omega,by show (dg b.natAbs).length < _; omega⟩
    have e4:xs.length <= max (dg a.natAbs).length (dg b.natAbs).length + 1:=e2
    rw [e1,obind,trimmed_ok n _ _ (by omega) (by omega),obind,e3]
    show some (⟨decide (a < 0) && decide (0 < val (dg a.natAbs) + val (dg b.natAbs)),dg (val (dg a.natAbs) + val (dg b.natAbs))⟩:Te) = _
    rw [val_dg,val_dg,L_sg]
    refine congrArg (fun x=>some (L x)) ?_
    have h3:decide (a < 0) = decide (b < 0):=eq_of_beq h
    unfold sg
    by_cases h4:a < 0 <;> by_cases h5:b < 0 <;> simp [h4,h5] at h3 ⊢ <;> omega
  · rw [if_neg h]
    obtain ⟨c,e1,e2,e3⟩:=compared_ok n (L a).fm (L b).fm (dg_nm _) (dg_nm _) (by show (dg a.natAbs).length < n; omega) (by show (dg a.natAbs).length < _; omega)
    have h3:decide (a < 0) ≠ decide (b < 0):=fun e=>h (by rw [beq_iff_eq]; exact e)
    rw [e1,obind]
    unfold jn
    simp only
    have e4:c < 0 ↔ a.natAbs < b.natAbs:=by rw [e2]; show val (dg a.natAbs) < val (dg b.natAbs) ↔ _; rw [val_dg,val_dg]
    by_cases hc:c < 0
    · rw [if_pos hc]
      show ((ca_p n (dg b.natAbs) (dg a.natAbs)).bind fun y67=>(ao_p n (decide (b < 0)) y67).bind fun y75=>some y75) = _
      rw [diff_ok n l _ _ _ (by omega) h2 (by omega) hl]
      refine congrArg (fun x=>some (L x)) ?_
      unfold sg
      by_cases h4:a < 0 <;> by_cases h5:b < 0 <;> simp [h4,h5] at h3 ⊢ <;> omega
    · rw [if_neg hc]
      show ((ca_p n (dg a.natAbs) (dg b.natAbs)).bind fun y67=>(ao_p n (decide (a < 0)) y67).bind fun y75=>some y75) = _
      rw [diff_ok n l _ _ _ (by omega) h1 (by omega) hl]
      refine congrArg (fun x=>some (L x)) ?_
      unfold sg
      by_cases h4:a < 0 <;> by_cases h5:b < 0 <;> simp [h4,h5] at h3 ⊢ <;> omega
theorem Fit.neg {l:Nat} {z:Int} (h:Fit l z):Fit l (-z):=by unfold Fit at *; rwa [Int.natAbs_neg]
theorem minus_ok (n l:Nat) (a b:Int) (ha:Fit l a) (hb:Fit l b) (hn:l + 1 < n) (hl:l < 1000000):cC_p n (L a) (L b) = some (L (a - b)):=by
  unfold cC_p
  rw [turned_ok n l b hb (by omega) hl,obind,plus_ok n l a (-b) ha hb.neg hn hl,obind,Int.sub_eq_add_neg]
theorem side_ok (n:Nat) (a:Int):cb_p n (L a) = some a.sign:=by
  unfold cb_p
  by_cases h:a < 0
  · rw [if_pos (by simpa [L] using h),Int.sign_eq_neg_one_of_neg h]
  · rw [if_neg (by simpa [L] using h)]
    by_cases h0:a = 0
    · subst h0; rw [if_pos (by simp [L,dg0])]; rfl
    · rw [if_neg,Int.sign_eq_one_of_pos (by omega)]
      show ¬ (dg a.natAbs).length = 0
      rw [dg_ne (by omega)]; simp
end Go.Proofs.YtgejkdheojkfiaaGreatDoor
/- Plain laws: quotient, remainder, greatest common divisor, lowest terms, of integers of one word. No program in sight but the printed functions. -/
namespace Go.Proofs.YtgejkdheojkfiaaGreatDoor
open Go
theorem dg1 {m:Nat} (h0:m ≠ 0) (h:m < 18446744073709551616):dg m = [UInt64.ofNat m]:=by
  rw [dg_ne h0,show m / 18446744073709551616 = 0 by omega,dg0]
theorem ofNat_ne {m:Nat} (h0:m ≠ 0) (h:m < 18446744073709551616):UInt64.ofNat m ≠ 0:=fun e=>by
  have:=congrArg UInt64.toNat e
  rw [UInt64.toNat_ofNat'] at this
  simp at this; omega
theorem toNat_of {m:Nat} (h:m < 18446744073709551616):(UInt64.ofNat m).toNat = m:=by rw [UInt64.toNat_ofNat']; exact Nat.mod_eq_of_lt h
theorem div64_ok (n:Nat) (x y:UInt64) (h:y ≠ 0):aG_p n 0 x y = some (x / y,x % y):=by
  unfold aG_p
  have h1:¬ y <= 0:=fun h1=>h (UInt64.toNat_inj.1 (by rw [UInt64.le_iff_toNat_le] at h1; simpa using h1))
  rw [if_neg h,if_neg h1,if_pos rfl]
  unfold quoW remW
  rw [if_neg h,obind,if_neg h,obind]
theorem divided_ok (n a b:Nat) (ha:a < 18446744073709551616) (hb:b < 18446744073709551616) (h0:b ≠ 0) (hn:4 < n):∃ q,aL_p n (dg a) (dg b) = some (q,dg (a % b))/\q.length <= 1/\val q = a / b:=by
  obtain ⟨k,rfl⟩:∃ k,n = k + 3:=⟨n - 3,by omega⟩
  rw [dg1 h0 hb]
  unfold aL_p
  by_cases h:a = 0
  · subst h
    refine ⟨[],?_,by simp,by simp [val]⟩
    rw [dg0,Nat.zero_mod,dg0]
    rw [mk_ok _ _ (by simp),obind,if_pos (show [UInt64.ofNat b].length = 1 from rfl),loopF_succ]
    unfold aL_l1
    simp only
    rw [if_neg (by decide),obind]
    simp only
    rw [trimmed_ok _ _ _ (by simp) (by simp),obind]
    simp [val,dg0]
  · have hm:a % b < 18446744073709551616:=Nat.lt_of_le_of_lt (Nat.mod_le _ _) ha
    have e2:(UInt64.ofNat a % UInt64.ofNat b).toNat = a % b:=by rw [UInt64.toNat_mod,toNat_of ha,toNat_of hb]
    refine ⟨[UInt64.ofNat a / UInt64.ofNat b],?_,by simp,?_⟩
    · rw [dg1 h ha,mk_ok _ _ (by simp),obind,if_pos (show [UInt64.ofNat b].length = 1 from rfl),loopF_succ]
      unfold aL_l1
      simp only
      rw [if_pos (show (0:Int) <= ((([UInt64.ofNat a]:List UInt64).length:Nat):Int) - 1 by simp),idx_ok (by simp) (by simp),obind]
      simp only [List.length_cons,List.length_nil,List.getElem?_cons_zero,obind]
      show ((aG_p (k + 3) 0 (UInt64.ofNat a) (UInt64.ofNat b)).bind _).bind _ = _
      rw [div64_ok _ _ _ (ofNat_ne h0 hb),obind]
      show (((some (0:UInt64)).bind _)).bind _ = _
      rw [obind]
      show ((put [(0:UInt64)] ((0:Nat):Int) _).bind _).bind _ = _
      rw [put_ok _ (by decide),obind]
      show (((some (-1:Int)).bind _)).bind _ = _
      rw [obind,loopF_succ]
      simp only
      rw [if_neg (by decide),obind]
      simp only
      rw [trimmed_ok _ _ _ (by simp) (by simp),obind]
      simp [val,e2]
    · simp only [val]
      rw [UInt64.toNat_div,toNat_of ha,toNat_of hb]; simp
theorem ediv_uniq {a b q r:Int} (h:a = b * q + r) (h0:0 <= r) (h1:r < b.natAbs):a / b = q/\a % b = r:=by
  by_cases hb:0 < b
  · exact (Int.ediv_emod_unique hb).2 ⟨by rw [h]; omega,h0,by omega⟩
  · have hb2:0 < -b:=by omega
    have h3:a = (-b) * (-q) + r:=by rw [h,Int.neg_mul_neg]
    obtain ⟨e1,e2⟩:=(Int.ediv_emod_unique (a:=a) (r:=r) (q:=-q) hb2).2 ⟨by rw [h3]; omega,h0,by omega⟩
    rw [Int.ediv_neg] at e1
    rw [Int.emod_neg] at e2
    exact ⟨by omega,e2⟩
def W1 (z:Int):Prop:=z.natAbs < 18446744073709551616
theorem parts_ok (n:Nat) (a b:Int) (ha:W1 a) (hb:W1 b) (h0:b ≠ 0) (hn:10 < n):bw_p n (L a) (L b) = some (L (a / b),L (a % b)):=by
  obtain ⟨q,e1,e2,e3⟩:=divided_ok n a.natAbs b.natAbs ha hb (by omega) (by omega)
  have hm:a.natAbs % b.natAbs < b.natAbs:=Nat.mod_lt _ (by omega)
  have hl:(dg (a.natAbs % b.natAbs)).length <= 1:=dg_len (by rw [Nat.pow_one]; unfold W1 at hb; omega)
  have hdm:=Nat.div_add_mod a.natAbs b.natAbs
  have hq:a.natAbs / b.natAbs <= a.natAbs:=Nat.div_le_self _ _
  unfold bw_p
  rw [show (L a).fm = dg a.natAbs from rfl,show (L b).fm = dg b.natAbs from rfl,e1,obind]
  simp only
  rw [trimmed_ok n _ _ (by omega) (by omega),obind,trimmed_ok n _ _ (by omega) (by omega),obind,e3,val_dg]
  generalize hx:a.natAbs / b.natAbs = x at *
  generalize hy:a.natAbs % b.natAbs = y at *
  simp only [L_sg]
  show (if (decide (a < 0) && decide (0 < y)) = true then _ else _) = _
  unfold W1 at ha hb
  have hab:(b.natAbs:Int) * x + y = a.natAbs:=by exact_mod_cast hdm
  by_cases hr:a < 0/\0 < y
  · obtain ⟨h1,h2⟩:=hr
    rw [if_pos (by simp [h1,h2])]
    have f1:(⟨false,dg b.natAbs⟩:Te) = L b.natAbs:=by unfold L; simp
    have f2:(⟨!(L b).fc,([(1:UInt64)]:List UInt64)⟩:Te) = L (if b < 0 then 1 else -1):=by
      unfold L
      by_cases hb0:b < 0 <;> simp [hb0] <;> rw [dg1 (by decide) (by decide)] <;> rfl
    rw [f1,f2,plus_ok n 1 _ _ ?_ ?_ (by omega) (by omega),obind,plus_ok n 1 _ _ ?_ ?_ (by omega) (by omega),obind]
    · have e:sg (!(decide (a < 0) == decide (b < 0))) x + (if b < 0 then 1 else -1) = a / b/\sg (decide (a < 0)) y + b.natAbs = a % b:=by
        have:=ediv_uniq (a:=a) (b:=b) (q:=sg (!(decide (a < 0) == decide (b < 0))) x + (if b < 0 then 1 else -1)) (r:=sg (decide (a < 0)) y + b.natAbs) ?_ ?_ ?_
        · exact ⟨this.1.symm,this.2.symm⟩
        · unfold sg
          by_cases hb0:b < 0
          · have:(b.natAbs:Int) = -b:=by omega
            rw [this] at hab ⊢
            have h3:(a.natAbs:Int) = -a:=by omega
            simp [h1,hb0]
            rw [Int.mul_add]; grind
          · have:(b.natAbs:Int) = b:=by omega
            rw [this] at hab ⊢
            have h3:(a.natAbs:Int) = -a:=by omega
            simp [h1,hb0]
            rw [Int.mul_add]; grind
        · unfold sg; simp [h1]; omega
        · unfold sg; simp [h1]; omega
      show some (L (sg (!(decide (a < 0) == decide (b < 0))) x + (if b < 0 then 1 else -1)),L (sg (decide (a < 0)) y + b.natAbs)) = _
      rw [e.1,e.2]
    · unfold Fit; rw [Nat.pow_one,sg_abs]; omega
    · unfold Fit; rw [Nat.pow_one]; split <;> decide
    · unfold Fit; rw [Nat.pow_one,sg_abs]; omega
    · unfold Fit; rw [Nat.pow_one]; omega
  · rw [if_neg (by simpa using hr)]
    have e:=ediv_uniq (a:=a) (b:=b) (q:=sg (!(decide (a < 0) == decide (b < 0))) x) (r:=sg (decide (a < 0)) y) ?_ ?_ ?_
    · rw [e.1,e.2]; rfl
    · unfold sg
      by_cases h1:a < 0
      · have hy0:y = 0:=by omega
        have h3:(a.natAbs:Int) = -a:=by omega
        by_cases hb0:b < 0
        · have:(b.natAbs:Int) = -b:=by omega
          rw [this] at hab; simp [h1,hb0,hy0] at hab ⊢; grind
        · have:(b.natAbs:Int) = b:=by omega
          rw [this] at hab; simp [h1,hb0,hy0] at hab ⊢; grind
      · have h3:(a.natAbs:Int) = a:=by omega
        by_cases hb0:b < 0
        · have:(b.natAbs:Int) = -b:=by omega
          rw [this] at hab; simp [h1,hb0] at hab ⊢; grind
        · have:(b.natAbs:Int) = b:=by omega
          rw [this] at hab; simp [h1,hb0] at hab ⊢; grind
    · unfold sg
      by_cases h1:a < 0
      · have hy0:y = 0:=by omega
        simp [hy0]
      · simp [h1]
    · unfold sg
      by_cases h1:a < 0
      · have hy0:y = 0:=by omega
        simp [hy0]; omega
      · simp [h1]; omega
theorem common_ok (n:Nat) (a b:Int) (ha:W1 a) (hb:W1 b) (hn:18446744073709551616 < n):aB_p n (L a) (L b) = some (L (Nat.gcd a.natAbs b.natAbs:Nat)):=by
  have h:=loop_ok (B:=aB_l1 n) (fun s:List UInt64 × List UInt64=>val s.2) (fun s=>∃ x y,s = (dg x,dg y)/\x < 18446744073709551616/\y < 18446744073709551616/\Nat.gcd x y = Nat.gcd a.natAbs b.natAbs)
    (fun r=>r = dg (Nat.gcd a.natAbs b.natAbs)) ?_ n (dg a.natAbs,dg b.natAbs) ⟨_,_,rfl,ha,hb,rfl⟩ (by simp only [val_dg]; unfold W1 at hb; omega)
  · obtain ⟨r,h1,rfl⟩:=h
    unfold aB_p
    rw [show (L a).fm = dg a.natAbs from rfl,show (L b).fm = dg b.natAbs from rfl,h1,obind]
    unfold L
    simp
  · rintro _ J ⟨x,y,rfl,h1,h2,h3⟩ hJ
    unfold aB_l1
    simp only
    by_cases h0:y = 0
    · subst h0
      rw [if_neg (by rw [dg0]; simp)]
      exact ⟨_,rfl,by rw [<- h3,Nat.gcd_zero_right]⟩
    · obtain ⟨q,e1,_,_⟩:=divided_ok n x y h1 h2 h0 (by omega)
      have hm:x % y < y:=Nat.mod_lt _ (by omega)
      rw [if_pos (by rw [dg1 h0 h2]; simp),e1,obind]
      simp only
      refine hJ (dg y,dg (x % y)) ⟨_,_,rfl,h2,by omega,?_⟩ (by simp only [val_dg]; exact hm)
      rw [<- h3,Nat.gcd_comm x y,Nat.gcd_rec y x,Nat.gcd_comm]
end Go.Proofs.YtgejkdheojkfiaaGreatDoor
/- Plain laws: wide integers and fractions of small numbers: made, read, told, added, taken, multiplied, divided. No program in sight but the printed functions. -/
namespace Go.Proofs.YtgejkdheojkfiaaGreatDoor
open Go
def W8 (z:Int):UInt64 × UInt64 × UInt64 × UInt64 × UInt64 × UInt64 × UInt64 × UInt64:=
  if z < 0 then (u64of z,18446744073709551615,18446744073709551615,18446744073709551615,18446744073709551615,18446744073709551615,18446744073709551615,18446744073709551615) else (u64of z,0,0,0,0,0,0,0)
def Sm (z:Int):Prop:=z.natAbs < 9223372036854775808
theorem Sm.w {z:Int} (h:Sm z):W1 z:=by unfold Sm W1 at *; omega
theorem u64_neg {z:Int} (h:Sm z) (h0:z < 0):(u64of z).toNat = 18446744073709551616 - z.natAbs:=by
  unfold u64of Sm at *; rw [UInt64.toNat_ofNat']; omega
theorem u64_pos {z:Int} (h:Sm z) (h0:¬ z < 0):u64of z = UInt64.ofNat z.natAbs:=by
  unfold u64of Sm at *; congr 1; omega
theorem of_ok (n:Nat) (z:Int) (hn:10 < n):cM_p n z = some (W8 z):=by
  obtain ⟨k,rfl⟩:∃ k,n = k + 9:=⟨n - 9,by omega⟩
  unfold cM_p W8
  by_cases h:z < 0
  · rw [if_pos h,if_pos h]
    simp [loopF_succ,cM_l1,setA]
  · rw [if_neg h,if_neg h]
theorem sub_m1:sub64 0 18446744073709551615 1 = some (0,1):=rfl
theorem sub_01:sub64 0 0 1 = some (18446744073709551615,1):=rfl
theorem read_ok (n:Nat) (z:Int) (h:Sm z):cY_p n (W8 z) = some ⟨decide (z < 0),(UInt64.ofNat z.natAbs,0,0,0,0,0,0,0)⟩:=by
  unfold cY_p W8
  by_cases h0:z < 0
  · rw [if_pos h0]
    have e:sub64 0 (u64of z) 0 = some (UInt64.ofNat z.natAbs,1):=by
      unfold sub64
      rw [if_pos (by decide),u64_neg h h0]
      unfold Sm at h
      rw [if_pos (by simp; omega)]
      congr 2
      simp; congr 1; omega
    rw [if_pos (show shrU 18446744073709551615 63 = 1 from rfl)]
    unfold bv_p
    simp only [e,obind,sub_m1]
    simp [h0]; rfl
  · rw [if_neg h0]
    rw [if_neg (show ¬ shrU 0 63 = 1 from by decide),u64_pos h h0]
    simp [h0]; decide
theorem longer_ok (n:Nat) (z:Int) (h:Sm z) (hn:10 < n):bM_p n (W8 z) = some (L z):=by
  unfold bM_p
  rw [read_ok n z h,obind]
  simp only
  rw [show app ([]:List UInt64) [UInt64.ofNat z.natAbs,0,0,0,0,0,0,0] = some [UInt64.ofNat z.natAbs,0,0,0,0,0,0,0] from rfl,obind,trimmed_ok n _ _ (by simpa using by omega) (by simp),obind]
  have e:val [UInt64.ofNat z.natAbs,0,0,0,0,0,0,0] = z.natAbs:=by
    have:=h.w; unfold W1 at this
    simp only [val,toNat_of this]; simp
  rw [e]
  unfold L
  by_cases h0:z < 0
  · simp [h0]; omega
  · simp [h0]
theorem from_ok (n:Nat) (z:Int) (h:Sm z) (hn:10 < n):df_p n z = some (L z):=by
  unfold df_p; rw [of_ok n z hn,obind,longer_ok n z h hn,obind]
theorem getA_dg0 {m:Nat} (h:m < 18446744073709551616):getA (dg m) 0 0 = UInt64.ofNat m:=by
  by_cases h0:m = 0
  · subst h0; rw [dg0]; rfl
  · rw [dg1 h0 h]; rfl
theorem getA_dg1 {m:Nat} (j:Nat) (h:m < 18446744073709551616):getA (dg m) (j + 1) 0 = 0:=by
  by_cases h0:m = 0
  · subst h0; rw [dg0]; rfl
  · rw [dg1 h0 h]; rfl
theorem told_ok (n:Nat) (z:Int) (h:Sm z) (hn:10 < n):bn_p n (L z) = some (W8 z,0):=by
  have hw:=h.w
  unfold W1 at hw
  have hl:¬ 8 < (L z).fm.length:=by
    have:(dg z.natAbs).length <= 1:=dg_len (by rw [Nat.pow_one]; exact hw)
    show ¬ 8 < (dg z.natAbs).length
    omega
  unfold bn_p
  rw [if_neg hl,show (L z).fm = dg z.natAbs from rfl,getA_dg0 hw,getA_dg1 0 hw,getA_dg1 1 hw,getA_dg1 2 hw,getA_dg1 3 hw,getA_dg1 4 hw,getA_dg1 5 hw,getA_dg1 6 hw]
  unfold cn_p
  have ho:∀ x:UInt64,aY_p n (x,0,0,0,0,0,0,0) (0,0,0,0,0,0,0,9223372036854775808) = some (-1):=fun x=>by
    obtain ⟨k,rfl⟩:∃ k,n = k + 1:=⟨n - 1,by omega⟩
    unfold aY_p
    rw [loopF_succ]
    rfl
  rw [ho,obind,if_neg (by decide),if_neg (by decide)]
  unfold W8
  by_cases h0:z < 0
  · have e:sub64 0 (UInt64.ofNat z.natAbs) 0 = some (u64of z,1):=by
      unfold sub64
      rw [if_pos (by decide),toNat_of hw]
      rw [if_pos (by simp; omega)]
      congr 2
      refine UInt64.toNat_inj.1 ?_
      rw [u64_neg h h0,UInt64.toNat_ofNat']
      unfold Sm at h
      simp; omega
    rw [if_pos h0,if_pos (by simpa [L] using h0)]
    unfold bv_p
    simp only [e,obind,sub_01]
  · rw [if_neg h0,if_neg (by simpa [L] using h0),obind,u64_pos h h0]
def Rt (q:Rat):Tg:=⟨L q.num,L q.den⟩
def Sh (q:Rat):Ta:=⟨W8 q.num,W8 q.den⟩
theorem rat_is {x y:Int} (hy:0 < y) (hc:x.natAbs.Coprime y.natAbs):(Rat.divInt x y).num = x/\((Rat.divInt x y).den:Int) = y:=by
  have e:Rat.divInt x y = { num:=x,den:=y.natAbs,den_nz:=by omega,reduced:=hc }:=by
    rw [Rat.mk_eq_divInt]; congr 1; omega
  rw [e]; exact ⟨rfl,by simp only; omega⟩
theorem lowest_ok (n:Nat) (a b:Int) (ha:W1 a) (hb:W1 b) (h0:b ≠ 0) (hn:18446744073709551616 < n) :
    bP_p n (L a) (L b) = some (Rt (Rat.divInt a b))/\(Rat.divInt a b).num.natAbs <= a.natAbs/\(Rat.divInt a b).den <= b.natAbs:=by
  have hg:0 < Nat.gcd a.natAbs b.natAbs:=Nat.gcd_pos_of_pos_right _ (by omega)
  have hgb:Nat.gcd a.natAbs b.natAbs <= b.natAbs:=Nat.gcd_le_right _ (by omega)
  have hgw:W1 ((Nat.gcd a.natAbs b.natAbs:Nat):Int):=by unfold W1 at *; omega
  obtain ⟨x,hx⟩:((Nat.gcd a.natAbs b.natAbs:Nat):Int) ∣ a:=Int.ofNat_dvd_left.2 (Nat.gcd_dvd_left _ _)
  obtain ⟨y,hy⟩:((Nat.gcd a.natAbs b.natAbs:Nat):Int) ∣ b:=Int.ofNat_dvd_left.2 (Nat.gcd_dvd_right _ _)
  have hco:=Nat.coprime_div_gcd_div_gcd hg
  generalize Nat.gcd a.natAbs b.natAbs = g at *
  have hg0:(g:Int) ≠ 0:=by omega
  have e1:a / (g:Int) = x:=by rw [hx]; exact Int.mul_ediv_cancel_left _ hg0
  have e2:b / (g:Int) = y:=by rw [hy]; exact Int.mul_ediv_cancel_left _ hg0
  have e3:a.natAbs = g * x.natAbs:=by rw [hx,Int.natAbs_mul]; rfl
  have e4:b.natAbs = g * y.natAbs:=by rw [hy,Int.natAbs_mul]; rfl
  have hc:x.natAbs.Coprime y.natAbs:=by
    rw [e3,e4,Nat.mul_div_cancel_left _ hg,Nat.mul_div_cancel_left _ hg] at hco; exact hco
  have hxl:x.natAbs <= a.natAbs:=by rw [e3]; exact Nat.le_mul_of_pos_left _ hg
  have hyl:y.natAbs <= b.natAbs:=by rw [e4]; exact Nat.le_mul_of_pos_left _ hg
  have hy0:y ≠ 0:=fun e=>h0 (by rw [hy,e,Int.mul_zero])
  have eq:Rat.divInt a b = Rat.divInt x y:=by
    conv=>lhs; rw [hx,hy]
    exact Rat.divInt_mul_left hg0
  have xw:Fit 1 x:=by unfold Fit; unfold W1 at ha; rw [Nat.pow_one]; omega
  have yw:Fit 1 y:=by unfold Fit; unfold W1 at hb; rw [Nat.pow_one]; omega
  have gc:aB_p n (L a) (L b) = some (L g):=by
    have:=common_ok n a b ha hb hn
    rw [this]
    have h5:Nat.gcd a.natAbs b.natAbs = g:=by
      rw [e3,e4,Nat.gcd_mul_left,show Nat.gcd x.natAbs y.natAbs = 1 from hc,Nat.mul_one]
    rw [h5]
  unfold bP_p
  rw [gc,obind,parts_ok n a g ha hgw hg0 (by omega),obind,parts_ok n b g hb hgw hg0 (by omega),obind,e1,e2]
  simp only
  rw [eq]
  by_cases hs:y < 0
  · rw [if_pos (by simpa [L] using hs),turned_ok n 1 x xw (by omega) (by omega),obind,turned_ok n 1 y yw (by omega) (by omega),obind]
    have h5:=rat_is (x:=-x) (y:=-y) (by omega) (by rwa [Int.natAbs_neg,Int.natAbs_neg])
    rw [Rat.neg_divInt_neg] at h5
    unfold Rt
    rw [h5.1,h5.2]
    exact ⟨rfl,by rw [Int.natAbs_neg]; exact hxl,by have:=h5.2; omega⟩
  · rw [if_neg (by simpa [L] using hs)]
    have h5:=rat_is (x:=x) (y:=y) (by omega) hc
    unfold Rt
    rw [h5.1,h5.2]
    exact ⟨rfl,hxl,by have:=h5.2; omega⟩
end Go.Proofs.YtgejkdheojkfiaaGreatDoor
