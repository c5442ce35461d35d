/- Plain laws: words, their value, and integers of any length: sum, difference, product. No program in sight but the printed functions. -/
import Derived.Test.YtfccehcnajelgaaGreatDoorRD7
namespace Go.Proofs.YtfccehcnajelgaaGreatDoor
open Go
theorem obind {α β:Type} (x:α) (f:α → Option β):(some x).bind f = f x:=Eq.trans (Eq.refl _) (Eq.refl _)
theorem loopF_succ {α β:Type} (B:(α → Option β) → α → Option β) (n:Nat) (s:α):loopF B (n + 1) s = B (loopF B n) s:=rfl
theorem loop_ok {α β:Type} {B:(α → Option β) → α → Option β} (m:α → Nat) (I:α → Prop) (Q:β → Prop)
    (step:∀ s J,I s → (∀ s', I s' → m s' < m s → ∃ r,J s' = some r∧Q r) → ∃ r,B J s = some r∧Q r):∀ n s,I s → m s < n → ∃ r,loopF B n s = some r∧Q r:=by
  intro n
  induction n with
  | zero=>intro s _ h; omega
  | succ n ih=>intro s hI h; exact step s (loopF B n) hI fun s' h1 h2=>ih s' h1 (by omega)
theorem chkI {x:Int} (h1:-9223372036854775808 ≤ x) (h2:x ≤ 9223372036854775807):chk x = some x:=if_pos ⟨h1,h2⟩
theorem idx_ok {α:Type} {xs:List α} {i:Int} (h0:0 ≤ i) (h:i.toNat < xs.length):idx xs i = some xs[i.toNat]:=by unfold idx; rw [if_pos h0,List.getElem?_eq_getElem h]
theorem put_ok {α:Type} {xs:List α} {i:Nat} (x:α) (h:i < xs.length):put xs (i:Int) x = some (xs.set i x):=by
  unfold put; rw [if_pos ⟨Int.natCast_nonneg _,by omega⟩]; rfl
theorem cut_ok {α:Type} {xs:List α} {z:Nat} (h:z ≤ xs.length):cut xs 0 (z:Int) = some (xs.take z):=by
  unfold cut; rw [if_pos ⟨Int.le_refl _,Int.natCast_nonneg _,by omega⟩]; rfl
theorem mk_ok {α:Type} (n:Nat) (x:α) (h:n ≤ 4294967296):mk (n:Int) x = some (List.replicate n x):=by
  unfold mk; rw [if_pos ⟨Int.natCast_nonneg _,by omega⟩]; rfl
def val:List UInt64 → Nat
  | []=>0
  | x :: xs=>x.toNat + 18446744073709551616 * val xs
theorem val_app (xs ys:List UInt64):val (xs ++ ys) = val xs + 18446744073709551616 ^ xs.length * val ys:=by
  induction xs with
  | nil=>simp [val]
  | cons x xs ih=>simp only [List.cons_append,val,ih,List.length_cons,Nat.pow_succ]; grind
theorem val_lt (xs:List UInt64):val xs < 18446744073709551616 ^ xs.length:=by
  induction xs with
  | nil=>simp [val]
  | cons x xs ih=>
    have:=x.toNat_lt
    have h2:18446744073709551616 * (val xs + 1) ≤ 18446744073709551616 * 18446744073709551616 ^ xs.length:=Nat.mul_le_mul_left _ ih
    simp only [val,List.length_cons,Nat.pow_succ]
    rw [Nat.mul_comm (_ ^ _)]
    omega
theorem val_take (a:List UInt64) {i:Nat} (h:i < a.length):val (a.take (i + 1)) = val (a.take i) + 18446744073709551616 ^ i * a[i].toNat:=by
  rw [← List.take_append_getElem h,val_app,List.length_take,Nat.min_eq_left (Nat.le_of_lt h)]
  simp [val]
theorem take_set {xs:List UInt64} {i:Nat} (s:UInt64) (h:i < xs.length):(xs.set i s).take (i + 1) = xs.take i ++ [s]:=by
  rw [← List.take_append_getElem (by simpa using h),List.take_set_of_le (Nat.le_refl _)]
  simp
theorem val_set {xs:List UInt64} {i:Nat} (s:UInt64) (h:i < xs.length):val ((xs.set i s).take (i + 1)) = val (xs.take i) + 18446744073709551616 ^ i * s.toNat:=by
  rw [take_set s h,val_app,List.length_take,Nat.min_eq_left (Nat.le_of_lt h)]
  simp [val]
theorem val_zero:∀ (xs:List UInt64),(∀ x ∈ xs,x = 0) → val xs = 0
  | [],_=>rfl
  | x :: xs,h=>by
    have h1:=h x (List.mem_cons_self ..)
    have h2:=val_zero xs fun y hy=>h y (List.mem_cons_of_mem _ hy)
    subst h1; simp [val,h2]
def dg (m:Nat):List UInt64:=if m = 0 then [] else UInt64.ofNat m :: dg (m / 18446744073709551616)
termination_by m
decreasing_by exact Nat.div_lt_self (by omega) (by omega)
theorem dg0:dg 0 = []:=by unfold dg; simp
theorem dg_ne {m:Nat} (h:m ≠ 0):dg m = UInt64.ofNat m :: dg (m / 18446744073709551616):=by rw [dg]; rw [if_neg h]
theorem val_dg (m:Nat):val (dg m) = m:=by
  induction m using Nat.strongRecOn with
  | _ m ih=>
    by_cases h:m = 0
    · subst h; rw [dg0]; rfl
    · rw [dg_ne h]; simp only [val]
      rw [ih _ (Nat.div_lt_self (by omega) (by omega)),UInt64.toNat_ofNat']
      exact Nat.mod_add_div m 18446744073709551616
def Nm (xs:List UInt64):Prop:=∀ x,xs.getLast? = some x → x ≠ 0
theorem Nm.tail {x y:UInt64} {xs:List UInt64} (h:Nm (x :: y :: xs)):Nm (y :: xs):=fun z hz=>h z (by rw [List.getLast?_cons_cons]; exact hz)
theorem val_pos:∀ {xs:List UInt64},Nm xs → xs ≠ [] → 0 < val xs
  | [],_,h=>absurd rfl h
  | [x],h,_=>by
    have h1:=h x rfl
    have:x.toNat ≠ 0:=fun e=>h1 (UInt64.toNat_inj.1 (by simpa using e))
    simp only [val]; omega
  | x :: y :: xs,h,_=>by
    have:=val_pos h.tail (by simp)
    simp only [val] at this ⊢
    omega
theorem val_ge:∀ {xs:List UInt64},Nm xs → xs ≠ [] → 18446744073709551616 ^ (xs.length - 1) ≤ val xs
  | [],_,h=>absurd rfl h
  | [x],h,_=>by
    have h1:=val_pos h (by simp)
    show 18446744073709551616 ^ 0 ≤ _
    rw [Nat.pow_zero]; exact h1
  | x :: y :: xs,h,_=>by
    have h1:=val_ge h.tail (by simp)
    have h2:18446744073709551616 * 18446744073709551616 ^ xs.length ≤ 18446744073709551616 * val (y :: xs):=Nat.mul_le_mul_left _ (by simpa using h1)
    show 18446744073709551616 ^ (xs.length + 1) ≤ x.toNat + 18446744073709551616 * val (y :: xs)
    rw [Nat.pow_succ,Nat.mul_comm]; omega
theorem dg_val:∀ {xs:List UInt64},Nm xs → dg (val xs) = xs
  | [],_=>dg0
  | x :: xs,h=>by
    have hp:=val_pos h (by simp)
    rw [dg_ne (by omega)]
    have hx:=x.toNat_lt
    have h1:UInt64.ofNat (val (x :: xs)) = x:=UInt64.toNat_inj.1 (by rw [UInt64.toNat_ofNat']; simp only [val]; omega)
    have h2:val (x :: xs) / 18446744073709551616 = val xs:=by simp only [val]; omega
    have h3:Nm xs:=by
      cases xs with
      | nil=>intro z hz; simp at hz
      | cons y ys=>exact h.tail
    rw [h1,h2,dg_val h3]
theorem dg_nm (m:Nat):Nm (dg m):=by
  induction m using Nat.strongRecOn with
  | _ m ih=>
    intro x hx
    by_cases h:m = 0
    · subst h; rw [dg0] at hx; cases hx
    · rw [dg_ne h] at hx
      by_cases h2:m / 18446744073709551616 = 0
      · rw [h2,dg0] at hx
        simp at hx
        intro e; subst e
        have:=congrArg UInt64.toNat hx
        rw [UInt64.toNat_ofNat'] at this
        simp at this; omega
      · have h3:=ih (m / 18446744073709551616) (Nat.div_lt_self (by omega) (by omega))
        rw [dg_ne h2] at hx h3
        rw [List.getLast?_cons_cons] at hx
        exact h3 x hx
theorem dg_len {m l:Nat} (h:m < 18446744073709551616 ^ l):(dg m).length ≤ l:=by
  by_cases h0:dg m = []
  · rw [h0]; simp
  · have h1:=val_ge (dg_nm m) h0
    rw [val_dg] at h1
    have h2:=Nat.lt_of_le_of_lt h1 h
    have h3:=(Nat.pow_lt_pow_iff_right (by omega)).1 h2
    omega
theorem trimmed_ok (n:Nat) (b:Bool) (ws:List UInt64) (hn:ws.length < n) (hl:ws.length ≤ 4294967296):wide_trimmed_p n b ws = some ⟨b && decide (0 < val ws),dg (val ws)⟩:=by
  have h:=loop_ok (B:=wide_trimmed_l1 n ws) (fun z:Int=>z.toNat) (fun z=>0 ≤ z∧z ≤ ws.length∧∀ i:Nat,z.toNat ≤ i → ∀ h:i < ws.length,ws[i] = 0)
    (fun z=>∃ k:Nat,z = k∧k ≤ ws.length∧(∀ i:Nat,k ≤ i → ∀ h:i < ws.length,ws[i] = 0)∧∀ h:0 < k,∀ h2:k - 1 < ws.length,ws[k - 1] ≠ 0) ?_ n (ws.length:Int) ⟨by omega,by omega,fun i h1 h2=>by omega⟩ (by simpa using hn)
  · obtain ⟨z,hz,k,rfl,hk,hz0,hz1⟩:=h
    have e:val ws = val (ws.take k):=by
      conv=>lhs; rw [← List.take_append_drop k ws,val_app]
      rw [val_zero (ws.drop k) fun x hx=>?_]
      · simp
      · obtain ⟨i,hi,rfl⟩:=List.getElem_of_mem hx
        rw [List.getElem_drop]
        exact hz0 _ (by omega) _
    have hnm:Nm (ws.take k):=by
      intro x hx
      rw [List.getLast?_eq_getElem?,List.length_take,Nat.min_eq_left hk] at hx
      obtain ⟨h1,rfl⟩:=List.getElem?_eq_some_iff.1 hx
      have h2:k - 1 < ws.length:=by rw [List.length_take] at h1; omega
      by_cases h0:0 < k
      · rw [List.getElem_take]; exact hz1 h0 h2
      · rw [List.length_take] at h1; omega
    have e2:dg (val ws) = ws.take k:=by rw [e]; exact dg_val hnm
    have e3:decide (0 < val ws) = decide (0 < (k:Int)):=by
      rw [decide_eq_decide]
      constructor
      · intro h0
        by_cases hk0:k = 0
        · subst hk0; rw [e] at h0; simp [val] at h0
        · omega
      · intro h0; rw [e]; refine val_pos hnm fun h1=>?_
        have:=congrArg List.length h1
        rw [List.length_take,List.length_nil] at this; omega
    unfold wide_trimmed_p jn
    simp only [hz,obind,cut_ok hk]
    cases b
    · simp [e2]
    · simp [e2,e3]
  · intro z J ⟨h1,h2,h3⟩ hJ
    unfold wide_trimmed_l1
    simp only
    by_cases h0:0 < z
    · rw [if_pos h0,chkI (by omega) (by omega),obind,idx_ok (by omega) (by omega),obind]
      split
      · rename_i hx
        rw [obind]
        refine hJ (z - 1) ⟨by omega,by omega,fun i h4 h5=>?_⟩ (by omega)
        by_cases h6:i = (z - 1).toNat
        · subst h6; exact hx
        · exact h3 i (by omega) h5
      · rename_i hx
        refine ⟨z,rfl,z.toNat,by omega,by omega,h3,fun h4 h5=>?_⟩
        have:(z - 1).toNat = z.toNat - 1:=by omega
        simp only [this] at hx
        exact hx
    · rw [if_neg h0]
      exact ⟨z,rfl,0,by omega,by omega,fun i h4 h5=>h3 i (by omega) h5,fun h4=>by omega⟩
theorem add64_ok (x y c:UInt64) (h:c.toNat ≤ 1):∃ s d:UInt64,add64 x y c = some (s,d)∧s.toNat + 18446744073709551616 * d.toNat = x.toNat + y.toNat + c.toNat∧d.toNat ≤ 1:=by
  refine ⟨_,_,if_pos h,?_⟩
  have hx:=x.toNat_lt
  have hy:=y.toNat_lt
  rw [UInt64.toNat_ofNat', UInt64.toNat_ofNat']
  omega
theorem sub64_ok (x y c:UInt64) (h:c.toNat ≤ 1):∃ s d:UInt64,sub64 x y c = some (s,d)∧s.toNat + y.toNat + c.toNat = x.toNat + 18446744073709551616 * d.toNat∧d.toNat ≤ 1:=by
  refine ⟨_,_,if_pos h,?_⟩
  have hx:=x.toNat_lt
  have hy:=y.toNat_lt
  rw [UInt64.toNat_ofNat']
  split <;> simp <;> omega
theorem take_all {α:Type} {l:List α} {i:Nat} (h:l.length ≤ i):l.take i = l:=List.take_of_length_le h
theorem val_take2 (b:List UInt64) (i:Nat):val (b.take (i + 1)) = val (b.take i) + 18446744073709551616 ^ i * (b[i]?.getD 0).toNat:=by
  by_cases h:i < b.length
  · rw [val_take b h,List.getElem?_eq_getElem h]; rfl
  · rw [take_all (by omega),take_all (by omega),List.getElem?_eq_none (by omega)]; simp
theorem added_loop (n:Nat) (a b:List UInt64) (hb:b.length ≤ a.length) (hn:a.length < n):∃ xs u,loopF (wide_added_l1 n a b) n (0,0,List.replicate (a.length + 1) 0) = some (xs,u)∧xs.length = a.length + 1∧val (xs.take a.length) + 18446744073709551616 ^ a.length * u.toNat = val a + val b:=by
  have h:=loop_ok (B:=wide_added_l1 n a b) (fun s:UInt64 × Nat × List UInt64=>a.length - s.2.1) (fun s=>s.2.1 ≤ a.length∧s.2.2.length = a.length + 1∧s.1.toNat ≤ 1∧val (s.2.2.take s.2.1) + 18446744073709551616 ^ s.2.1 * s.1.toNat = val (a.take s.2.1) + val (b.take s.2.1))
    (fun r:List UInt64 × UInt64=>r.1.length = a.length + 1∧val (r.1.take a.length) + 18446744073709551616 ^ a.length * r.2.toNat = val a + val b) ?_ n (0,0,List.replicate (a.length + 1) 0) ⟨by simp,by simp,by simp,by simp [val]⟩ (by simpa using hn)
  · obtain ⟨⟨xs,u⟩,h1,h2,h3⟩:=h; exact ⟨xs,u,h1,h2,h3⟩
  · rintro ⟨u,i,xs⟩ J ⟨h1,h2,h3,h4⟩ hJ
    simp only at h1 h2 h3 h4 hJ
    unfold wide_added_l1
    simp only
    by_cases hi:i < a.length
    · rw [if_pos hi,List.getElem?_eq_getElem hi,obind]
      have key:∀ y:UInt64,y = b[i]?.getD 0 → ∃ r,((add64 a[i] y u).bind fun z198=>(xs[i]?).bind fun x199=>(put xs ((i:Nat):Int) z198.1).bind fun xs212=>J (z198.2,i + 1,xs212)) = some r∧r.1.length = a.length + 1∧val (r.1.take a.length) + 18446744073709551616 ^ a.length * r.2.toNat = val a + val b:=by
        intro y hy
        obtain ⟨s,d,e1,e2,e3⟩:=add64_ok a[i] y u h3
        rw [e1,obind,List.getElem?_eq_getElem (by omega),obind,put_ok _ (by omega),obind]
        refine hJ (d,i + 1,xs.set i s) ⟨by show i + 1 ≤ _; omega,by simpa using h2,e3,?_⟩ (by simp only; omega)
        simp only
        rw [val_set s (by omega),val_take a hi,val_take2 b i,← hy,Nat.pow_succ]
        grind
      unfold jn
      simp only
      by_cases hj:i < b.length
      · rw [if_pos hj,List.getElem?_eq_getElem hj,obind]; exact key _ (by rw [List.getElem?_eq_getElem hj]; rfl)
      · rw [if_neg hj]; exact key _ (by rw [List.getElem?_eq_none (by omega)]; rfl)
    · rw [if_neg hi]
      have:i = a.length:=by omega
      subst this
      refine ⟨_,rfl,h2,?_⟩
      simp only
      rw [h4,List.take_length,take_all hb]
theorem added_ok (n:Nat) (a b:List UInt64) (hn:a.length < n∧b.length < n) (hl:a.length < 4294967296∧b.length < 4294967296):∃ xs,wide_added_p n a b = some xs∧xs.length ≤ max a.length b.length + 1∧val xs = val a + val b:=by
  have key:∀ a b:List UInt64,b.length ≤ a.length → a.length < n → a.length < 4294967296 → ∃ xs,((mk ((a.length + 1:Nat):Int) (0:UInt64)).bind fun xs17=>Option.bind (loopF (wide_added_l1 n a b) n ((0:UInt64),0,xs17)) (fun (xs157,u155)=>(xs157[a.length]?).bind fun x229=>(put xs157 ((a.length:Nat):Int) u155).bind fun xs241=>some xs241)) = some xs∧xs.length = a.length + 1∧val xs = val a + val b:=by
    intro a b hb h1 h2
    obtain ⟨xs,u,e1,e2,e3⟩:=added_loop n a b hb h1
    rw [mk_ok _ _ (by omega),obind,e1,obind]
    simp only
    rw [List.getElem?_eq_getElem (by omega),obind,put_ok _ (by omega),obind]
    refine ⟨_,rfl,by simpa using e2,?_⟩
    rw [← e3]
    conv=>lhs; rw [← take_all (l:=xs.set a.length u) (i:=a.length + 1) (by simp [e2])]
    exact val_set u (by omega)
  unfold wide_added_p jn
  simp only
  by_cases h:a.length < b.length
  · rw [if_pos h]
    obtain ⟨xs,e1,e2,e3⟩:=key b a (by omega) hn.2 hl.2
    exact ⟨xs,e1,by omega,by omega⟩
  · rw [if_neg h]
    obtain ⟨xs,e1,e2,e3⟩:=key a b (by omega) hn.1 hl.1
    exact ⟨xs,e1,by omega,e3⟩
theorem taken_ok (n:Nat) (a b:List UInt64) (hb:b.length ≤ a.length) (hv:val b ≤ val a) (hn:a.length < n) (hl:a.length < 4294967296):∃ xs,wide_taken_p n a b = some xs∧xs.length = a.length∧val xs = val a - val b:=by
  have h:=loop_ok (B:=wide_taken_l1 n a b) (fun s:UInt64 × Nat × List UInt64=>a.length - s.2.1) (fun s=>s.2.1 ≤ a.length∧s.2.2.length = a.length∧s.1.toNat ≤ 1∧val (s.2.2.take s.2.1) + val (b.take s.2.1) = val (a.take s.2.1) + 18446744073709551616 ^ s.2.1 * s.1.toNat)
    (fun r:List UInt64=>r.length = a.length∧val r = val a - val b) ?_ n (0,0,List.replicate a.length 0) ⟨by simp,by simp,by simp,by simp [val]⟩ (by simpa using hn)
  · obtain ⟨xs,h1,h2,h3⟩:=h
    refine ⟨xs,?_,h2,h3⟩
    unfold wide_taken_p
    rw [mk_ok _ _ (by omega),obind,h1,obind]
  · rintro ⟨u,i,xs⟩ J ⟨h1,h2,h3,h4⟩ hJ
    simp only at h1 h2 h3 h4 hJ
    unfold wide_taken_l1
    simp only
    by_cases hi:i < a.length
    · rw [if_pos hi,List.getElem?_eq_getElem hi,obind]
      have key:∀ y:UInt64,y = b[i]?.getD 0 → ∃ r,((sub64 a[i] y u).bind fun z184=>(xs[i]?).bind fun x185=>(put xs ((i:Nat):Int) z184.1).bind fun xs198=>J (z184.2,i + 1,xs198)) = some r∧r.length = a.length∧val r = val a - val b:=by
        intro y hy
        obtain ⟨s,d,e1,e2,e3⟩:=sub64_ok a[i] y u h3
        rw [e1,obind,List.getElem?_eq_getElem (by omega),obind,put_ok _ (by omega),obind]
        refine hJ (d,i + 1,xs.set i s) ⟨by show i + 1 ≤ _; omega,by simpa using h2,e3,?_⟩ (by simp only; omega)
        simp only
        rw [val_set s (by omega),val_take a hi,val_take2 b i,← hy,Nat.pow_succ]
        grind
      unfold jn
      simp only
      by_cases hj:i < b.length
      · rw [if_pos hj,List.getElem?_eq_getElem hj,obind]; exact key _ (by rw [List.getElem?_eq_getElem hj]; rfl)
      · rw [if_neg hj]; exact key _ (by rw [List.getElem?_eq_none (by omega)]; rfl)
    · rw [if_neg hi]
      have:i = a.length:=by omega
      subst this
      rw [List.take_length,take_all hb,take_all (by omega)] at h4
      refine ⟨xs,rfl,h2,?_⟩
      have h5:=val_lt xs
      rw [h2] at h5
      by_cases hu:u.toNat = 0
      · rw [hu] at h4; omega
      · have:u.toNat = 1:=by omega
        rw [this] at h4; omega
end Go.Proofs.YtfccehcnajelgaaGreatDoor
