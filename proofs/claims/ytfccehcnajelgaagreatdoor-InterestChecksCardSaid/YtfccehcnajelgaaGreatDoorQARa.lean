/- Plain laws: the reference's digits to the base 2^32: cut, compared, taken, doubled, divided. No program in sight but the printed functions. -/
import Derived.Test.YtfccehcnajelgaaGreatDoorQASa
namespace Go.Proofs.YtfccehcnajelgaaGreatDoor
open Go
def dv:List Int → Nat
  | []=>0
  | x :: xs=>x.toNat + 4294967296 * dv xs
def Dig (xs:List Int):Prop:=∀ x ∈ xs,0 ≤ x∧x < 4294967296
theorem dig_nil:Dig []:=fun x hx=>by cases hx
theorem dv_app (xs ys:List Int):dv (xs ++ ys) = dv xs + 4294967296 ^ xs.length * dv ys:=by
  induction xs with
  | nil=>simp [dv]
  | cons x xs ih=>simp only [List.cons_append,dv,ih,List.length_cons,Nat.pow_succ]; grind
theorem Dig.tl {x:Int} {xs:List Int} (h:Dig (x :: xs)):Dig xs:=fun y hy=>h y (List.mem_cons_of_mem _ hy)
theorem dv_lt:∀ {xs:List Int},Dig xs → dv xs < 4294967296 ^ xs.length
  | [],_=>by simp [dv]
  | x :: xs,h=>by
    have h1:=h x (List.mem_cons_self ..)
    have h2:4294967296 * (dv xs + 1) ≤ 4294967296 * 4294967296 ^ xs.length:=Nat.mul_le_mul_left _ (dv_lt h.tl)
    simp only [dv,List.length_cons,Nat.pow_succ]
    rw [Nat.mul_comm (_ ^ _)]
    omega
theorem dv_take (a:List Int) {i:Nat} (h:i < a.length):dv (a.take (i + 1)) = dv (a.take i) + 4294967296 ^ i * a[i].toNat:=by
  rw [← List.take_append_getElem h,dv_app,List.length_take,Nat.min_eq_left (Nat.le_of_lt h)]
  simp [dv]
theorem dv_take2 (b:List Int) (i:Nat):dv (b.take (i + 1)) = dv (b.take i) + 4294967296 ^ i * (b[i]?.getD 0).toNat:=by
  by_cases h:i < b.length
  · rw [dv_take b h,List.getElem?_eq_getElem h]; rfl
  · rw [take_all (by omega),take_all (by omega),List.getElem?_eq_none (by omega)]; simp
theorem dv_split (a:List Int) {i:Nat} (h:i < a.length):dv a = dv (a.take i) + 4294967296 ^ i * a[i].toNat + 4294967296 ^ (i + 1) * dv (a.drop (i + 1)):=by
  conv=>lhs; rw [← List.take_append_drop (i + 1) a,dv_app]
  rw [dv_take a h,List.length_take,Nat.min_eq_left (by omega)]
theorem dv_put:∀ {xs:List Int} {j:Nat} (v:Int) (h:j < xs.length),dv (xs.set j v) + 4294967296 ^ j * xs[j].toNat = dv xs + 4294967296 ^ j * v.toNat
  | x :: xs,0,v,_=>by simp only [List.set_cons_zero,dv,List.getElem_cons_zero,Nat.pow_zero]; omega
  | x :: xs,j + 1,v,h=>by
    have:=dv_put (xs:=xs) (j:=j) v (by simpa using h)
    simp only [List.set_cons_succ,dv,List.getElem_cons_succ,Nat.pow_succ]
    grind
theorem dv_zero:∀ (xs:List Int),(∀ x ∈ xs,x = 0) → dv xs = 0
  | [],_=>rfl
  | x :: xs,h=>by
    have h1:=h x (List.mem_cons_self ..)
    have h2:=dv_zero xs fun y hy=>h y (List.mem_cons_of_mem _ hy)
    subst h1; simp [dv,h2]
def rd (m:Nat):List Int:=if m = 0 then [] else ((m % 4294967296:Nat):Int) :: rd (m / 4294967296)
termination_by m
decreasing_by exact Nat.div_lt_self (by omega) (by omega)
theorem rd0:rd 0 = []:=by unfold rd; simp
theorem rd_ne {m:Nat} (h:m ≠ 0):rd m = ((m % 4294967296:Nat):Int) :: rd (m / 4294967296):=by rw [rd]; rw [if_neg h]
theorem dv_rd (m:Nat):dv (rd m) = m:=by
  induction m using Nat.strongRecOn with
  | _ m ih=>
    by_cases h:m = 0
    · subst h; rw [rd0]; rfl
    · rw [rd_ne h]; simp only [dv]
      rw [ih _ (Nat.div_lt_self (by omega) (by omega)),Int.toNat_natCast]
      exact Nat.mod_add_div m 4294967296
theorem rd_dig (m:Nat):Dig (rd m):=by
  induction m using Nat.strongRecOn with
  | _ m ih=>
    by_cases h:m = 0
    · subst h; rw [rd0]; intro x hx; cases hx
    · rw [rd_ne h]
      intro x hx
      rcases List.mem_cons.1 hx with rfl | hx
      · omega
      · exact ih _ (Nat.div_lt_self (by omega) (by omega)) x hx
def Nr (xs:List Int):Prop:=∀ x,xs.getLast? = some x → x ≠ 0
theorem Nr.tail {x y:Int} {xs:List Int} (h:Nr (x :: y :: xs)):Nr (y :: xs):=fun z hz=>h z (by rw [List.getLast?_cons_cons]; exact hz)
theorem dv_ge:∀ {xs:List Int},Dig xs → Nr xs → xs ≠ [] → 4294967296 ^ (xs.length - 1) ≤ dv xs
  | [],_,_,h=>absurd rfl h
  | [x],hd,h,_=>by
    have h1:=h x rfl
    have h2:=hd x (List.mem_cons_self ..)
    simp only [dv,List.length_cons,List.length_nil]
    show 4294967296 ^ 0 ≤ _
    rw [Nat.pow_zero]; omega
  | x :: y :: xs,hd,h,_=>by
    have h1:=dv_ge hd.tl h.tail (by simp)
    have h2:4294967296 * 4294967296 ^ xs.length ≤ 4294967296 * dv (y :: xs):=Nat.mul_le_mul_left _ (by simpa using h1)
    show 4294967296 ^ (xs.length + 1) ≤ x.toNat + 4294967296 * dv (y :: xs)
    rw [Nat.pow_succ,Nat.mul_comm]; omega
theorem dv_pos {xs:List Int} (hd:Dig xs) (h:Nr xs) (h0:xs ≠ []):0 < dv xs:=by
  have:=dv_ge hd h h0
  have h2:0 < 4294967296 ^ (xs.length - 1):=Nat.pow_pos (by decide)
  omega
theorem rd_dv:∀ {xs:List Int},Dig xs → Nr xs → rd (dv xs) = xs
  | [],_,_=>rd0
  | x :: xs,hd,h=>by
    have hp:=dv_pos hd h (by simp)
    have hx:=hd x (List.mem_cons_self ..)
    rw [rd_ne (by omega)]
    have h1:((dv (x :: xs) % 4294967296:Nat):Int) = x:=by simp only [dv]; omega
    have h2:dv (x :: xs) / 4294967296 = dv xs:=by simp only [dv]; omega
    have h3:Nr xs:=by
      cases xs with
      | nil=>intro z hz; simp at hz
      | cons y ys=>exact h.tail
    rw [h1,h2,rd_dv hd.tl h3]
theorem rd_nr (m:Nat):Nr (rd m):=by
  induction m using Nat.strongRecOn with
  | _ m ih=>
    intro x hx
    by_cases h:m = 0
    · subst h; rw [rd0] at hx; cases hx
    · rw [rd_ne h] at hx
      by_cases h2:m / 4294967296 = 0
      · rw [h2,rd0] at hx
        simp at hx
        omega
      · have h3:=ih (m / 4294967296) (Nat.div_lt_self (by omega) (by omega))
        rw [rd_ne h2] at hx h3
        rw [List.getLast?_cons_cons] at hx
        exact h3 x hx
theorem rd_len {m l:Nat} (h:m < 4294967296 ^ l):(rd m).length ≤ l:=by
  by_cases h0:rd m = []
  · rw [h0]; simp
  · have h1:=dv_ge (rd_dig m) (rd_nr m) h0
    rw [dv_rd] at h1
    have h2:=Nat.lt_of_le_of_lt h1 h
    have h3:=(Nat.pow_lt_pow_iff_right (by omega)).1 h2
    omega
theorem rd_nil {m:Nat}:rd m = [] ↔ m = 0:=⟨fun h=>by have:=dv_rd m; rw [h] at this; exact this.symm,fun h=>by rw [h]; exact rd0⟩
theorem rd_mono {a b:Nat} (h:a ≤ b):(rd a).length ≤ (rd b).length:=rd_len (Nat.lt_of_le_of_lt h (by have:=dv_lt (rd_dig b); rwa [dv_rd] at this))
theorem cutR_ok (n:Nat) (ws:List Int) (hd:Dig ws) (hn:ws.length < n) (hl:ws.length ≤ 1000000):wardmoteref01_cut_p n ws = some (rd (dv ws)):=by
  have h:=loop_ok (B:=wardmoteref01_cut_l1 n ws) (fun z:Int=>z.toNat) (fun z=>0 ≤ z∧z ≤ ws.length∧∀ i:Nat,z.toNat ≤ i → ∀ h:i < ws.length,ws[i] = 0)
    (fun z=>∃ k:Nat,z = k∧k ≤ ws.length∧(∀ i:Nat,k ≤ i → ∀ h:i < ws.length,ws[i] = 0)∧∀ h:0 < k,∀ h2:k - 1 < ws.length,ws[k - 1] ≠ 0) ?_ n (ws.length:Int) ⟨by omega,by omega,fun i h1 h2=>by omega⟩ (by simpa using hn)
  · obtain ⟨z,hz,k,rfl,hk,hz0,hz1⟩:=h
    have e:dv ws = dv (ws.take k):=by
      conv=>lhs; rw [← List.take_append_drop k ws,dv_app]
      rw [dv_zero (ws.drop k) fun x hx=>?_]
      · simp
      · obtain ⟨i,hi,rfl⟩:=List.getElem_of_mem hx
        rw [List.getElem_drop]
        exact hz0 _ (by omega) _
    have hnm:Nr (ws.take k):=by
      intro x hx
      rw [List.getLast?_eq_getElem?,List.length_take,Nat.min_eq_left hk] at hx
      obtain ⟨h1,rfl⟩:=List.getElem?_eq_some_iff.1 hx
      have h2:k - 1 < ws.length:=by rw [List.length_take] at h1; omega
      by_cases h0:0 < k
      · rw [List.getElem_take]; exact hz1 h0 h2
      · rw [List.length_take] at h1; omega
    have e2:rd (dv ws) = ws.take k:=by rw [e]; exact rd_dv (fun x hx=>hd x (List.mem_of_mem_take hx)) hnm
    unfold wardmoteref01_cut_p jn
    simp only [hz,obind,cut_ok hk,e2]
  · intro z J ⟨h1,h2,h3⟩ hJ
    unfold wardmoteref01_cut_l1
    simp only
    by_cases h0:0 < z
    · rw [if_pos h0,chkI (by omega) (by omega),obind,idx_ok (by omega) (by omega),obind]
      split
      · rename_i hx
        rw [obind]
        refine hJ (z - 1) ⟨by omega,by omega,fun i h4 h5=>?_⟩ (by omega)
        by_cases h6:i = (z - 1).toNat
        · subst h6; exact hx
        · exact h3 i (by omega) h5
      · rename_i hx
        refine ⟨z,rfl,z.toNat,by omega,by omega,h3,fun h4 h5=>?_⟩
        have:(z - 1).toNat = z.toNat - 1:=by omega
        simp only [this] at hx
        exact hx
    · rw [if_neg h0]
      exact ⟨z,rfl,0,by omega,by omega,fun i h4 h5=>h3 i (by omega) h5,fun h4=>by omega⟩
theorem dlen_lt {a b:List Int} (ha:Dig a) (hbd:Dig b) (hb:Nr b) (h:a.length < b.length):dv a < dv b:=by
  have h1:=dv_lt ha
  have h2:=dv_ge hbd hb (by intro e; rw [e] at h; simp at h)
  have h3:4294967296 ^ a.length ≤ 4294967296 ^ (b.length - 1):=Nat.pow_le_pow_right (by omega) (by omega)
  omega
theorem dword_lt {a b:List Int} {i:Nat} (hda:Dig a) (hdb:Dig b) (ha:i < a.length) (hb:i < b.length) (hd:a.drop (i + 1) = b.drop (i + 1)) (h:a[i] < b[i]):dv a < dv b:=by
  rw [dv_split a ha,dv_split b hb,hd]
  have h1:=dv_lt (xs:=a.take i) fun x hx=>hda x (List.mem_of_mem_take hx)
  rw [List.length_take,Nat.min_eq_left (by omega)] at h1
  have h3:=hda a[i] (List.getElem_mem _)
  have h4:=hdb b[i] (List.getElem_mem _)
  have h2:4294967296 ^ i * (a[i].toNat + 1) ≤ 4294967296 ^ i * b[i].toNat:=Nat.mul_le_mul_left _ (by omega)
  rw [Nat.mul_add] at h2
  omega
theorem order_ok (n:Nat) (a b:List Int) (hda:Dig a) (hdb:Dig b) (ha:Nr a) (hb:Nr b) (hn:a.length < n) (hl:a.length < 1000000):∃ c,wardmoteref01_order_p n a b = some c∧(c < 0 ↔ dv a < dv b)∧(c = 0 ↔ dv a = dv b):=by
  unfold wardmoteref01_order_p
  by_cases h:a.length = b.length
  · rw [if_pos h]
    have hh:=loop_ok (B:=wardmoteref01_order_l1 n a b) (fun z:Int=>(z + 1).toNat) (fun z=>-1 ≤ z∧z < a.length∧a.drop (z + 1).toNat = b.drop (z + 1).toNat)
      (fun r=>(∃ c,r = .inl c∧(c < 0∧dv a < dv b ∨ 0 < c∧dv b < dv a)) ∨ (r = .inr ()∧a = b)) ?_ n ((a.length:Int) - 1) ⟨by omega,by omega,?_⟩ (by omega)
    · obtain ⟨r,hr,⟨c,h1,h2⟩ | h1⟩:=hh
      · rw [hr,h1]; exact ⟨_,rfl,by omega,by omega⟩
      · rw [hr,h1.1,h1.2]; exact ⟨_,rfl,by omega,by omega⟩
    · intro z J ⟨h1,h2,h3⟩ hJ
      unfold wardmoteref01_order_l1
      simp only
      by_cases h0:0 ≤ z
      · have e1:(z + 1).toNat = z.toNat + 1:=by omega
        rw [e1] at h3
        have d1:=hda (a[z.toNat]'(by omega)) (List.getElem_mem _)
        have d2:=hdb (b[z.toNat]'(by omega)) (List.getElem_mem _)
        rw [if_pos h0,idx_ok h0 (by omega),obind,idx_ok h0 (by omega),obind]
        split
        · rename_i he
          rw [chkI (by omega) (by omega),obind]
          refine hJ (z - 1) ⟨by omega,by omega,?_⟩ (by omega)
          rw [show (z - 1 + 1).toNat = z.toNat by omega,List.drop_eq_getElem_cons (by omega),List.drop_eq_getElem_cons (l:=b) (by omega),h3,he]
        · rename_i hne
          rw [chkI (by omega) (by omega),obind]
          by_cases hlt:a[z.toNat]'(by omega) < b[z.toNat]'(by omega)
          · exact ⟨_,rfl,.inl ⟨_,rfl,.inl ⟨by omega,dword_lt hda hdb (by omega) (by omega) h3 hlt⟩⟩⟩
          · exact ⟨_,rfl,.inl ⟨_,rfl,.inr ⟨by omega,dword_lt hdb hda (by omega) (by omega) h3.symm (by omega)⟩⟩⟩
      · rw [if_neg h0]
        have e1:(z + 1).toNat = 0:=by omega
        rw [e1] at h3
        exact ⟨_,rfl,.inr ⟨rfl,by simpa using h3⟩⟩
    · rw [show ((a.length:Int) - 1 + 1).toNat = a.length by omega,List.drop_length,h,List.drop_length]
  · rw [if_neg h]
    refine ⟨_,rfl,?_⟩
    by_cases h1:a.length < b.length
    · have:=dlen_lt hda hdb hb h1; omega
    · have:=dlen_lt (a:=b) hdb hda ha (by omega); omega
theorem dig_push {xs:List Int} {x:Int} (h:Dig xs) (hx:0 ≤ x∧x < 4294967296):Dig (xs ++ [x]):=fun y hy=>(List.mem_append.1 hy).elim (h y) fun e=>by rw [List.mem_singleton.1 e]; exact hx
theorem dv_push (xs:List Int) (x:Int):dv (xs ++ [x]) = dv xs + 4294967296 ^ xs.length * x.toNat:=by rw [dv_app]; simp [dv]
theorem lessR_ok (n:Nat) (a b:List Int) (hda:Dig a) (hdb:Dig b) (hb:b.length ≤ a.length) (hv:dv b ≤ dv a) (hn:a.length < n) (hl:a.length < 100000):wardmoteref01_less_p n a b = some (rd (dv a - dv b)):=by
  have h:=loop_ok (B:=wardmoteref01_less_l1 n a b) (fun s:Nat × Nat × List Int=>a.length - s.2.1) (fun s=>s.2.1 ≤ a.length∧s.2.2.length = s.2.1∧s.1 ≤ 1∧Dig s.2.2∧dv s.2.2 + dv (b.take s.2.1) = dv (a.take s.2.1) + 4294967296 ^ s.2.1 * s.1)
    (fun r:List Int=>r.length = a.length∧Dig r∧dv r = dv a - dv b) ?_ n (0,0,[]) ⟨by simp,by simp,by simp,dig_nil,by simp [dv]⟩ (by simpa using hn)
  · obtain ⟨xs,h1,h2,h3,h4⟩:=h
    unfold wardmoteref01_less_p
    rw [h1,obind,cutR_ok n xs h3 (by omega) (by omega),obind,h4]
  · rintro ⟨u,i,xs⟩ J ⟨h1,h2,h3,h4,h5⟩ hJ
    simp only at h1 h2 h3 h4 h5 hJ
    unfold wardmoteref01_less_l1
    simp only
    by_cases hi:i < a.length
    · have da:=hda a[i] (List.getElem_mem _)
      rw [if_pos hi,List.getElem?_eq_getElem hi,obind,chkI (by omega) (by omega),obind]
      have key:∀ y:Int,0 ≤ y → y < 4294967296 → y.toNat = (b[i]?.getD 0).toNat → ∃ r,(if a[i] - (u:Int) - y < 0 then (chk (a[i] - (u:Int) - y + 4294967296)).bind fun s245=>(app xs ([s245]:List Int)).bind fun xs230=>J (1,i + 1,xs230) else (app xs ([a[i] - (u:Int) - y]:List Int)).bind fun xs230=>J (0,i + 1,xs230)) = some r∧r.length = a.length∧Dig r∧dv r = dv a - dv b:=by
        intro y y0 y1 hy
        split
        · rename_i hneg
          rw [chkI (by omega) (by omega),obind,appS _ _ (by simp only [List.length_cons,List.length_nil]; omega),obind]
          have e:dv (xs ++ [a[i] - (u:Int) - y + 4294967296]) + dv (b.take (i + 1)) = dv (a.take (i + 1)) + 4294967296 ^ (i + 1) * 1:=by
            rw [dv_push,h2,dv_take a hi,dv_take2 b i,← hy,Nat.pow_succ]
            have e1:(a[i] - (u:Int) - y + 4294967296).toNat + u + y.toNat = a[i].toNat + 4294967296:=by omega
            have e2:=congrArg (4294967296 ^ i * ·) e1
            simp only [Nat.mul_add] at e2
            omega
          refine hJ (1,i + 1,_) ⟨hi,by simp only [List.length_append,List.length_cons,List.length_nil]; omega,by simp,dig_push h4 (by omega),by simpa using e⟩ (by simp only; omega)
        · rename_i hneg
          rw [appS _ _ (by simp only [List.length_cons,List.length_nil]; omega),obind]
          have e:dv (xs ++ [a[i] - (u:Int) - y]) + dv (b.take (i + 1)) = dv (a.take (i + 1)) + 4294967296 ^ (i + 1) * 0:=by
            rw [dv_push,h2,dv_take a hi,dv_take2 b i,← hy,Nat.mul_zero]
            have e1:(a[i] - (u:Int) - y).toNat + u + y.toNat = a[i].toNat:=by omega
            have e2:=congrArg (4294967296 ^ i * ·) e1
            simp only [Nat.mul_add] at e2
            omega
          refine hJ (0,i + 1,_) ⟨hi,by simp only [List.length_append,List.length_cons,List.length_nil]; omega,by simp,dig_push h4 (by omega),by simpa using e⟩ (by simp only; omega)
      unfold jn
      simp only
      by_cases hj:i < b.length
      · have db:=hdb b[i] (List.getElem_mem _)
        rw [if_pos hj,List.getElem?_eq_getElem hj,obind,chkI (by omega) (by omega),obind]
        exact key b[i] db.1 db.2 (by rw [List.getElem?_eq_getElem hj]; rfl)
      · rw [if_neg hj]
        have:=key 0 (by decide) (by decide) (by rw [List.getElem?_eq_none (by omega)]; rfl)
        rwa [Int.sub_zero] at this
    · rw [if_neg hi]
      have:i = a.length:=by omega
      subst this
      rw [List.take_length,take_all hb] at h5
      refine ⟨xs,rfl,h2,h4,?_⟩
      have h6:=dv_lt h4
      rw [h2] at h6
      by_cases hu:u = 0
      · rw [hu] at h5; omega
      · have:u = 1:=by omega
        rw [this] at h5; omega
theorem twiceR_ok (n:Nat) (a:List Int) (bit:Int) (hda:Dig a) (h0:0 ≤ bit∧bit ≤ 1) (hn:a.length + 1 < n) (hl:a.length < 100000):wardmoteref01_twice_p n a bit = some (rd (2 * dv a + bit.toNat)):=by
  have h:=loop_ok (B:=wardmoteref01_twice_l1 n a) (fun s:Int × Nat × List Int=>a.length - s.2.1) (fun s=>s.2.1 ≤ a.length∧s.2.2.length = s.2.1∧(0 ≤ s.1∧s.1 ≤ 1)∧Dig s.2.2∧dv s.2.2 + 4294967296 ^ s.2.1 * s.1.toNat = 2 * dv (a.take s.2.1) + bit.toNat)
    (fun r:List Int × Int=>r.1.length = a.length∧Dig r.1∧(0 ≤ r.2∧r.2 ≤ 1)∧dv r.1 + 4294967296 ^ a.length * r.2.toNat = 2 * dv a + bit.toNat) ?_ n (bit,0,[]) ⟨by simp,by simp,h0,dig_nil,by simp [dv]⟩ (by simp only; omega)
  · obtain ⟨⟨xs,c⟩,h1,h2,h3,h4,h5⟩:=h
    simp only at h2 h3 h4 h5
    unfold wardmoteref01_twice_p
    rw [h1,obind]
    simp only
    rw [appS _ _ (by simp only [List.length_cons,List.length_nil]; omega),obind,cutR_ok n _ (dig_push h3 (by omega)) (by simp only [List.length_append,List.length_cons,List.length_nil]; omega) (by simp only [List.length_append,List.length_cons,List.length_nil]; omega),obind,dv_push,h2,h5]
  · rintro ⟨c,i,xs⟩ J ⟨h1,h2,h3,h4,h5⟩ hJ
    simp only at h1 h2 h3 h4 h5 hJ
    unfold wardmoteref01_twice_l1
    simp only
    by_cases hi:i < a.length
    · have da:=hda a[i] (List.getElem_mem _)
      have q0:Int.tdiv (2 * a[i] + c) 4294967296 = (2 * a[i] + c) / 4294967296:=Int.tdiv_eq_ediv_of_nonneg (by omega)
      have m0:Int.tmod (2 * a[i] + c) 4294967296 = (2 * a[i] + c) % 4294967296:=Int.tmod_eq_emod_of_nonneg (by omega)
      rw [if_pos hi,List.getElem?_eq_getElem hi,obind,chkI (by omega) (by omega),obind,chkI (by omega) (by omega),obind,remI_ok (by decide),obind,m0,appS _ _ (by simp only [List.length_cons,List.length_nil]; omega),obind]
      unfold quoI
      rw [if_neg (by decide),q0,chkI (by omega) (by omega),obind]
      refine hJ (_,i + 1,_) ⟨hi,by simp only [List.length_append,List.length_cons,List.length_nil]; omega,by simp only; omega,dig_push h4 (by omega),?_⟩ (by simp only; omega)
      simp only
      rw [dv_push,h2,dv_take a hi,Nat.pow_succ]
      have e1:((2 * a[i] + c) % 4294967296).toNat + 4294967296 * ((2 * a[i] + c) / 4294967296).toNat = 2 * a[i].toNat + c.toNat:=by omega
      have e2:=congrArg (4294967296 ^ i * ·) e1
      simp only [Nat.mul_add] at e2
      rw [Nat.mul_assoc]
      have e3:4294967296 ^ i * (2 * a[i].toNat) = 2 * (4294967296 ^ i * a[i].toNat):=Nat.mul_left_comm ..
      omega
    · rw [if_neg hi]
      have:i = a.length:=by omega
      subst this
      rw [List.take_length] at h5
      exact ⟨_,rfl,h2,h4,h3,h5⟩
end Go.Proofs.YtfccehcnajelgaaGreatDoor
