/- Plain laws: the reference's digits to the base 2^32: cut, compared, taken, doubled, divided. No program in sight but the printed functions. -/
import Derived.Test.YtgejkdheojkfiaaGreatDoorPASc
import Derived.Test.YtgejkdheojkfiaaGreatDoorPAWd
namespace Go.Proofs.YtgejkdheojkfiaaGreatDoor
open Go
def dv:List Int -> Nat
  | []=>0
  | x :: xs=>x.toNat + 4294967296 * dv xs
def Dig (xs:List Int):Prop:=∀ x ∈ xs,0 <= x/\x < 4294967296
theorem dig_nil:Dig []:=fun x hx=>by cases hx
theorem dv_app (xs ys:List Int):dv (xs ++ ys) = dv xs + 4294967296 ^ xs.length * dv ys:=by
  induction xs with
  | nil=>simp [dv]
  | cons x xs ih=>simp only [List.cons_append,dv,ih,List.length_cons,Nat.pow_succ]; grind
theorem Dig.tl {x:Int} {xs:List Int} (h:Dig (x :: xs)):Dig xs:=fun y hy=>h y (List.mem_cons_of_mem _ hy)
theorem dv_lt:∀ {xs:List Int},Dig xs -> dv xs < 4294967296 ^ xs.length
  | [],_=>by simp [dv]
  | x :: xs,h=>by
    have h1:=h x (List.mem_cons_self ..)
    have h2:4294967296 * (dv xs + 1) <= 4294967296 * 4294967296 ^ xs.length:=Nat.mul_le_mul_left _ (dv_lt h.tl)
    simp only [dv,List.length_cons,Nat.pow_succ]
    rw [Nat.mul_comm (_ ^ _)]
    omega
theorem dv_take (a:List Int) {i:Nat} (h:i < a.length):dv (a.take (i + 1)) = dv (a.take i) + 4294967296 ^ i * a[i].toNat:=by
  rw [<- List.take_append_getElem h,dv_app,List.length_take,Nat.min_eq_left (Nat.le_of_lt h)]
  simp [dv]
theorem dv_take2 (b:List Int) (i:Nat):dv (b.take (i + 1)) = dv (b.take i) + 4294967296 ^ i * (b[i]?.getD 0).toNat:=by
  by_cases h:i < b.length
  · rw [dv_take b h,List.getElem?_eq_getElem h]; rfl
  · rw [take_all (by omega),take_all (by omega),List.getElem?_eq_none (by omega)]; simp
theorem dv_split (a:List Int) {i:Nat} (h:i < a.length):dv a = dv (a.take i) + 4294967296 ^ i * a[i].toNat + 4294967296 ^ (i + 1) * dv (a.drop (i + 1)):=by
  conv=>lhs; rw [<- List.take_append_drop (i + 1) a,dv_app]
  rw [dv_take a h,List.length_take,Nat.min_eq_left (by omega)]
theorem dv_put:∀ {xs:List Int} {j:Nat} (v:Int) (h:j < xs.length),dv (xs.set j v) + 4294967296 ^ j * xs[j].toNat = dv xs + 4294967296 ^ j * v.toNat
  | x :: xs,0,v,_=>by simp only [List.set_cons_zero,dv,List.getElem_cons_zero,Nat.pow_zero]; omega
  | x :: xs,j + 1,v,h=>by
    have:=dv_put (xs:=xs) (j:=j) v (by simpa using h)
    simp only [List.set_cons_succ,dv,List.getElem_cons_succ,Nat.pow_succ]
    grind
theorem dv_zero:∀ (xs:List Int),(∀ x ∈ xs,x = 0) -> dv xs = 0
  | [],_=>rfl
  | x :: xs,h=>by
    have h1:=h x (List.mem_cons_self ..)
    have h2:=dv_zero xs fun y hy=>h y (List.mem_cons_of_mem _ hy)
    subst h1; simp [dv,h2]
def rd (m:Nat):List Int:=if m = 0 then [] else ((m % 4294967296:Nat):Int) :: rd (m / 4294967296)
termination_by m
decreasing_by exact Nat.div_lt_self (by omega) (by omega)
theorem rd0:rd 0 = []:=by unfold rd; simp
theorem rd_ne {m:Nat} (h:m ≠ 0):rd m = ((m % 4294967296:Nat):Int) :: rd (m / 4294967296):=by rw [rd]; rw [if_neg h]
theorem dv_rd (m:Nat):dv (rd m) = m:=by
  induction m using Nat.strongRecOn with
  | _ m ih=>
    by_cases h:m = 0
    · subst h; rw [rd0]; rfl
    · rw [rd_ne h]; simp only [dv]
      rw [ih _ (Nat.div_lt_self (by omega) (by omega)),Int.toNat_natCast]
      exact Nat.mod_add_div m 4294967296
theorem rd_dig (m:Nat):Dig (rd m):=by
  induction m using Nat.strongRecOn with
  | _ m ih=>
    by_cases h:m = 0
    · subst h; rw [rd0]; intro x hx; cases hx
    · rw [rd_ne h]
      intro x hx
      rcases List.mem_cons.1 hx with rfl | hx
      · omega
      · exact ih _ (Nat.div_lt_self (by omega) (by omega)) x hx
def Nr (xs:List Int):Prop:=∀ x,xs.getLast? = some x -> x ≠ 0
theorem Nr.tail {x y:Int} {xs:List Int} (h:Nr (x :: y :: xs)):Nr (y :: xs):=fun z hz=>h z (by rw [List.getLast?_cons_cons]; exact hz)
theorem dv_ge:∀ {xs:List Int},Dig xs -> Nr xs -> xs ≠ [] -> 4294967296 ^ (xs.length - 1) <= dv xs
  | [],_,_,h=>absurd rfl h
  | [x],hd,h,_=>by
    have h1:=h x rfl
    have h2:=hd x (List.mem_cons_self ..)
    simp only [dv,List.length_cons,List.length_nil]
    show 4294967296 ^ 0 <= _
    rw [Nat.pow_zero]; omega
  | x :: y :: xs,hd,h,_=>by
    have h1:=dv_ge hd.tl h.tail (by simp)
    have h2:4294967296 * 4294967296 ^ xs.length <= 4294967296 * dv (y :: xs):=Nat.mul_le_mul_left _ (by simpa using h1)
    show 4294967296 ^ (xs.length + 1) <= x.toNat + 4294967296 * dv (y :: xs)
    rw [Nat.pow_succ,Nat.mul_comm]; omega
theorem dv_pos {xs:List Int} (hd:Dig xs) (h:Nr xs) (h0:xs ≠ []):0 < dv xs:=by
  have:=dv_ge hd h h0
  have h2:0 < 4294967296 ^ (xs.length - 1):=Nat.pow_pos (by decide)
  omega
theorem rd_dv:∀ {xs:List Int},Dig xs -> Nr xs -> rd (dv xs) = xs
  | [],_,_=>rd0
  | x :: xs,hd,h=>by
    have hp:=dv_pos hd h (by simp)
    have hx:=hd x (List.mem_cons_self ..)
    rw [rd_ne (by omega)]
    have h1:((dv (x :: xs) % 4294967296:Nat):Int) = x:=by simp only [dv]; omega
    have h2:dv (x :: xs) / 4294967296 = dv xs:=by simp only [dv]; omega
    have h3:Nr xs:=by
      cases xs with
      | nil=>intro z hz; simp at hz
      | cons y ys=>exact h.tail
    rw [h1,h2,rd_dv hd.tl h3]
theorem rd_nr (m:Nat):Nr (rd m):=by
  induction m using Nat.strongRecOn with
  | _ m ih=>
    intro x hx
    by_cases h:m = 0
    · subst h; rw [rd0] at hx; cases hx
    · rw [rd_ne h] at hx
      by_cases h2:m / 4294967296 = 0
      · rw [h2,rd0] at hx
        simp at hx
        omega
      · have h3:=ih (m / 4294967296) (Nat.div_lt_self (by omega) (by omega))
        rw [rd_ne h2] at hx h3
        rw [List.getLast?_cons_cons] at hx
        exact h3 x hx
theorem rd_len {m l:Nat} (h:m < 4294967296 ^ l):(rd m).length <= l:=by
  by_cases h0:rd m = []
  · rw [h0]; simp
  · have h1:=dv_ge (rd_dig m) (rd_nr m) h0
    rw [dv_rd] at h1
    have h2:=Nat.lt_of_le_of_lt h1 h
    have h3:=(Nat.pow_lt_pow_iff_right (by omega)).1 h2
    omega
theorem rd_nil {m:Nat}:rd m = [] ↔ m = 0:=⟨fun h=>by have:=dv_rd m; rw [h] at this; exact this.symm,fun h=>by rw [h]; exact rd0⟩
theorem rd_mono {a b:Nat} (h:a <= b):(rd a).length <= (rd b).length:=rd_len (Nat.lt_of_le_of_lt h (by have:=dv_lt (rd_dig b); rwa [dv_rd] at this))
theorem cutR_ok (n:Nat) (ws:List Int) (hd:Dig ws) (hn:ws.length < n) (hl:ws.length <= 1000000):aF_p n ws = some (rd (dv ws)):=by
  have h:=loop_ok (B:=aF_l1 n ws) (fun z:Int=>z.toNat) (fun z=>0 <= z/\z <= ws.length/\∀ i:Nat,z.toNat <= i -> ∀ h:i < ws.length,ws[i] = 0)
    (fun z=>∃ k:Nat,z = k/\k <= ws.length/\(∀ i:Nat,k <= i -> ∀ h:i < ws.length,ws[i] = 0)/\∀ h:0 < k,∀ h2:k - 1 < ws.length,ws[k - 1] ≠ 0) ?_ n (ws.length:Int) ⟨by omega,by omega,fun i h1 h2=>by omega⟩ (by simpa using hn)
  · obtain ⟨z,hz,k,rfl,hk,hz0,hz1⟩:=h
    have e:dv ws = dv (ws.take k):=by
      conv=>lhs; rw [<- List.take_append_drop k ws,dv_app]
      rw [dv_zero (ws.drop k) fun x hx=>?_]
      · simp
      · obtain ⟨i,hi,rfl⟩:=List.getElem_of_mem hx
        rw [List.getElem_drop]
        exact hz0 _ (by omega) _
    have hnm:Nr (ws.take k):=by
      intro x hx
      rw [List.getLast?_eq_getElem?,List.length_take,Nat.min_eq_left hk] at hx
      obtain ⟨h1,rfl⟩:=List.getElem?_eq_some_iff.1 hx
      have h2:k - 1 < ws.length:=by rw [List.length_take] at h1; omega
      by_cases h0:0 < k
      · rw [List.getElem_take]; exact hz1 h0 h2
      · rw [List.length_take] at h1; omega
    have e2:rd (dv ws) = ws.take k:=by rw [e]; exact rd_dv (fun x hx=>hd x (List.mem_of_mem_take hx)) hnm
    unfold aF_p jn
    simp only [hz,obind,cut_ok hk,e2]
  · intro z J ⟨h1,h2,h3⟩ hJ
    unfold aF_l1
    simp only
    by_cases h0:0 < z
    · rw [if_pos h0,chkI (by omega) (by omega),obind,idx_ok (by omega) (by omega),obind]
      split
      · rename_i hx
        rw [obind]
        refine hJ (z - 1) ⟨by omega,by omega,fun i h4 h5=>?_⟩ (by omega)
        by_cases h6:i = (z - 1).toNat
        · subst h6; exact hx
        · exact h3 i (by omega) h5
      · rename_i hx
        refine ⟨z,rfl,z.toNat,by omega,by omega,h3,fun h4 h5=>?_⟩
        have:(z - 1).toNat = z.toNat - 1:=by omega
        simp only [this] at hx
        exact hx
    · rw [if_neg h0]
      exact ⟨z,rfl,0,by omega,by omega,fun i h4 h5=>h3 i (by omega) h5,fun h4=>by omega⟩
theorem dlen_lt {a b:List Int} (ha:Dig a) (hbd:Dig b) (hb:Nr b) (h:a.length < b.length):dv a < dv b:=by
  have h1:=dv_lt ha
  have h2:=dv_ge hbd hb (by intro e; rw [e] at h; simp at h)
  have h3:4294967296 ^ a.length <= 4294967296 ^ (b.length - 1):=Nat.pow_le_pow_right (by omega) (by omega)
  omega
theorem dword_lt {a b:List Int} {i:Nat} (hda:Dig a) (hdb:Dig b) (ha:i < a.length) (hb:i < b.length) (hd:a.drop (i + 1) = b.drop (i + 1)) (h:a[i] < b[i]):dv a < dv b:=by
  rw [dv_split a ha,dv_split b hb,hd]
  have h1:=dv_lt (xs:=a.take i) fun x hx=>hda x (List.mem_of_mem_take hx)
  rw [List.length_take,Nat.min_eq_left (by omega)] at h1
  have h3:=hda a[i] (List.getElem_mem _)
  have h4:=hdb b[i] (List.getElem_mem _)
  have h2:4294967296 ^ i * (a[i].toNat + 1) <= 4294967296 ^ i * b[i].toNat:=Nat.mul_le_mul_left _ (by omega)
  rw [Nat.mul_add] at h2
  omega
theorem order_ok (n:Nat) (a b:List Int) (hda:Dig a) (hdb:Dig b) (ha:Nr a) (hb:Nr b) (hn:a.length < n) (hl:a.length < 1000000):∃ c,aC_p n a b = some c/\(c < 0 ↔ dv a < dv b)/\(c = 0 ↔ dv a = dv b):=by
  unfold aC_p
  by_cases h:a.length = b.length
  · rw [if_pos h]
    have hh:=loop_ok (B:=aC_l1 n a b) (fun z:Int=>(z + 1).toNat) (fun z=>-1 <= z/\z < a.length/\a.drop (z + 1).toNat = b.drop (z + 1).toNat)
      (fun r=>(∃ c,r = .inl c/\(c < 0/\dv a < dv b ∨ 0 < c/\dv b < dv a)) ∨ (r = .inr ()/\a = b)) ?_ n ((a.length:Int) - 1) ⟨by omega,by omega,?_⟩ (by omega)
    · obtain ⟨r,hr,⟨c,h1,h2⟩ | h1⟩:=hh
      · rw [hr,h1]; exact ⟨_,rfl,by omega,by omega⟩
      · rw [hr,h1.1,h1.2]; exact ⟨_,rfl,by omega,by omega⟩
    · intro z J ⟨h1,h2,h3⟩ hJ
      unfold aC_l1
      simp only
      by_cases h0:0 <= z
      · have e1:(z + 1).toNat = z.toNat + 1:=by omega
        rw [e1] at h3
        have d1:=hda (a[z.toNat]'(by omega)) (List.getElem_mem _)
        have d2:=hdb (b[z.toNat]'(by omega)) (List.getElem_mem _)
        rw [if_pos h0,idx_ok h0 (by omega),obind,idx_ok h0 (by omega),obind]
        split
        · rename_i he
          rw [chkI (by omega) (by omega),obind]
          refine hJ (z - 1) ⟨by omega,by omega,?_⟩ (by omega)
          rw [show (z - 1 + 1).toNat = z.toNat by omega,List.drop_eq_getElem_cons (by omega),List.drop_eq_getElem_cons (l:=b) (by omega),h3,he]
        · rename_i hne
          rw [chkI (by omega) (by omega),obind]
          by_cases hlt:a[z.toNat]'(by omega) < b[z.toNat]'(by omega)
          · exact ⟨_,rfl,.inl ⟨_,rfl,.inl ⟨by omega,dword_lt hda hdb (by omega) (by omega) h3 hlt⟩⟩⟩
          · exact ⟨_,rfl,.inl ⟨_,rfl,.inr ⟨by omega,dword_lt hdb hda (by omega) (by omega) h3.symm (by omega)⟩⟩⟩
      · rw [if_neg h0]
        have e1:(z + 1).toNat = 0:=by omega
        rw [e1] at h3
        exact ⟨_,rfl,.inr ⟨rfl,by simpa using h3⟩⟩
    · rw [show ((a.length:Int) - 1 + 1).toNat = a.length by omega,List.drop_length,h,List.drop_length]
  · rw [if_neg h]
    refine ⟨_,rfl,?_⟩
    by_cases h1:a.length < b.length
    · have:=dlen_lt hda hdb hb h1; omega
    · have:=dlen_lt (a:=b) hdb hda ha (by omega); omega
theorem dig_push {xs:List Int} {x:Int} (h:Dig xs) (hx:0 <= x/\x < 4294967296):Dig (xs ++ [x]):=fun y hy=>(List.mem_append.1 hy).elim (h y) fun e=>by rw [List.mem_singleton.1 e]; exact hx
theorem dv_push (xs:List Int) (x:Int):dv (xs ++ [x]) = dv xs + 4294967296 ^ xs.length * x.toNat:=by rw [dv_app]; simp [dv]
theorem lessR_ok (n:Nat) (a b:List Int) (hda:Dig a) (hdb:Dig b) (hb:b.length <= a.length) (hv:dv b <= dv a) (hn:a.length < n) (hl:a.length < 100000):ar_p n a b = some (rd (dv a - dv b)):=by
  have h:=loop_ok (B:=ar_l1 n a b) (fun s:Nat × Nat × List Int=>a.length - s.2.1) (fun s=>s.2.1 <= a.length/\s.2.2.length = s.2.1/\s.1 <= 1/\Dig s.2.2/\dv s.2.2 + dv (b.take s.2.1) = dv (a.take s.2.1) + 4294967296 ^ s.2.1 * s.1)
    (fun r:List Int=>r.length = a.length/\Dig r/\dv r = dv a - dv b) ?_ n (0,0,[]) ⟨by simp,by simp,by simp,dig_nil,by simp [dv]⟩ (by simpa using hn)
  · obtain ⟨xs,h1,h2,h3,h4⟩:=h
    unfold ar_p
    rw [h1,obind,cutR_ok n xs h3 (by omega) (by omega),obind,h4]
  · rintro ⟨u,i,xs⟩ J ⟨h1,h2,h3,h4,h5⟩ hJ
    simp only at h1 h2 h3 h4 h5 hJ
    unfold ar_l1
    simp only
    by_cases hi:i < a.length
    · have da:=hda a[i] (List.getElem_mem _)
      rw [if_pos hi,List.getElem?_eq_getElem hi,obind,chkI (by omega) (by omega),obind]
      have key:∀ y:Int,0 <= y -> y < 4294967296 -> y.toNat = (b[i]?.getD 0).toNat -> ∃ r,(if a[i] - (u:Int) - y < 0 then (chk (a[i] - (u:Int) - y + 4294967296)).bind fun s245=>(app xs ([s245]:List Int)).bind fun xs230=>J (1,i + 1,xs230) else (app xs ([a[i] - (u:Int) - y]:List Int)).bind fun xs230=>J (0,i + 1,xs230)) = some r/\r.length = a.length/\Dig r/\dv r = dv a - dv b:=by
        intro y y0 y1 hy
        split
        · rename_i hneg
          rw [chkI (by omega) (by omega),obind,appS _ _ (by simp only [List.length_cons,List.length_nil]; omega),obind]
          have e:dv (xs ++ [a[i] - (u:Int) - y + 4294967296]) + dv (b.take (i + 1)) = dv (a.take (i + 1)) + 4294967296 ^ (i + 1) * 1:=by
            rw [dv_push,h2,dv_take a hi,dv_take2 b i,<- hy,Nat.pow_succ]
            have e1:(a[i] - (u:Int) - y + 4294967296).toNat + u + y.toNat = a[i].toNat + 4294967296:=by omega
            have e2:=congrArg (4294967296 ^ i * ·) e1
            simp only [Nat.mul_add] at e2
            omega
          refine hJ (1,i + 1,_) ⟨hi,by simp only [List.length_append,List.length_cons,List.length_nil]; omega,by simp,dig_push h4 (by omega),by simpa using e⟩ (by simp only; omega)
        · rename_i hneg
          rw [appS _ _ (by simp only [List.length_cons,List.length_nil]; omega),obind]
          have e:dv (xs ++ [a[i] - (u:Int) - y]) + dv (b.take (i + 1)) = dv (a.take (i + 1)) + 4294967296 ^ (i + 1) * 0:=by
            rw [dv_push,h2,dv_take a hi,dv_take2 b i,<- hy,Nat.mul_zero]
            have e1:(a[i] - (u:Int) - y).toNat + u + y.toNat = a[i].toNat:=by omega
            have e2:=congrArg (4294967296 ^ i * ·) e1
            simp only [Nat.mul_add] at e2
            omega
          refine hJ (0,i + 1,_) ⟨hi,by simp only [List.length_append,List.length_cons,List.length_nil]; omega,by simp,dig_push h4 (by omega),by simpa using e⟩ (by simp only; omega)
      unfold jn
      simp only
      by_cases hj:i < b.length
      · have db:=hdb b[i] (List.getElem_mem _)
        rw [if_pos hj,List.getElem?_eq_getElem hj,obind,chkI (by omega) (by omega),obind]
        exact key b[i] db.1 db.2 (by rw [List.getElem?_eq_getElem hj]; rfl)
      · rw [if_neg hj]
        have:=key 0 (by decide) (by decide) (by rw [List.getElem?_eq_none (by omega)]; rfl)
        rwa [Int.sub_zero] at this
    · rw [if_neg hi]
      have:i = a.length:=by omega
      subst this
      rw [List.take_length,take_all hb] at h5
      refine ⟨xs,rfl,h2,h4,?_⟩
      have h6:=dv_lt h4
      rw [h2] at h6
      by_cases hu:u = 0
      · rw [hu] at h5; omega
      · have:u = 1:=by omega
        rw [this] at h5; omega
theorem twiceR_ok (n:Nat) (a:List Int) (bit:Int) (hda:Dig a) (h0:0 <= bit/\bit <= 1) (hn:a.length + 1 < n) (hl:a.length < 100000):bb_p n a bit = some (rd (2 * dv a + bit.toNat)):=by
  have h:=loop_ok (B:=bb_l1 n a) (fun s:Int × Nat × List Int=>a.length - s.2.1) (fun s=>s.2.1 <= a.length/\s.2.2.length = s.2.1/\(0 <= s.1/\s.1 <= 1)/\Dig s.2.2/\dv s.2.2 + 4294967296 ^ s.2.1 * s.1.toNat = 2 * dv (a.take s.2.1) + bit.toNat)
    (fun r:List Int × Int=>r.1.length = a.length/\Dig r.1/\(0 <= r.2/\r.2 <= 1)/\dv r.1 + 4294967296 ^ a.length * r.2.toNat = 2 * dv a + bit.toNat) ?_ n (bit,0,[]) ⟨by simp,by simp,h0,dig_nil,by simp [dv]⟩ (by simp only; omega)
  · obtain ⟨⟨xs,c⟩,h1,h2,h3,h4,h5⟩:=h
    simp only at h2 h3 h4 h5
    unfold bb_p
    rw [h1,obind]
    simp only
    rw [appS _ _ (by simp only [List.length_cons,List.length_nil]; omega),obind,cutR_ok n _ (dig_push h3 (by omega)) (by simp only [List.length_append,List.length_cons,List.length_nil]; omega) (by simp only [List.length_append,List.length_cons,List.length_nil]; omega),obind,dv_push,h2,h5]
  · rintro ⟨c,i,xs⟩ J ⟨h1,h2,h3,h4,h5⟩ hJ
    simp only at h1 h2 h3 h4 h5 hJ
    unfold bb_l1
    simp only
    by_cases hi:i < a.length
    · have da:=hda a[i] (List.getElem_mem _)
      have q0:Int.tdiv (2 * a[i] + c) 4294967296 = (2 * a[i] + c) / 4294967296:=Int.tdiv_eq_ediv_of_nonneg (by omega)
      have m0:Int.tmod (2 * a[i] + c) 4294967296 = (2 * a[i] + c) % 4294967296:=Int.tmod_eq_emod_of_nonneg (by omega)
      rw [if_pos hi,List.getElem?_eq_getElem hi,obind,chkI (by omega) (by omega),obind,chkI (by omega) (by omega),obind,remI_ok (by decide),obind,m0,appS _ _ (by simp only [List.length_cons,List.length_nil]; omega),obind]
      unfold quoI
      rw [if_neg (by decide),q0,chkI (by omega) (by omega),obind]
      refine hJ (_,i + 1,_) ⟨hi,by simp only [List.length_append,List.length_cons,List.length_nil]; omega,by simp only; omega,dig_push h4 (by omega),?_⟩ (by simp only; omega)
      simp only
      rw [dv_push,h2,dv_take a hi,Nat.pow_succ]
      have e1:((2 * a[i] + c) % 4294967296).toNat + 4294967296 * ((2 * a[i] + c) / 4294967296).toNat = 2 * a[i].toNat + c.toNat:=by omega
      have e2:=congrArg (4294967296 ^ i * ·) e1
      simp only [Nat.mul_add] at e2
      rw [Nat.mul_assoc]
      have e3:4294967296 ^ i * (2 * a[i].toNat) = 2 * (4294967296 ^ i * a[i].toNat):=Nat.mul_left_comm ..
      omega
    · rw [if_neg hi]
      have:i = a.length:=by omega
      subst this
      rw [List.take_length] at h5
      exact ⟨_,rfl,h2,h4,h3,h5⟩
end Go.Proofs.YtgejkdheojkfiaaGreatDoor
/- Plain laws: words shifted and divided: numbers alone. No program in sight. -/
namespace Go.Proofs.YtgejkdheojkfiaaGreatDoor
open Go
theorem val_put:∀ {xs:List UInt64} {j:Nat} (v:UInt64) (h:j < xs.length),val (xs.set j v) + 18446744073709551616 ^ j * xs[j].toNat = val xs + 18446744073709551616 ^ j * v.toNat
  | x :: xs,0,v,_=>by simp only [List.set_cons_zero,val,List.getElem_cons_zero,Nat.pow_zero]; omega
  | x :: xs,j + 1,v,h=>by
    have:=val_put (xs:=xs) (j:=j) v (by simpa using h)
    simp only [List.set_cons_succ,val,List.getElem_cons_succ,Nat.pow_succ]
    grind
theorem or_low {a b:UInt64} {s:Nat} (ha:a.toNat < 2 ^ s) (hb:2 ^ s ∣ b.toNat):(a ||| b).toNat = a.toNat + b.toNat:=by
  obtain ⟨y,e⟩:=hb
  rw [UInt64.toNat_or,e,Nat.or_comm,<- Nat.two_pow_add_eq_or_of_lt ha,Nat.add_comm]
theorem pow64 (w:Nat):18446744073709551616 ^ w = 2 ^ (64 * w):=by
  rw [show (18446744073709551616:Nat) = 2 ^ 64 from rfl,<- Nat.pow_mul]
theorem shl_nat (x:UInt64) {s:Nat} (hs:s < 64):(shlU x s).toNat = x.toNat * 2 ^ s % 18446744073709551616:=by
  unfold shlU; rw [if_pos hs,UInt64.toNat_ofNat']
theorem shr_nat (x:UInt64) {s:Nat} (hs:s < 64):(shrU x s).toNat = x.toNat / 2 ^ s:=by
  unfold shrU; rw [if_pos hs,UInt64.toNat_ofNat']
  exact Nat.mod_eq_of_lt (Nat.lt_of_le_of_lt (Nat.div_le_self _ _) x.toNat_lt)
theorem split64 {s:Nat} (hs:s <= 64):(18446744073709551616:Nat) = 2 ^ (64 - s) * 2 ^ s:=by
  rw [<- Nat.pow_add,show 64 - s + s = 64 by omega]
theorem shift_two (x:UInt64) {s:Nat} (h0:0 < s) (hs:s < 64):(shlU x s).toNat + 18446744073709551616 * (shrU x (64 - s)).toNat = x.toNat * 2 ^ s/\2 ^ s ∣ (shlU x s).toNat/\(shrU x (64 - s)).toNat < 2 ^ s:=by
  have e:=split64 (s:=s) (by omega)
  have e1:x.toNat * 2 ^ s / 18446744073709551616 = x.toNat / 2 ^ (64 - s):=by
    rw [e]; exact Nat.mul_div_mul_right _ _ (Nat.two_pow_pos s)
  have e2:x.toNat * 2 ^ s % 18446744073709551616 = x.toNat % 2 ^ (64 - s) * 2 ^ s:=by
    rw [e]; exact Nat.mul_mod_mul_right ..
  rw [shl_nat x hs,shr_nat x (by omega)]
  refine ⟨?_,?_,?_⟩
  · rw [<- e1]; exact Nat.mod_add_div ..
  · rw [e2]; exact Nat.dvd_mul_left ..
  · refine Nat.div_lt_of_lt_mul ?_
    rw [<- e]; exact x.toNat_lt
theorem shl_zero (x:UInt64):shlU x 0 = x:=by
  refine UInt64.toNat_inj.1 ?_
  rw [shl_nat x (by decide),Nat.pow_zero,Nat.mul_one]
  exact Nat.mod_eq_of_lt x.toNat_lt
theorem or_zero_left (x:UInt64):(0:UInt64) ||| x = x:=by
  refine UInt64.toNat_inj.1 ?_
  rw [UInt64.toNat_or]; simp
theorem bit_add {q:List UInt64} {k:Nat} (h:k / 64 < q.length) (hd:2 ^ (k + 1) ∣ val q) (hb:(shlU 1 (k % 64)).toNat = 2 ^ (k % 64)):val (q.set (k / 64) (q[k / 64] ||| shlU 1 (k % 64))) = val q + 2 ^ k:=by
  have hs:=val_split q h
  have hl:=val_lt (q.take (k / 64))
  rw [List.length_take,Nat.min_eq_left (by omega)] at hl
  have hk:k = 64 * (k / 64) + k % 64:=by omega
  have hm:k % 64 < 64:=by omega
  have e1:2 ^ (k + 1) = 18446744073709551616 ^ (k / 64) * 2 ^ (k % 64 + 1):=by rw [pow64,<- Nat.pow_add]; congr 1; omega
  have e2:(18446744073709551616:Nat) = 2 ^ (k % 64 + 1) * 2 ^ (63 - k % 64):=by rw [<- Nat.pow_add,show k % 64 + 1 + (63 - k % 64) = 64 by omega]
  have h0:val (q.take (k / 64)) = 0:=by
    have h1:18446744073709551616 ^ (k / 64) ∣ val q:=Nat.dvd_trans ⟨_,e1⟩ hd
    rw [hs,Nat.pow_succ,Nat.mul_assoc,Nat.add_assoc,<- Nat.mul_add] at h1
    have h2:=(Nat.dvd_add_left (Nat.dvd_mul_right ..)).1 h1
    exact Nat.eq_zero_of_dvd_of_lt h2 hl
  have h3:2 ^ (k % 64 + 1) ∣ (q[k / 64]).toNat:=by
    rw [e1,hs,h0,Nat.zero_add,show (18446744073709551616:Nat) ^ (k / 64 + 1) = 18446744073709551616 ^ (k / 64) * 18446744073709551616 from Nat.pow_succ ..,Nat.mul_assoc (18446744073709551616 ^ (k / 64)) 18446744073709551616,<- Nat.mul_add] at hd
    have h4:=Nat.dvd_of_mul_dvd_mul_left (Nat.pow_pos (by decide)) hd
    have h5:2 ^ (k % 64 + 1) ∣ 18446744073709551616 * val (q.drop (k / 64 + 1)):=Nat.dvd_trans ⟨_,e2⟩ (Nat.dvd_mul_right ..)
    exact (Nat.dvd_add_left h5).1 h4
  have h6:(q[k / 64] ||| shlU 1 (k % 64)).toNat = 2 ^ (k % 64) + (q[k / 64]).toNat:=by
    rw [UInt64.or_comm]
    have:=or_low (a:=shlU 1 (k % 64)) (b:=q[k / 64]) (s:=k % 64 + 1) (by rw [hb]; exact Nat.pow_lt_pow_right (by decide) (by omega)) h3
    rw [this,hb]
  have h7:=val_put (q[k / 64] ||| shlU 1 (k % 64)) h
  have e3:2 ^ k = 18446744073709551616 ^ (k / 64) * 2 ^ (k % 64):=by rw [pow64,<- Nat.pow_add]; congr 1
  rw [h6,Nat.mul_add,<- e3] at h7
  omega
theorem shl_one {s:Nat} (hs:s < 64):(shlU 1 s).toNat = 2 ^ s:=by
  rw [shl_nat 1 hs]
  have:2 ^ s < 2 ^ 64:=Nat.pow_lt_pow_right (by decide) hs
  simp only [UInt64.toNat_one,Nat.one_mul]
  exact Nat.mod_eq_of_lt (by omega)
theorem div_step {a b q r k:Nat} (h1:a = b * q + r) (h2:r < b * 2 ^ (k + 1)) (h3:2 ^ (k + 1) ∣ q) :
    (b * 2 ^ k <= r -> a = b * (q + 2 ^ k) + (r - b * 2 ^ k)/\r - b * 2 ^ k < b * 2 ^ k/\2 ^ k ∣ q + 2 ^ k)/\(r < b * 2 ^ k -> 2 ^ k ∣ q):=by
  have h4:2 ^ k ∣ q:=Nat.dvd_trans ⟨2,by rw [Nat.pow_succ]⟩ h3
  rw [Nat.pow_succ,<- Nat.mul_assoc] at h2
  refine ⟨fun h=>⟨?_,by omega,Nat.dvd_add h4 (Nat.dvd_refl _)⟩,fun _=>h4⟩
  rw [Nat.mul_add]; omega
def eu (x y:Nat):Nat:=if y = 0 then 0 else (if x < y then 1 else 0) + Nat.log2 (x * y) + 1
theorem eu_step {x y:Nat} (h:y ≠ 0):eu y (x % y) < eu x y:=by
  have hm:x % y < y:=Nat.mod_lt _ (by omega)
  unfold eu
  rw [if_neg h]
  by_cases h0:x % y = 0
  · rw [if_pos h0]; omega
  · rw [if_neg h0,if_neg (show ¬ y < x % y by omega)]
    by_cases h1:x < y
    · rw [if_pos h1,Nat.mod_eq_of_lt h1,Nat.mul_comm y x]; omega
    · rw [if_neg h1]
      have h2:2 * (x % y) < x ∨ 2 * (x % y) = x:=by
        have h3:=Nat.div_add_mod x y
        have h4:1 <= x / y:=Nat.div_pos (by omega) (by omega)
        have h5:y * 1 <= y * (x / y):=Nat.mul_le_mul_left _ h4
        omega
      have h6:2 * (y * (x % y)) <= x * y:=by
        rw [Nat.mul_comm x y,Nat.mul_left_comm]
        exact Nat.mul_le_mul_left _ (by omega)
      have h7:y * (x % y) ≠ 0:=Nat.mul_ne_zero h h0
      have h8:Nat.log2 (y * (x % y)) + 1 <= Nat.log2 (x * y):=by
        rw [Nat.le_log2 (by omega),Nat.pow_succ]
        have:=Nat.log2_self_le h7
        omega
      omega
theorem eu_le {x y l:Nat} (hx:x < 2 ^ l) (hy:y < 2 ^ l):eu x y <= 2 * l + 2:=by
  unfold eu
  split
  · omega
  · rename_i h
    have h1:Nat.log2 (x * y) <= 2 * l:=by
      by_cases h0:x * y = 0
      · rw [h0]; simp
      · have:Nat.log2 (x * y) < 2 * l:=by
          rw [Nat.log2_lt h0,Nat.two_mul,Nat.pow_add]
          exact Nat.mul_lt_mul'' hx hy
        omega
    split <;> omega
end Go.Proofs.YtgejkdheojkfiaaGreatDoor
/- Plain laws: the reference's digits divided; its fractions of small numbers that are not negative. No program in sight but the printed functions. -/
namespace Go.Proofs.YtgejkdheojkfiaaGreatDoor
open Go
theorem shlS_all:(List.range 32).all (fun k=>decide (shlS 1 k = (2:Int) ^ k)) = true:=by kernel_rfl
theorem shlS_ok {k:Nat} (h:k < 32):shlS 1 k = (2:Int) ^ k:=of_decide_eq_true (List.all_eq_true.1 shlS_all k (List.mem_range.2 h))
theorem pow2_int (k:Nat):(2:Int) ^ k = ((2 ^ k:Nat):Int):=by norm_cast
theorem bit_ok {x:Int} {k:Nat} (hx:0 <= x) (hk:k < 32):remI (shrS x k) 2 = some ((x.toNat / 2 ^ k % 2:Nat):Int):=by
  obtain ⟨m,rfl⟩:=Int.eq_ofNat_of_zero_le hx
  unfold shrS
  rw [Nat.min_eq_left (by omega),pow2_int,Int.fdiv_eq_ediv_of_nonneg _ (Int.natCast_nonneg _),remI_ok (by decide),<- Int.natCast_ediv,Int.tmod_eq_emod_of_nonneg (Int.natCast_nonneg _),Int.toNat_natCast]
  congr 1
theorem pow32 (w:Nat):4294967296 ^ w = 2 ^ (32 * w):=by
  rw [show (4294967296:Nat) = 2 ^ 32 from rfl,<- Nat.pow_mul]
theorem dv_div {xs:List Int} (h:Dig xs) (i:Nat) (hi:i <= xs.length):dv xs / 4294967296 ^ i = dv (xs.drop i):=by
  have h1:=dv_lt (xs:=xs.take i) fun x hx=>h x (List.mem_of_mem_take hx)
  rw [List.length_take,Nat.min_eq_left hi] at h1
  have e:dv xs = dv (xs.take i) + 4294967296 ^ i * dv (xs.drop i):=by
    conv=>lhs; rw [<- List.take_append_drop i xs,dv_app,List.length_take,Nat.min_eq_left hi]
  rw [e,Nat.add_mul_div_left _ _ (Nat.pow_pos (by decide)),Nat.div_eq_of_lt h1,Nat.zero_add]
theorem digit_bit (a i k:Nat) (hk:k < 32) (hi:i < (rd a).length):(rd a)[i].toNat / 2 ^ k % 2 = a / 2 ^ (32 * i + k) % 2:=by
  have h1:=dv_div (rd_dig a) i (by omega)
  rw [dv_rd,List.drop_eq_getElem_cons hi] at h1
  simp only [dv] at h1
  rw [Nat.pow_add,<- pow32,<- Nat.div_div_eq_div_mul,h1]
  have e:(4294967296:Nat) = 2 ^ k * (2 * 2 ^ (31 - k)):=by
    rw [<- Nat.pow_succ', <- Nat.pow_add,show k + (31 - k).succ = 32 by omega]
  generalize dv (List.drop (i + 1) (rd a)) = r
  rw [e,Nat.mul_assoc,Nat.add_mul_div_left _ _ (Nat.two_pow_pos k),Nat.mul_assoc]
  omega
theorem dig_dvd {q:List Int} {i k:Nat} (hd:Dig q) (h:i < q.length) (hk:k < 32) (hv:2 ^ (32 * i + k + 1) ∣ dv q):2 ^ (k + 1) ∣ q[i].toNat:=by
  have hs:=dv_split q h
  have hl:=dv_lt (xs:=q.take i) fun x hx=>hd x (List.mem_of_mem_take hx)
  rw [List.length_take,Nat.min_eq_left (by omega)] at hl
  have e1:2 ^ (32 * i + k + 1) = 4294967296 ^ i * 2 ^ (k + 1):=by rw [pow32,<- Nat.pow_add]; congr 1
  have e2:(4294967296:Nat) = 2 ^ (k + 1) * 2 ^ (31 - k):=by rw [<- Nat.pow_add,show k + 1 + (31 - k) = 32 by omega]
  have h0:dv (q.take i) = 0:=by
    have h1:4294967296 ^ i ∣ dv q:=Nat.dvd_trans ⟨_,e1⟩ hv
    rw [hs,Nat.pow_succ,Nat.mul_assoc,Nat.add_assoc,<- Nat.mul_add] at h1
    have h2:=(Nat.dvd_add_left (Nat.dvd_mul_right ..)).1 h1
    exact Nat.eq_zero_of_dvd_of_lt h2 hl
  rw [e1,hs,h0,Nat.zero_add,show (4294967296:Nat) ^ (i + 1) = 4294967296 ^ i * 4294967296 from Nat.pow_succ ..,Nat.mul_assoc (4294967296 ^ i) 4294967296,<- Nat.mul_add] at hv
  have h4:=Nat.dvd_of_mul_dvd_mul_left (Nat.pow_pos (by decide)) hv
  have h5:2 ^ (k + 1) ∣ 4294967296 * dv (q.drop (i + 1)):=Nat.dvd_trans ⟨_,e2⟩ (Nat.dvd_mul_right ..)
  exact (Nat.dvd_add_left h5).1 h4
theorem dig_set {q:List Int} {i:Nat} {v:Int} (h:Dig q) (hv:0 <= v/\v < 4294967296):Dig (q.set i v):=fun x hx=>(List.mem_or_eq_of_mem_set hx).elim (h x) fun e=>e ▸ hv
theorem digit_room {t k:Nat} (hk:k < 32) (ht:t < 4294967296) (hd:2 ^ (k + 1) ∣ t):t + 2 ^ k < 4294967296:=by
  obtain ⟨c,rfl⟩:=hd
  have e2:(4294967296:Nat) = 2 ^ (k + 1) * 2 ^ (31 - k):=by rw [<- Nat.pow_add,show k + 1 + (31 - k) = 32 by omega]
  rw [e2] at ht
  have h1:=Nat.lt_of_mul_lt_mul_left ht
  have h2:2 ^ (k + 1) * (c + 1) <= 2 ^ (k + 1) * 2 ^ (31 - k):=Nat.mul_le_mul_left _ h1
  rw [<- e2,Nat.mul_add,Nat.pow_succ] at h2
  have:=Nat.two_pow_pos k
  rw [Nat.pow_succ]
  omega
theorem parts_in (n:Nat) (a b i:Nat) (q:List Int) (hb:(rd b).length < 10000) (hi:i < (rd a).length) (hq:i < q.length) (hqd:Dig q) (Q R:Nat) (h1:dv q = 2 ^ (32 * i + 32) * Q) (h2:a / 2 ^ (32 * i + 32) = b * Q + R) (h3:R < b) (hn:20000 < n) :
    ∃ q' Q' R', loopF (aq_l1 n (rd a) (i:Int) (rd b)) n (rd R,31,q) = some (rd R', q')/\q'.length = q.length/\Dig q' /\dv q' = 2 ^ (32 * i) * Q' /\a / 2 ^ (32 * i) = b * Q' + R' /\R' < b:=by
  have hh:=loop_ok (B:=aq_l1 n (rd a) (i:Int) (rd b)) (fun s:List Int × Int × List Int=>(s.2.1 + 1).toNat)
    (fun s=>(-1 <= s.2.1/\s.2.1 <= 31)/\s.2.2.length = q.length/\Dig s.2.2/\∃ Q R,s.1 = rd R/\dv s.2.2 = 2 ^ (32 * i + (s.2.1 + 1).toNat) * Q/\a / 2 ^ (32 * i + (s.2.1 + 1).toNat) = b * Q + R/\R < b)
    (fun y=>y.2.length = q.length/\Dig y.2/\∃ Q R,y.1 = rd R/\dv y.2 = 2 ^ (32 * i) * Q/\a / 2 ^ (32 * i) = b * Q + R/\R < b) ?_ n (rd R,31,q) ⟨by simp,rfl,hqd,Q,R,rfl,h1,h2,h3⟩ (by simp only; omega)
  · obtain ⟨⟨x,q'⟩,e,e1,e2,Q', R', e3,e4,e5,e6⟩:=hh
    simp only at e3
    subst e3
    exact ⟨q', Q', R', e,e1,e2,e4,e5,e6⟩
  · rintro ⟨xs,z,q⟩ J ⟨a1,a2,a3,Q,R,rfl,a4,a5,a6⟩ hJ
    simp only at a1 a2 a3 a4 a5 hJ
    unfold aq_l1
    simp only
    by_cases hz:0 <= z
    · obtain ⟨k,rfl⟩:∃ k:Nat,z = k:=⟨z.toNat,by omega⟩
      have hk:k < 32:=by omega
      have e0:(((k:Int) + 1).toNat) = k + 1:=by omega
      rw [e0] at a4 a5
      have hdi:=rd_dig a (rd a)[i] (List.getElem_mem _)
      have hRl:=rd_mono (Nat.le_of_lt a6)
      rw [if_pos hz,idx_ok (by omega) (by rw [Int.toNat_natCast]; exact hi),obind,show natOf (k:Int) = some k from by unfold natOf; rw [if_pos hz,Int.toNat_natCast],obind]
      simp only [Int.toNat_natCast]
      rw [bit_ok hdi.1 hk,obind,digit_bit a i k hk hi,twiceR_ok n _ _ (rd_dig R) (by omega) (by omega) (by omega),obind,dv_rd,Int.toNat_natCast]
      have hbit:a / 2 ^ (32 * i + k) % 2 < 2:=Nat.mod_lt _ (by decide)
      have hab:a / 2 ^ (32 * i + k) = b * (2 * Q) + (2 * R + a / 2 ^ (32 * i + k) % 2):=by
        have:a / 2 ^ (32 * i + (k + 1)) = a / 2 ^ (32 * i + k) / 2:=by rw [<- Nat.add_assoc,Nat.pow_succ,Nat.div_div_eq_div_mul]
        rw [this] at a5
        rw [Nat.mul_left_comm]; omega
      have hdq:dv q = 2 ^ (32 * i + k) * (2 * Q):=by rw [a4,<- Nat.add_assoc,Nat.pow_succ,Nat.mul_assoc]
      generalize a / 2 ^ (32 * i + k) % 2 = t at hbit hab ⊢
      obtain ⟨c,ec,c1,c2⟩:=order_ok n (rd (2 * R + t)) (rd b) (rd_dig _) (rd_dig _) (rd_nr _) (rd_nr _) (by have:=rd_len (m:=2 * R + t) (l:=(rd b).length + 1) (by have:=dv_lt (rd_dig b); rw [dv_rd] at this; rw [Nat.pow_succ]; omega); omega) (by have:=rd_len (m:=2 * R + t) (l:=(rd b).length + 1) (by have:=dv_lt (rd_dig b); rw [dv_rd] at this; rw [Nat.pow_succ]; omega); omega)
      rw [dv_rd,dv_rd] at c1 c2
      have hl2:(rd (2 * R + t)).length < 10002:=by have:=rd_len (m:=2 * R + t) (l:=(rd b).length + 1) (by have:=dv_lt (rd_dig b); rw [dv_rd] at this; rw [Nat.pow_succ]; omega); omega
      rw [ec,obind]
      unfold jn
      simp only
      have eN:(((k:Int) - 1 + 1)).toNat = k:=by omega
      by_cases hc:0 <= c
      · have hge:b <= 2 * R + t:=by omega
        have hdd:=dig_dvd a3 (by omega:i < q.length) hk (by rw [a4]; exact Nat.dvd_mul_right ..)
        have hqi:=a3 (q[i]'(by omega)) (List.getElem_mem _)
        have hroom:=digit_room hk (by omega) hdd
        have hk2:(2:Nat) ^ k < 4294967296:=by have:=Nat.zero_le (q[i]'(by omega)).toNat; omega
        rw [if_pos hc,lessR_ok n _ _ (rd_dig _) (rd_dig _) (rd_mono hge) (by rw [dv_rd,dv_rd]; exact hge) (by omega) (by omega),obind,dv_rd,dv_rd,idx_ok (by omega) (by rw [Int.toNat_natCast]; omega),obind]
        simp only [Int.toNat_natCast]
        rw [obind,shlS_ok hk,pow2_int,chkI (by omega) (by omega),obind,put_ok _ (by omega),obind,chkI (by omega) (by omega),obind]
        refine hJ (_,_,_) ⟨by simp only; omega,by simpa using a2,dig_set a3 (by omega),2 * Q + 1,2 * R + t - b,rfl,?_,?_,by omega⟩ (by simp only; omega)
        · simp only
          rw [eN]
          have hp:=dv_put ((q[i]'(by omega)) + ((2 ^ k:Nat):Int)) (by omega:i < q.length)
          rw [show ((q[i]'(by omega)) + ((2 ^ k:Nat):Int)).toNat = (q[i]'(by omega)).toNat + 2 ^ k by omega,Nat.mul_add] at hp
          have e5:2 ^ (32 * i + k) = 4294967296 ^ i * 2 ^ k:=by rw [pow32,<- Nat.pow_add]
          rw [Nat.mul_add,Nat.mul_one,<- hdq,e5]
          omega
        · simp only
          rw [eN,hab,Nat.mul_add]; omega
      · rw [if_neg hc,chkI (by omega) (by omega),obind]
        refine hJ (_,_,_) ⟨by simp only; omega,a2,a3,2 * Q,2 * R + t,rfl,?_,?_,by omega⟩ (by simp only; omega)
        · simp only; rw [eN]; exact hdq
        · simp only; rw [eN]; exact hab
    · rw [if_neg hz]
      have e0:(z + 1).toNat = 0:=by omega
      rw [e0] at a4 a5
      exact ⟨_,rfl,a2,a3,Q,R,rfl,a4,a5,a6⟩
theorem partsD_ok (n:Nat) (a b:Nat) (h0:b ≠ 0) (ha:(rd a).length < 10000) (hb:(rd b).length < 10000) (hn:20000 < n):aq_p n (rd a) (rd b) = some (rd (a / b),rd (a % b)):=by
  have hbn:rd b ≠ []:=fun e=>h0 (rd_nil.1 e)
  have hbp:=dv_ge (rd_dig b) (rd_nr b) hbn
  have hal:=dv_lt (rd_dig a)
  rw [dv_rd] at hbp hal
  have hb1:1 <= (rd b).length:=by
    rcases h:rd b with _ | ⟨x,xs⟩
    · exact absurd h hbn
    · simp
  unfold aq_p
  by_cases hc:(((rd a).length:Nat):Int) <= (((rd b).length:Nat):Int) - 1
  · have hab:a < b:=Nat.lt_of_lt_of_le hal (Nat.le_trans (Nat.pow_le_pow_right (by decide) (by omega)) hbp)
    rw [if_pos hc,appS _ _ (by simp only [List.length_nil]; omega),obind,List.nil_append,Nat.div_eq_of_lt hab,Nat.mod_eq_of_lt hab,rd0]
  · obtain ⟨lq,hlq⟩:∃ lq:Nat,(((rd a).length:Nat):Int) - ((((rd b).length:Nat):Int) - 1) = lq:=⟨(rd a).length - ((rd b).length - 1),by omega⟩
    have hdr:(rd a).drop lq = rd (a / 2 ^ (32 * lq)):=by
      have h1:=dv_div (rd_dig a) lq (by omega)
      rw [dv_rd,pow32] at h1
      rw [h1]
      refine (rd_dv (fun x hx=>rd_dig a x (List.mem_of_mem_drop hx)) fun x hx=>?_).symm
      rw [List.getLast?_drop] at hx
      split at hx
      · cases hx
      · exact rd_nr a x hx
    have hR:a / 2 ^ (32 * lq) < b:=by
      rw [<- pow32]
      refine Nat.lt_of_lt_of_le ?_ hbp
      refine Nat.div_lt_of_lt_mul ?_
      rw [<- Nat.pow_add,show lq + ((rd b).length - 1) = (rd a).length by omega]
      exact hal
    rw [if_neg hc,hlq,mk_ok _ _ (by omega),obind]
    rw [show cut (rd a) (lq:Int) (((rd a).length:Nat):Int) = some ((rd a).drop lq) from by unfold cut; rw [if_pos ⟨by omega,by omega,by omega⟩,Int.toNat_natCast,Int.toNat_natCast,List.take_length],obind,appS _ _ (by rw [List.length_drop]; simp only [List.length_nil]; omega),obind,List.nil_append,hdr,List.length_replicate]
    have hh:=loop_ok (B:=aq_l2 n (rd a) (rd b)) (fun s:List Int × Int × List Int=>(s.2.1 + 1).toNat)
      (fun s=>(-1 <= s.2.1/\s.2.1 < lq)/\s.2.2.length = lq/\Dig s.2.2/\∃ Q R,s.1 = rd R/\dv s.2.2 = 2 ^ (32 * (s.2.1 + 1).toNat) * Q/\a / 2 ^ (32 * (s.2.1 + 1).toNat) = b * Q + R/\R < b)
      (fun y=>y.1.length = lq/\Dig y.1/\dv y.1 = a / b/\y.2 = rd (a % b)) ?_ n (rd (a / 2 ^ (32 * lq)),(lq:Int) - 1,List.replicate lq 0)
      ⟨by simp only; omega,by simp,fun x hx=>by rw [(List.mem_replicate.1 hx).2]; decide,0,a / 2 ^ (32 * lq),rfl,by simp only [Nat.mul_zero]; exact dv_zero _ fun x hx=>(List.mem_replicate.1 hx).2,by simp only [Nat.mul_zero,Nat.zero_add]; congr 2; omega,hR⟩ (by simp only; omega)
    · obtain ⟨⟨q,r⟩,e,e1,e2,e3,e4⟩:=hh
      simp only at e1 e2 e3 e4
      rw [e,obind]
      simp only
      rw [cutR_ok n q e2 (by omega) (by omega),obind,e3,e4]
    · rintro ⟨xs,z,q⟩ J ⟨a1,a2,a3,Q,R,rfl,a4,a5,a6⟩ hJ
      simp only at a1 a2 a3 a4 a5 hJ
      unfold aq_l2
      simp only
      by_cases hz:0 <= z
      · obtain ⟨k,rfl⟩:∃ k:Nat,z = k:=⟨z.toNat,by omega⟩
        have e0:32 * (((k:Int) + 1).toNat) = 32 * k + 32:=by omega
        rw [e0] at a4 a5
        obtain ⟨q', Q', R', e,e1,e2,e3,e4,e5⟩:=parts_in n a b k q hb (by omega) (by omega) a3 Q R a4 a5 a6 hn
        rw [if_pos hz,e,obind]
        simp only
        rw [chkI (by omega) (by omega),obind]
        have eN:(((k:Int) - 1 + 1)).toNat = k:=by omega
        refine hJ (_,_,_) ⟨by simp only; omega,by simp only; omega,e2,Q', R', rfl,by simp only; rw [eN]; exact e3,by simp only; rw [eN]; exact e4,e5⟩ (by simp only; omega)
      · rw [if_neg hz]
        have e0:(z + 1).toNat = 0:=by omega
        rw [e0,Nat.mul_zero,Nat.pow_zero] at a4 a5
        rw [Nat.div_one] at a5
        rw [Nat.one_mul] at a4
        have hu:=(Nat.div_mod_unique (a:=a) (b:=b) (c:=R) (d:=Q) (by omega)).2 ⟨by omega,a6⟩
        exact ⟨_,rfl,a2,a3,by simp only; rw [a4,hu.1],by simp only; rw [hu.2]⟩
theorem divisor_ok (n:Nat) (x y:Nat) (s t:Bool) (hx:(rd x).length < 10000) (hy:(rd y).length < 10000) (hn:18446744073709551616 < n):aS_p n ⟨s,rd x⟩ ⟨t,rd y⟩ = some ⟨false,rd (Nat.gcd x y)⟩:=by
  have hxl:=dv_lt (rd_dig x)
  have hyl:=dv_lt (rd_dig y)
  rw [dv_rd,pow32] at hxl hyl
  obtain ⟨M,hM⟩:∃ M:Nat,M = 320000:=⟨_,rfl⟩
  have hx2:x < 2 ^ M:=Nat.lt_of_lt_of_le hxl (Nat.pow_le_pow_right (by decide) (by omega))
  have hy2:y < 2 ^ M:=Nat.lt_of_lt_of_le hyl (Nat.pow_le_pow_right (by decide) (by omega))
  have he:=eu_le hx2 hy2
  have hh:=loop_ok (B:=aS_l1 n) (fun s:List Int × List Int=>eu (dv s.1) (dv s.2)) (fun s=>∃ a b,s = (rd a,rd b)/\(rd a).length < 10000/\(rd b).length < 10000/\Nat.gcd a b = Nat.gcd x y)
    (fun r=>r = rd (Nat.gcd x y)) ?_ n (rd x,rd y) ⟨_,_,rfl,hx,hy,rfl⟩ (by simp only [dv_rd]; omega)
  · obtain ⟨r,h1,rfl⟩:=hh
    unfold aS_p
    simp only
    rw [h1,obind]
  · rintro _ J ⟨a,b,rfl,h1,h2,h3⟩ hJ
    unfold aS_l1
    simp only
    by_cases h0:b = 0
    · subst h0
      rw [if_neg (by rw [rd0]; simp)]
      exact ⟨_,rfl,by rw [<- h3,Nat.gcd_zero_right]⟩
    · have hm:a % b < b:=Nat.mod_lt _ (by omega)
      have hbl:0 < (rd b).length:=by
        rcases h:rd b with _ | ⟨z,zs⟩
        · exact absurd (rd_nil.1 h) h0
        · simp
      rw [if_pos hbl,partsD_ok n a b h0 h1 h2 (by omega),obind]
      simp only
      refine hJ (rd b,rd (a % b)) ⟨_,_,rfl,h2,Nat.lt_of_le_of_lt (rd_mono (Nat.le_of_lt hm)) h2,?_⟩ (by simp only [dv_rd]; exact eu_step h0)
      rw [<- h3,Nat.gcd_comm a b,Nat.gcd_rec b a,Nat.gcd_comm]
end Go.Proofs.YtgejkdheojkfiaaGreatDoor
/- Plain laws: the reference's fractions of small numbers. No program in sight but the printed functions. -/
namespace Go.Proofs.YtgejkdheojkfiaaGreatDoor
open Go
theorem rd_pos {m:Nat}:0 < (rd m).length ↔ 0 < m:=by
  constructor
  · intro h
    by_cases h0:m = 0
    · rw [h0,rd0] at h; simp at h
    · omega
  · intro h
    rcases e:rd m with _ | ⟨x,xs⟩
    · have:=rd_nil.1 e; omega
    · simp
theorem made_ok (n:Nat) (b:Bool) (ws:List Int) (hd:Dig ws) (hn:ws.length < n) (hl:ws.length <= 1000000):ab_p n b ws = some ⟨b && decide (0 < dv ws),rd (dv ws)⟩:=by
  unfold ab_p
  rw [cutR_ok n ws hd hn hl,obind]
  cases b
  · simp
  · rw [if_pos rfl,decide_eq_decide.2 rd_pos,Bool.true_and]
def R8 (z:Int):Td:=⟨decide (z < 0),rd z.natAbs⟩
theorem R_sg (s:Bool) (m:Nat):(⟨s && decide (0 < m),rd m⟩:Td) = R8 (sg s m):=by
  unfold R8
  rw [sg_abs]
  cases s
  · simp [sg]
  · simp [sg]
theorem long1_ok (n:Nat) (z:Int) (h:Sm z) (hn:10 < n):aT_p n z = some (R8 z):=by
  have key:∀ u:UInt64,u.toNat = z.natAbs -> ((ab_p n (decide (z < 0)) ([i64of (u % (4294967296:UInt64)),i64of (u / (4294967296:UInt64))]:List Int)).bind fun y28=>some y28) = some (R8 z):=fun u hu=>by
    unfold Sm at h
    have h1:i64of (u % (4294967296:UInt64)) = ((z.natAbs % 4294967296:Nat):Int):=by
      unfold i64of
      rw [UInt64.toNat_mod,hu]
      rw [if_pos (by simp; omega)]
      rfl
    have h2:i64of (u / (4294967296:UInt64)) = ((z.natAbs / 4294967296:Nat):Int):=by
      unfold i64of
      rw [UInt64.toNat_div,hu]
      rw [if_pos (by simp; omega)]
      rfl
    rw [h1,h2,made_ok n _ _ (fun x hx=>by
      rcases List.mem_cons.1 hx with rfl | hx
      · omega
      · rw [List.mem_singleton.1 hx]; omega) (by simp only [List.length_cons,List.length_nil]; omega) (by simp),obind]
    have e:dv [((z.natAbs % 4294967296:Nat):Int),((z.natAbs / 4294967296:Nat):Int)] = z.natAbs:=by
      simp only [dv,Int.toNat_natCast]; omega
    rw [e]
    unfold R8
    congr 2
    by_cases hz:z < 0
    · simp [hz]; omega
    · simp [hz]
  unfold aT_p jn
  simp only
  by_cases hz:z < 0
  · rw [if_pos hz]
    refine key _ ?_
    rw [UInt64.toNat_neg,u64_neg h hz,show UInt64.size = 18446744073709551616 from rfl]
    unfold Sm at h
    omega
  · rw [if_neg hz]
    refine key _ ?_
    rw [u64_pos h hz,toNat_of h.w]
theorem turnR_ok (n:Nat) (z:Int) (h:(rd z.natAbs).length < 10000) (hn:20000 < n):bR_p n (R8 z) = some (R8 (-z)):=by
  unfold bR_p
  rw [show (R8 z).fD = rd z.natAbs from rfl,made_ok n _ _ (rd_dig _) (by omega) (by omega),obind,dv_rd]
  unfold R8
  rw [Int.natAbs_neg]
  congr 2
  show (!decide (z < 0) && decide (0 < z.natAbs)) = decide (-z < 0)
  by_cases hz:z < 0
  · rw [decide_eq_true hz,decide_eq_false (show ¬ -z < 0 by omega)]; rfl
  · rw [decide_eq_false hz]
    by_cases h0:z = 0
    · subst h0; rfl
    · rw [decide_eq_true (by omega),decide_eq_true (by omega)]; rfl
theorem sg_mul (g x:Int) (hg:g ≠ 0):sg (!(decide (g * x < 0) == decide (g < 0))) x.natAbs = x:=by
  unfold sg
  by_cases h1:g < 0
  · by_cases h2:x < 0
    · have:=Int.mul_pos_of_neg_of_neg h1 h2
      rw [decide_eq_true h1,decide_eq_false (by omega)]; simp; omega
    · by_cases h3:x = 0
      · subst h3; simp
      · have:=Int.mul_neg_of_neg_of_pos h1 (by omega:0 < x)
        rw [decide_eq_true h1,decide_eq_true this]; simp; omega
  · by_cases h2:x < 0
    · have:=Int.mul_neg_of_pos_of_neg (by omega:0 < g) h2
      rw [decide_eq_false h1,decide_eq_true this]; simp; omega
    · have:=Int.mul_nonneg (by omega:0 <= g) (by omega:0 <= x)
      rw [decide_eq_false h1,decide_eq_false (by omega)]; simp; omega
theorem partsE (n:Nat) (a g x:Int) (e:a = g * x) (hg:g ≠ 0) (ha:(rd a.natAbs).length < 10000) (hl:(rd g.natAbs).length < 10000) (hn:20000 < n):bh_p n (R8 a) (R8 g) = some (R8 x,R8 0):=by
  subst e
  have hd:(g * x).natAbs / g.natAbs = x.natAbs:=by rw [Int.natAbs_mul]; exact Nat.mul_div_cancel_left _ (by omega)
  have hm:(g * x).natAbs % g.natAbs = 0:=by rw [Int.natAbs_mul]; exact Nat.mul_mod_right ..
  have hx:(rd x.natAbs).length < 10000:=Nat.lt_of_le_of_lt (rd_mono (by rw [Int.natAbs_mul]; exact Nat.le_mul_of_pos_left _ (by omega))) ha
  unfold bh_p
  rw [show (R8 (g * x)).fD = rd (g * x).natAbs from rfl,show (R8 g).fD = rd g.natAbs from rfl,partsD_ok n _ _ (by omega) ha hl hn,obind,hd,hm]
  simp only
  rw [made_ok n _ _ (rd_dig _) (by omega) (by omega),obind,dv_rd,rd0,made_ok n _ [] dig_nil (by simp; omega) (by simp),obind]
  show (if ((decide (g * x < 0)) && decide (0 < 0)) = true then _ else _) = _
  rw [if_neg (by simp)]
  rw [show (R8 (g * x)).fc = decide (g * x < 0) from rfl,show (R8 g).fc = decide (g < 0) from rfl,R_sg,sg_mul g x hg,show dv [] = 0 from rfl,R_sg]
  congr 2
  congr 1
  unfold sg; split <;> simp
theorem refLowest_ok (n:Nat) (a b:Int) (h0:b ≠ 0) (ha:(rd a.natAbs).length < 10000) (hb:(rd b.natAbs).length < 10000) (hn:18446744073709551616 < n) :
    bN_p n (R8 a) (R8 b) = some ⟨R8 (Rat.divInt a b).num,R8 ((Rat.divInt a b).den:Int)⟩/\(Rat.divInt a b).num.natAbs <= a.natAbs/\(Rat.divInt a b).den <= b.natAbs:=by
  have hg:0 < Nat.gcd a.natAbs b.natAbs:=Nat.gcd_pos_of_pos_right _ (by omega)
  have hgl:(rd (Nat.gcd a.natAbs b.natAbs)).length < 10000:=Nat.lt_of_le_of_lt (rd_mono (Nat.gcd_le_right _ (by omega))) hb
  obtain ⟨x,hx⟩:((Nat.gcd a.natAbs b.natAbs:Nat):Int) ∣ a:=Int.ofNat_dvd_left.2 (Nat.gcd_dvd_left _ _)
  obtain ⟨y,hy⟩:((Nat.gcd a.natAbs b.natAbs:Nat):Int) ∣ b:=Int.ofNat_dvd_left.2 (Nat.gcd_dvd_right _ _)
  have hco:=Nat.coprime_div_gcd_div_gcd hg
  unfold bN_p
  rw [show R8 a = ⟨decide (a < 0),rd a.natAbs⟩ from rfl,show R8 b = ⟨decide (b < 0),rd b.natAbs⟩ from rfl,divisor_ok n _ _ _ _ ha hb hn,obind,<- show R8 a = ⟨decide (a < 0),rd a.natAbs⟩ from rfl,<- show R8 b = ⟨decide (b < 0),rd b.natAbs⟩ from rfl]
  generalize Nat.gcd a.natAbs b.natAbs = g at *
  have hg0:(g:Int) ≠ 0:=by omega
  have e3:a.natAbs = g * x.natAbs:=by rw [hx,Int.natAbs_mul]; rfl
  have e4:b.natAbs = g * y.natAbs:=by rw [hy,Int.natAbs_mul]; rfl
  have hc:x.natAbs.Coprime y.natAbs:=by
    rw [e3,e4,Nat.mul_div_cancel_left _ hg,Nat.mul_div_cancel_left _ hg] at hco; exact hco
  have hxl:x.natAbs <= a.natAbs:=by rw [e3]; exact Nat.le_mul_of_pos_left _ hg
  have hyl:y.natAbs <= b.natAbs:=by rw [e4]; exact Nat.le_mul_of_pos_left _ hg
  have hy0:y ≠ 0:=fun e=>h0 (by rw [hy,e,Int.mul_zero])
  have eq:Rat.divInt a b = Rat.divInt x y:=by
    conv=>lhs; rw [hx,hy]
    exact Rat.divInt_mul_left hg0
  rw [eq]
  have egR:(⟨false,rd g⟩:Td) = R8 (g:Int):=by unfold R8; simp
  unfold jn
  simp only
  by_cases hs:b < 0
  · have hyn:y < 0:=by
      by_cases hy1:y < 0
      · exact hy1
      · have:=Int.mul_nonneg (by omega:(0:Int) <= g) (by omega:0 <= y); omega
    rw [if_pos (show (R8 b).fc = true from decide_eq_true hs),egR,turnR_ok n _ (by simpa using hgl) (by omega),obind]
    show (bh_p n (R8 a) (R8 (-(g:Int)))).bind _ = _/\_
    rw [partsE n a (-(g:Int)) (-x) (by rw [Int.neg_mul_neg]; exact hx) (by omega) ha (by rw [Int.natAbs_neg]; simpa using hgl) (by omega),obind,partsE n b (-(g:Int)) (-y) (by rw [Int.neg_mul_neg]; exact hy) (by omega) hb (by rw [Int.natAbs_neg]; simpa using hgl) (by omega),obind]
    have h5:=rat_is (x:=-x) (y:=-y) (by omega) (by rwa [Int.natAbs_neg,Int.natAbs_neg])
    rw [Rat.neg_divInt_neg] at h5
    rw [h5.1,h5.2]
    exact ⟨rfl,by rw [Int.natAbs_neg]; exact hxl,by have:=h5.2; omega⟩
  · have hyp:0 < y:=by
      by_cases hy1:0 < y
      · exact hy1
      · have:=Int.mul_neg_of_pos_of_neg (by omega:(0:Int) < g) (by omega:y < 0); omega
    rw [if_neg (show ¬ (R8 b).fc = true from by simpa [R8] using hs)]
    show (bh_p n (R8 a) (⟨false,rd g⟩:Td)).bind _ = _/\_
    rw [egR,partsE n a g x hx hg0 ha (by simpa using hgl) (by omega),obind,partsE n b g y hy hg0 hb (by simpa using hgl) (by omega),obind]
    have h5:=rat_is (x:=x) (y:=y) hyp hc
    rw [h5.1,h5.2]
    exact ⟨rfl,hxl,by have:=h5.2; omega⟩
end Go.Proofs.YtgejkdheojkfiaaGreatDoor
