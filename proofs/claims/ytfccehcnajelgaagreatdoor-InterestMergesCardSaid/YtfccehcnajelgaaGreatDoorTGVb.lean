/- Plain laws: wide integers and fractions of small numbers: made, read, told, added, taken, multiplied, divided. No program in sight but the printed functions. -/
import Derived.Test.YtfccehcnajelgaaGreatDoorTGWc
namespace Go.Proofs.YtfccehcnajelgaaGreatDoor
open Go
def W8 (z:Int):UInt64 × UInt64 × UInt64 × UInt64 × UInt64 × UInt64 × UInt64 × UInt64:=
  if z < 0 then (u64of z,18446744073709551615,18446744073709551615,18446744073709551615,18446744073709551615,18446744073709551615,18446744073709551615,18446744073709551615) else (u64of z,0,0,0,0,0,0,0)
def Sm (z:Int):Prop:=z.natAbs < 9223372036854775808
theorem Sm.w {z:Int} (h:Sm z):W1 z:=by unfold Sm W1 at *; omega
theorem u64_neg {z:Int} (h:Sm z) (h0:z < 0):(u64of z).toNat = 18446744073709551616 - z.natAbs:=by
  unfold u64of Sm at *; rw [UInt64.toNat_ofNat']; omega
theorem u64_pos {z:Int} (h:Sm z) (h0:¬ z < 0):u64of z = UInt64.ofNat z.natAbs:=by
  unfold u64of Sm at *; congr 1; omega
theorem of_ok (n:Nat) (z:Int) (hn:10 < n):wide_Of_p n z = some (W8 z):=by
  obtain ⟨k,rfl⟩:∃ k,n = k + 9:=⟨n - 9,by omega⟩
  unfold wide_Of_p W8
  by_cases h:z < 0
  · rw [if_pos h,if_pos h]
    simp [loopF_succ,wide_Of_l1,setA]
  · rw [if_neg h,if_neg h]
theorem sub_m1:sub64 0 18446744073709551615 1 = some (0,1):=rfl
theorem sub_01:sub64 0 0 1 = some (18446744073709551615,1):=rfl
theorem read_ok (n:Nat) (z:Int) (h:Sm z):wide_Read_p n (W8 z) = some ⟨decide (z < 0),(UInt64.ofNat z.natAbs,0,0,0,0,0,0,0)⟩:=by
  unfold wide_Read_p W8
  by_cases h0:z < 0
  · rw [if_pos h0]
    have e:sub64 0 (u64of z) 0 = some (UInt64.ofNat z.natAbs,1):=by
      unfold sub64
      rw [if_pos (by decide),u64_neg h h0]
      unfold Sm at h
      rw [if_pos (by simp; omega)]
      congr 2
      simp; congr 1; omega
    rw [if_pos (show shrU 18446744073709551615 63 = 1 from rfl)]
    unfold wide_Size_minus_p
    simp only [e,obind,sub_m1]
    simp [h0]; rfl
  · rw [if_neg h0]
    rw [if_neg (show ¬ shrU 0 63 = 1 from by decide),u64_pos h h0]
    simp [h0]; decide
theorem longer_ok (n:Nat) (z:Int) (h:Sm z) (hn:10 < n):wide_Longer_p n (W8 z) = some (L z):=by
  unfold wide_Longer_p
  rw [read_ok n z h,obind]
  simp only
  rw [show app ([]:List UInt64) [UInt64.ofNat z.natAbs,0,0,0,0,0,0,0] = some [UInt64.ofNat z.natAbs,0,0,0,0,0,0,0] from rfl,obind,trimmed_ok n _ _ (by simpa using by omega) (by simp),obind]
  have e:val [UInt64.ofNat z.natAbs,0,0,0,0,0,0,0] = z.natAbs:=by
    have:=h.w; unfold W1 at this
    simp only [val,toNat_of this]; simp
  rw [e]
  unfold L
  by_cases h0:z < 0
  · simp [h0]; omega
  · simp [h0]
theorem from_ok (n:Nat) (z:Int) (h:Sm z) (hn:10 < n):wide_From_p n z = some (L z):=by
  unfold wide_From_p; rw [of_ok n z hn,obind,longer_ok n z h hn,obind]
theorem getA_dg0 {m:Nat} (h:m < 18446744073709551616):getA (dg m) 0 0 = UInt64.ofNat m:=by
  by_cases h0:m = 0
  · subst h0; rw [dg0]; rfl
  · rw [dg1 h0 h]; rfl
theorem getA_dg1 {m:Nat} (j:Nat) (h:m < 18446744073709551616):getA (dg m) (j + 1) 0 = 0:=by
  by_cases h0:m = 0
  · subst h0; rw [dg0]; rfl
  · rw [dg1 h0 h]; rfl
theorem told_ok (n:Nat) (z:Int) (h:Sm z) (hn:10 < n):wide_Long_Told_p n (L z) = some (W8 z,0):=by
  have hw:=h.w
  unfold W1 at hw
  have hl:¬ 8 < (L z).fm.length:=by
    have:(dg z.natAbs).length ≤ 1:=dg_len (by rw [Nat.pow_one]; exact hw)
    show ¬ 8 < (dg z.natAbs).length
    omega
  unfold wide_Long_Told_p
  rw [if_neg hl,show (L z).fm = dg z.natAbs from rfl,getA_dg0 hw,getA_dg1 0 hw,getA_dg1 1 hw,getA_dg1 2 hw,getA_dg1 3 hw,getA_dg1 4 hw,getA_dg1 5 hw,getA_dg1 6 hw]
  unfold wide_Number_Told_p
  have ho:∀ x:UInt64,wide_Size_order_p n (x,0,0,0,0,0,0,0) (0,0,0,0,0,0,0,9223372036854775808) = some (-1):=fun x=>by
    obtain ⟨k,rfl⟩:∃ k,n = k + 1:=⟨n - 1,by omega⟩
    unfold wide_Size_order_p
    rw [loopF_succ]
    rfl
  rw [ho,obind,if_neg (by decide),if_neg (by decide)]
  unfold W8
  by_cases h0:z < 0
  · have e:sub64 0 (UInt64.ofNat z.natAbs) 0 = some (u64of z,1):=by
      unfold sub64
      rw [if_pos (by decide),toNat_of hw]
      rw [if_pos (by simp; omega)]
      congr 2
      refine UInt64.toNat_inj.1 ?_
      rw [u64_neg h h0,UInt64.toNat_ofNat']
      unfold Sm at h
      simp; omega
    rw [if_pos h0,if_pos (by simpa [L] using h0)]
    unfold wide_Size_minus_p
    simp only [e,obind,sub_01]
  · rw [if_neg h0,if_neg (by simpa [L] using h0),obind,u64_pos h h0]
def Rt (q:Rat):TRatio:=⟨L q.num,L q.den⟩
def Sh (q:Rat):TShare:=⟨W8 q.num,W8 q.den⟩
theorem rat_is {x y:Int} (hy:0 < y) (hc:x.natAbs.Coprime y.natAbs):(Rat.divInt x y).num = x∧((Rat.divInt x y).den:Int) = y:=by
  have e:Rat.divInt x y = { num:=x,den:=y.natAbs,den_nz:=by omega,reduced:=hc }:=by
    rw [Rat.mk_eq_divInt]; congr 1; omega
  rw [e]; exact ⟨rfl,by simp only; omega⟩
theorem lowest_ok (n:Nat) (a b:Int) (ha:W1 a) (hb:W1 b) (h0:b ≠ 0) (hn:18446744073709551616 < n) :
    share_Lowest_p n (L a) (L b) = some (Rt (Rat.divInt a b))∧(Rat.divInt a b).num.natAbs ≤ a.natAbs∧(Rat.divInt a b).den ≤ b.natAbs:=by
  have hg:0 < Nat.gcd a.natAbs b.natAbs:=Nat.gcd_pos_of_pos_right _ (by omega)
  have hgb:Nat.gcd a.natAbs b.natAbs ≤ b.natAbs:=Nat.gcd_le_right _ (by omega)
  have hgw:W1 ((Nat.gcd a.natAbs b.natAbs:Nat):Int):=by unfold W1 at *; omega
  obtain ⟨x,hx⟩:((Nat.gcd a.natAbs b.natAbs:Nat):Int) ∣ a:=Int.ofNat_dvd_left.2 (Nat.gcd_dvd_left _ _)
  obtain ⟨y,hy⟩:((Nat.gcd a.natAbs b.natAbs:Nat):Int) ∣ b:=Int.ofNat_dvd_left.2 (Nat.gcd_dvd_right _ _)
  have hco:=Nat.coprime_div_gcd_div_gcd hg
  generalize Nat.gcd a.natAbs b.natAbs = g at *
  have hg0:(g:Int) ≠ 0:=by omega
  have e1:a / (g:Int) = x:=by rw [hx]; exact Int.mul_ediv_cancel_left _ hg0
  have e2:b / (g:Int) = y:=by rw [hy]; exact Int.mul_ediv_cancel_left _ hg0
  have e3:a.natAbs = g * x.natAbs:=by rw [hx,Int.natAbs_mul]; rfl
  have e4:b.natAbs = g * y.natAbs:=by rw [hy,Int.natAbs_mul]; rfl
  have hc:x.natAbs.Coprime y.natAbs:=by
    rw [e3,e4,Nat.mul_div_cancel_left _ hg,Nat.mul_div_cancel_left _ hg] at hco; exact hco
  have hxl:x.natAbs ≤ a.natAbs:=by rw [e3]; exact Nat.le_mul_of_pos_left _ hg
  have hyl:y.natAbs ≤ b.natAbs:=by rw [e4]; exact Nat.le_mul_of_pos_left _ hg
  have hy0:y ≠ 0:=fun e=>h0 (by rw [hy,e,Int.mul_zero])
  have eq:Rat.divInt a b = Rat.divInt x y:=by
    conv=>lhs; rw [hx,hy]
    exact Rat.divInt_mul_left hg0
  have xw:Fit 1 x:=by unfold Fit; unfold W1 at ha; rw [Nat.pow_one]; omega
  have yw:Fit 1 y:=by unfold Fit; unfold W1 at hb; rw [Nat.pow_one]; omega
  have gc:wide_Long_Common_p n (L a) (L b) = some (L g):=by
    have:=common_ok n a b ha hb hn
    rw [this]
    have h5:Nat.gcd a.natAbs b.natAbs = g:=by
      rw [e3,e4,Nat.gcd_mul_left,show Nat.gcd x.natAbs y.natAbs = 1 from hc,Nat.mul_one]
    rw [h5]
  unfold share_Lowest_p
  rw [gc,obind,parts_ok n a g ha hgw hg0 (by omega),obind,parts_ok n b g hb hgw hg0 (by omega),obind,e1,e2]
  simp only
  rw [eq]
  by_cases hs:y < 0
  · rw [if_pos (by simpa [L] using hs),turned_ok n 1 x xw (by omega) (by omega),obind,turned_ok n 1 y yw (by omega) (by omega),obind]
    have h5:=rat_is (x:=-x) (y:=-y) (by omega) (by rwa [Int.natAbs_neg,Int.natAbs_neg])
    rw [Rat.neg_divInt_neg] at h5
    unfold Rt
    rw [h5.1,h5.2]
    exact ⟨rfl,by rw [Int.natAbs_neg]; exact hxl,by have:=h5.2; omega⟩
  · rw [if_neg (by simpa [L] using hs)]
    have h5:=rat_is (x:=x) (y:=y) (by omega) hc
    unfold Rt
    rw [h5.1,h5.2]
    exact ⟨rfl,hxl,by have:=h5.2; omega⟩
end Go.Proofs.YtfccehcnajelgaaGreatDoor
/- Plain laws: shares of small numbers. No program in sight but the printed functions. -/
namespace Go.Proofs.YtfccehcnajelgaaGreatDoor
open Go
def SmQ (q:Rat):Prop:=q.num.natAbs < 2147483648∧q.den < 2147483648
theorem SmQ.n {q:Rat} (h:SmQ q):Sm q.num:=by have:=h.1; unfold Sm; omega
theorem SmQ.d {q:Rat} (h:SmQ q):Sm (q.den:Int):=by have:=h.2; unfold Sm; omega
theorem W8_ne {z:Int} (h:Sm z) (h0:z ≠ 0):W8 z ≠ (0,0,0,0,0,0,0,0):=fun e=>by
  have e1:u64of z = 0:=by
    have:=congrArg Prod.fst e
    unfold W8 at this
    split at this <;> exact this
  by_cases hz:z < 0
  · have:=u64_neg h hz
    rw [e1] at this; unfold Sm at h; simp at this; omega
  · rw [u64_pos h hz] at e1
    exact ofNat_ne (by omega) h.w e1
theorem rtold_ok (n:Nat) (q:Rat) (h1:Sm q.num) (h2:Sm (q.den:Int)) (hn:10 < n):share_Ratio_Told_p n (Rt q) = some (Sh q,0):=by
  unfold share_Ratio_Told_p
  rw [show (Rt q).fx = L q.num from rfl,show (Rt q).ft = L q.den from rfl,told_ok n _ h1 hn,obind,told_ok n _ h2 hn,obind]
  rfl
theorem share_of_ok (n:Nat) (a b:Int) (ha:Sm a) (hb:Sm b) (h0:b ≠ 0) (hn:18446744073709551616 < n):share_Of_p n a b = some (Sh (Rat.divInt a b),0):=by
  obtain ⟨e1,e2,e3⟩:=lowest_ok n a b ha.w hb.w h0 hn
  unfold share_Of_p
  rw [of_ok n a (by omega),obind,of_ok n b (by omega),obind]
  unfold share_Make_p
  rw [if_neg (W8_ne hb h0),longer_ok n a ha (by omega),obind,longer_ok n b hb (by omega),obind,e1,obind,rtold_ok n _ (by unfold Sm at *; omega) (by unfold Sm at *; omega) (by omega)]
  rfl
theorem SmQ.neg {q:Rat} (h:SmQ q):SmQ (-q):=by unfold SmQ at *; rw [Rat.neg_num,Rat.neg_den,Int.natAbs_neg]; exact h
end Go.Proofs.YtfccehcnajelgaaGreatDoor
/- Plain laws: the drafted plan. No program in sight but the printed functions. -/
namespace Go.Proofs.YtfccehcnajelgaaGreatDoor
open Go
theorem remI_ok {x y:Int} (h:y ≠ 0):remI x y = some (x.tmod y):=if_neg h
theorem appS {α:Type} (xs ys:List α) (h:xs.length + ys.length ≤ 1000000):app xs ys = some (xs ++ ys):=if_pos (Nat.le_trans h (by decide))
theorem label_ok (n:Nat) (d:TDraft48) (i:Int) (h:0 ≤ i):∃ y,wardmoteref21_Draft_label_p n d i = some y∧0 ≤ y∧y < 256:=by
  unfold wardmoteref21_Draft_label_p
  split
  · rw [idx_ok h (by omega),obind]
    have:=(d.fLabels[i.toNat]'(by omega)).toNat_lt
    exact ⟨_,rfl,by omega,by omega⟩
  · exact ⟨_,rfl,by omega,by omega⟩
theorem labels_ok (n:Nat) (d:TDraft48) (hn:20 < n):∃ l,loopF (wardmoteref21_Draft_Loose_l2 n d) n (0,[]) = some l∧1 ≤ l.length∧l.length ≤ 9∧∀ x ∈ l,0 ≤ x∧x < 8:=by
  have hu:(d.fN % 9).toNat < 9:=by rw [UInt8.toNat_mod]; exact Nat.mod_lt _ (by decide)
  have hk:(d.fK % 8).toNat < 8:=by rw [UInt8.toNat_mod]; exact Nat.mod_lt _ (by decide)
  have h:=loop_ok (B:=wardmoteref21_Draft_Loose_l2 n d) (fun s:Int × List Int=>10 - s.1.toNat) (fun s=>0 ≤ s.1∧s.1 ≤ (1 + (d.fN % 9).toNat:Nat)∧s.2.length = s.1.toNat∧∀ x ∈ s.2,0 ≤ x∧x < 8)
    (fun l=>1 ≤ l.length∧l.length ≤ 9∧∀ x ∈ l,0 ≤ x∧x < 8) ?_ n (0,[]) ⟨by simp,by omega,by simp,by simp⟩ (by simp only; omega)
  · obtain ⟨l,e,h⟩:=h; exact ⟨l,e,h⟩
  · rintro ⟨z,xs⟩ J ⟨h1,h2,h3,h4⟩ hJ
    simp only at h1 h2 h3 h4 hJ
    unfold wardmoteref21_Draft_Loose_l2 wardmoteref21_Draft_Units_p
    simp only [obind]
    split
    · rename_i h5
      obtain ⟨y,e,y0,y1⟩:=label_ok n d z h1
      rw [e,obind,remI_ok (by omega),obind,appS _ _ (by simp only [List.length_cons,List.length_nil]; omega),obind,chkI (by omega) (by omega),obind]
      refine hJ _ ⟨by simp only; omega,by simp only; omega,by simp only [List.length_append,List.length_cons,List.length_nil]; omega,fun x hx=>?_⟩ (by simp only; omega)
      rcases List.mem_append.1 hx with hx | hx
      · exact h4 x hx
      · rw [List.mem_singleton.1 hx,Int.tmod_eq_emod_of_nonneg y0]
        have a1:=Int.emod_nonneg y (b:=((1 + (d.fK % 8).toNat:Nat):Int)) (by omega)
        have a2:=Int.emod_lt_of_pos y (b:=((1 + (d.fK % 8).toNat:Nat):Int)) (by omega)
        omega
    · rename_i h5
      exact ⟨_,rfl,by omega,by omega,h4⟩
theorem labels_in (n:Nat) (l:List Int) (h1:1 ≤ l.length) (h2:l.length ≤ 9) (h:∀ x ∈ l,0 ≤ x∧x < 8) (hn:20 < n):wardmoteref21_Labels_p n l 8 = some true:=by
  have hh:=loop_ok (B:=wardmoteref21_Labels_l1 n l 8) (fun i:Nat=>l.length - i) (fun i=>i ≤ l.length) (fun r=>r = .inr ()) ?_ n 0 (Nat.zero_le _) (by omega)
  · obtain ⟨r,e,rfl⟩:=hh
    unfold wardmoteref21_Labels_p
    rw [e]
    show (if 1 ≤ l.length then some (decide (l.length ≤ 64)) else some false) = _
    rw [if_pos h1,decide_eq_true (by omega)]
  · intro i J hi hJ
    unfold wardmoteref21_Labels_l1
    simp only
    split
    · rename_i h0
      have:=h l[i] (List.getElem_mem _)
      rw [List.getElem?_eq_getElem h0,obind,if_neg (by omega),if_neg (by omega)]
      exact hJ (i + 1) h0 (by omega)
    · exact ⟨_,rfl,rfl⟩
def PlanOk (p:List Int) (k:Int):Prop:=(∀ x ∈ p,0 ≤ x∧x < k)∧∀ d,0 ≤ d → d < k → d ∈ p
theorem canon_ok (n:Nat) (l:List Int) (h1:1 ≤ l.length) (h2:l.length ≤ 9) (h:∀ x ∈ l,0 ≤ x∧x < 8) (hn:20 < n):∃ p z,wardmoteref21_Canon_p n l = some (p,0)∧p.length = l.length∧PlanOk p z∧z ≤ 8:=by
  have hh:=loop_ok (B:=wardmoteref21_Canon_l1 n l) (fun s:Int × Nat × List Int × List Int=>l.length - s.2.1)
    (fun s=>s.2.1 ≤ l.length∧s.2.2.1.length = s.2.1∧s.2.2.2.length = 8∧0 ≤ s.1∧s.1 + s.2.2.2.count (-1) = 8∧(∀ v ∈ s.2.2.2,v = -1 ∨ 0 ≤ v∧v < s.1)∧PlanOk s.2.2.1 s.1)
    (fun p=>∃ z,p.length = l.length∧PlanOk p z∧z ≤ 8) ?_ n (0,0,[],[-1,-1,-1,-1,-1,-1,-1,-1]) ⟨by simp,rfl,rfl,by simp,by decide,by simp,by simp,fun d h3 h4=>by simp only at h4; omega⟩ (by simp only; omega)
  · obtain ⟨p,e,z,h3,h4,h5⟩:=hh
    refine ⟨p,z,?_,h3,h4,h5⟩
    unfold wardmoteref21_Canon_p
    rw [labels_in n l h1 h2 h hn,obind,if_pos rfl,e,obind]
  · rintro ⟨z,i,xs,m⟩ J ⟨a1,a2,a3,a4,a5,a6,a7,a8⟩ hJ
    simp only at a1 a2 a3 a4 a5 a6 a7 a8 hJ
    unfold wardmoteref21_Canon_l1
    simp only
    split
    · rename_i hi
      have hx:=h l[i] (List.getElem_mem _)
      have hm:l[i].toNat < m.length:=by omega
      rw [List.getElem?_eq_getElem hi,obind,idx_ok hx.1 hm,obind]
      unfold jn
      simp only
      have hv:=a6 m[l[i].toNat] (List.getElem_mem _)
      by_cases hneg:m[l[i].toNat] < 0
      · have hv1:m[l[i].toNat] = -1:=by omega
        have hc:0 < m.count (-1):=by rw [← hv1]; exact List.count_pos_iff.2 (List.getElem_mem _)
        rw [if_pos hneg,put_ok _ hm,obind,chkI (by omega) (by omega),obind,idx_ok hx.1 (by simpa using hm),obind,List.getElem_set_self,appS _ _ (by simp only [List.length_cons,List.length_nil]; omega),obind]
        refine hJ _ ⟨by simp only; omega,by simp only [List.length_append,List.length_cons,List.length_nil]; omega,by simpa using a3,by simp only; omega,?_,?_,?_,?_⟩ (by simp only; omega)
        · simp only
          rw [List.count_set hm,hv1]
          have:((z == (-1:Int)) = false):=by rw [beq_eq_false_iff_ne]; omega
          simp only [this]
          simp only [beq_self_eq_true,if_true]
          simp
          omega
        · intro v hv2
          rcases List.mem_or_eq_of_mem_set hv2 with hv2 | rfl
          · rcases a6 v hv2 with h5 | h5
            · exact .inl h5
            · exact .inr ⟨h5.1,by simp only; omega⟩
          · exact .inr ⟨a4,by simp only; omega⟩
        · intro x hx2
          simp only at hx2 ⊢
          rcases List.mem_append.1 hx2 with hx2 | hx2
          · have:=a7 x hx2; omega
          · rw [List.mem_singleton.1 hx2]; omega
        · intro d d0 d1
          simp only at d1 ⊢
          by_cases hd:d = z
          · subst hd; exact List.mem_append_right _ (List.mem_singleton.2 rfl)
          · exact List.mem_append_left _ (a8 d d0 (by omega))
      · rw [if_neg hneg,idx_ok hx.1 hm,obind,appS _ _ (by simp only [List.length_cons,List.length_nil]; omega),obind]
        refine hJ _ ⟨by simp only; omega,by simp only [List.length_append,List.length_cons,List.length_nil]; omega,a3,a4,a5,a6,?_,?_⟩ (by simp only; omega)
        · intro x hx2
          simp only at hx2 ⊢
          rcases List.mem_append.1 hx2 with hx2 | hx2
          · exact a7 x hx2
          · rw [List.mem_singleton.1 hx2]; omega
        · intro d d0 d1
          exact List.mem_append_left _ (a8 d d0 d1)
    · exact ⟨_,rfl,z,by omega,⟨a7,a8⟩,by omega⟩
theorem loose_ok (n:Nat) (d:TDraft48) (hn:20 < n):∃ p k,wardmoteref21_Draft_Loose_p n d = some (p,k)∧1 ≤ p.length∧p.length ≤ 9∧PlanOk p k∧1 ≤ k∧k ≤ 8:=by
  obtain ⟨l,e1,l1,l2,l3⟩:=labels_ok n d hn
  obtain ⟨p,z,e2,p1,p2,p3⟩:=canon_ok n l l1 l2 l3 hn
  have hh:=loop_ok (B:=wardmoteref21_Draft_Loose_l1 n (p,0)) (fun s:Int × Nat=>p.length - s.2) (fun s=>s.2 ≤ p.length∧0 ≤ s.1∧s.1 ≤ 8∧(∀ j (h:j < p.length),j < s.2 → p[j] + 1 ≤ s.1)∧(s.1 = 0∧s.2 = 0 ∨ s.1 - 1 ∈ p))
    (fun k=>1 ≤ k∧k ≤ 8∧(∀ x ∈ p,x < k)∧k - 1 ∈ p) ?_ n (0,0) ⟨by simp,by simp,by simp,fun j _ h=>by simp at h,.inl ⟨rfl,rfl⟩⟩ (by simp only; omega)
  · obtain ⟨k,e3,k1,k2,k3,k4⟩:=hh
    refine ⟨p,k,?_,by omega,by omega,⟨fun x hx=>⟨(p2.1 x hx).1,k3 x hx⟩,fun d d0 d1=>p2.2 d d0 (by have:=(p2.1 _ k4).2; omega)⟩,k1,k2⟩
    unfold wardmoteref21_Draft_Loose_p
    rw [e1,obind,e2,obind,e3,obind]
  · rintro ⟨z', i⟩ J ⟨a1,a2,a3,a4,a5⟩ hJ
    simp only at a1 a2 a3 a4 a5 hJ
    unfold wardmoteref21_Draft_Loose_l1
    simp only
    split
    · rename_i hi
      have hx:=p2.1 p[i] (List.getElem_mem _)
      rw [List.getElem?_eq_getElem hi,obind,chkI (by omega) (by omega),obind]
      refine hJ _ ⟨hi,by simp only; omega,by simp only; omega,fun j hj h4=>?_,?_⟩ (by simp only; omega)
      · simp only at h4 ⊢
        by_cases hj2:j = i
        · subst hj2; omega
        · have:=a4 j hj (by omega); omega
      · right
        simp only
        by_cases hm:z' ≤ p[i] + 1
        · rw [Int.max_eq_right hm,show p[i] + 1 - 1 = p[i] by omega]; exact List.getElem_mem _
        · rw [Int.max_eq_left (by omega)]
          rcases a5 with ⟨h5,h6⟩ | h5
          · omega
          · exact h5
    · rename_i hi
      rcases a5 with ⟨h5,h6⟩ | h5
      · omega
      · refine ⟨_,rfl,by have:=(p2.1 _ h5).1; omega,a3,fun x hx=>?_,h5⟩
        obtain ⟨j,hj,rfl⟩:=List.getElem_of_mem hx
        have:=a4 j hj (by omega); omega
end Go.Proofs.YtfccehcnajelgaaGreatDoor
/- Plain laws: bits counted, words shifted. No program in sight but the printed functions. -/
namespace Go.Proofs.YtfccehcnajelgaaGreatDoor
open Go
def bln (m:Nat):Nat:=if m = 0 then 0 else Nat.log2 m + 1
theorem bln_lt (m:Nat):m < 2 ^ bln m:=by
  unfold bln
  split
  · rename_i h; rw [h]; decide
  · rename_i h; exact Nat.lt_log2_self
theorem bln_ge {m:Nat} (h:m ≠ 0):2 ^ (bln m - 1) ≤ m:=by
  unfold bln
  rw [if_neg h]
  exact Nat.log2_self_le h
theorem bln_pos {m:Nat} (h:m ≠ 0):1 ≤ bln m:=by unfold bln; rw [if_neg h]; omega
theorem bln_uniq {m l:Nat} (h1:2 ^ l ≤ m) (h2:m < 2 ^ (l + 1)):bln m = l + 1:=by
  have h0:m ≠ 0:=fun e=>by have:=Nat.two_pow_pos l; omega
  have h3:=bln_lt m
  have h4:=bln_ge h0
  have h5:=bln_pos h0
  have h6:=(Nat.pow_lt_pow_iff_right (by decide:1 < 2)).1 (Nat.lt_of_le_of_lt h1 h3)
  have h7:=(Nat.pow_lt_pow_iff_right (by decide:1 < 2)).1 (Nat.lt_of_le_of_lt h4 h2)
  omega
theorem bln_shift {m s:Nat} (h:2 ^ s ≤ m):bln m = s + bln (m / 2 ^ s):=by
  have hp:=Nat.two_pow_pos s
  have h0:m / 2 ^ s ≠ 0:=fun e=>by have:=Nat.div_pos h hp; omega
  have h1:=bln_lt (m / 2 ^ s)
  have h2:=bln_ge h0
  have h3:=bln_pos h0
  have e1:2 ^ (s + (bln (m / 2 ^ s) - 1)) ≤ m:=by
    rw [Nat.pow_add,Nat.mul_comm]
    exact (Nat.le_div_iff_mul_le hp).1 h2
  have e2:m < 2 ^ (s + bln (m / 2 ^ s)):=by
    rw [Nat.pow_add,Nat.mul_comm]
    exact (Nat.div_lt_iff_lt_mul hp).1 h1
  have:=bln_uniq (l:=s + (bln (m / 2 ^ s) - 1)) e1 (by rw [show s + (bln (m / 2 ^ s) - 1) + 1 = s + bln (m / 2 ^ s) by omega]; exact e2)
  omega
theorem bln_small {m l:Nat} (h:m < 2 ^ l):bln m ≤ l:=by
  by_cases h0:m = 0
  · subst h0; simp [bln]
  · have h4:=bln_ge h0
    have h7:=(Nat.pow_lt_pow_iff_right (by decide:1 < 2)).1 (Nat.lt_of_le_of_lt h4 h)
    have:=bln_pos h0
    omega
theorem tab_all:(List.range 256).all (fun v=>decide (stab0[v]? = some (UInt8.ofNat (bln v)))) = true:=by kernel_rfl
theorem tab_ok {v:Nat} (h:v < 256):stab0[v]? = some (UInt8.ofNat (bln v)):=of_decide_eq_true (List.all_eq_true.1 tab_all v (List.mem_range.2 h))
theorem len8_ok (u:UInt64) (z:Int) (h:u.toNat < 256) (hz:0 ≤ z∧z ≤ 64):((stab0[(u8of u).toNat]?).bind fun z27=>(chk (z + ((z27.toNat:Nat):Int))).bind fun s29=>some s29) = some (z + bln u.toNat):=by
  have hb:=bln_small (l:=8) (m:=u.toNat) (by omega)
  have e:(u8of u).toNat = u.toNat:=by unfold u8of; rw [UInt8.toNat_ofNat']; omega
  have e2:(UInt8.ofNat (bln u.toNat)).toNat = bln u.toNat:=by rw [UInt8.toNat_ofNat']; omega
  rw [e,tab_ok h,obind,e2,chkI (by omega) (by omega),obind]
theorem len64_ok (n:Nat) (x:UInt64):math_bits_Len64_p n x = some (bln x.toNat:Int):=by
  have hx:=x.toNat_lt
  have k16:∀ (u:UInt64) (z:Int),u.toNat < 65536 → (0 ≤ z∧z ≤ 48) → ((if (256:UInt64) ≤ u then (chk (z + 8)).bind fun s31=>((stab0[(u8of (shrU u 8)).toNat]?).bind fun z27=>(chk (s31 + ((z27.toNat:Nat):Int))).bind fun s29=>some s29) else ((stab0[(u8of u).toNat]?).bind fun z27=>(chk (z + ((z27.toNat:Nat):Int))).bind fun s29=>some s29))) = some (z + bln u.toNat):=fun u z hu hz=>by
    by_cases c:(256:UInt64) ≤ u
    · have c2:256 ≤ u.toNat:=by rw [UInt64.le_iff_toNat_le] at c; simpa using c
      rw [if_pos c,chkI (by omega) (by omega),obind,len8_ok _ _ (by rw [shr_nat _ (by decide)]; omega) (by omega),shr_nat _ (by decide),bln_shift (m:=u.toNat) (s:=8) (by omega)]
      congr 1; omega
    · have c2:u.toNat < 256:=by rw [UInt64.le_iff_toNat_le] at c; simpa using c
      rw [if_neg c,len8_ok _ _ c2 (by omega)]
  have k32:∀ (u:UInt64) (z:Nat),u.toNat < 4294967296 → z ≤ 32 → ((if (65536:UInt64) ≤ u then (chk ((z:Int) + 16)).bind fun s33=>(if (256:UInt64) ≤ shrU u 16 then (chk (s33 + 8)).bind fun s31=>((stab0[(u8of (shrU (shrU u 16) 8)).toNat]?).bind fun z27=>(chk (s31 + ((z27.toNat:Nat):Int))).bind fun s29=>some s29) else ((stab0[(u8of (shrU u 16)).toNat]?).bind fun z27=>(chk (s33 + ((z27.toNat:Nat):Int))).bind fun s29=>some s29)) else (if (256:UInt64) ≤ u then (chk ((z:Int) + 8)).bind fun s31=>((stab0[(u8of (shrU u 8)).toNat]?).bind fun z27=>(chk (s31 + ((z27.toNat:Nat):Int))).bind fun s29=>some s29) else ((stab0[(u8of u).toNat]?).bind fun z27=>(chk ((z:Int) + ((z27.toNat:Nat):Int))).bind fun s29=>some s29)))) = some ((z:Int) + bln u.toNat):=fun u z hu hz=>by
    by_cases c:(65536:UInt64) ≤ u
    · have c2:65536 ≤ u.toNat:=by rw [UInt64.le_iff_toNat_le] at c; simpa using c
      rw [if_pos c,chkI (by omega) (by omega),obind,k16 _ _ (by rw [shr_nat _ (by decide)]; omega) (by omega),shr_nat _ (by decide),bln_shift (m:=u.toNat) (s:=16) (by omega)]
      congr 1; omega
    · have c2:u.toNat < 65536:=by rw [UInt64.le_iff_toNat_le] at c; simpa using c
      rw [if_neg c,k16 _ _ c2 (by omega)]
  unfold math_bits_Len64_p jn
  simp only
  by_cases c:(4294967296:UInt64) ≤ x
  · have c2:4294967296 ≤ x.toNat:=by rw [UInt64.le_iff_toNat_le] at c; simpa using c
    rw [if_pos c]
    refine (k32 (shrU x 32) 32 (by rw [shr_nat _ (by decide)]; omega) (by omega)).trans ?_
    rw [shr_nat _ (by decide),bln_shift (m:=x.toNat) (s:=32) (by omega)]
    congr 1
  · have c2:x.toNat < 4294967296:=by rw [UInt64.le_iff_toNat_le] at c; simpa using c
    rw [if_neg c]
    refine (k32 x 0 c2 (by omega)).trans ?_
    congr 1; omega
theorem lz_ok (n:Nat) (x:UInt64):math_bits_LeadingZeros64_p n x = some (64 - bln x.toNat:Int):=by
  have:=bln_small (l:=64) (m:=x.toNat) (by have:=x.toNat_lt; omega)
  unfold math_bits_LeadingZeros64_p
  rw [len64_ok,obind,chkI (by omega) (by omega),obind]
theorem div_top {m lo t l:Nat} (hv:m = lo + 18446744073709551616 ^ l * t) (hlow:lo < 18446744073709551616 ^ l):m / 2 ^ (64 * l) = t:=by
  rw [← pow64,hv,Nat.add_mul_div_left _ _ (Nat.lt_of_le_of_lt (Nat.zero_le _) hlow),Nat.div_eq_of_lt hlow,Nat.zero_add]
theorem length_ok (n:Nat) (m:Nat) (hl:(dg m).length ≤ 1000000):wide_length_p n (dg m) = some (bln m:Int):=by
  unfold wide_length_p
  by_cases h0:m = 0
  · subst h0
    rw [dg0,if_pos (show ([]:List UInt64).length = 0 from rfl)]
    unfold bln
    rw [if_pos rfl]; rfl
  · have hne:dg m ≠ []:=fun e=>h0 (by have:=val_dg m; rw [e] at this; exact this.symm)
    obtain ⟨l,hl1⟩:∃ l,(dg m).length = l + 1:=⟨(dg m).length - 1,by cases h:dg m with | nil=>exact absurd h hne | cons x xs=>simp⟩
    have hlast:l < (dg m).length:=by omega
    have hv:=val_split (dg m) hlast
    rw [List.drop_eq_nil_of_le (by omega),val_dg,show val ([]:List UInt64) = 0 from rfl,Nat.mul_zero,Nat.add_zero] at hv
    have hlow:=val_lt ((dg m).take l)
    rw [List.length_take,Nat.min_eq_left (by omega)] at hlow
    have htop:(dg m)[l] ≠ 0:=dg_nm m _ (by rw [List.getLast?_eq_getElem?,hl1]; exact List.getElem?_eq_getElem hlast)
    have ht0:((dg m)[l]).toNat ≠ 0:=fun e=>htop (UInt64.toNat_inj.1 (by simpa using e))
    have hb:bln m = 64 * l + bln ((dg m)[l]).toNat:=by
      have e:m / 2 ^ (64 * l) = ((dg m)[l]).toNat:=div_top hv hlow
      have:=bln_shift (m:=m) (s:=64 * l) (by
        have h1:2 ^ (64 * l) * 1 ≤ 2 ^ (64 * l) * ((dg m)[l]).toNat:=Nat.mul_le_mul_left _ (by omega)
        rw [pow64] at hv
        omega)
      rw [e] at this
      exact this
    have hbt:=bln_small (l:=64) (m:=((dg m)[l]).toNat) (by have:=((dg m)[l]).toNat_lt; omega)
    have hi:((((dg m).length:Nat):Int) - 1).toNat = l:=by omega
    rw [if_neg (by omega),chkI (by omega) (by omega),obind,idx_ok (by omega) (by omega),obind]
    simp only [hi]
    rw [lz_ok,obind,chkI (by omega) (by omega),obind,hb]
    congr 1; omega
theorem quo64 (k:Nat) (h:k < 1000000000):quoI (k:Int) 64 = some ((k / 64:Nat):Int):=by
  unfold quoI
  rw [if_neg (by decide),Int.tdiv_eq_ediv_of_nonneg (by omega),chkI (by omega) (by omega)]
  congr 1
theorem rem64 (k:Nat):remI (k:Int) 64 = some ((k % 64:Nat):Int):=by
  rw [remI_ok (by decide),Int.tmod_eq_emod_of_nonneg (by omega)]
  congr 1
theorem natOf_nat (k:Nat):natOf (k:Int) = some k:=by unfold natOf; rw [if_pos (Int.natCast_nonneg _),Int.toNat_natCast]
theorem idxN {α:Type} {xs:List α} {i:Nat} (h:i < xs.length):idx xs (i:Int) = some xs[i]:=by
  rw [idx_ok (by omega) (by rw [Int.toNat_natCast]; exact h)]
  simp only [Int.toNat_natCast]
theorem putN {α:Type} {xs:List α} {i:Nat} (x:α) (h:i < xs.length):put xs ((((i:Nat):Int).toNat:Nat):Int) x = some (xs.set i x):=by rw [Int.toNat_natCast]; exact put_ok x h
theorem moved_ok (n:Nat) (a:List UInt64) (k:Nat) (hk:k < 1000000) (hl:a.length < 100000) (hn:200000 < n):wide_moved_p n a (k:Int) = some (dg (val a * 2 ^ k)):=by
  have hkw:2 ^ k = 18446744073709551616 ^ (k / 64) * 2 ^ (k % 64):=by rw [pow64,← Nat.pow_add]; congr 1; omega
  have hs:k % 64 < 64:=Nat.mod_lt _ (by decide)
  have hh:=loop_ok (B:=wide_moved_l1 n a (k:Int)) (fun s:Nat × List UInt64=>a.length - s.1) (fun s=>s.1 ≤ a.length∧∃ hx:s.2.length = a.length + k / 64 + 1,val s.2 = val (a.take s.1) * 2 ^ k∧(∀ j (h:j < s.2.length),s.1 + k / 64 < j → s.2[j] = 0)∧(s.2[s.1 + k / 64]?.getD 0).toNat < 2 ^ (k % 64))
    (fun xs=>xs.length = a.length + k / 64 + 1∧val xs = val a * 2 ^ k) ?_ n (0,List.replicate (a.length + k / 64 + 1) 0) ⟨Nat.zero_le _,by simp,?_,fun j h _=>by simp,?_⟩ (by simp only; omega)
  · obtain ⟨xs,e,h1,h2⟩:=hh
    unfold wide_moved_p
    rw [quo64 k (by omega),obind,chkI (by omega) (by omega),obind,chkI (by omega) (by omega),obind,show ((a.length:Nat):Int) + ((k / 64:Nat):Int) + 1 = ((a.length + k / 64 + 1:Nat):Int) by omega,mk_ok _ _ (by omega),obind,e,obind,trimmed_ok n false xs (by omega) (by omega),obind,h2]
  · rintro ⟨i,xs⟩ J ⟨a1,a2,a3,a4,a5⟩ hJ
    simp only at a1 a2 a3 a4 a5 hJ
    unfold wide_moved_l1
    simp only
    by_cases hi:i < a.length
    · have hw:i + k / 64 < xs.length:=by omega
      have hw1:i + k / 64 + 1 < xs.length:=by omega
      rw [List.getElem?_eq_getElem hw] at a5
      have a5' : (xs[i + k / 64]).toNat < 2 ^ (k % 64):=a5
      rw [if_pos hi,List.getElem?_eq_getElem hi,obind,quo64 k (by omega),obind,chkI (by omega) (by omega),obind,show ((i:Nat):Int) + ((k / 64:Nat):Int) = ((i + k / 64:Nat):Int) by omega,idxN hw,obind,rem64,obind,natOf_nat,obind,putN _ hw,obind,obind]
      have e0:val (a.take (i + 1)) * 2 ^ k = val (a.take i) * 2 ^ k + 18446744073709551616 ^ (i + k / 64) * (a[i].toNat * 2 ^ (k % 64)):=by
        rw [val_take a hi,Nat.add_mul,hkw,Nat.pow_add]
        congr 1
        grind
      by_cases c:0 < k % 64
      · obtain ⟨s1,s2,s3⟩:=shift_two a[i] c hs
        have hor:=or_low (a:=xs[i + k / 64]) (b:=shlU a[i] (k % 64)) a5' s2
        have v1:=val_put (xs[i + k / 64] ||| shlU a[i] (k % 64)) hw
        rw [hor,Nat.mul_add] at v1
        generalize hys:xs.set (i + k / 64) (xs[i + k / 64] ||| shlU a[i] (k % 64)) = ys at *
        have hyl:ys.length = xs.length:=by rw [← hys,List.length_set]
        have hy1:i + k / 64 + 1 < ys.length:=by omega
        have hy0:ys[i + k / 64 + 1] = 0:=by
          have:=a4 (i + k / 64 + 1) hw1 (by omega)
          simp only [← hys]
          rw [List.getElem_set_ne (by omega)]; exact this
        have v2:=val_put (shrU a[i] (64 - k % 64)) hy1
        rw [hy0] at v2
        rw [if_pos (by omega),obind,chkI (by omega) (by omega),obind,chkI (by omega) (by omega),obind,obind,chkI (by omega) (by omega),obind,show (64:Int) - ((k % 64:Nat):Int) = ((64 - k % 64:Nat):Int) by omega,natOf_nat,obind,show ((i:Nat):Int) + ((k / 64:Nat):Int) + 1 = ((i + k / 64 + 1:Nat):Int) by omega,idxN hy1,obind,putN _ hy1,obind]
        refine hJ _ ⟨hi,by simp only [List.length_set]; omega,?_,fun j hj hlt=>?_,?_⟩ (by simp only; omega)
        · simp only
          rw [e0,← s1,Nat.mul_add,← Nat.mul_assoc,← Nat.pow_succ]
          simp only [UInt64.toNat_zero,Nat.mul_zero,Nat.add_zero] at v2
          rw [v2,← a3]
          show val ys + 18446744073709551616 ^ (i + k / 64 + 1) * _ = val xs + (_ + 18446744073709551616 ^ (i + k / 64 + 1) * _)
          omega
        · simp only at hj hlt ⊢
          rw [List.getElem_set_ne (by omega)]
          simp only [← hys]
          rw [List.getElem_set_ne (by omega)]
          exact a4 j (by simpa [← hys] using hj) (by omega)
        · simp only
          rw [show i + 1 + k / 64 = i + k / 64 + 1 by omega,List.getElem?_set_self hy1]
          exact s3
      · have c0:k % 64 = 0:=by omega
        rw [c0,Nat.pow_zero] at a5'
        have hz:xs[i + k / 64] = 0:=UInt64.toNat_inj.1 (by simp; omega)
        have v1:=val_put (xs[i + k / 64] ||| shlU a[i] (k % 64)) hw
        rw [hz,or_zero_left,c0,shl_zero] at v1
        rw [if_neg (by omega),hz,or_zero_left,c0,shl_zero]
        refine hJ _ ⟨hi,by simp only [List.length_set]; omega,?_,fun j hj hlt=>?_,?_⟩ (by simp only; omega)
        · simp only
          rw [e0,c0,Nat.pow_zero,Nat.mul_one,← a3]
          simp only [UInt64.toNat_zero,Nat.mul_zero,Nat.add_zero] at v1
          exact v1
        · simp only at hj hlt ⊢
          rw [List.getElem_set_ne (by omega)]
          exact a4 j (by simpa using hj) (by omega)
        · simp only
          rw [show i + 1 + k / 64 = i + k / 64 + 1 by omega,List.getElem?_set_ne (by omega),List.getElem?_eq_getElem hw1,a4 _ hw1 (by omega),c0]
          decide
    · rw [if_neg hi]
      rw [List.take_of_length_le (by omega)] at a3
      exact ⟨_,rfl,a2,a3⟩
  · simp only [List.take_zero,val,Nat.zero_mul]
    exact val_zero _ fun x hx=>(List.mem_replicate.1 hx).2
  · simp only
    rw [List.getElem?_replicate]
    split <;> simp <;> exact Nat.two_pow_pos _
end Go.Proofs.YtfccehcnajelgaaGreatDoor
