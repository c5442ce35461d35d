/- Plain laws: drafted lists of communities, and what is told of them. No program in sight but the printed functions. -/
import Derived.Test.YtfccehcnajelgaaGreatDoorSLIg
import Derived.Test.YtfccehcnajelgaaGreatDoorSLVb
import Derived.Test.YtfccehcnajelgaaGreatDoorSLIb
namespace Go.Proofs.YtfccehcnajelgaaGreatDoor
open Go
set_option maxRecDepth 8000
theorem shl_ne13:∀ k,k < 13 → shlU (1:UInt64) k ≠ 0:=by decide
theorem cname27 (x:UInt8):sadd ⟨#[99]⟩ (bstr ([x]:List UInt8)) = some ⟨#[99,x]⟩:=rfl
def DC (m i:Nat) (c:TInterest):Prop:=c.fp = ⟨#[99,u8ofI ((97 + i:Nat):Int)]⟩∧(0 ≤ c.fx∧c.fx ≤ 9)∧c.fo ≠ 0∧c.fo.toNat < 2 ^ m
theorem list_full (d:TDraft) (m:Nat) (h1:1 ≤ m) (hm:m < 13):∃ l,wardmoteref27_Draft_List_p FU d m = some l∧l.length ≤ 6∧∀ i (h:i < l.length),DC m i l[i]:=by
  have hF:=FU_lt
  have hh:=loop_ok (B:=wardmoteref27_Draft_List_l1 FU d m) (fun s:Nat × List TInterest=>6 - s.1) (fun s=>s.1 ≤ 6∧s.2.length = s.1∧∀ i (h:i < s.2.length),DC m i s.2[i]) (fun l=>l.length ≤ 6∧∀ i (h:i < l.length),DC m i l[i]) ?_ FU (0,[]) ⟨Nat.zero_le _,rfl,fun i h=>by cases h⟩ (by simp only; omega)
  · obtain ⟨l,e,hl⟩:=hh
    unfold wardmoteref27_Draft_List_p jn
    rw [e]
    exact ⟨l,rfl,hl⟩
  · rintro ⟨i,xs⟩ J ⟨a1,a2,a3⟩ hJ
    simp only at a1 a2 a3 hJ
    unfold wardmoteref27_Draft_List_l1
    simp only
    have fin:xs.length ≤ 6∧∀ i (h:i < xs.length),DC m i xs[i]:=⟨by omega,a3⟩
    by_cases h1:i < d.fL.length
    · rw [if_pos h1]
      by_cases h2:i < 6
      · have next:∀ c:TInterest,DC m i c → ∃ r,J (i + 1,xs ++ [c]) = some r∧r.length ≤ 6∧∀ i (h:i < r.length),DC m i r[i]:=fun c hc=>
          hJ (i + 1,xs ++ [c]) ⟨h2,by simp only [List.length_append,List.length_cons,List.length_nil]; omega,fun j hj=>by
            simp only at hj ⊢
            by_cases hji:j < xs.length
            · rw [List.getElem_append_left hji]; exact a3 j hji
            · have:j = i:=by simp only [List.length_append,List.length_cons,List.length_nil] at hj; omega
              subst this
              rw [List.getElem_append_right (by omega)]
              simp only [List.getElem_singleton]
              exact hc⟩ (by simp only; omega)
        have hn:natOf (m:Int) = some m:=by unfold natOf; rw [if_pos (by omega),Int.toNat_natCast]
        have hw:∀ x:Nat,(0:Int) ≤ ((x % 10:Nat):Int)∧((x % 10:Nat):Int) ≤ 9:=fun x=>by omega
        rw [if_pos h2,List.getElem?_eq_getElem h1,obind,hn,obind]
        unfold remW
        rw [if_neg (shl_ne13 m hm),obind,cname27,obind,obind]
        split
        · rw [appS _ _ (by simp only [List.length_cons,List.length_nil]; omega),obind]
          refine next _ ⟨rfl,hw _,(show (1:UInt64) ≠ 0 by decide),?_⟩
          exact Nat.one_lt_two_pow (by omega)
        · rename_i h0
          rw [appS _ _ (by simp only [List.length_cons,List.length_nil]; omega),obind]
          refine next _ ⟨rfl,hw _,h0,?_⟩
          rw [UInt64.toNat_mod,shlU_one (by omega)]
          exact Nat.mod_lt _ (Nat.two_pow_pos m)
      · rw [if_neg h2]
        exact ⟨_,rfl,fin⟩
    · rw [if_neg h1]
      exact ⟨_,rfl,fin⟩
theorem cn_inj:∀ i,i < 6 → ∀ j,j < 6 → u8ofI ((97 + i:Nat):Int) = u8ofI ((97 + j:Nat):Int) → i = j:=by decide
theorem cn_let:∀ i,i < 6 → 32 ≤ (u8ofI ((97 + i:Nat):Int)).toNat∧(u8ofI ((97 + i:Nat):Int)).toNat ≤ 126:=by decide
theorem drafted_iv {m:Nat} {l:List TInterest} (hl:l.length ≤ 6) (h:∀ i (h:i < l.length),DC m i l[i]):IV (m:Int) l:=by
  refine ⟨fun i hi=>?_,fun i hi j hj e=>?_⟩
  · obtain ⟨d1,d2,d3,d4⟩:=h i hi
    refine ⟨⟨?_,?_,?_⟩,d2.1,by omega,d3,?_⟩
    · rw [d1]
      intro k hk
      have hk2:k < 2:=hk
      have:=cn_let i (by omega)
      match k,hk2 with
      | 0,_=>exact ⟨show 32 ≤ (99:UInt8).toNat by decide,show (99:UInt8).toNat ≤ 126 by decide⟩
      | 1,_=>exact this
    · rw [d1]; show 1 ≤ 2; decide
    · rw [d1]; show 2 ≤ 24; decide
    · have:=bln_small d4; omega
  · have e1:=(h j (by omega)).1
    have e2:=(h i hi).1
    rw [e1,e2] at e
    have e3:u8ofI ((97 + j:Nat):Int) = u8ofI ((97 + i:Nat):Int):=by
      have:=congrArg (fun b:ByteArray=>b.data[1]?) e
      simpa using this
    have:=cn_inj j (by omega) i (by omega) e3
    omega
theorem dc_bits {m i:Nat} {c:TInterest} (h:DC m i c) (j:Nat) (hb:bit c.fo j = true):j < m:=fits_iff.1 h.2.2.2 j hb
/-! ### What is told of each -/
structure VLs (r:TRoll) (p:List Int) (k:Nat) (l:List TInterest):Prop where
  b:balance_Check_p FU r p k = some 0
  c:interest_Check_p FU (p.length:Int) l = some 0
  n:l.length ≤ 20
  v:∀ c ∈ l,VC r p k c
def kp (p:List Int) (k:Nat) (c:TInterest):Bool:=decide ((prt c.fo p k).length = 1)
section
variable {r:TRoll} {p:List Int} {k:Nat} {l:List TInterest} (h:VLs r p k l)
include h
def lsh (r:TRoll) (p:List Int) (k:Nat) (c:TInterest):Rat:=Rat.divInt (mostL (wt r c.fo) (prt c.fo p k)) (ws (wt r c.fo) c.fo)
theorem largest27:interest_Largest_p FU l r p k = some (l.map fun c=>Sg (lsh r p k c),0):=by
  have hF:=FU_lt
  have hn:=h.n
  unfold interest_Largest_p interest_need_p
  rw [h.b,obind,if_pos rfl,obind,exok,h.c,obind,if_pos rfl,obind,exok]
  have hh:=loop_ok (B:=interest_Largest_l1 FU l r p k) (fun s:Nat × List TShare=>l.length - s.1) (fun s=>s.1 ≤ l.length∧s.2 = (l.take s.1).map fun c=>Sg (lsh r p k c)) (fun y=>y = .inr (l.map fun c=>Sg (lsh r p k c))) ?_ FU (0,[]) ⟨Nat.zero_le _,rfl⟩ (by simp only; omega)
  · obtain ⟨y,e,rfl⟩:=hh
    rw [e,thnI]
  · rintro ⟨i,xs⟩ J ⟨a1,a2⟩ hJ
    simp only at a1 a2 hJ
    subst a2
    unfold interest_Largest_l1
    simp only
    by_cases hi:i < l.length
    · have v:=h.v _ (List.getElem_mem hi)
      have next:=hJ (i + 1,(l.take (i + 1)).map fun c=>Sg (lsh r p k c)) ⟨hi,rfl⟩ (by simp only; omega)
      rw [List.take_succ_eq_append_getElem hi,List.map_append] at next
      rw [if_pos hi,List.getElem?_eq_getElem hi,obind,vlargest_ok v,obind,exok,appS _ _ (by simp only [List.length_map,List.length_take,List.length_cons,List.length_nil]; omega),obind]
      exact next
    · rw [if_neg hi]
      exact ⟨_,rfl,by rw [List.take_of_length_le (by omega)]⟩
end
end Go.Proofs.YtfccehcnajelgaaGreatDoor
/- Plain laws: the drafted roll, and that it is valid. No program in sight but the printed functions. -/
namespace Go.Proofs.YtfccehcnajelgaaGreatDoor
open Go
def nm (i:Nat):ByteArray:=⟨#[117,UInt8.ofNat (97 + i),97]⟩
theorem nm_inj {i j:Nat} (hi:i < 9) (hj:j < 9) (h:nm i = nm j):i = j:=by
  have h1:=congrArg (fun b:ByteArray=>b.data[1]!) h
  have h2:UInt8.ofNat (97 + i) = UInt8.ofNat (97 + j):=h1
  have h3:=congrArg UInt8.toNat h2
  rw [UInt8.toNat_ofNat', UInt8.toNat_ofNat'] at h3
  omega
theorem nm_sea {i:Nat} (h:nm i = ⟨#[115,101,97]⟩):False:=by
  have h1:=congrArg (fun b:ByteArray=>b.data[0]!) h
  have h2:(117:UInt8) = 115:=h1
  exact absurd h2 (by decide)
theorem every_ok (n:Nat) (l:List Bool) (h:∀ b ∈ l,b = true) (hn:l.length < n):units_every_p n l = some true:=by
  have hh:=loop_ok (B:=slices_Index_bool_bool_l1 n l false) (fun i:Nat=>l.length - i) (fun i=>i ≤ l.length) (fun r=>r = .inr ()) ?_ n 0 (Nat.zero_le _) (by omega)
  · obtain ⟨r,e,rfl⟩:=hh
    unfold units_every_p slices_Contains_bool_bool_p slices_Index_bool_bool_p
    rw [e]
    rfl
  · intro i J hi hJ
    unfold slices_Index_bool_bool_l1
    simp only
    split
    · rename_i h0
      rw [List.getElem?_eq_getElem h0,obind,h l[i] (List.getElem_mem _),if_neg (by decide)]
      exact hJ (i + 1) h0 (by omega)
    · exact ⟨_,rfl,rfl⟩
theorem within_ok (n:Nat) (l:List Int) (a most:Int) (hl:(l.length:Int) = a) (h:∀ x ∈ l,0 ≤ x∧x ≤ most) (hn:l.length < n):units_within_p n l a most = some true:=by
  have hh:=loop_ok (B:=units_within_l1 n l most) (fun i:Nat=>l.length - i) (fun i=>i ≤ l.length) (fun r=>r = .inr ()) ?_ n 0 (Nat.zero_le _) (by omega)
  · obtain ⟨r,e,rfl⟩:=hh
    unfold units_within_p
    rw [if_pos hl,e]
    rfl
  · intro i J hi hJ
    unfold units_within_l1 units_within_1_p
    simp only
    split
    · rename_i h0
      have:=h l[i] (List.getElem_mem _)
      rw [List.getElem?_eq_getElem h0,obind,if_neg (by omega),obind,decide_eq_false (by omega),if_neg (by decide)]
      exact hJ (i + 1) h0 (by omega)
    · exact ⟨_,rfl,rfl⟩
theorem num_ok (n:Nat) (d:TDraft50) (i:Int) (h:0 ≤ i):∃ y,wardmoteref22_Draft_num_p n d i = some y∧0 ≤ y∧y ≤ 255:=by
  unfold wardmoteref22_Draft_num_p
  split
  · exact ⟨_,rfl,by omega,by omega⟩
  · rename_i h0
    have h1:=Int.emod_nonneg i (b:=(d.fNums.length:Int)) (by omega)
    have h2:=Int.emod_lt_of_pos i (b:=(d.fNums.length:Int)) (by omega)
    rw [remI_ok (by omega),obind,Int.tmod_eq_emod_of_nonneg h,idx_ok h1 (by omega),obind]
    have:=(d.fNums[(i % (d.fNums.length:Int)).toNat]'(by omega)).toNat_lt
    exact ⟨_,rfl,by omega,by omega⟩
theorem dlist_ok (n:Nat) (d:TDraft50) (c at_ most:Int) (h0:0 ≤ c) (h1:c ≤ 100) (h2:0 ≤ at_) (h3:at_ ≤ 1000) (h4:0 ≤ most) (hn:200 < n):∃ l,wardmoteref22_Draft_list_p n d c at_ most = some l∧(l.length:Int) = c∧∀ x ∈ l,0 ≤ x∧x ≤ most∧x ≤ 255:=by
  have hh:=loop_ok (B:=wardmoteref22_Draft_list_l1 n c at_ d most) (fun s:Int × List Int=>101 - s.1.toNat) (fun s=>0 ≤ s.1∧s.1 ≤ c∧(s.2.length:Int) = s.1∧∀ x ∈ s.2,0 ≤ x∧x ≤ most∧x ≤ 255)
    (fun l=>(l.length:Int) = c∧∀ x ∈ l,0 ≤ x∧x ≤ most∧x ≤ 255) ?_ n (0,[]) ⟨by simp,h0,by simp,by simp⟩ (by simp only; omega)
  · obtain ⟨l,e,h⟩:=hh
    refine ⟨l,?_,h⟩
    unfold wardmoteref22_Draft_list_p
    rw [e,obind]
  · rintro ⟨z,xs⟩ J ⟨a1,a2,a3,a4⟩ hJ
    simp only at a1 a2 a3 a4 hJ
    unfold wardmoteref22_Draft_list_l1
    simp only
    split
    · obtain ⟨y,e,y0,y1⟩:=num_ok n d (at_ + z) (by omega)
      rw [chkI (by omega) (by omega),obind,e,obind,appS _ _ (by simp only [List.length_cons,List.length_nil]; omega),obind,chkI (by omega) (by omega),obind]
      refine hJ _ ⟨by simp only; omega,by simp only; omega,by simp only [List.length_append,List.length_cons,List.length_nil]; omega,fun x hx=>?_⟩ (by simp only; omega)
      rcases List.mem_append.1 hx with hx | hx
      · exact a4 x hx
      · rw [List.mem_singleton.1 hx]; omega
    · exact ⟨_,rfl,by omega,a4⟩
def UnitOk (G P L:Int) (u:TUnit):Prop:=u.fu = false∧(0 ≤ u.fE∧u.fE ≤ 255)∧((u.fh.length:Int) = G∧∀ x ∈ u.fh,0 ≤ x∧x ≤ u.fE)∧((u.fVotes.length:Int) = P∧∀ x ∈ u.fVotes,0 ≤ x∧x ≤ 255)∧((u.fF.length:Int) = L∧∀ x ∈ u.fF,0 ≤ x∧x ≤ 63)
def sea (G P L:Int):TUnit:=⟨⟨#[115,101,97]⟩,0,List.replicate G.toNat 0,List.replicate P.toNat 0,List.replicate L.toNat 0,true⟩
structure RollOk (r:TRoll) (us:List TUnit):Prop where
  g:0 ≤ r.fh∧r.fh ≤ 2
  p:0 ≤ r.fc∧r.fc ≤ 3
  l:0 ≤ r.fe∧r.fe ≤ 2
  len:1 ≤ us.length∧us.length ≤ 9
  land:∀ i (h:i < us.length),us[i].fp = nm i∧UnitOk r.fh r.fc r.fe us[i]
  all:r.fo = us ∨ r.fo = us ++ [sea r.fh r.fc r.fe]
theorem parents_ok (n:Nat) (d:TDraft50) (z:Int) (h0:0 ≤ z) (h1:z ≤ 100) (hn:200 < n):∃ l,loopF (wardmoteref22_Draft_Roll_l1 n d z) n (0,[]) = some l∧l.length = (d.fe % 3).toNat∧∀ x ∈ l,0 ≤ x∧x ≤ 63:=by
  have hk:(d.fe % 3).toNat < 3:=by rw [UInt8.toNat_mod]; exact Nat.mod_lt _ (by decide)
  refine loop_ok (B:=wardmoteref22_Draft_Roll_l1 n d z) (fun s:Nat × List Int=>3 - s.1) (fun s=>s.1 ≤ (d.fe % 3).toNat∧s.2.length = s.1∧∀ x ∈ s.2,0 ≤ x∧x ≤ 63) _ ?_ n (0,[]) ⟨by simp,rfl,by simp⟩ (by simp only; omega)
  rintro ⟨i,xs⟩ J ⟨a1,a2,a3⟩ hJ
  simp only at a1 a2 a3 hJ
  unfold wardmoteref22_Draft_Roll_l1
  simp only
  split
  · rename_i hi
    obtain ⟨y,e,y0,y1⟩:=num_ok n d (9 * z + 7 + i) (by omega)
    rw [chkI (by omega) (by omega),obind,chkI (by omega) (by omega),obind,chkI (by omega) (by omega),obind,e,obind,remI_ok (by decide),obind,appS _ _ (by simp only [List.length_cons,List.length_nil]; omega),obind]
    refine hJ _ ⟨by simp only; omega,by simp only [List.length_append,List.length_cons,List.length_nil]; omega,fun x hx=>?_⟩ (by simp only; omega)
    rcases List.mem_append.1 hx with hx | hx
    · exact a3 x hx
    · rw [List.mem_singleton.1 hx,Int.tmod_eq_emod_of_nonneg y0]
      have a1:=Int.emod_nonneg y (b:=(3:Int)) (by omega)
      have a2:=Int.emod_lt_of_pos y (b:=(3:Int)) (by omega)
      omega
  · exact ⟨_,rfl,by omega,a3⟩
theorem name_ok (i:Nat) (h:i < 9):(sadd ⟨#[117]⟩ (bstr ([u8ofI (97 + (i:Int)),u8ofI (97 + 0)]:List UInt8))) = some (nm i):=by
  have:u8ofI (97 + (i:Int)) = UInt8.ofNat (97 + i):=by unfold u8ofI; congr 1; omega
  rw [this]; rfl
theorem roll_all (n:Nat) (d:TDraft50) (m:Nat) (h1:1 ≤ m) (h2:m ≤ 9) (hn:200 < n):∃ r us,wardmoteref22_Draft_Roll_p n d m = some r∧us.length = m∧RollOk r us∧r.fh = ((d.fh % 3).toNat:Int)∧r.fc = ((d.fc % 4).toNat:Int)∧r.fe = ((d.fe % 3).toNat:Int):=by
  have hG:(d.fh % 3).toNat < 3:=by rw [UInt8.toNat_mod]; exact Nat.mod_lt _ (by decide)
  have hP:(d.fc % 4).toNat < 4:=by rw [UInt8.toNat_mod]; exact Nat.mod_lt _ (by decide)
  have hL:(d.fe % 3).toNat < 3:=by rw [UInt8.toNat_mod]; exact Nat.mod_lt _ (by decide)
  have hW:(d.fu % 2).toNat < 2:=by rw [UInt8.toNat_mod]; exact Nat.mod_lt _ (by decide)
  have hh:=loop_ok (B:=wardmoteref22_Draft_Roll_l3 n (m:Int) d) (fun s:Int × List TUnit=>10 - s.1.toNat) (fun s=>0 ≤ s.1∧s.1 ≤ m∧(s.2.length:Int) = s.1∧∀ i (h:i < s.2.length),s.2[i].fp = nm i∧UnitOk ((d.fh % 3).toNat:Int) ((d.fc % 4).toNat:Int) ((d.fe % 3).toNat:Int) s.2[i])
    (fun us=>us.length = m∧∀ i (h:i < us.length),us[i].fp = nm i∧UnitOk ((d.fh % 3).toNat:Int) ((d.fc % 4).toNat:Int) ((d.fe % 3).toNat:Int) us[i]) ?_ n (0,[]) ⟨by simp,by simp,by simp,fun i h=>by simp at h⟩ (by simp only; omega)
  · obtain ⟨us,e,u1,u2⟩:=hh
    have hs:=loop_ok (B:=wardmoteref22_Draft_Roll_l2 n d) (fun s:Nat × List TUnit=>2 - s.1) (fun s=>s.1 ≤ (d.fu % 2).toNat∧(s.1 = 0∧s.2 = us ∨ s.1 = 1∧s.2 = us ++ [sea (d.fh % 3).toNat (d.fc % 4).toNat (d.fe % 3).toNat]))
      (fun all=>all = us ∨ all = us ++ [sea (d.fh % 3).toNat (d.fc % 4).toNat (d.fe % 3).toNat]) ?_ n (0,us) ⟨by simp,.inl ⟨rfl,rfl⟩⟩ (by simp only; omega)
    · obtain ⟨all,e2,ha⟩:=hs
      refine ⟨⟨(d.fh % 3).toNat,(d.fc % 4).toNat,(d.fe % 3).toNat,all⟩,us,?_,u1,⟨by simp only; omega,by simp only; omega,by simp only; omega,by omega,u2,ha⟩,rfl,rfl,rfl⟩
      unfold wardmoteref22_Draft_Roll_p
      rw [e,obind,e2,obind]
    · rintro ⟨i,xs⟩ J ⟨a1,a2⟩ hJ
      simp only at a1 a2 hJ
      unfold wardmoteref22_Draft_Roll_l2
      simp only
      split
      · rename_i hi
        have hi0:i = 0∧xs = us:=by
          rcases a2 with a2 | a2
          · exact a2
          · omega
        obtain ⟨rfl,rfl⟩:=hi0
        rw [mk_ok _ _ (by omega),obind,mk_ok _ _ (by omega),obind,mk_ok _ _ (by omega),obind,appS _ _ (by simp only [List.length_cons,List.length_nil]; omega),obind]
        exact hJ _ ⟨by simp only; omega,.inr ⟨rfl,rfl⟩⟩ (by simp only; omega)
      · exact ⟨_,rfl,a2.elim (fun h=>.inl h.2) (fun h=>.inr h.2)⟩
  · rintro ⟨z,xs⟩ J ⟨a1,a2,a3,a4⟩ hJ
    simp only at a1 a2 a3 a4 hJ
    unfold wardmoteref22_Draft_Roll_l3
    simp only
    split
    · rename_i hz
      obtain ⟨i,rfl⟩:∃ i:Nat,z = i:=⟨z.toNat,by omega⟩
      have t1:Int.tmod (i:Int) 26 = i:=by rw [Int.tmod_eq_emod_of_nonneg (by omega)]; omega
      have t2:Int.tdiv (i:Int) 26 = 0:=by rw [Int.tdiv_eq_ediv_of_nonneg (by omega)]; omega
      obtain ⟨y,e,y0,y1⟩:=num_ok n d (9 * (i:Int)) (by omega)
      obtain ⟨g,eg,g1,g2⟩:=dlist_ok n d ((d.fh % 3).toNat:Nat) (9 * (i:Int) + 1) y (by omega) (by omega) (by omega) (by omega) y0 hn
      obtain ⟨v,ev,v1,v2⟩:=dlist_ok n d ((d.fc % 4).toNat:Nat) (9 * (i:Int) + 3) 255 (by omega) (by omega) (by omega) (by omega) (by omega) hn
      obtain ⟨q,eq,q1,q2⟩:=parents_ok n d (i:Int) (by omega) (by omega) hn
      rw [remI_ok (by decide),obind,t1,chkI (by omega) (by omega),obind]
      unfold quoI
      rw [if_neg (by decide),t2,chkI (by omega) (by omega),obind,remI_ok (by decide),obind,show Int.tmod 0 26 = 0 from rfl,chkI (by omega) (by omega),obind,chkI (by omega) (by omega),obind,e,obind,name_ok i (by omega)]
      simp only [obind]
      rw [chkI (by omega) (by omega)]
      simp only [obind,eg]
      rw [chkI (by omega) (by omega)]
      simp only [obind,ev,eq]
      rw [appS _ _ (by simp only [List.length_cons,List.length_nil]; omega)]
      simp only [obind]
      try rw [chkI (by omega) (by omega),obind]
      refine hJ _ ⟨by simp only; omega,by simp only; omega,by simp only [List.length_append,List.length_cons,List.length_nil]; omega,fun j hj=>?_⟩ (by simp only; omega)
      simp only at hj ⊢
      by_cases hji:j < xs.length
      · rw [List.getElem_append_left hji]; exact a4 j hji
      · have:j = i:=by simp only [List.length_append,List.length_cons,List.length_nil] at hj; omega
        subst this
        rw [List.getElem_append_right (by omega)]
        simp only [List.getElem_singleton]
        exact ⟨trivial,rfl,⟨y0,y1⟩,⟨g1,fun x hx=>⟨(g2 x hx).1,(g2 x hx).2.1⟩⟩,⟨v1,fun x hx=>⟨(v2 x hx).1,(v2 x hx).2.2⟩⟩,⟨by rw [q1],q2⟩⟩
    · exact ⟨_,rfl,by omega,a4⟩
theorem roll_ok (n:Nat) (d:TDraft50) (m:Nat) (h1:1 ≤ m) (h2:m ≤ 9) (hn:200 < n):∃ r us,wardmoteref22_Draft_Roll_p n d m = some r∧us.length = m∧RollOk r us:=by
  obtain ⟨r,us,e,h,h', _⟩:=roll_all n d m h1 h2 hn
  exact ⟨r,us,e,h,h'⟩
end Go.Proofs.YtfccehcnajelgaaGreatDoor
/- Plain laws: a drafted roll is valid; its people. No program in sight but the printed functions. -/
namespace Go.Proofs.YtfccehcnajelgaaGreatDoor
open Go
theorem trim_all:(List.range 9).all (fun i=>decide (strings_Trim_p FU (nm i) ⟨#[65,66,67,68,69,70,71,72,73,74,75,76,77,78,79,80,81,82,83,84,85,86,87,88,89,90,97,98,99,100,101,102,103,104,105,106,107,108,109,110,111,112,113,114,115,116,117,118,119,120,121,122,48,49,50,51,52,53,54,55,56,57,45,95]⟩ = some ⟨#[]⟩)) = true:=by kernel_rfl
theorem trim_nm {i:Nat} (h:i < 9):strings_Trim_p FU (nm i) ⟨#[65,66,67,68,69,70,71,72,73,74,75,76,77,78,79,80,81,82,83,84,85,86,87,88,89,90,97,98,99,100,101,102,103,104,105,106,107,108,109,110,111,112,113,114,115,116,117,118,119,120,121,122,48,49,50,51,52,53,54,55,56,57,45,95]⟩ = some ⟨#[]⟩:=of_decide_eq_true (List.all_eq_true.1 trim_all i (List.mem_range.2 h))
theorem trim_sea:strings_Trim_p FU ⟨#[115,101,97]⟩ ⟨#[65,66,67,68,69,70,71,72,73,74,75,76,77,78,79,80,81,82,83,84,85,86,87,88,89,90,97,98,99,100,101,102,103,104,105,106,107,108,109,110,111,112,113,114,115,116,117,118,119,120,121,122,48,49,50,51,52,53,54,55,56,57,45,95]⟩ = some ⟨#[]⟩:=by kernel_rfl
theorem right_land (r:TRoll) (u:TUnit) {i:Nat} (hi:i < 9) (hG:r.fh ≤ 6) (hP:r.fc ≤ 12) (hL:r.fe ≤ 3) (hn:u.fp = nm i) (h:UnitOk r.fh r.fc r.fe u):units_right_p FU r u = some true:=by
  obtain ⟨w,pp,g,v,q⟩:=h
  have hF:=FU_lt
  unfold units_right_p jn
  simp only
  rw [if_neg (by rw [w]; decide),hn,trim_nm hi,obind,within_ok FU _ _ _ g.1 g.2 (by omega),obind,within_ok FU _ _ _ v.1 (fun x hx=>⟨(v.2 x hx).1,by have:=(v.2 x hx).2; omega⟩) (by omega),obind,within_ok FU _ _ _ q.1 (fun x hx=>⟨(q.2 x hx).1,by have:=(q.2 x hx).2; omega⟩) (by omega),obind]
  rw [every_ok FU _ ?_ (by simp only [List.length_cons,List.length_nil]; omega),obind]
  have e1:¬ nm i = ⟨#[]⟩:=fun e=>by have:=congrArg ByteArray.size e; exact absurd this (by show ¬ (3:Nat) = 0; decide)
  have e2:(nm i).size ≤ 12:=by show (3:Nat) ≤ 12; decide
  simp [e1,e2,pp.1]
  omega
theorem right_sea (r:TRoll) (hG:0 ≤ r.fh∧r.fh ≤ 6) (hP:0 ≤ r.fc∧r.fc ≤ 12) (hL:0 ≤ r.fe∧r.fe ≤ 3):units_right_p FU r (sea r.fh r.fc r.fe) = some true:=by
  have hF:=FU_lt
  have z:∀ (n:Nat) (x:Int),x ∈ List.replicate n (0:Int) → 0 ≤ x∧x ≤ 0:=fun n x hx=>by rw [(List.mem_replicate.1 hx).2]; omega
  unfold units_right_p jn sea
  simp only
  rw [if_pos trivial,trim_sea,obind,within_ok FU _ _ _ (by rw [List.length_replicate]; omega) (z _) (by rw [List.length_replicate]; omega),obind,within_ok FU _ _ ((0:Nat):Int) (by rw [List.length_replicate]; omega) (z _) (by rw [List.length_replicate]; omega),obind,within_ok FU _ _ ((0:Nat):Int) (by rw [List.length_replicate]; omega) (z _) (by rw [List.length_replicate]; omega),obind]
  rw [every_ok FU _ ?_ (by simp only [List.length_cons,List.length_nil]; omega),obind]
  have e1:¬ (⟨#[115,101,97]⟩:ByteArray) = ⟨#[]⟩:=fun e=>by have:=congrArg ByteArray.size e; exact absurd this (by show ¬ (3:Nat) = 0; decide)
  have e2:(⟨#[115,101,97]⟩:ByteArray).size ≤ 12:=by show (3:Nat) ≤ 12; decide
  simp [e1,e2]
theorem RollOk.unit {r:TRoll} {us:List TUnit} (h:RollOk r us) {j:Nat} (hj:j < r.fo.length):(∃ h2:j < us.length,r.fo[j] = us[j]) ∨ (j = us.length∧r.fo[j] = sea r.fh r.fc r.fe):=by
  obtain ⟨G,P,L,U⟩:=r
  rcases h.all with e | e
  · simp only at e hj ⊢
    subst e; exact .inl ⟨hj,rfl⟩
  · simp only at e hj ⊢
    subst e
    by_cases h2:j < us.length
    · exact .inl ⟨h2,List.getElem_append_left h2⟩
    · have h3:j = us.length:=by simp only [List.length_append,List.length_cons,List.length_nil] at hj; omega
      subst h3
      exact .inr ⟨rfl,by rw [List.getElem_append_right (by omega)]; simp⟩
theorem RollOk.size {r:TRoll} {us:List TUnit} (h:RollOk r us):us.length ≤ r.fo.length∧r.fo.length ≤ us.length + 1:=by
  rcases h.all with e | e <;> rw [e] <;> simp
theorem checkroll_ok (r:TRoll) (us:List TUnit) (h:RollOk r us):units_CheckRoll_p FU r = some 0:=by
  have hF:=FU_lt
  have hs:=h.size
  have hl:=h.len
  have hg:=h.g
  have hp:=h.p
  have hv:=h.l
  unfold units_CheckRoll_p
  rw [every_ok FU _ ?_ (by simp only [List.length_cons,List.length_nil]; omega),obind,if_pos rfl]
  · have hh:=loop_ok (B:=units_CheckRoll_l1 FU r) (fun s:Bool × Nat × List (ByteArray × Bool)=>r.fo.length - s.2.1)
      (fun s=>s.2.1 ≤ r.fo.length∧(s.2.1 ≤ us.length → s.1 = false)∧∀ x,mget s.2.2 x ≠ none → ∃ j,∃ hj:j < r.fo.length,j < s.2.1∧r.fo[j].fp = x) (fun r=>r = .inr ()) ?_ FU (false,0,[]) ⟨by simp,fun _=>rfl,fun x hx=>absurd rfl hx⟩ (by simp only; omega)
    · obtain ⟨x,e,rfl⟩:=hh
      rw [e]; rfl
    · rintro ⟨q,i,D⟩ J ⟨a1,a2,a3⟩ hJ
      simp only at a1 a2 a3 hJ
      unfold units_CheckRoll_l1
      simp only
      split
      · rename_i hi
        have hnone:mget D r.fo[i].fp = none:=by
          rcases hm:mget D r.fo[i].fp with _ | b
          · rfl
          · exfalso
            obtain ⟨j,hj,hji,he⟩:=a3 r.fo[i].fp (by rw [hm]; simp)
            rcases h.unit hi with ⟨h2,e2⟩ | ⟨h2,e2⟩ <;> rcases h.unit hj with ⟨h3,e3⟩ | ⟨h3,e3⟩
            · rw [e2,e3,(h.land i h2).1,(h.land j h3).1] at he
              have:=nm_inj (by omega) (by omega) he; omega
            · omega
            · rw [e2,e3,(h.land j h3).1] at he
              exact nm_sea he
            · omega
        have hmD:mgetD D r.fo[i].fp false = false:=by unfold mgetD; rw [hnone]; rfl
        have next:∀ b,(i + 1 ≤ us.length → b = false) → ∃ x,J (b,i + 1,mset D r.fo[i].fp true) = some x∧x = .inr ():=fun b hb=>by
          refine hJ (b,i + 1,mset D r.fo[i].fp true) ⟨hi,hb,fun x hx=>?_⟩ (by simp only; omega)
          simp only at hx ⊢
          rw [mget_mset] at hx
          by_cases hx2:x = r.fo[i].fp
          · exact ⟨i,hi,by omega,hx2.symm⟩
          · rw [if_neg hx2] at hx
            obtain ⟨j,hj,hji,he⟩:=a3 x hx
            exact ⟨j,hj,by omega,he⟩
        rw [List.getElem?_eq_getElem hi,obind]
        rcases h.unit hi with ⟨h2,e2⟩ | ⟨h2,e2⟩
        · have hu:=h.land i h2
          have hw:r.fo[i].fu = false:=by rw [e2]; exact hu.2.1
          have hq:q = false:=a2 (by omega)
          have hr:units_right_p FU r r.fo[i] = some true:=by rw [e2]; exact right_land r us[i] (by omega) (by omega) (by omega) (by omega) hu.1 hu.2
          rw [hr,obind,hw,if_neg (by decide),hmD,hq]
          by_cases h0:0 < i
          · rw [if_pos h0,every_ok FU _ (by simp) (by simp only [List.length_cons,List.length_nil]; omega),obind,if_pos rfl]
            exact next false fun _=>rfl
          · rw [if_neg h0,every_ok FU _ (by simp) (by simp only [List.length_cons,List.length_nil]; omega),obind,if_pos rfl]
            exact next false fun _=>rfl
        · have hw:r.fo[i].fu = true:=by rw [e2]; rfl
          have hr:units_right_p FU r r.fo[i] = some true:=by rw [e2]; exact right_sea r ⟨hg.1,by omega⟩ ⟨hp.1,by omega⟩ ⟨hv.1,by omega⟩
          rw [hr,obind,hw,if_pos rfl,hmD,if_pos (by omega),every_ok FU _ (by simp) (by simp only [List.length_cons,List.length_nil]; omega),obind,if_pos rfl]
          exact next true fun h5=>by omega
      · exact ⟨_,rfl,rfl⟩
  · simp; omega
theorem counted_ok (r:TRoll) (us:List TUnit) (h:RollOk r us) (k:Int) (h1:1 ≤ k) (h2:k ≤ 8):balance_counted_p FU r k = some (.ok ⟨r,k⟩):=by
  unfold balance_counted_p
  rw [checkroll_ok r us h,obind]
  unfold balance_need_p
  rw [if_pos rfl,obind]
  unfold exc
  simp only
  rw [if_neg (by omega)]
  unfold balance_fail_p
  rw [decide_eq_false (by omega),if_neg (by decide),obind]
end Go.Proofs.YtfccehcnajelgaaGreatDoor
/- Plain laws: a drafted plan fits; the totals. No program in sight but the printed functions. -/
namespace Go.Proofs.YtfccehcnajelgaaGreatDoor
open Go
theorem mset_keys {κ ν:Type} [DecidableEq κ]:∀ (D:List (κ × ν)) (k:κ) (v:ν),(mset D k v).map Prod.fst = if k ∈ D.map Prod.fst then D.map Prod.fst else D.map Prod.fst ++ [k]
  | [],k,v=>by simp [mset]
  | e :: D,k,v=>by
    unfold mset
    by_cases h:k = e.1
    · rw [if_pos h]; simp [h]
    · rw [if_neg h]
      simp only [List.map_cons,mset_keys D k v,List.mem_cons]
      by_cases h2:k ∈ D.map Prod.fst
      · simp [h2]
      · rw [if_neg h2,if_neg (by rintro (h3 | h3); exact h h3; exact h2 h3)]; rfl
theorem range_len {l:List Int} {k:Int} (hk:0 ≤ k) (hn:l.Nodup) (h:∀ x,x ∈ l ↔ 0 ≤ x∧x < k):(l.length:Int) = k:=by
  have h2:((List.range k.toNat).map fun i:Nat=>(i:Int)).Nodup:=by
    unfold List.Nodup
    exact List.Pairwise.map _ (fun a b hab=>by omega) List.nodup_range
  have h3:l.length ≤ ((List.range k.toNat).map fun i:Nat=>(i:Int)).length:=hn.length_le_of_subset fun x hx=>List.mem_map.2 ⟨x.toNat,List.mem_range.2 (by have:=(h x).1 hx; omega),by have:=(h x).1 hx; omega⟩
  have h4:((List.range k.toNat).map fun i:Nat=>(i:Int)).length ≤ l.length:=h2.length_le_of_subset fun x hx=>by
    obtain ⟨i,hi,rfl⟩:=List.mem_map.1 hx
    have:=List.mem_range.1 hi
    exact (h _).2 ⟨by omega,by omega⟩
  rw [List.length_map,List.length_range] at h3 h4
  omega
theorem fail_no (n:Nat) (e:Int):balance_fail_p n false e = some (.ok ()):=rfl
theorem used_ok (r:TRoll) (p:List Int) (k:Int) (hk:1 ≤ k) (h:PlanOk p k) (hl:p.length ≤ 9):∃ D,loopF (balance_count_check_l1 FU p ⟨r,k⟩) FU (0,[]) = some (.inr D)∧(D.length:Int) = k:=by
  have hF:=FU_lt
  have hh:=loop_ok (B:=balance_count_check_l1 FU p ⟨r,k⟩) (fun s:Nat × List (Int × Bool)=>p.length - s.1) (fun s=>s.1 ≤ p.length∧(s.2.map Prod.fst).Nodup∧∀ x,x ∈ s.2.map Prod.fst ↔ x ∈ p.take s.1)
    (fun y=>∃ D,y = .inr D∧(D.length:Int) = k) ?_ FU (0,[]) ⟨by simp,by simp,by simp⟩ (by simp only; omega)
  · obtain ⟨y,e,D,rfl,hD⟩:=hh; exact ⟨D,e,hD⟩
  · rintro ⟨i,D⟩ J ⟨a1,a2,a3⟩ hJ
    simp only at a1 a2 a3 hJ
    unfold balance_count_check_l1
    simp only
    split
    · rename_i hi
      have hx:=h.1 p[i] (List.getElem_mem _)
      rw [List.getElem?_eq_getElem hi,obind,if_neg (by omega),decide_eq_false (by omega),fail_no,obind]
      unfold exc
      simp only
      refine hJ _ ⟨hi,?_,fun x=>?_⟩ (by simp only; omega)
      · simp only
        rw [mset_keys]
        split
        · exact a2
        · rename_i h5
          rw [List.nodup_append]
          exact ⟨a2,by simp,fun a ha b hb=>by rw [List.mem_singleton.1 hb]; exact fun e=>h5 (e ▸ ha)⟩
      · simp only
        rw [mset_keys,← List.take_append_getElem hi,List.mem_append,← a3 x,List.mem_singleton]
        split
        · rename_i h5
          constructor
          · exact .inl
          · rintro (h6 | rfl)
            · exact h6
            · exact h5
        · rw [List.mem_append,List.mem_singleton]
    · refine ⟨_,rfl,D,rfl,?_⟩
      rw [List.take_of_length_le (by omega)] at a3
      have:=range_len (l:=D.map Prod.fst) (k:=k) (by omega) a2 fun x=>by
        rw [a3 x]; exact ⟨fun hx=>h.1 x hx,fun hx=>h.2 x hx.1 hx.2⟩
      rwa [List.length_map] at this
theorem used2_ok (r:TRoll) (p:List Int) (k:Int) (hk:1 ≤ k) (h:PlanOk p k) (hl:p.length ≤ 9):∃ D,loopF (balance_count_check_l2 FU p ⟨r,k⟩) FU (0,[]) = some (.inr D)∧(D.length:Int) = k:=used_ok r p k hk h hl
theorem check_plan (r:TRoll) (us:List TUnit) (hr:RollOk r us) (p:List Int) (k:Int) (hk:1 ≤ k) (h:PlanOk p k) (hl:p.length = us.length):balance_count_check_p FU ⟨r,k⟩ p = some (.ok ()):=by
  have hF:=FU_lt
  have hs:=hr.size
  have hlen:=hr.len
  obtain ⟨D,e1,d1⟩:=used_ok r p k hk h (by omega)
  obtain ⟨D2,e2,d2⟩:=used2_ok r p k hk h (by omega)
  have hh:=loop_ok (B:=balance_count_check_l3 FU ⟨r,k⟩ p) (fun s:Nat × Int=>r.fo.length - s.1) (fun s=>s.1 ≤ r.fo.length∧s.2 = s.1∧s.1 ≤ us.length) (fun x=>x = .inl (.ok ()) ∨ x = .inr (us.length:Int)) ?_ FU (0,0) ⟨by simp,by simp,by simp⟩ (by simp only; omega)
  · obtain ⟨x,e,hx⟩:=hh
    unfold balance_count_check_p
    rw [e]
    rcases hx with rfl | rfl
    · rfl
    · unfold thn
      simp only
      rw [decide_eq_true (show ((p.length:Nat):Int) = us.length by omega)]
      simp only [Bool.not_true]
      rw [fail_no,obind]
      unfold exc
      simp only
      rw [e2]
      simp only
      rw [decide_eq_true d2]
      rfl
  · rintro ⟨i,z⟩ J ⟨a1,a2,a4⟩ hJ
    simp only at a1 a2 a4 hJ
    unfold balance_count_check_l3
    simp only
    split
    · rename_i hi
      rw [List.getElem?_eq_getElem hi,obind]
      rcases hr.unit hi with ⟨h2,e3⟩ | ⟨h2,e3⟩
      · rw [e3,if_neg (by rw [(hr.land i h2).2.1]; decide),chkI (by omega) (by omega),obind]
        exact hJ _ ⟨by simp only; omega,by simp only; omega,h2⟩ (by simp only; omega)
      · rw [e3,if_pos (show (sea r.fh r.fc r.fe).fu = true from rfl)]
        refine ⟨.inl (.ok ()),?_,.inl rfl⟩
        rw [decide_eq_true (show ((p.length:Nat):Int) = z by omega)]
        simp only [Bool.not_true]
        rw [fail_no,obind]
        unfold exc
        simp only
        rw [e1]
        unfold thn
        simp only
        rw [decide_eq_true d1]
        rfl
    · exact ⟨_,rfl,.inr (by rw [a2,show i = us.length by omega])⟩
end Go.Proofs.YtfccehcnajelgaaGreatDoor
