/- Plain laws: the drafted roll, and that it is valid. No program in sight but the printed functions. -/
import Derived.Test.YtfccehcnajelgaaGreatDoorRDSa
import Derived.Test.YtfccehcnajelgaaGreatDoorRDIu
namespace Go.Proofs.YtfccehcnajelgaaGreatDoor
open Go
def nm (i:Nat):ByteArray:=⟨#[117,UInt8.ofNat (97 + i),97]⟩
theorem nm_inj {i j:Nat} (hi:i < 9) (hj:j < 9) (h:nm i = nm j):i = j:=by
  have h1:=congrArg (fun b:ByteArray=>b.data[1]!) h
  have h2:UInt8.ofNat (97 + i) = UInt8.ofNat (97 + j):=h1
  have h3:=congrArg UInt8.toNat h2
  rw [UInt8.toNat_ofNat', UInt8.toNat_ofNat'] at h3
  omega
theorem nm_sea {i:Nat} (h:nm i = ⟨#[115,101,97]⟩):False:=by
  have h1:=congrArg (fun b:ByteArray=>b.data[0]!) h
  have h2:(117:UInt8) = 115:=h1
  exact absurd h2 (by decide)
theorem every_ok (n:Nat) (l:List Bool) (h:∀ b ∈ l,b = true) (hn:l.length < n):units_every_p n l = some true:=by
  have hh:=loop_ok (B:=slices_Index_bool_bool_l1 n l false) (fun i:Nat=>l.length - i) (fun i=>i ≤ l.length) (fun r=>r = .inr ()) ?_ n 0 (Nat.zero_le _) (by omega)
  · obtain ⟨r,e,rfl⟩:=hh
    unfold units_every_p slices_Contains_bool_bool_p slices_Index_bool_bool_p
    rw [e]
    rfl
  · intro i J hi hJ
    unfold slices_Index_bool_bool_l1
    simp only
    split
    · rename_i h0
      rw [List.getElem?_eq_getElem h0,obind,h l[i] (List.getElem_mem _),if_neg (by decide)]
      exact hJ (i + 1) h0 (by omega)
    · exact ⟨_,rfl,rfl⟩
theorem within_ok (n:Nat) (l:List Int) (a most:Int) (hl:(l.length:Int) = a) (h:∀ x ∈ l,0 ≤ x∧x ≤ most) (hn:l.length < n):units_within_p n l a most = some true:=by
  have hh:=loop_ok (B:=units_within_l1 n l most) (fun i:Nat=>l.length - i) (fun i=>i ≤ l.length) (fun r=>r = .inr ()) ?_ n 0 (Nat.zero_le _) (by omega)
  · obtain ⟨r,e,rfl⟩:=hh
    unfold units_within_p
    rw [if_pos hl,e]
    rfl
  · intro i J hi hJ
    unfold units_within_l1 units_within_1_p
    simp only
    split
    · rename_i h0
      have:=h l[i] (List.getElem_mem _)
      rw [List.getElem?_eq_getElem h0,obind,if_neg (by omega),obind,decide_eq_false (by omega),if_neg (by decide)]
      exact hJ (i + 1) h0 (by omega)
    · exact ⟨_,rfl,rfl⟩
theorem num_ok (n:Nat) (d:TDraft50) (i:Int) (h:0 ≤ i):∃ y,wardmoteref22_Draft_num_p n d i = some y∧0 ≤ y∧y ≤ 255:=by
  unfold wardmoteref22_Draft_num_p
  split
  · exact ⟨_,rfl,by omega,by omega⟩
  · rename_i h0
    have h1:=Int.emod_nonneg i (b:=(d.fNums.length:Int)) (by omega)
    have h2:=Int.emod_lt_of_pos i (b:=(d.fNums.length:Int)) (by omega)
    rw [remI_ok (by omega),obind,Int.tmod_eq_emod_of_nonneg h,idx_ok h1 (by omega),obind]
    have:=(d.fNums[(i % (d.fNums.length:Int)).toNat]'(by omega)).toNat_lt
    exact ⟨_,rfl,by omega,by omega⟩
theorem dlist_ok (n:Nat) (d:TDraft50) (c at_ most:Int) (h0:0 ≤ c) (h1:c ≤ 100) (h2:0 ≤ at_) (h3:at_ ≤ 1000) (h4:0 ≤ most) (hn:200 < n):∃ l,wardmoteref22_Draft_list_p n d c at_ most = some l∧(l.length:Int) = c∧∀ x ∈ l,0 ≤ x∧x ≤ most∧x ≤ 255:=by
  have hh:=loop_ok (B:=wardmoteref22_Draft_list_l1 n c at_ d most) (fun s:Int × List Int=>101 - s.1.toNat) (fun s=>0 ≤ s.1∧s.1 ≤ c∧(s.2.length:Int) = s.1∧∀ x ∈ s.2,0 ≤ x∧x ≤ most∧x ≤ 255)
    (fun l=>(l.length:Int) = c∧∀ x ∈ l,0 ≤ x∧x ≤ most∧x ≤ 255) ?_ n (0,[]) ⟨by simp,h0,by simp,by simp⟩ (by simp only; omega)
  · obtain ⟨l,e,h⟩:=hh
    refine ⟨l,?_,h⟩
    unfold wardmoteref22_Draft_list_p
    rw [e,obind]
  · rintro ⟨z,xs⟩ J ⟨a1,a2,a3,a4⟩ hJ
    simp only at a1 a2 a3 a4 hJ
    unfold wardmoteref22_Draft_list_l1
    simp only
    split
    · obtain ⟨y,e,y0,y1⟩:=num_ok n d (at_ + z) (by omega)
      rw [chkI (by omega) (by omega),obind,e,obind,appS _ _ (by simp only [List.length_cons,List.length_nil]; omega),obind,chkI (by omega) (by omega),obind]
      refine hJ _ ⟨by simp only; omega,by simp only; omega,by simp only [List.length_append,List.length_cons,List.length_nil]; omega,fun x hx=>?_⟩ (by simp only; omega)
      rcases List.mem_append.1 hx with hx | hx
      · exact a4 x hx
      · rw [List.mem_singleton.1 hx]; omega
    · exact ⟨_,rfl,by omega,a4⟩
def UnitOk (G P L:Int) (u:TUnit):Prop:=u.fu = false∧(0 ≤ u.fE∧u.fE ≤ 255)∧((u.fh.length:Int) = G∧∀ x ∈ u.fh,0 ≤ x∧x ≤ u.fE)∧((u.fVotes.length:Int) = P∧∀ x ∈ u.fVotes,0 ≤ x∧x ≤ 255)∧((u.fF.length:Int) = L∧∀ x ∈ u.fF,0 ≤ x∧x ≤ 63)
def sea (G P L:Int):TUnit:=⟨⟨#[115,101,97]⟩,0,List.replicate G.toNat 0,List.replicate P.toNat 0,List.replicate L.toNat 0,true⟩
structure RollOk (r:TRoll) (us:List TUnit):Prop where
  g:0 ≤ r.fh∧r.fh ≤ 2
  p:0 ≤ r.fc∧r.fc ≤ 3
  l:0 ≤ r.fe∧r.fe ≤ 2
  len:1 ≤ us.length∧us.length ≤ 9
  land:∀ i (h:i < us.length),us[i].fp = nm i∧UnitOk r.fh r.fc r.fe us[i]
  all:r.fo = us ∨ r.fo = us ++ [sea r.fh r.fc r.fe]
theorem parents_ok (n:Nat) (d:TDraft50) (z:Int) (h0:0 ≤ z) (h1:z ≤ 100) (hn:200 < n):∃ l,loopF (wardmoteref22_Draft_Roll_l1 n d z) n (0,[]) = some l∧l.length = (d.fe % 3).toNat∧∀ x ∈ l,0 ≤ x∧x ≤ 63:=by
  have hk:(d.fe % 3).toNat < 3:=by rw [UInt8.toNat_mod]; exact Nat.mod_lt _ (by decide)
  refine loop_ok (B:=wardmoteref22_Draft_Roll_l1 n d z) (fun s:Nat × List Int=>3 - s.1) (fun s=>s.1 ≤ (d.fe % 3).toNat∧s.2.length = s.1∧∀ x ∈ s.2,0 ≤ x∧x ≤ 63) _ ?_ n (0,[]) ⟨by simp,rfl,by simp⟩ (by simp only; omega)
  rintro ⟨i,xs⟩ J ⟨a1,a2,a3⟩ hJ
  simp only at a1 a2 a3 hJ
  unfold wardmoteref22_Draft_Roll_l1
  simp only
  split
  · rename_i hi
    obtain ⟨y,e,y0,y1⟩:=num_ok n d (9 * z + 7 + i) (by omega)
    rw [chkI (by omega) (by omega),obind,chkI (by omega) (by omega),obind,chkI (by omega) (by omega),obind,e,obind,remI_ok (by decide),obind,appS _ _ (by simp only [List.length_cons,List.length_nil]; omega),obind]
    refine hJ _ ⟨by simp only; omega,by simp only [List.length_append,List.length_cons,List.length_nil]; omega,fun x hx=>?_⟩ (by simp only; omega)
    rcases List.mem_append.1 hx with hx | hx
    · exact a3 x hx
    · rw [List.mem_singleton.1 hx,Int.tmod_eq_emod_of_nonneg y0]
      have a1:=Int.emod_nonneg y (b:=(3:Int)) (by omega)
      have a2:=Int.emod_lt_of_pos y (b:=(3:Int)) (by omega)
      omega
  · exact ⟨_,rfl,by omega,a3⟩
theorem name_ok (i:Nat) (h:i < 9):(sadd ⟨#[117]⟩ (bstr ([u8ofI (97 + (i:Int)),u8ofI (97 + 0)]:List UInt8))) = some (nm i):=by
  have:u8ofI (97 + (i:Int)) = UInt8.ofNat (97 + i):=by unfold u8ofI; congr 1; omega
  rw [this]; rfl
theorem roll_all (n:Nat) (d:TDraft50) (m:Nat) (h1:1 ≤ m) (h2:m ≤ 9) (hn:200 < n):∃ r us,wardmoteref22_Draft_Roll_p n d m = some r∧us.length = m∧RollOk r us∧r.fh = ((d.fh % 3).toNat:Int)∧r.fc = ((d.fc % 4).toNat:Int)∧r.fe = ((d.fe % 3).toNat:Int):=by
  have hG:(d.fh % 3).toNat < 3:=by rw [UInt8.toNat_mod]; exact Nat.mod_lt _ (by decide)
  have hP:(d.fc % 4).toNat < 4:=by rw [UInt8.toNat_mod]; exact Nat.mod_lt _ (by decide)
  have hL:(d.fe % 3).toNat < 3:=by rw [UInt8.toNat_mod]; exact Nat.mod_lt _ (by decide)
  have hW:(d.fu % 2).toNat < 2:=by rw [UInt8.toNat_mod]; exact Nat.mod_lt _ (by decide)
  have hh:=loop_ok (B:=wardmoteref22_Draft_Roll_l3 n (m:Int) d) (fun s:Int × List TUnit=>10 - s.1.toNat) (fun s=>0 ≤ s.1∧s.1 ≤ m∧(s.2.length:Int) = s.1∧∀ i (h:i < s.2.length),s.2[i].fp = nm i∧UnitOk ((d.fh % 3).toNat:Int) ((d.fc % 4).toNat:Int) ((d.fe % 3).toNat:Int) s.2[i])
    (fun us=>us.length = m∧∀ i (h:i < us.length),us[i].fp = nm i∧UnitOk ((d.fh % 3).toNat:Int) ((d.fc % 4).toNat:Int) ((d.fe % 3).toNat:Int) us[i]) ?_ n (0,[]) ⟨by simp,by simp,by simp,fun i h=>by simp at h⟩ (by simp only; omega)
  · obtain ⟨us,e,u1,u2⟩:=hh
    have hs:=loop_ok (B:=wardmoteref22_Draft_Roll_l2 n d) (fun s:Nat × List TUnit=>2 - s.1) (fun s=>s.1 ≤ (d.fu % 2).toNat∧(s.1 = 0∧s.2 = us ∨ s.1 = 1∧s.2 = us ++ [sea (d.fh % 3).toNat (d.fc % 4).toNat (d.fe % 3).toNat]))
      (fun all=>all = us ∨ all = us ++ [sea (d.fh % 3).toNat (d.fc % 4).toNat (d.fe % 3).toNat]) ?_ n (0,us) ⟨by simp,.inl ⟨rfl,rfl⟩⟩ (by simp only; omega)
    · obtain ⟨all,e2,ha⟩:=hs
      refine ⟨⟨(d.fh % 3).toNat,(d.fc % 4).toNat,(d.fe % 3).toNat,all⟩,us,?_,u1,⟨by simp only; omega,by simp only; omega,by simp only; omega,by omega,u2,ha⟩,rfl,rfl,rfl⟩
      unfold wardmoteref22_Draft_Roll_p
      rw [e,obind,e2,obind]
    · rintro ⟨i,xs⟩ J ⟨a1,a2⟩ hJ
      simp only at a1 a2 hJ
      unfold wardmoteref22_Draft_Roll_l2
      simp only
      split
      · rename_i hi
        have hi0:i = 0∧xs = us:=by
          rcases a2 with a2 | a2
          · exact a2
          · omega
        obtain ⟨rfl,rfl⟩:=hi0
        rw [mk_ok _ _ (by omega),obind,mk_ok _ _ (by omega),obind,mk_ok _ _ (by omega),obind,appS _ _ (by simp only [List.length_cons,List.length_nil]; omega),obind]
        exact hJ _ ⟨by simp only; omega,.inr ⟨rfl,rfl⟩⟩ (by simp only; omega)
      · exact ⟨_,rfl,a2.elim (fun h=>.inl h.2) (fun h=>.inr h.2)⟩
  · rintro ⟨z,xs⟩ J ⟨a1,a2,a3,a4⟩ hJ
    simp only at a1 a2 a3 a4 hJ
    unfold wardmoteref22_Draft_Roll_l3
    simp only
    split
    · rename_i hz
      obtain ⟨i,rfl⟩:∃ i:Nat,z = i:=⟨z.toNat,by omega⟩
      have t1:Int.tmod (i:Int) 26 = i:=by rw [Int.tmod_eq_emod_of_nonneg (by omega)]; omega
      have t2:Int.tdiv (i:Int) 26 = 0:=by rw [Int.tdiv_eq_ediv_of_nonneg (by omega)]; omega
      obtain ⟨y,e,y0,y1⟩:=num_ok n d (9 * (i:Int)) (by omega)
      obtain ⟨g,eg,g1,g2⟩:=dlist_ok n d ((d.fh % 3).toNat:Nat) (9 * (i:Int) + 1) y (by omega) (by omega) (by omega) (by omega) y0 hn
      obtain ⟨v,ev,v1,v2⟩:=dlist_ok n d ((d.fc % 4).toNat:Nat) (9 * (i:Int) + 3) 255 (by omega) (by omega) (by omega) (by omega) (by omega) hn
      obtain ⟨q,eq,q1,q2⟩:=parents_ok n d (i:Int) (by omega) (by omega) hn
      rw [remI_ok (by decide),obind,t1,chkI (by omega) (by omega),obind]
      unfold quoI
      rw [if_neg (by decide),t2,chkI (by omega) (by omega),obind,remI_ok (by decide),obind,show Int.tmod 0 26 = 0 from rfl,chkI (by omega) (by omega),obind,chkI (by omega) (by omega),obind,e,obind,name_ok i (by omega)]
      simp only [obind]
      rw [chkI (by omega) (by omega)]
      simp only [obind,eg]
      rw [chkI (by omega) (by omega)]
      simp only [obind,ev,eq]
      rw [appS _ _ (by simp only [List.length_cons,List.length_nil]; omega)]
      simp only [obind]
      try rw [chkI (by omega) (by omega),obind]
      refine hJ _ ⟨by simp only; omega,by simp only; omega,by simp only [List.length_append,List.length_cons,List.length_nil]; omega,fun j hj=>?_⟩ (by simp only; omega)
      simp only at hj ⊢
      by_cases hji:j < xs.length
      · rw [List.getElem_append_left hji]; exact a4 j hji
      · have:j = i:=by simp only [List.length_append,List.length_cons,List.length_nil] at hj; omega
        subst this
        rw [List.getElem_append_right (by omega)]
        simp only [List.getElem_singleton]
        exact ⟨trivial,rfl,⟨y0,y1⟩,⟨g1,fun x hx=>⟨(g2 x hx).1,(g2 x hx).2.1⟩⟩,⟨v1,fun x hx=>⟨(v2 x hx).1,(v2 x hx).2.2⟩⟩,⟨by rw [q1],q2⟩⟩
    · exact ⟨_,rfl,by omega,a4⟩
theorem roll_ok (n:Nat) (d:TDraft50) (m:Nat) (h1:1 ≤ m) (h2:m ≤ 9) (hn:200 < n):∃ r us,wardmoteref22_Draft_Roll_p n d m = some r∧us.length = m∧RollOk r us:=by
  obtain ⟨r,us,e,h,h', _⟩:=roll_all n d m h1 h2 hn
  exact ⟨r,us,e,h,h'⟩
end Go.Proofs.YtfccehcnajelgaaGreatDoor
