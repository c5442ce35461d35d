/- Plain laws: the drafted roll, and that it is valid. No program in sight but the printed functions. -/
import Derived.Test.YtfncplndfpgngaaGreatDoorTHSa
namespace Go.Proofs.YtfncplndfpgngaaGreatDoor
open Go
def FU:Nat:=18446744073709552000
def nm (i:Nat):ByteArray:=⟨#[117,UInt8.ofNat (97 + i),97]⟩
theorem mget_mset {κ ν:Type} [DecidableEq κ]:∀ (D:List (κ × ν)) (k x:κ) (v:ν),mget (mset D k v) x = if x = k then some v else mget D x
  | [],k,x,v=>by simp [mset,mget]
  | e :: D,k,x,v=>by
    unfold mset
    split
    · rename_i h; subst h; simp only [mget]; split <;> rfl
    · rename_i h
      simp only [mget]
      rw [mget_mset D k x v]
      by_cases h1:x = k
      · subst h1; simp [h]
      · simp [h1]
theorem every_ok (n:Nat) (l:List Bool) (h:∀ b ∈ l,b = true) (hn:l.length < n):units_every_p n l = some true:=by
  have hh:=loop_ok (B:=slices_Index_bool_bool_l1 n l false) (fun i:Nat=>l.length - i) (fun i=>i ≤ l.length) (fun r=>r = .inr ()) ?_ n 0 (Nat.zero_le _) (by omega)
  · obtain ⟨r,e,rfl⟩:=hh
    unfold units_every_p slices_Contains_bool_bool_p slices_Index_bool_bool_p
    rw [e]
    rfl
  · intro i J hi hJ
    unfold slices_Index_bool_bool_l1
    simp only
    split
    · rename_i h0
      rw [List.getElem?_eq_getElem h0,obind,h l[i] (List.getElem_mem _),if_neg (by decide)]
      exact hJ (i + 1) h0 (by omega)
    · exact ⟨_,rfl,rfl⟩
theorem num_ok (n:Nat) (d:TDraft26) (i:Int) (h:0 ≤ i):∃ y,wardmoteref22_Draft_num_p n d i = some y∧0 ≤ y∧y ≤ 255:=by
  unfold wardmoteref22_Draft_num_p
  split
  · exact ⟨_,rfl,by omega,by omega⟩
  · rename_i h0
    have h1:=Int.emod_nonneg i (b:=(d.fF.length:Int)) (by omega)
    have h2:=Int.emod_lt_of_pos i (b:=(d.fF.length:Int)) (by omega)
    rw [remI_ok (by omega),obind,Int.tmod_eq_emod_of_nonneg h,idx_ok h1 (by omega),obind]
    have:=(d.fF[(i % (d.fF.length:Int)).toNat]'(by omega)).toNat_lt
    exact ⟨_,rfl,by omega,by omega⟩
theorem dlist_ok (n:Nat) (d:TDraft26) (c at_ most:Int) (h0:0 ≤ c) (h1:c ≤ 100) (h2:0 ≤ at_) (h3:at_ ≤ 1000) (h4:0 ≤ most) (hn:200 < n):∃ l,wardmoteref22_Draft_list_p n d c at_ most = some l∧(l.length:Int) = c∧∀ x ∈ l,0 ≤ x∧x ≤ most∧x ≤ 255:=by
  have hh:=loop_ok (B:=wardmoteref22_Draft_list_l1 n c at_ d most) (fun s:Int × List Int=>101 - s.1.toNat) (fun s=>0 ≤ s.1∧s.1 ≤ c∧(s.2.length:Int) = s.1∧∀ x ∈ s.2,0 ≤ x∧x ≤ most∧x ≤ 255)
    (fun l=>(l.length:Int) = c∧∀ x ∈ l,0 ≤ x∧x ≤ most∧x ≤ 255) ?_ n (0,[]) ⟨by simp,h0,by simp,by simp⟩ (by simp only; omega)
  · obtain ⟨l,e,h⟩:=hh
    refine ⟨l,?_,h⟩
    unfold wardmoteref22_Draft_list_p
    rw [e,obind]
  · rintro ⟨z,xs⟩ J ⟨a1,a2,a3,a4⟩ hJ
    simp only at a1 a2 a3 a4 hJ
    unfold wardmoteref22_Draft_list_l1
    simp only
    split
    · obtain ⟨y,e,y0,y1⟩:=num_ok n d (at_ + z) (by omega)
      rw [chkI (by omega) (by omega),obind,e,obind,appS _ _ (by simp only [List.length_cons,List.length_nil]; omega),obind,chkI (by omega) (by omega),obind]
      refine hJ _ ⟨by simp only; omega,by simp only; omega,by simp only [List.length_append,List.length_cons,List.length_nil]; omega,fun x hx=>?_⟩ (by simp only; omega)
      rcases List.mem_append.1 hx with hx | hx
      · exact a4 x hx
      · rw [List.mem_singleton.1 hx]; omega
    · exact ⟨_,rfl,by omega,a4⟩
def UnitOk (G P L:Int) (u:TUnit):Prop:=u.fo = false∧(0 ≤ u.fp∧u.fp ≤ 255)∧((u.fe.length:Int) = G∧∀ x ∈ u.fe,0 ≤ x∧x ≤ u.fp)∧((u.fC.length:Int) = P∧∀ x ∈ u.fC,0 ≤ x∧x ≤ 255)∧((u.fw.length:Int) = L∧∀ x ∈ u.fw,0 ≤ x∧x ≤ 63)
def sea (G P L:Int):TUnit:=⟨⟨#[115,101,97]⟩,0,List.replicate G.toNat 0,List.replicate P.toNat 0,List.replicate L.toNat 0,true⟩
structure RollOk (r:TRoll) (us:List TUnit):Prop where
  g:0 ≤ r.fe∧r.fe ≤ 2
  p:0 ≤ r.fc∧r.fc ≤ 3
  l:0 ≤ r.fh∧r.fh ≤ 2
  len:1 ≤ us.length∧us.length ≤ 9
  land:∀ i (h:i < us.length),us[i].ft = nm i∧UnitOk r.fe r.fc r.fh us[i]
  all:r.fm = us ∨ r.fm = us ++ [sea r.fe r.fc r.fh]
end Go.Proofs.YtfncplndfpgngaaGreatDoor
