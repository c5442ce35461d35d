/- Plain laws: the drafted roll, and that it is valid. No program in sight but the printed functions. -/
import Derived.Test.YtbgcdbblaadokaaGreatDoorRVSa
namespace Go.Proofs.YtbgcdbblaadokaaGreatDoor
open Go
def FU:Nat:=18446744073709552000
def nm (i:Nat):ByteArray:=⟨#[117,UInt8.ofNat (97 + i),97]⟩
theorem mget_mset {κ ν:Type} [DecidableEq κ]:∀ (D:List (κ × ν)) (k x:κ) (v:ν),mget (mset D k v) x = if x = k then some v else mget D x
  | [],k,x,v=>by simp [mset,mget]
  | e :: D,k,x,v=>by
    unfold mset
    split
    · rename_i h; subst h; simp only [mget]; split <;> rfl
    · rename_i h
      simp only [mget]
      rw [mget_mset D k x v]
      by_cases h1:x = k
      · subst h1; simp [h]
      · simp [h1]
theorem every_ok (n:Nat) (l:List Bool) (h:∀ b ∈ l,b = true) (hn:l.length < n):units_every_p n l = some true:=by
  have hh:=loop_ok (B:=slices_Index_bool_bool_l1 n l false) (fun i:Nat=>l.length - i) (fun i=>i ≤ l.length) (fun r=>r = .inr ()) ?_ n 0 (Nat.zero_le _) (by omega)
  · obtain ⟨r,e,rfl⟩:=hh
    unfold units_every_p slices_Contains_bool_bool_p slices_Index_bool_bool_p
    rw [e]
    rfl
  · intro i J hi hJ
    unfold slices_Index_bool_bool_l1
    simp only
    split
    · rename_i h0
      rw [List.getElem?_eq_getElem h0,obind,h l[i] (List.getElem_mem _),if_neg (by decide)]
      exact hJ (i + 1) h0 (by omega)
    · exact ⟨_,rfl,rfl⟩
theorem within_ok (n:Nat) (l:List Int) (a most:Int) (hl:(l.length:Int) = a) (h:∀ x ∈ l,0 ≤ x∧x ≤ most) (hn:l.length < n):units_within_p n l a most = some true:=by
  have hh:=loop_ok (B:=units_within_l1 n l most) (fun i:Nat=>l.length - i) (fun i=>i ≤ l.length) (fun r=>r = .inr ()) ?_ n 0 (Nat.zero_le _) (by omega)
  · obtain ⟨r,e,rfl⟩:=hh
    unfold units_within_p
    rw [if_pos hl,e]
    rfl
  · intro i J hi hJ
    unfold units_within_l1 units_within_1_p
    simp only
    split
    · rename_i h0
      have:=h l[i] (List.getElem_mem _)
      rw [List.getElem?_eq_getElem h0,obind,if_neg (by omega),obind,decide_eq_false (by omega),if_neg (by decide)]
      exact hJ (i + 1) h0 (by omega)
    · exact ⟨_,rfl,rfl⟩
def UnitOk (G P L:Int) (u:TUnit):Prop:=u.fJ = false∧(0 ≤ u.fG∧u.fG ≤ 255)∧((u.fj.length:Int) = G∧∀ x ∈ u.fj,0 ≤ x∧x ≤ u.fG)∧((u.fP.length:Int) = P∧∀ x ∈ u.fP,0 ≤ x∧x ≤ 255)∧((u.fParents.length:Int) = L∧∀ x ∈ u.fParents,0 ≤ x∧x ≤ 63)
def sea (G P L:Int):TUnit:=⟨⟨#[115,101,97]⟩,0,List.replicate G.toNat 0,List.replicate P.toNat 0,List.replicate L.toNat 0,true⟩
structure RollOk (r:TRoll) (us:List TUnit):Prop where
  g:0 ≤ r.fj∧r.fj ≤ 2
  p:0 ≤ r.fh∧r.fh ≤ 3
  l:0 ≤ r.fl∧r.fl ≤ 2
  len:1 ≤ us.length∧us.length ≤ 9
  land:∀ i (h:i < us.length),us[i].fI = nm i∧UnitOk r.fj r.fh r.fl us[i]
  all:r.fE = us ∨ r.fE = us ++ [sea r.fj r.fh r.fl]
end Go.Proofs.YtbgcdbblaadokaaGreatDoor
