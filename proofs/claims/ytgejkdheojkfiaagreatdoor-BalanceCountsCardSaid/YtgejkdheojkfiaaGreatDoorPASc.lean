/- Plain laws: shares of small numbers. No program in sight but the printed functions. -/
import Derived.Test.YtgejkdheojkfiaaGreatDoorPAWd
namespace Go.Proofs.YtgejkdheojkfiaaGreatDoor
open Go
theorem W8_ne {z:Int} (h:Sm z) (h0:z ≠ 0):W8 z ≠ (0,0,0,0,0,0,0,0):=fun e=>by
  have e1:u64of z = 0:=by
    have:=congrArg Prod.fst e
    unfold W8 at this
    split at this <;> exact this
  by_cases hz:z < 0
  · have:=u64_neg h hz
    rw [e1] at this; unfold Sm at h; simp at this; omega
  · rw [u64_pos h hz] at e1
    exact ofNat_ne (by omega) h.w e1
theorem rtold_ok (n:Nat) (q:Rat) (h1:Sm q.num) (h2:Sm (q.den:Int)) (hn:10 < n):bG_p n (Rt q) = some (Sh q,0):=by
  unfold bG_p
  rw [show (Rt q).fx = L q.num from rfl,show (Rt q).ft = L q.den from rfl,told_ok n _ h1 hn,obind,told_ok n _ h2 hn,obind]
  rfl
theorem share_of_ok (n:Nat) (a b:Int) (ha:Sm a) (hb:Sm b) (h0:b ≠ 0) (hn:18446744073709551616 < n):cW_p n a b = some (Sh (Rat.divInt a b),0):=by
  obtain ⟨e1,e2,e3⟩:=lowest_ok n a b ha.w hb.w h0 hn
  unfold cW_p
  rw [of_ok n a (by omega),obind,of_ok n b (by omega),obind]
  unfold de_p
  rw [if_neg (W8_ne hb h0),longer_ok n a ha (by omega),obind,longer_ok n b hb (by omega),obind,e1,obind,rtold_ok n _ (by unfold Sm at *; omega) (by unfold Sm at *; omega) (by omega)]
  rfl
end Go.Proofs.YtgejkdheojkfiaaGreatDoor
/- Plain laws: the drafted plan. No program in sight but the printed functions. -/
namespace Go.Proofs.YtgejkdheojkfiaaGreatDoor
open Go
theorem remI_ok {x y:Int} (h:y ≠ 0):remI x y = some (x.tmod y):=if_neg h
theorem appS {α:Type} (xs ys:List α) (h:xs.length + ys.length <= 1000000):app xs ys = some (xs ++ ys):=if_pos (Nat.le_trans h (by decide))
theorem label_ok (n:Nat) (d:Tj) (i:Int) (h:0 <= i):∃ y,bt_p n d i = some y/\0 <= y/\y < 256:=by
  unfold bt_p
  split
  · rw [idx_ok h (by omega),obind]
    have:=(d.fLabels[i.toNat]'(by omega)).toNat_lt
    exact ⟨_,rfl,by omega,by omega⟩
  · exact ⟨_,rfl,by omega,by omega⟩
theorem labels_ok (n:Nat) (d:Tj) (hn:20 < n):∃ l,loopF (ai_l2 n d) n (0,[]) = some l/\1 <= l.length/\l.length <= 9/\∀ x ∈ l,0 <= x/\x < 8:=by
  have hu:(d.fN % 9).toNat < 9:=by rw [UInt8.toNat_mod]; exact Nat.mod_lt _ (by decide)
  have hk:(d.fK % 8).toNat < 8:=by rw [UInt8.toNat_mod]; exact Nat.mod_lt _ (by decide)
  have h:=loop_ok (B:=ai_l2 n d) (fun s:Int × List Int=>10 - s.1.toNat) (fun s=>0 <= s.1/\s.1 <= (1 + (d.fN % 9).toNat:Nat)/\s.2.length = s.1.toNat/\∀ x ∈ s.2,0 <= x/\x < 8)
    (fun l=>1 <= l.length/\l.length <= 9/\∀ x ∈ l,0 <= x/\x < 8) ?_ n (0,[]) ⟨by simp,by omega,by simp,by simp⟩ (by simp only; omega)
  · obtain ⟨l,e,h⟩:=h; exact ⟨l,e,h⟩
  · rintro ⟨z,xs⟩ J ⟨h1,h2,h3,h4⟩ hJ
    simp only at h1 h2 h3 h4 hJ
    unfold ai_l2 bO_p
    simp only [obind]
    split
    · rename_i h5
      obtain ⟨y,e,y0,y1⟩:=label_ok n d z h1
      rw [e,obind,remI_ok (by omega),obind,appS _ _ (by simp only [List.length_cons,List.length_nil]; omega),obind,chkI (by omega) (by omega),obind]
      refine hJ _ ⟨by simp only; omega,by simp only; omega,by simp only [List.length_append,List.length_cons,List.length_nil]; omega,fun x hx=>?_⟩ (by simp only; omega)
      rcases List.mem_append.1 hx with hx | hx
      · exact h4 x hx
      · rw [List.mem_singleton.1 hx,Int.tmod_eq_emod_of_nonneg y0]
        have a1:=Int.emod_nonneg y (b:=((1 + (d.fK % 8).toNat:Nat):Int)) (by omega)
        have a2:=Int.emod_lt_of_pos y (b:=((1 + (d.fK % 8).toNat:Nat):Int)) (by omega)
        omega
    · rename_i h5
      exact ⟨_,rfl,by omega,by omega,h4⟩
theorem labels_in (n:Nat) (l:List Int) (h1:1 <= l.length) (h2:l.length <= 9) (h:∀ x ∈ l,0 <= x/\x < 8) (hn:20 < n):aU_p n l 8 = some true:=by
  have hh:=loop_ok (B:=aU_l1 n l 8) (fun i:Nat=>l.length - i) (fun i=>i <= l.length) (fun r=>r = .inr ()) ?_ n 0 (Nat.zero_le _) (by omega)
  · obtain ⟨r,e,rfl⟩:=hh
    unfold aU_p
    rw [e]
    show (if 1 <= l.length then some (decide (l.length <= 64)) else some false) = _
    rw [if_pos h1,decide_eq_true (by omega)]
  · intro i J hi hJ
    unfold aU_l1
    simp only
    split
    · rename_i h0
      have:=h l[i] (List.getElem_mem _)
      rw [List.getElem?_eq_getElem h0,obind,if_neg (by omega),if_neg (by omega)]
      exact hJ (i + 1) h0 (by omega)
    · exact ⟨_,rfl,rfl⟩
def PlanOk (p:List Int) (k:Int):Prop:=(∀ x ∈ p,0 <= x/\x < k)/\∀ d,0 <= d -> d < k -> d ∈ p
theorem canon_ok (n:Nat) (l:List Int) (h1:1 <= l.length) (h2:l.length <= 9) (h:∀ x ∈ l,0 <= x/\x < 8) (hn:20 < n):∃ p z,aZ_p n l = some (p,0)/\p.length = l.length/\PlanOk p z/\z <= 8:=by
  have hh:=loop_ok (B:=aZ_l1 n l) (fun s:Int × Nat × List Int × List Int=>l.length - s.2.1)
    (fun s=>s.2.1 <= l.length/\s.2.2.1.length = s.2.1/\s.2.2.2.length = 8/\0 <= s.1/\s.1 + s.2.2.2.count (-1) = 8/\(∀ v ∈ s.2.2.2,v = -1 ∨ 0 <= v/\v < s.1)/\PlanOk s.2.2.1 s.1)
    (fun p=>∃ z,p.length = l.length/\PlanOk p z/\z <= 8) ?_ n (0,0,[],[-1,-1,-1,-1,-1,-1,-1,-1]) ⟨by simp,rfl,rfl,by simp,by decide,by simp,by simp,fun d h3 h4=>by simp only at h4; omega⟩ (by simp only; omega)
  · obtain ⟨p,e,z,h3,h4,h5⟩:=hh
    refine ⟨p,z,?_,h3,h4,h5⟩
    unfold aZ_p
    rw [labels_in n l h1 h2 h hn,obind,if_pos rfl,e,obind]
  · rintro ⟨z,i,xs,m⟩ J ⟨a1,a2,a3,a4,a5,a6,a7,a8⟩ hJ
    simp only at a1 a2 a3 a4 a5 a6 a7 a8 hJ
    unfold aZ_l1
    simp only
    split
    · rename_i hi
      have hx:=h l[i] (List.getElem_mem _)
      have hm:l[i].toNat < m.length:=by omega
      rw [List.getElem?_eq_getElem hi,obind,idx_ok hx.1 hm,obind]
      unfold jn
      simp only
      have hv:=a6 m[l[i].toNat] (List.getElem_mem _)
      by_cases hneg:m[l[i].toNat] < 0
      · have hv1:m[l[i].toNat] = -1:=by omega
        have hc:0 < m.count (-1):=by rw [<- hv1]; exact List.count_pos_iff.2 (List.getElem_mem _)
        rw [if_pos hneg,put_ok _ hm,obind,chkI (by omega) (by omega),obind,idx_ok hx.1 (by simpa using hm),obind,List.getElem_set_self,appS _ _ (by simp only [List.length_cons,List.length_nil]; omega),obind]
        refine hJ _ ⟨by simp only; omega,by simp only [List.length_append,List.length_cons,List.length_nil]; omega,by simpa using a3,by simp only; omega,?_,?_,?_,?_⟩ (by simp only; omega)
        · simp only
          rw [List.count_set hm,hv1]
          have:((z == (-1:Int)) = false):=by rw [beq_eq_false_iff_ne]; omega
          simp only [this]
          simp only [beq_self_eq_true,if_true]
          simp
          omega
        · intro v hv2
          rcases List.mem_or_eq_of_mem_set hv2 with hv2 | rfl
          · rcases a6 v hv2 with h5 | h5
            · exact .inl h5
            · exact .inr ⟨h5.1,by simp only; omega⟩
          · exact .inr ⟨a4,by simp only; omega⟩
        · intro x hx2
          simp only at hx2 ⊢
          rcases List.mem_append.1 hx2 with hx2 | hx2
          · have:=a7 x hx2; omega
          · rw [List.mem_singleton.1 hx2]; omega
        · intro d d0 d1
          simp only at d1 ⊢
          by_cases hd:d = z
          · subst hd; exact List.mem_append_right _ (List.mem_singleton.2 rfl)
          · exact List.mem_append_left _ (a8 d d0 (by omega))
      · rw [if_neg hneg,idx_ok hx.1 hm,obind,appS _ _ (by simp only [List.length_cons,List.length_nil]; omega),obind]
        refine hJ _ ⟨by simp only; omega,by simp only [List.length_append,List.length_cons,List.length_nil]; omega,a3,a4,a5,a6,?_,?_⟩ (by simp only; omega)
        · intro x hx2
          simp only at hx2 ⊢
          rcases List.mem_append.1 hx2 with hx2 | hx2
          · exact a7 x hx2
          · rw [List.mem_singleton.1 hx2]; omega
        · intro d d0 d1
          exact List.mem_append_left _ (a8 d d0 d1)
    · exact ⟨_,rfl,z,by omega,⟨a7,a8⟩,by omega⟩
theorem loose_ok (n:Nat) (d:Tj) (hn:20 < n):∃ p k,ai_p n d = some (p,k)/\1 <= p.length/\p.length <= 9/\PlanOk p k/\1 <= k/\k <= 8:=by
  obtain ⟨l,e1,l1,l2,l3⟩:=labels_ok n d hn
  obtain ⟨p,z,e2,p1,p2,p3⟩:=canon_ok n l l1 l2 l3 hn
  have hh:=loop_ok (B:=ai_l1 n (p,0)) (fun s:Int × Nat=>p.length - s.2) (fun s=>s.2 <= p.length/\0 <= s.1/\s.1 <= 8/\(∀ j (h:j < p.length),j < s.2 -> p[j] + 1 <= s.1)/\(s.1 = 0/\s.2 = 0 ∨ s.1 - 1 ∈ p))
    (fun k=>1 <= k/\k <= 8/\(∀ x ∈ p,x < k)/\k - 1 ∈ p) ?_ n (0,0) ⟨by simp,by simp,by simp,fun j _ h=>by simp at h,.inl ⟨rfl,rfl⟩⟩ (by simp only; omega)
  · obtain ⟨k,e3,k1,k2,k3,k4⟩:=hh
    refine ⟨p,k,?_,by omega,by omega,⟨fun x hx=>⟨(p2.1 x hx).1,k3 x hx⟩,fun d d0 d1=>p2.2 d d0 (by have:=(p2.1 _ k4).2; omega)⟩,k1,k2⟩
    unfold ai_p
    rw [e1,obind,e2,obind,e3,obind]
  · rintro ⟨z', i⟩ J ⟨a1,a2,a3,a4,a5⟩ hJ
    simp only at a1 a2 a3 a4 a5 hJ
    unfold ai_l1
    simp only
    split
    · rename_i hi
      have hx:=p2.1 p[i] (List.getElem_mem _)
      rw [List.getElem?_eq_getElem hi,obind,chkI (by omega) (by omega),obind]
      refine hJ _ ⟨hi,by simp only; omega,by simp only; omega,fun j hj h4=>?_,?_⟩ (by simp only; omega)
      · simp only at h4 ⊢
        by_cases hj2:j = i
        · subst hj2; omega
        · have:=a4 j hj (by omega); omega
      · right
        simp only
        by_cases hm:z' <= p[i] + 1
        · rw [Int.max_eq_right hm,show p[i] + 1 - 1 = p[i] by omega]; exact List.getElem_mem _
        · rw [Int.max_eq_left (by omega)]
          rcases a5 with ⟨h5,h6⟩ | h5
          · omega
          · exact h5
    · rename_i hi
      rcases a5 with ⟨h5,h6⟩ | h5
      · omega
      · refine ⟨_,rfl,by have:=(p2.1 _ h5).1; omega,a3,fun x hx=>?_,h5⟩
        obtain ⟨j,hj,rfl⟩:=List.getElem_of_mem hx
        have:=a4 j hj (by omega); omega
end Go.Proofs.YtgejkdheojkfiaaGreatDoor
/- Plain laws: the drafted roll, and that it is valid. No program in sight but the printed functions. -/
namespace Go.Proofs.YtgejkdheojkfiaaGreatDoor
open Go
def FU:Nat:=18446744073709552000
def nm (i:Nat):ByteArray:=⟨#[117,UInt8.ofNat (97 + i),97]⟩
theorem mget_mset {κ ν:Type} [DecidableEq κ]:∀ (D:List (κ × ν)) (k x:κ) (v:ν),mget (mset D k v) x = if x = k then some v else mget D x
  | [],k,x,v=>by simp [mset,mget]
  | e :: D,k,x,v=>by
    unfold mset
    split
    · rename_i h; subst h; simp only [mget]; split <;> rfl
    · rename_i h
      simp only [mget]
      rw [mget_mset D k x v]
      by_cases h1:x = k
      · subst h1; simp [h]
      · simp [h1]
theorem every_ok (n:Nat) (l:List Bool) (h:∀ b ∈ l,b = true) (hn:l.length < n):bm_p n l = some true:=by
  have hh:=loop_ok (B:=aA_l1 n l false) (fun i:Nat=>l.length - i) (fun i=>i <= l.length) (fun r=>r = .inr ()) ?_ n 0 (Nat.zero_le _) (by omega)
  · obtain ⟨r,e,rfl⟩:=hh
    unfold bm_p bs_p aA_p
    rw [e]
    rfl
  · intro i J hi hJ
    unfold aA_l1
    simp only
    split
    · rename_i h0
      rw [List.getElem?_eq_getElem h0,obind,h l[i] (List.getElem_mem _),if_neg (by decide)]
      exact hJ (i + 1) h0 (by omega)
    · exact ⟨_,rfl,rfl⟩
theorem num_ok (n:Nat) (d:Ti) (i:Int) (h:0 <= i):∃ y,aQ_p n d i = some y/\0 <= y/\y <= 255:=by
  unfold aQ_p
  split
  · exact ⟨_,rfl,by omega,by omega⟩
  · rename_i h0
    have h1:=Int.emod_nonneg i (b:=(d.fNums.length:Int)) (by omega)
    have h2:=Int.emod_lt_of_pos i (b:=(d.fNums.length:Int)) (by omega)
    rw [remI_ok (by omega),obind,Int.tmod_eq_emod_of_nonneg h,idx_ok h1 (by omega),obind]
    have:=(d.fNums[(i % (d.fNums.length:Int)).toNat]'(by omega)).toNat_lt
    exact ⟨_,rfl,by omega,by omega⟩
theorem dlist_ok (n:Nat) (d:Ti) (c at_ most:Int) (h0:0 <= c) (h1:c <= 100) (h2:0 <= at_) (h3:at_ <= 1000) (h4:0 <= most) (hn:200 < n):∃ l,av_p n d c at_ most = some l/\(l.length:Int) = c/\∀ x ∈ l,0 <= x/\x <= most/\x <= 255:=by
  have hh:=loop_ok (B:=av_l1 n c at_ d most) (fun s:Int × List Int=>101 - s.1.toNat) (fun s=>0 <= s.1/\s.1 <= c/\(s.2.length:Int) = s.1/\∀ x ∈ s.2,0 <= x/\x <= most/\x <= 255)
    (fun l=>(l.length:Int) = c/\∀ x ∈ l,0 <= x/\x <= most/\x <= 255) ?_ n (0,[]) ⟨by simp,h0,by simp,by simp⟩ (by simp only; omega)
  · obtain ⟨l,e,h⟩:=hh
    refine ⟨l,?_,h⟩
    unfold av_p
    rw [e,obind]
  · rintro ⟨z,xs⟩ J ⟨a1,a2,a3,a4⟩ hJ
    simp only at a1 a2 a3 a4 hJ
    unfold av_l1
    simp only
    split
    · obtain ⟨y,e,y0,y1⟩:=num_ok n d (at_ + z) (by omega)
      rw [chkI (by omega) (by omega),obind,e,obind,appS _ _ (by simp only [List.length_cons,List.length_nil]; omega),obind,chkI (by omega) (by omega),obind]
      refine hJ _ ⟨by simp only; omega,by simp only; omega,by simp only [List.length_append,List.length_cons,List.length_nil]; omega,fun x hx=>?_⟩ (by simp only; omega)
      rcases List.mem_append.1 hx with hx | hx
      · exact a4 x hx
      · rw [List.mem_singleton.1 hx]; omega
    · exact ⟨_,rfl,by omega,a4⟩
def UnitOk (G P L:Int) (u:Tb):Prop:=u.fu = false/\(0 <= u.fv/\u.fv <= 255)/\((u.fe.length:Int) = G/\∀ x ∈ u.fe,0 <= x/\x <= u.fv)/\((u.fC.length:Int) = P/\∀ x ∈ u.fC,0 <= x/\x <= 255)/\((u.fB.length:Int) = L/\∀ x ∈ u.fB,0 <= x/\x <= 63)
def sea (G P L:Int):Tb:=⟨⟨#[115,101,97]⟩,0,List.replicate G.toNat 0,List.replicate P.toNat 0,List.replicate L.toNat 0,true⟩
structure RollOk (r:Tc) (us:List Tb):Prop where
  g:0 <= r.fe/\r.fe <= 2
  p:0 <= r.fh/\r.fh <= 3
  l:0 <= r.fj/\r.fj <= 2
  len:1 <= us.length/\us.length <= 9
  land:∀ i (h:i < us.length),us[i].fw = nm i/\UnitOk r.fe r.fh r.fj us[i]
  all:r.fo = us ∨ r.fo = us ++ [sea r.fe r.fh r.fj]
end Go.Proofs.YtgejkdheojkfiaaGreatDoor
/- Plain laws: a drafted roll is valid; its people. No program in sight but the printed functions. -/
namespace Go.Proofs.YtgejkdheojkfiaaGreatDoor
open Go
theorem FU_lt:(1000000:Nat) < FU:=by decide
def tot (us:List Tb):Int:=(us.map (·.fv)).sum
end Go.Proofs.YtgejkdheojkfiaaGreatDoor
