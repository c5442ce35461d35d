/- Plain laws: drafted sessions are valid. No program in sight but the printed functions. -/
import Derived.Test.YtcijnmkodpfpgaaGreatDoorZSEg
namespace Go.Proofs.YtcijnmkodpfpgaaGreatDoor
open Go
theorem jn_all {α β:Type} {K:α → Option β} {B:(α → Option β) → Option β} {P:β → Prop} (hB:∀ K,∃ a,B K = K a) (hK:∀ a,∃ y,K a = some y∧P y):∃ y,jn K B = some y∧P y:=by
  obtain ⟨a,e⟩:=hB K
  obtain ⟨y,h1,h2⟩:=hK a
  exact ⟨y,e.trans h1,h2⟩
theorem makeO_cases {us:List TUnit} {n:Nat} {s:TSession} (h:SOk us n s) (u t:Int):(∃ e,makeO us n s u t = (S0,e)∧(e = 2 ∨ e = 4 ∨ e = 3)) ∨
    ∃ q,Mv n s.fK ⟨u,s.fPlan[u.toNat]!,t⟩∧putO s.fPlan u s.fPlan[u.toNat]! t = some q∧s.fDone.length < 200∧makeO us n s u t = (⟨s.fK,q,tlO us q s.fK,s.fDone ++ [⟨u,s.fPlan[u.toNat]!,t⟩],[]⟩,0):=by
  unfold makeO
  rw [if_pos h]
  by_cases a:0 ≤ u∧u < n∧0 ≤ t∧t < s.fK∧s.fPlan[u.toNat]! ≠ t
  · rw [if_pos a]
    obtain ⟨u0,u1,t0,t1,ne⟩:=a
    have hu:u.toNat < s.fPlan.length:=by have:=h.fits.1; omega
    have hx:=h.fits.2.1 _ (List.getElem_mem hu)
    rw [← getElem!_pos s.fPlan u.toNat hu] at hx
    rcases hq:putO s.fPlan u s.fPlan[u.toNat]! t with _ | q
    · exact .inl ⟨4,rfl,.inr (.inl rfl)⟩
    · simp only
      by_cases hd:s.fDone.length < 200
      · rw [if_pos hd]; exact .inr ⟨q,⟨u0,u1,hx.1,hx.2,t0,t1,ne⟩,rfl,hd,rfl⟩
      · rw [if_neg hd]; exact .inl ⟨3,rfl,.inr (.inr rfl)⟩
  · rw [if_neg a]; exact .inl ⟨2,rfl,.inl rfl⟩
theorem undoO_cases {us:List TUnit} {n:Nat} {s:TSession} (h:SOk us n s):(∃ e,undoO us n s = (S0,e)∧(e = 4 ∨ e = 3)) ∨
    ∃ l m q,s.fDone = l ++ [m]∧s.fUndone.length < 200∧putO s.fPlan m.fUnit m.fTo m.fFrom = some q∧undoO us n s = (⟨s.fK,q,tlO us q s.fK,l,s.fUndone ++ [m]⟩,0)∧SOk us n ⟨s.fK,q,tlO us q s.fK,l,s.fUndone ++ [m]⟩∧putO q m.fUnit m.fFrom m.fTo = some s.fPlan:=by
  unfold undoO
  rw [if_pos h]
  rcases nil_or s.fDone with hd | ⟨l,m,hd⟩
  · rw [hd]; exact .inl ⟨4,rfl,.inl rfl⟩
  · by_cases hu:s.fUndone.length < 200
    · obtain ⟨q,hq,hv,hb⟩:=undo_valid h hd hu
      right
      refine ⟨l,m,q,hd,hu,hq,?_,hv,hb⟩
      rw [hd]
      simp only [List.getLast?_concat,List.dropLast_concat]
      rw [if_pos hu,hq]
    · left
      refine ⟨3,?_,.inr rfl⟩
      rw [hd]
      simp only [List.getLast?_concat]
      rw [if_neg hu]
theorem redoO_cases {us:List TUnit} {n:Nat} {s:TSession} (h:SOk us n s):(∃ e,redoO us n s = (S0,e)∧(e = 4 ∨ e = 3)) ∨
    ∃ l m q,s.fUndone = l ++ [m]∧s.fDone.length < 200∧putO s.fPlan m.fUnit m.fFrom m.fTo = some q∧redoO us n s = (⟨s.fK,q,tlO us q s.fK,s.fDone ++ [m],l⟩,0)∧SOk us n ⟨s.fK,q,tlO us q s.fK,s.fDone ++ [m],l⟩∧putO q m.fUnit m.fTo m.fFrom = some s.fPlan:=by
  unfold redoO
  rw [if_pos h]
  rcases nil_or s.fUndone with hd | ⟨l,m,hd⟩
  · rw [hd]; exact .inl ⟨4,rfl,.inl rfl⟩
  · by_cases hu:s.fDone.length < 200
    · obtain ⟨q,hq,hv,hb⟩:=redo_valid h hd hu
      right
      refine ⟨l,m,q,hd,hu,hq,?_,hv,hb⟩
      rw [hd]
      simp only [List.getLast?_concat,List.dropLast_concat]
      rw [if_pos hu,hq]
    · left
      refine ⟨3,?_,.inr rfl⟩
      rw [hd]
      simp only [List.getLast?_concat]
      rw [if_neg hu]
theorem sok_small {g:TGraph} {r:TRoll} {us:List TUnit} (c:Case g r us) {s:TSession} (h:SOk us us.length s):Small s:=by
  have:=c.roll.len
  have:=h.k
  exact ⟨by rw [h.fits.1]; omega,by rw [h.tot,tl_len]; omega,by have:=h.dl; omega,by have:=h.ul; omega⟩
theorem s0_small:Small S0:=⟨by decide,by decide,by decide,by decide⟩
theorem makeO_valid {us:List TUnit} {n:Nat} {s:TSession} (h:SOk us n s) (u t:Int) (h0:(makeO us n s u t).2 = 0):SOk us n (makeO us n s u t).1:=by
  rcases makeO_cases h u t with ⟨e,he,h1⟩ | ⟨q,hm,hq,hd,he⟩
  · rw [he] at h0; simp only at h0; omega
  · rw [he]; exact make_valid h hm hq hd
theorem undoO_small {g:TGraph} {r:TRoll} {us:List TUnit} (c:Case g r us) (s:TSession):Small (undoO us us.length s).1:=by
  by_cases h:SOk us us.length s
  · rcases undoO_cases h with ⟨e,he,h1⟩ | ⟨l,m,q,_,_,_,he,hv,_⟩
    · rw [he]; exact s0_small
    · rw [he]; exact sok_small c hv
  · unfold undoO; rw [if_neg h]; exact s0_small
theorem redoO_small {g:TGraph} {r:TRoll} {us:List TUnit} (c:Case g r us) (s:TSession):Small (redoO us us.length s).1:=by
  by_cases h:SOk us us.length s
  · rcases redoO_cases h with ⟨e,he,h1⟩ | ⟨l,m,q,_,_,_,he,hv,_⟩
    · rw [he]; exact s0_small
    · rw [he]; exact sok_small c hv
  · unfold redoO; rw [if_neg h]; exact s0_small
def cnt (s:TSession):Nat:=s.fDone.length + s.fUndone.length
theorem do_ok {g:TGraph} {r:TRoll} {us:List TUnit} (c:Case g r us) {s:TSession} (h:SOk us us.length s) (x:UInt8 × UInt8):∃ y,wardmoteref26_Do_p FU g r s x = some y∧(y.2 = 0 → SOk us us.length y.1∧cnt y.1 ≤ cnt s + 1):=by
  have hs:=sok_small c h
  unfold wardmoteref26_Do_p
  refine jn_all (fun K=>?_) (fun q=>?_)
  · try simp only
    split
    · exact ⟨_,rfl⟩
    · split
      · exact ⟨_,rfl⟩
      · exact ⟨_,rfl⟩
  · try simp only
    split
    · rw [undoR_ok c s hs,obind]
      refine ⟨_,rfl,fun h0=>?_⟩
      simp only at h0 ⊢
      rcases undoO_cases h with ⟨e,he,h1⟩ | ⟨l,m,q,hd,_,_,he,hv,_⟩
      · rw [he] at h0; simp only at h0; omega
      · rw [he]; exact ⟨hv,by unfold cnt; rw [hd]; simp only [List.length_append,List.length_cons,List.length_nil]; omega⟩
    · refine jn_all (fun K=>?_) (fun q=>?_)
      · try simp only
        split
        · exact ⟨_,rfl⟩
        · exact ⟨_,rfl⟩
      · try simp only
        split
        · rw [redoR_ok c s hs,obind]
          refine ⟨_,rfl,fun h0=>?_⟩
          simp only at h0 ⊢
          rcases redoO_cases h with ⟨e,he,h1⟩ | ⟨l,m,q,hd,_,_,he,hv,_⟩
          · rw [he] at h0; simp only at h0; omega
          · rw [he]; exact ⟨hv,by unfold cnt; rw [hd]; simp only [List.length_append,List.length_cons,List.length_nil]; omega⟩
        · rw [makeR_ok c s hs,obind]
          refine ⟨_,rfl,fun h0=>?_⟩
          simp only at h0 ⊢
          refine ⟨makeO_valid h _ _ h0,?_⟩
          rcases makeO_cases h ((x.1.toNat % 16:Nat):Int) ((x.2.toNat % 8:Nat):Int) with ⟨e,he,h1⟩ | ⟨q,_,_,_,he⟩
          · rw [he] at h0; simp only at h0; omega
          · rw [he]; unfold cnt; simp only [List.length_append,List.length_cons,List.length_nil]; omega
theorem start_ok {g:TGraph} {r:TRoll} {us:List TUnit} (c:Case g r us) {p:List Int} {k:Int} (hk:1 ≤ k∧k ≤ 8) (h:Fits us.length p k):wardmoteref26_Start_p FU g r p k = some (⟨k,p,tlO us p k,[],[]⟩,0):=by
  unfold wardmoteref26_Start_p
  rw [check25_ok c,obind,show chkP us.length p k = 0 by unfold chkP; rw [if_pos hk,if_pos h],if_pos rfl,totalsR_ok r us c.roll p k hk.1 hk.2 h,obind]
theorem start_valid {us:List TUnit} {p:List Int} {k:Int} (hk:1 ≤ k∧k ≤ 8) (h:Fits us.length p k):SOk us us.length ⟨k,p,tlO us p k,[],[]⟩:=⟨hk,h,rfl,by simp,by simp,by simp,by simp,rfl,rfl⟩
theorem session_ok {g:TGraph} {r:TRoll} {us:List TUnit} (c:Case g r us) {p:List Int} {k:Int} (hk:1 ≤ k∧k ≤ 8) (h:Fits us.length p k) (d:TDraft28):∃ s,wardmoteref26_Draft_Session_p FU d g r p k = some s∧SOk us us.length s∧cnt s ≤ 12:=by
  have hF:=FU_lt
  have hh:=loop_ok (B:=wardmoteref26_Draft_Session_l1 FU d g r) (fun s:Nat × Int × List Int × List Int × List TMove × List TMove=>12 - s.1) (fun s=>s.1 ≤ 12∧SOk us us.length ⟨s.2.1,s.2.2.1,s.2.2.2.1,s.2.2.2.2.1,s.2.2.2.2.2⟩∧s.2.2.2.2.1.length + s.2.2.2.2.2.length ≤ s.1)
    (fun y=>SOk us us.length ⟨y.1,y.2.1,y.2.2.1,y.2.2.2.1,y.2.2.2.2⟩∧y.2.2.2.1.length + y.2.2.2.2.length ≤ 12) ?_ FU (0,k,p,tlO us p k,[],[]) ⟨by simp,start_valid hk h,by simp⟩ (by simp only; omega)
  · obtain ⟨y,e,hy⟩:=hh
    refine ⟨⟨y.1,y.2.1,y.2.2.1,y.2.2.2.1,y.2.2.2.2⟩,?_,hy.1,hy.2⟩
    unfold wardmoteref26_Draft_Session_p
    rw [start_ok c hk h,obind]
    unfold jn
    simp only
    rw [e]
    rfl
  · rintro ⟨i,k,p,t,l,u⟩ J ⟨a1,a2,a3⟩ hJ
    simp only at a1 a2 a3 hJ
    unfold wardmoteref26_Draft_Session_l1
    simp only
    split
    · rename_i hi
      split
      · rename_i h12
        obtain ⟨y,e,hy⟩:=do_ok c a2 d.fL[i]
        rw [List.getElem?_eq_getElem hi,obind,e,obind]
        split
        · rename_i h0
          obtain ⟨v1,v2⟩:=hy h0
          exact hJ _ ⟨h12,v1,by unfold cnt at v2; simp only at v2 ⊢; omega⟩ (by simp only; omega)
        · exact hJ _ ⟨h12,a2,by simp only; omega⟩ (by simp only; omega)
      · exact ⟨_,rfl,a2,by simp only; omega⟩
    · exact ⟨_,rfl,a2,by simp only; omega⟩
theorem labels_len (n:Nat) (d:TDraft) (hn:20 < n):∃ l,loopF (wardmoteref21_Draft_Loose_l2 n d) n (0,[]) = some l∧l.length = 1 + (d.fN % 9).toNat∧∀ x ∈ l,0 ≤ x∧x < 8:=by
  have hu:(d.fN % 9).toNat < 9:=by rw [UInt8.toNat_mod]; exact Nat.mod_lt _ (by decide)
  have hk:(d.fK % 8).toNat < 8:=by rw [UInt8.toNat_mod]; exact Nat.mod_lt _ (by decide)
  refine loop_ok (B:=wardmoteref21_Draft_Loose_l2 n d) (fun s:Int × List Int=>10 - s.1.toNat) (fun s=>0 ≤ s.1∧s.1 ≤ (1 + (d.fN % 9).toNat:Nat)∧s.2.length = s.1.toNat∧∀ x ∈ s.2,0 ≤ x∧x < 8) _ ?_ n (0,[]) ⟨by simp,by omega,by simp,by simp⟩ (by simp only; omega)
  rintro ⟨z,xs⟩ J ⟨h1,h2,h3,h4⟩ hJ
  simp only at h1 h2 h3 h4 hJ
  unfold wardmoteref21_Draft_Loose_l2 wardmoteref21_Draft_Units_p
  simp only [obind]
  split
  · rename_i h5
    obtain ⟨y,e,y0,y1⟩:=label_ok n d z h1
    rw [e,obind,remI_ok (by omega),obind,appS _ _ (by simp only [List.length_cons,List.length_nil]; omega),obind,chkI (by omega) (by omega),obind]
    refine hJ _ ⟨by simp only; omega,by simp only; omega,by simp only [List.length_append,List.length_cons,List.length_nil]; omega,fun x hx=>?_⟩ (by simp only; omega)
    rcases List.mem_append.1 hx with hx | hx
    · exact h4 x hx
    · rw [List.mem_singleton.1 hx,Int.tmod_eq_emod_of_nonneg y0]
      have a1:=Int.emod_nonneg y (b:=((1 + (d.fK % 8).toNat:Nat):Int)) (by omega)
      have a2:=Int.emod_lt_of_pos y (b:=((1 + (d.fK % 8).toNat:Nat):Int)) (by omega)
      omega
  · exact ⟨_,rfl,by omega,h4⟩
theorem loose_len (n:Nat) (d:TDraft) (hn:20 < n) (p:List Int) (k:Int) (h:wardmoteref21_Draft_Loose_p n d = some (p,k)):p.length = 1 + (d.fN % 9).toNat:=by
  have hu:(d.fN % 9).toNat < 9:=by rw [UInt8.toNat_mod]; exact Nat.mod_lt _ (by decide)
  obtain ⟨l,e1,l1,l3⟩:=labels_len n d hn
  obtain ⟨p', z,e2,p1,_⟩:=canon_ok n l (by omega) (by omega) l3 hn
  unfold wardmoteref21_Draft_Loose_p at h
  rw [e1,obind,e2,obind] at h
  rcases hl:loopF (wardmoteref21_Draft_Loose_l1 n (p', 0)) n (0,0) with _ | z'
  · rw [hl] at h; cases h
  · rw [hl] at h
    have:=Option.some.inj h
    have h3:p' = p:=congrArg Prod.fst this
    rw [← h3]
    omega
theorem set_ok (c:TScene):∃ g r p k us,wardmotelaw26_Scene_set_p FU c = some (g,r,p,k)∧Case g r us∧(1 ≤ k∧k ≤ 8)∧Fits us.length p k:=by
  have hF:=FU_lt
  obtain ⟨p,k,e1,_,p9,hp,k1,k8⟩:=loose_ok FU c.fD (by omega)
  have hl:=loose_len FU c.fD (by omega) p k e1
  obtain ⟨g,e2,gN,hg⟩:=graph_ok c.fD
  obtain ⟨r,us,e3,u1,hr⟩:=roll_ok FU c.fX (1 + (c.fD.fN % 9).toNat) (by omega) (by omega) (by omega)
  have hul:=hr.len
  refine ⟨g,r,p,k,us,?_,⟨hr,by rw [gN,u1],graphP_ok g (by omega) (by omega) hg,graphR_ok g (by omega) (by omega) hg⟩,⟨k1,k8⟩,by omega,hp⟩
  unfold wardmotelaw26_Scene_set_p
  rw [e1,obind,e2,obind,gN,e3,obind]
end Go.Proofs.YtcijnmkodpfpgaaGreatDoor
