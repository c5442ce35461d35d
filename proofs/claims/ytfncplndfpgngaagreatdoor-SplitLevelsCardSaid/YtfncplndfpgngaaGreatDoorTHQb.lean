/- Plain laws: what the functions of layer 23 return. No program in sight but the printed functions. -/
import Derived.Test.YtfncplndfpgngaaGreatDoorTHQa
namespace Go.Proofs.YtfncplndfpgngaaGreatDoor
open Go
set_option maxRecDepth 8000
theorem told_ok {α β:Type} (l:List α) (c:α → Bool) (g:α → β) (B:(Nat × List β → Option (List β)) → Nat × List β → Option (List β)) (hl:l.length ≤ 1000)
    (h1:∀ J i xs (hi:i < l.length),xs.length ≤ i → B J (i,xs) = if c l[i] = true then J (i + 1,xs ++ [g l[i]]) else J (i + 1,xs)) (h2:∀ J i xs,¬ i < l.length → B J (i,xs) = some xs):loopF B FU (0,[]) = some ((l.filter c).map g):=by
  have hF:=FU_lt
  have hh:=loop_ok (B:=B) (fun s:Nat × List β=>l.length - s.1) (fun s=>s.1 ≤ l.length∧s.2 = ((l.take s.1).filter c).map g) (fun y=>y = (l.filter c).map g) ?_ FU (0,[]) ⟨Nat.zero_le _,rfl⟩ (by simp only; omega)
  · obtain ⟨y,e,rfl⟩:=hh; exact e
  · rintro ⟨i,xs⟩ J ⟨a1,a2⟩ hJ
    simp only at a1 a2 hJ
    subst a2
    by_cases hi:i < l.length
    · have hlen:(((l.take i).filter c).map g).length ≤ i:=by
        rw [List.length_map]; exact Nat.le_trans (List.length_filter_le ..) (by rw [List.length_take]; omega)
      rw [h1 J i _ hi hlen]
      by_cases hc:c l[i] = true
      · rw [if_pos hc]
        refine hJ _ ⟨hi,?_⟩ (by simp only; omega)
        simp only
        rw [List.take_succ_eq_append_getElem hi,List.filter_append,List.filter_cons_of_pos hc,List.map_append]; rfl
      · rw [if_neg hc]
        refine hJ _ ⟨hi,?_⟩ (by simp only; omega)
        simp only
        rw [List.take_succ_eq_append_getElem hi,List.filter_append,List.filter_cons_of_neg hc,List.filter_nil,List.append_nil]
    · rw [h2 J i _ hi,List.take_of_length_le (by omega)]
      exact ⟨_,rfl,rfl⟩
theorem keys_dat {us:List TUnit} {at_:Nat} {p:List Int} (hp:PL us p):keys (dat us at_ p) = us.map fun u=>(u.fw[at_]?).getD 0:=by
  unfold keys dat
  rw [List.map_zipWith]
  have:=pl0_len hp
  generalize pl0 us p = q at *
  clear hp
  induction us generalizing q with
  | nil=>simp
  | cons u us ih=>
    cases q with
    | nil=>simp at this
    | cons d q=>
      simp only [List.zipWith_cons_cons,List.map_cons]
      rw [ih q (by simpa using this)]
theorem ks_len (D:List T3):(ks D).length ≤ 64:=by
  unfold ks; exact Nat.le_trans (List.length_filter_le ..) (by simp)
theorem filt_true {α:Type} (l:List α):(l.filter fun _=>true) = l:=List.filter_eq_self.2 fun _ _=>rfl
section
variable {r:TRoll} {us:List TUnit} {at_:Nat} (h:LR r us at_)
include h
theorem seen_ok:split_seen_p FU r at_ = some (⟨r,at_⟩,0):=by
  have:=h.lv
  unfold split_seen_p
  rw [h.c,obind,if_pos rfl,if_neg (by omega),if_neg (by omega)]
theorem parents_res:split_Parents_p FU r at_ = some (ks (dat us at_ []),0):=by
  unfold split_Parents_p
  rw [seen_ok h,obind,if_pos rfl,vparents_ok h (.inl rfl),obind]
  have hl:=ks_len (dat us at_ [])
  generalize ks (dat us at_ []) = K at *
  rw [told_ok (K.map (par (dat us at_ []))) (fun _=>true) (·.fA) _ (by rw [List.length_map]; omega) ?_ ?_,obind,filt_true,List.map_map]
  · refine congrArg some (congrArg (·,0) ?_)
    exact (List.map_congr_left fun _ _=>rfl).trans (List.map_id _)
  · intro J i xs hi hx
    unfold split_Parents_l1
    simp only
    rw [List.length_map] at hi
    rw [if_pos (by rw [List.length_map]; exact hi),List.getElem?_eq_getElem (by rw [List.length_map]; exact hi),obind]
    unfold split_every_p split_name_p
    rw [obind,if_pos rfl,obind,appS _ _ (by simp only [List.length_cons,List.length_nil]; omega),obind,if_pos trivial]
  · intro J i xs hi
    unfold split_Parents_l1
    simp only
    rw [if_neg hi]
theorem people_res:split_People_p FU r at_ = some ((ks (dat us at_ [])).map (ppl (dat us at_ [])),0):=by
  unfold split_People_p
  rw [seen_ok h,obind,if_pos rfl,vparents_ok h (.inl rfl),obind]
  have hl:=ks_len (dat us at_ [])
  generalize ks (dat us at_ []) = K at *
  rw [told_ok (K.map (par (dat us at_ []))) (fun _=>true) (·.fy) _ (by rw [List.length_map]; omega) ?_ ?_,obind,filt_true,List.map_map]
  · rfl
  · intro J i xs hi hx
    unfold split_People_l1
    simp only
    rw [List.length_map] at hi
    rw [if_pos (by rw [List.length_map]; exact hi),List.getElem?_eq_getElem (by rw [List.length_map]; exact hi),obind]
    unfold split_every_p split_people_p
    rw [obind,if_pos rfl,obind,appS _ _ (by simp only [List.length_cons,List.length_nil]; omega),obind,if_pos trivial]
  · intro J i xs hi
    unfold split_People_l1
    simp only
    rw [if_neg hi]
theorem forced_res (z:Int):split_Forced_p FU r at_ z = some ((ks (dat us at_ [])).filter (fun k=>decide (z < ppl (dat us at_ []) k)),0):=by
  unfold split_Forced_p
  rw [seen_ok h,obind,if_pos rfl,vparents_ok h (.inl rfl),obind]
  have hl:=ks_len (dat us at_ [])
  generalize ks (dat us at_ []) = K at *
  rw [told_ok (K.map (par (dat us at_ []))) (fun x=>decide (z < x.fy)) (·.fA) _ (by rw [List.length_map]; omega) ?_ ?_,obind,List.filter_map,List.map_map]
  · refine congrArg some (congrArg (·,0) ?_)
    exact (List.map_congr_left fun _ _=>rfl).trans (List.map_id _)
  · intro J i xs hi hx
    unfold split_Forced_l1
    simp only
    rw [List.length_map] at hi
    rw [if_pos (by rw [List.length_map]; exact hi),List.getElem?_eq_getElem (by rw [List.length_map]; exact hi),obind]
    unfold split_Forced_1_p split_name_p
    rw [obind,obind,appS _ _ (by simp only [List.length_cons,List.length_nil]; omega),obind]
  · intro J i xs hi
    unfold split_Forced_l1
    simp only
    rw [if_neg hi]
variable {p:List Int} {k:Int} (hp:PL us p) (hc:balance_Check_p FU r p k = some 0)
include hp hc
end
end Go.Proofs.YtfncplndfpgngaaGreatDoor
