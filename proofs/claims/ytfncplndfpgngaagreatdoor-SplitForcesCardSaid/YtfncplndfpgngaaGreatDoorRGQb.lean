/- Plain laws: what the functions of layer 23 return. No program in sight but the printed functions. -/
import Derived.Test.YtfncplndfpgngaaGreatDoorRGQa
namespace Go.Proofs.YtfncplndfpgngaaGreatDoor
open Go
set_option maxRecDepth 8000
theorem pop_all:(List.range 256).all (fun n=>decide (stab1[n]? = some (UInt8.ofNat ((List.range 8).filter fun i=>n.testBit i).length))) = true:=by kernel_rfl
theorem ones_ok (x:UInt8):math_bits_OnesCount8_p FU x = some ((((List.range 8).filter fun i=>x.toNat.testBit i).length:Nat):Int):=by
  have h:=of_decide_eq_true (List.all_eq_true.1 pop_all x.toNat (List.mem_range.2 x.toNat_lt))
  unfold math_bits_OnesCount8_p
  rw [h,obind]
  have hl:((List.range 8).filter fun i=>x.toNat.testBit i).length ≤ 8:=Nat.le_trans (List.length_filter_le ..) (by decide)
  rw [UInt8.toNat_ofNat', Nat.mod_eq_of_lt (by omega)]
theorem shl_bit {d i:Nat} (hd:d < 8):(shl8 1 d).toNat.testBit i = decide (d = i):=by
  unfold shl8
  rw [if_pos hd,UInt8.toNat_ofNat', show (1:UInt8).toNat = 1 from rfl,Nat.one_mul,Nat.mod_eq_of_lt (Nat.pow_lt_pow_right (by decide) hd),Nat.testBit_two_pow]
theorem or_bits (i:Nat):∀ (l:List T3) (a:UInt8),(∀ t ∈ l,0 ≤ t.2.2∧t.2.2 < 8) → (l.foldl (fun a t=>a ||| shl8 1 t.2.2.toNat) a).toNat.testBit i = (a.toNat.testBit i || l.any fun t=>decide (t.2.2 = (i:Int)))
  | [],a,_=>by simp
  | t :: l,a,h=>by
    have ht:=h t (List.mem_cons_self ..)
    rw [List.foldl_cons,or_bits i l _ fun x hx=>h x (List.mem_cons_of_mem _ hx),UInt8.toNat_or,Nat.testBit_or,shl_bit (by omega),List.any_cons,Bool.or_assoc]
    congr 2
    exact decide_eq_decide.2 (by omega)
def dsd (D:List T3) (k:Int):List Nat:=(List.range 8).filter fun i=>D.any fun t=>decide (t.1 = k) && decide (t.2.2 = (i:Int))
def pcs (D:List T3) (k:Int):Nat:=(dsd D k).length
theorem pieces_ok {D:List T3} (h:∀ t ∈ D,0 ≤ t.2.2∧t.2.2 < 8) (k:Int):split_parent_pieces_p FU (par D k) = some (pcs D k:Int):=by
  unfold split_parent_pieces_p
  rw [ones_ok,obind]
  unfold pcs dsd
  congr 4
  funext i
  unfold par dst
  simp only
  rw [or_bits i _ _ fun t ht=>h t (List.mem_filter.1 ht).1,List.any_filter]
  simp
theorem told_ok {α β:Type} (l:List α) (c:α → Bool) (g:α → β) (B:(Nat × List β → Option (List β)) → Nat × List β → Option (List β)) (hl:l.length ≤ 1000)
    (h1:∀ J i xs (hi:i < l.length),xs.length ≤ i → B J (i,xs) = if c l[i] = true then J (i + 1,xs ++ [g l[i]]) else J (i + 1,xs)) (h2:∀ J i xs,¬ i < l.length → B J (i,xs) = some xs):loopF B FU (0,[]) = some ((l.filter c).map g):=by
  have hF:=FU_lt
  have hh:=loop_ok (B:=B) (fun s:Nat × List β=>l.length - s.1) (fun s=>s.1 ≤ l.length∧s.2 = ((l.take s.1).filter c).map g) (fun y=>y = (l.filter c).map g) ?_ FU (0,[]) ⟨Nat.zero_le _,rfl⟩ (by simp only; omega)
  · obtain ⟨y,e,rfl⟩:=hh; exact e
  · rintro ⟨i,xs⟩ J ⟨a1,a2⟩ hJ
    simp only at a1 a2 hJ
    subst a2
    by_cases hi:i < l.length
    · have hlen:(((l.take i).filter c).map g).length ≤ i:=by
        rw [List.length_map]; exact Nat.le_trans (List.length_filter_le ..) (by rw [List.length_take]; omega)
      rw [h1 J i _ hi hlen]
      by_cases hc:c l[i] = true
      · rw [if_pos hc]
        refine hJ _ ⟨hi,?_⟩ (by simp only; omega)
        simp only
        rw [List.take_succ_eq_append_getElem hi,List.filter_append,List.filter_cons_of_pos hc,List.map_append]; rfl
      · rw [if_neg hc]
        refine hJ _ ⟨hi,?_⟩ (by simp only; omega)
        simp only
        rw [List.take_succ_eq_append_getElem hi,List.filter_append,List.filter_cons_of_neg hc,List.filter_nil,List.append_nil]
    · rw [h2 J i _ hi,List.take_of_length_le (by omega)]
      exact ⟨_,rfl,rfl⟩
theorem keys_dat {us:List TUnit} {at_:Nat} {p:List Int} (hp:PL us p):keys (dat us at_ p) = us.map fun u=>(u.fv[at_]?).getD 0:=by
  unfold keys dat
  rw [List.map_zipWith]
  have:=pl0_len hp
  generalize pl0 us p = q at *
  clear hp
  induction us generalizing q with
  | nil=>simp
  | cons u us ih=>
    cases q with
    | nil=>simp at this
    | cons d q=>
      simp only [List.zipWith_cons_cons,List.map_cons]
      rw [ih q (by simpa using this)]
theorem ks_dat {us:List TUnit} {at_:Nat} {p q:List Int} (hp:PL us p) (hq:PL us q):ks (dat us at_ p) = ks (dat us at_ q):=by
  unfold ks
  rw [keys_dat hp,keys_dat hq]
theorem ppl_dat {us:List TUnit} {at_:Nat} {p q:List Int} (hp:PL us p) (hq:PL us q) (k:Int):ppl (dat us at_ p) k = ppl (dat us at_ q) k:=by
  unfold ppl dat
  have h1:=pl0_len hp
  have h2:=pl0_len hq
  generalize pl0 us p = a at *
  generalize pl0 us q = b at *
  clear hp hq
  induction us generalizing a b with
  | nil=>simp
  | cons u us ih=>
    cases a with
    | nil=>simp at h1
    | cons x a=>
      cases b with
      | nil=>simp at h2
      | cons y b=>
        have:=ih a (by simpa using h1) b (by simpa using h2)
        simp only [List.zipWith_cons_cons]
        by_cases hk:(u.fv[at_]?).getD 0 = k
        · rw [List.filter_cons_of_pos (by simpa using hk),List.filter_cons_of_pos (by simpa using hk),List.map_cons,List.map_cons,List.sum_cons,List.sum_cons,this]
        · rw [List.filter_cons_of_neg (by simpa using hk),List.filter_cons_of_neg (by simpa using hk),this]
theorem ks_len (D:List T3):(ks D).length ≤ 64:=by
  unfold ks; exact Nat.le_trans (List.length_filter_le ..) (by simp)
theorem filt_true {α:Type} (l:List α):(l.filter fun _=>true) = l:=List.filter_eq_self.2 fun _ _=>rfl
section
variable {r:TRoll} {us:List TUnit} {at_:Nat} (h:LR r us at_)
include h
theorem seen_ok:split_seen_p FU r at_ = some (⟨r,at_⟩,0):=by
  have:=h.lv
  unfold split_seen_p
  rw [h.c,obind,if_pos rfl,if_neg (by omega),if_neg (by omega)]
theorem parents_res:split_Parents_p FU r at_ = some (ks (dat us at_ []),0):=by
  unfold split_Parents_p
  rw [seen_ok h,obind,if_pos rfl,vparents_ok h (.inl rfl),obind]
  have hl:=ks_len (dat us at_ [])
  generalize ks (dat us at_ []) = K at *
  rw [told_ok (K.map (par (dat us at_ []))) (fun _=>true) (·.fy) _ (by rw [List.length_map]; omega) ?_ ?_,obind,filt_true,List.map_map]
  · refine congrArg some (congrArg (·,0) ?_)
    exact (List.map_congr_left fun _ _=>rfl).trans (List.map_id _)
  · intro J i xs hi hx
    unfold split_Parents_l1
    simp only
    rw [List.length_map] at hi
    rw [if_pos (by rw [List.length_map]; exact hi),List.getElem?_eq_getElem (by rw [List.length_map]; exact hi),obind]
    unfold split_every_p split_name_p
    rw [obind,if_pos rfl,obind,appS _ _ (by simp only [List.length_cons,List.length_nil]; omega),obind,if_pos trivial]
  · intro J i xs hi
    unfold split_Parents_l1
    simp only
    rw [if_neg hi]
theorem forced_res (z:Int):split_Forced_p FU r at_ z = some ((ks (dat us at_ [])).filter (fun k=>decide (z < ppl (dat us at_ []) k)),0):=by
  unfold split_Forced_p
  rw [seen_ok h,obind,if_pos rfl,vparents_ok h (.inl rfl),obind]
  have hl:=ks_len (dat us at_ [])
  generalize ks (dat us at_ []) = K at *
  rw [told_ok (K.map (par (dat us at_ []))) (fun x=>decide (z < x.fx)) (·.fy) _ (by rw [List.length_map]; omega) ?_ ?_,obind,List.filter_map,List.map_map]
  · refine congrArg some (congrArg (·,0) ?_)
    exact (List.map_congr_left fun _ _=>rfl).trans (List.map_id _)
  · intro J i xs hi hx
    unfold split_Forced_l1
    simp only
    rw [List.length_map] at hi
    rw [if_pos (by rw [List.length_map]; exact hi),List.getElem?_eq_getElem (by rw [List.length_map]; exact hi),obind]
    unfold split_Forced_1_p split_name_p
    rw [obind,obind,appS _ _ (by simp only [List.length_cons,List.length_nil]; omega),obind]
  · intro J i xs hi
    unfold split_Forced_l1
    simp only
    rw [if_neg hi]
variable {p:List Int} {k:Int} (hp:PL us p) (hc:balance_Check_p FU r p k = some 0)
include hp hc
theorem planned_ok:split_planned_p FU r p k at_ = some ((ks (dat us at_ p)).map (par (dat us at_ p)),0):=by
  unfold split_planned_p
  rw [hc,obind,if_pos rfl,seen_ok h,obind,if_pos rfl,vparents_ok h hp,obind]
theorem keeps_res (x:Int):split_Keeps_p FU r p k at_ x = some (if x ∈ ks (dat us at_ p) then (decide (pcs (dat us at_ p) x = 1),0) else (false,4)):=by
  have hF:=FU_lt
  have hd:=fun t ht=>(dat_mem h hp t ht).2.2
  unfold split_Keeps_p
  rw [planned_ok h hp hc,obind,if_pos rfl]
  have hl:=ks_len (dat us at_ p)
  generalize dat us at_ p = D at *
  generalize ks D = K at *
  have hh:=loop_ok (B:=split_Keeps_l1 FU (K.map (par D),0) x) (fun i:Nat=>K.length - i) (fun i=>i ≤ K.length∧x ∉ K.take i)
    (fun y=>if x ∈ K then y = .inl (decide (pcs D x = 1),0) else y = .inr ()) ?_ FU 0 ⟨Nat.zero_le _,by simp⟩ (by omega)
  · obtain ⟨y,e,hy⟩:=hh
    rw [e]
    split at hy
    · rename_i hx; rw [hy,if_pos hx]; rfl
    · rename_i hx; rw [hy,if_neg hx]; rfl
  · rintro i J ⟨a1,a2⟩ hJ
    unfold split_Keeps_l1
    simp only
    by_cases hi:i < K.length
    · rw [if_pos (by rw [List.length_map]; exact hi),List.getElem?_eq_getElem (by rw [List.length_map]; exact hi),obind,List.getElem_map,show (par D K[i]).fy = K[i] from rfl]
      by_cases he:K[i] = x
      · rw [if_pos he,pieces_ok hd,obind]
        refine ⟨_,rfl,?_⟩
        rw [if_pos (he ▸ List.getElem_mem _),he]
        congr 2
        exact decide_eq_decide.2 (by omega)
      · rw [if_neg he]
        refine hJ _ ⟨hi,?_⟩ (by omega)
        rw [List.take_succ_eq_append_getElem hi,List.mem_append,List.mem_singleton]
        exact fun e=>e.elim a2 fun e=>he e.symm
    · rw [if_neg (by rw [List.length_map]; exact hi)]
      rw [List.take_of_length_le (by omega)] at a2
      exact ⟨_,rfl,by rw [if_neg a2]⟩
end
end Go.Proofs.YtfncplndfpgngaaGreatDoor
