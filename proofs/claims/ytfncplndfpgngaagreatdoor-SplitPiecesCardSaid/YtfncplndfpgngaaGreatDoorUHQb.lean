/- Plain laws: what the functions of layer 23 return. No program in sight but the printed functions. -/
import Derived.Test.YtfncplndfpgngaaGreatDoorUHQa
namespace Go.Proofs.YtfncplndfpgngaaGreatDoor
open Go
set_option maxRecDepth 8000
theorem pop_all:(List.range 256).all (fun n=>decide (stab1[n]? = some (UInt8.ofNat ((List.range 8).filter fun i=>n.testBit i).length))) = true:=by kernel_rfl
theorem ones_ok (x:UInt8):math_bits_OnesCount8_p FU x = some ((((List.range 8).filter fun i=>x.toNat.testBit i).length:Nat):Int):=by
  have h:=of_decide_eq_true (List.all_eq_true.1 pop_all x.toNat (List.mem_range.2 x.toNat_lt))
  unfold math_bits_OnesCount8_p
  rw [h,obind]
  have hl:((List.range 8).filter fun i=>x.toNat.testBit i).length ≤ 8:=Nat.le_trans (List.length_filter_le ..) (by decide)
  rw [UInt8.toNat_ofNat', Nat.mod_eq_of_lt (by omega)]
theorem shl_bit {d i:Nat} (hd:d < 8):(shl8 1 d).toNat.testBit i = decide (d = i):=by
  unfold shl8
  rw [if_pos hd,UInt8.toNat_ofNat', show (1:UInt8).toNat = 1 from rfl,Nat.one_mul,Nat.mod_eq_of_lt (Nat.pow_lt_pow_right (by decide) hd),Nat.testBit_two_pow]
theorem or_bits (i:Nat):∀ (l:List T3) (a:UInt8),(∀ t ∈ l,0 ≤ t.2.2∧t.2.2 < 8) → (l.foldl (fun a t=>a ||| shl8 1 t.2.2.toNat) a).toNat.testBit i = (a.toNat.testBit i || l.any fun t=>decide (t.2.2 = (i:Int)))
  | [],a,_=>by simp
  | t :: l,a,h=>by
    have ht:=h t (List.mem_cons_self ..)
    rw [List.foldl_cons,or_bits i l _ fun x hx=>h x (List.mem_cons_of_mem _ hx),UInt8.toNat_or,Nat.testBit_or,shl_bit (by omega),List.any_cons,Bool.or_assoc]
    congr 2
    exact decide_eq_decide.2 (by omega)
def dsd (D:List T3) (k:Int):List Nat:=(List.range 8).filter fun i=>D.any fun t=>decide (t.1 = k) && decide (t.2.2 = (i:Int))
def pcs (D:List T3) (k:Int):Nat:=(dsd D k).length
theorem pieces_ok {D:List T3} (h:∀ t ∈ D,0 ≤ t.2.2∧t.2.2 < 8) (k:Int):split_parent_pieces_p FU (par D k) = some (pcs D k:Int):=by
  unfold split_parent_pieces_p
  rw [ones_ok,obind]
  unfold pcs dsd
  congr 4
  funext i
  unfold par dst
  simp only
  rw [or_bits i _ _ fun t ht=>h t (List.mem_filter.1 ht).1,List.any_filter]
  simp
theorem told_ok {α β:Type} (l:List α) (c:α → Bool) (g:α → β) (B:(Nat × List β → Option (List β)) → Nat × List β → Option (List β)) (hl:l.length ≤ 1000)
    (h1:∀ J i xs (hi:i < l.length),xs.length ≤ i → B J (i,xs) = if c l[i] = true then J (i + 1,xs ++ [g l[i]]) else J (i + 1,xs)) (h2:∀ J i xs,¬ i < l.length → B J (i,xs) = some xs):loopF B FU (0,[]) = some ((l.filter c).map g):=by
  have hF:=FU_lt
  have hh:=loop_ok (B:=B) (fun s:Nat × List β=>l.length - s.1) (fun s=>s.1 ≤ l.length∧s.2 = ((l.take s.1).filter c).map g) (fun y=>y = (l.filter c).map g) ?_ FU (0,[]) ⟨Nat.zero_le _,rfl⟩ (by simp only; omega)
  · obtain ⟨y,e,rfl⟩:=hh; exact e
  · rintro ⟨i,xs⟩ J ⟨a1,a2⟩ hJ
    simp only at a1 a2 hJ
    subst a2
    by_cases hi:i < l.length
    · have hlen:(((l.take i).filter c).map g).length ≤ i:=by
        rw [List.length_map]; exact Nat.le_trans (List.length_filter_le ..) (by rw [List.length_take]; omega)
      rw [h1 J i _ hi hlen]
      by_cases hc:c l[i] = true
      · rw [if_pos hc]
        refine hJ _ ⟨hi,?_⟩ (by simp only; omega)
        simp only
        rw [List.take_succ_eq_append_getElem hi,List.filter_append,List.filter_cons_of_pos hc,List.map_append]; rfl
      · rw [if_neg hc]
        refine hJ _ ⟨hi,?_⟩ (by simp only; omega)
        simp only
        rw [List.take_succ_eq_append_getElem hi,List.filter_append,List.filter_cons_of_neg hc,List.filter_nil,List.append_nil]
    · rw [h2 J i _ hi,List.take_of_length_le (by omega)]
      exact ⟨_,rfl,rfl⟩
theorem sum_int (l:List Int) (B:Int) (h0:0 ≤ B) (hB:B ≤ 1000000000000) (h:∀ x ∈ l,0 ≤ x∧x ≤ B) (hl:l.length ≤ 1000):split_sum_p FU l = some l.sum:=by
  have hF:=FU_lt
  have bound:∀ i,0 ≤ (l.take i).sum∧(l.take i).sum ≤ B * i:=fun i=>by
    induction i with
    | zero=>simp
    | succ i ih=>
      by_cases hi:i < l.length
      · rw [List.take_succ_eq_append_getElem hi,List.sum_append,List.sum_singleton,Int.natCast_add,Int.mul_add]
        have:=h l[i] (List.getElem_mem _)
        omega
      · rw [List.take_of_length_le (by omega)] at ih ⊢
        rw [Int.natCast_add,Int.mul_add]
        omega
  have hh:=loop_ok (B:=split_sum_l1 FU l) (fun s:Int × Nat=>l.length - s.2) (fun s=>s.2 ≤ l.length∧s.1 = (l.take s.2).sum) (fun z=>z = l.sum) ?_ FU (0,0) ⟨Nat.zero_le _,by simp⟩ (by simp only; omega)
  · obtain ⟨z,e,rfl⟩:=hh
    unfold split_sum_p
    rw [e,obind]
  · rintro ⟨z,i⟩ J ⟨h1,h2⟩ hJ
    simp only at h1 h2 hJ
    subst h2
    unfold split_sum_l1
    simp only
    split
    · rename_i hi
      have hb:=bound i
      have hx:=h l[i] (List.getElem_mem _)
      have:B * (i:Int) ≤ 1000000000000 * 1000:=Int.mul_le_mul hB (by omega) (by omega) (by omega)
      rw [List.getElem?_eq_getElem hi,obind,chkI (by omega) (by omega),obind]
      refine hJ _ ⟨by simp only; omega,?_⟩ (by simp only; omega)
      simp only
      rw [List.take_succ_eq_append_getElem hi,List.sum_append]; simp
    · exact ⟨_,rfl,by rw [List.take_of_length_le (by omega)]⟩
theorem keys_dat {us:List TUnit} {at_:Nat} {p:List Int} (hp:PL us p):keys (dat us at_ p) = us.map fun u=>(u.fw[at_]?).getD 0:=by
  unfold keys dat
  rw [List.map_zipWith]
  have:=pl0_len hp
  generalize pl0 us p = q at *
  clear hp
  induction us generalizing q with
  | nil=>simp
  | cons u us ih=>
    cases q with
    | nil=>simp at this
    | cons d q=>
      simp only [List.zipWith_cons_cons,List.map_cons]
      rw [ih q (by simpa using this)]
theorem ks_len (D:List T3):(ks D).length ≤ 64:=by
  unfold ks; exact Nat.le_trans (List.length_filter_le ..) (by simp)
theorem filt_true {α:Type} (l:List α):(l.filter fun _=>true) = l:=List.filter_eq_self.2 fun _ _=>rfl
section
variable {r:TRoll} {us:List TUnit} {at_:Nat} (h:LR r us at_)
include h
theorem seen_ok:split_seen_p FU r at_ = some (⟨r,at_⟩,0):=by
  have:=h.lv
  unfold split_seen_p
  rw [h.c,obind,if_pos rfl,if_neg (by omega),if_neg (by omega)]
variable {p:List Int} {k:Int} (hp:PL us p) (hc:balance_Check_p FU r p k = some 0)
include hp hc
theorem planned_ok:split_planned_p FU r p k at_ = some ((ks (dat us at_ p)).map (par (dat us at_ p)),0):=by
  unfold split_planned_p
  rw [hc,obind,if_pos rfl,seen_ok h,obind,if_pos rfl,vparents_ok h hp,obind]
theorem pieces_res:split_Pieces_p FU r p k at_ = some ((ks (dat us at_ p)).map (fun k=>(pcs (dat us at_ p) k:Int)),0):=by
  have hd:=fun t ht=>(dat_mem h hp t ht).2.2
  unfold split_Pieces_p
  rw [planned_ok h hp hc,obind,if_pos rfl]
  have hl:=ks_len (dat us at_ p)
  generalize dat us at_ p = D at *
  generalize ks D = K at *
  refine (congrArg (fun o=>Option.bind o _) (told_ok (K.map (par D)) (fun _=>true) (fun x=>((((List.range 8).filter fun i=>x.fq.toNat.testBit i).length:Nat):Int)) _ (by rw [List.length_map]; omega) ?_ ?_)).trans ?_
  · intro J i xs hi hx
    unfold split_Pieces_l1
    simp only
    rw [List.length_map] at hi
    rw [if_pos (by rw [List.length_map]; exact hi),List.getElem?_eq_getElem (by rw [List.length_map]; exact hi),obind]
    unfold split_every_p split_parent_pieces_p
    rw [obind,if_pos rfl,ones_ok,obind,obind,appS _ _ (by simp only [List.length_cons,List.length_nil]; omega),obind,if_pos trivial]
  · intro J i xs hi
    unfold split_Pieces_l1
    simp only
    rw [if_neg hi]
  · rw [obind,filt_true,List.map_map]
    refine congrArg some (congrArg (·,0) (List.map_congr_left fun x _=>?_))
    have:=pieces_ok hd x
    unfold split_parent_pieces_p at this
    rw [ones_ok,obind] at this
    exact Option.some.inj this
theorem splits_res:split_Splits_p FU r p k at_ = some (⟨(((ks (dat us at_ p)).filter fun k=>decide (1 < pcs (dat us at_ p) k)).length:Nat),((ks (dat us at_ p)).map fun k=>(pcs (dat us at_ p) k:Int)).sum⟩,0):=by
  have hd:=fun t ht=>(dat_mem h hp t ht).2.2
  unfold split_Splits_p
  rw [planned_ok h hp hc,obind,if_pos rfl]
  have hl:=ks_len (dat us at_ p)
  generalize dat us at_ p = D at *
  generalize ks D = K at *
  have key:∀ x,split_parent_pieces_p FU (par D x) = some (pcs D x:Int):=pieces_ok hd
  have hpc:∀ x:Tparent,split_parent_pieces_p FU x = some ((((List.range 8).filter fun i=>x.fq.toNat.testBit i).length:Nat):Int):=fun x=>by
    unfold split_parent_pieces_p
    rw [ones_ok,obind]
  have same:∀ x,((((List.range 8).filter fun i=>(par D x).fq.toNat.testBit i).length:Nat):Int) = (pcs D x:Int):=fun x=>Option.some.inj ((hpc (par D x)).symm.trans (key x))
  refine (congrArg (fun o=>Option.bind o _) (told_ok (K.map (par D)) (fun x=>decide (1 < ((((List.range 8).filter fun i=>x.fq.toNat.testBit i).length:Nat):Int))) (·.fA) _ (by rw [List.length_map]; omega) ?_ ?_)).trans ?_
  · intro J i xs hi hx
    unfold split_Splits_l2
    simp only
    rw [List.length_map] at hi
    rw [if_pos (by rw [List.length_map]; exact hi),List.getElem?_eq_getElem (by rw [List.length_map]; exact hi),obind]
    unfold split_Splits_1_p split_name_p
    rw [hpc,obind,obind,obind,appS _ _ (by simp only [List.length_cons,List.length_nil]; omega),obind]
  · intro J i xs hi
    unfold split_Splits_l2
    simp only
    rw [if_neg hi]
  · rw [obind]
    refine (congrArg (fun o=>Option.bind o _) (told_ok (K.map (par D)) (fun _=>true) (fun x=>((((List.range 8).filter fun i=>x.fq.toNat.testBit i).length:Nat):Int)) _ (by rw [List.length_map]; omega) ?_ ?_)).trans ?_
    · intro J i xs hi hx
      unfold split_Splits_l1
      simp only
      rw [List.length_map] at hi
      rw [if_pos (by rw [List.length_map]; exact hi),List.getElem?_eq_getElem (by rw [List.length_map]; exact hi),obind]
      unfold split_every_p
      rw [obind,if_pos rfl,hpc,obind,appS _ _ (by simp only [List.length_cons,List.length_nil]; omega),obind,if_pos trivial]
    · intro J i xs hi
      unfold split_Splits_l1
      simp only
      rw [if_neg hi]
    · rw [obind,filt_true,List.map_map,sum_int _ 8 (by decide) (by decide) ?_ (by rw [List.length_map]; omega),obind]
      · rw [List.filter_map,List.length_map,List.length_map]
        congr 3
        · congr 2
          refine List.filter_congr fun x _=>?_
          show decide (1 < ((((List.range 8).filter fun i=>(par D x).fq.toNat.testBit i).length:Nat):Int)) = _
          rw [same]
          exact decide_eq_decide.2 (by omega)
        · exact congrArg List.sum (List.map_congr_left fun x _=>same x)
      · intro x hx
        obtain ⟨y,_,rfl⟩:=List.mem_map.1 hx
        have:((List.range 8).filter fun i=>(par D y).fq.toNat.testBit i).length ≤ 8:=Nat.le_trans (List.length_filter_le ..) (by decide)
        simp only [Function.comp]
        omega
theorem keeps_res (x:Int):split_Keeps_p FU r p k at_ x = some (if x ∈ ks (dat us at_ p) then (decide (pcs (dat us at_ p) x = 1),0) else (false,4)):=by
  have hF:=FU_lt
  have hd:=fun t ht=>(dat_mem h hp t ht).2.2
  unfold split_Keeps_p
  rw [planned_ok h hp hc,obind,if_pos rfl]
  have hl:=ks_len (dat us at_ p)
  generalize dat us at_ p = D at *
  generalize ks D = K at *
  have hh:=loop_ok (B:=split_Keeps_l1 FU (K.map (par D),0) x) (fun i:Nat=>K.length - i) (fun i=>i ≤ K.length∧x ∉ K.take i)
    (fun y=>if x ∈ K then y = .inl (decide (pcs D x = 1),0) else y = .inr ()) ?_ FU 0 ⟨Nat.zero_le _,by simp⟩ (by omega)
  · obtain ⟨y,e,hy⟩:=hh
    rw [e]
    split at hy
    · rename_i hx; rw [hy,if_pos hx]; rfl
    · rename_i hx; rw [hy,if_neg hx]; rfl
  · rintro i J ⟨a1,a2⟩ hJ
    unfold split_Keeps_l1
    simp only
    by_cases hi:i < K.length
    · rw [if_pos (by rw [List.length_map]; exact hi),List.getElem?_eq_getElem (by rw [List.length_map]; exact hi),obind,List.getElem_map,show (par D K[i]).fA = K[i] from rfl]
      by_cases he:K[i] = x
      · rw [if_pos he,pieces_ok hd,obind]
        refine ⟨_,rfl,?_⟩
        rw [if_pos (he ▸ List.getElem_mem _),he]
        congr 2
        exact decide_eq_decide.2 (by omega)
      · rw [if_neg he]
        refine hJ _ ⟨hi,?_⟩ (by omega)
        rw [List.take_succ_eq_append_getElem hi,List.mem_append,List.mem_singleton]
        exact fun e=>e.elim a2 fun e=>he e.symm
    · rw [if_neg (by rw [List.length_map]; exact hi)]
      rw [List.take_of_length_le (by omega)] at a2
      exact ⟨_,rfl,by rw [if_neg a2]⟩
end
end Go.Proofs.YtfncplndfpgngaaGreatDoor
