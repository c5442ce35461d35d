/- Plain law: MinorityTurns. No program in sight but the printed functions. -/
import Derived.Test.YtbgcdbblaadokaaGreatDoorPUTs
namespace Go.Proofs.YtbgcdbblaadokaaGreatDoor
open Go
set_option maxRecDepth 8000
def cutU (u:TUnit):TUnit:=⟨u.fG,u.fF,u.fj,u.fVotes.take 2,u.fParents,u.ft⟩
theorem cut2 {l:List Int} (h:2 ≤ l.length):cut l 0 2 = some (l.take 2):=by
  unfold cut
  rw [if_pos (by omega)]
  simp
theorem cut_loop (r:TRoll) (h:∀ u ∈ r.fu,2 ≤ u.fVotes.length) (hl:r.fu.length ≤ 100):loopF (wardmotelaw29_MinorityTurns_l1 FU r) FU (0,r.fu) = some (r.fu.map cutU):=by
  have hF:=FU_lt
  have hh:=loop_ok (B:=wardmotelaw29_MinorityTurns_l1 FU r) (fun s:Nat × List TUnit=>r.fu.length - s.1) (fun s=>s.1 ≤ r.fu.length∧s.2 = (r.fu.take s.1).map cutU ++ r.fu.drop s.1) (fun y=>y = r.fu.map cutU) ?_ FU (0,r.fu) ⟨Nat.zero_le _,by simp⟩ (by simp only; omega)
  · obtain ⟨y,e,rfl⟩:=hh; exact e
  · rintro ⟨i,xs⟩ J ⟨h1,h2⟩ hJ
    simp only at h1 h2 hJ
    subst h2
    unfold wardmotelaw29_MinorityTurns_l1
    simp only
    split
    · rename_i hi
      have ht:((r.fu.take i).map cutU).length = i:=by rw [List.length_map,List.length_take]; omega
      have hg:((r.fu.take i).map cutU ++ r.fu.drop i)[i]? = some r.fu[i]:=by
        rw [List.getElem?_append_right (by omega),ht,Nat.sub_self,List.getElem?_drop,Nat.add_zero,List.getElem?_eq_getElem hi]
      have hlen:((r.fu.take i).map cutU ++ r.fu.drop i).length = r.fu.length:=by rw [List.length_append,ht,List.length_drop]; omega
      rw [hg,obind,cut2 (h _ (List.getElem_mem _)),obind,put_ok _ (by rw [hlen]; simpa using hi),obind]
      refine hJ _ ⟨by simp only; omega,?_⟩ (by simp only; omega)
      simp only [Int.toNat_natCast]
      rw [List.set_append_right _ _ (by omega),ht,Nat.sub_self,List.drop_eq_getElem_cons hi,List.set_cons_zero,List.take_succ_eq_append_getElem hi,List.map_append,List.append_assoc]
      rfl
    · exact ⟨_,rfl,by rw [List.take_of_length_le (by omega),List.drop_of_length_le (by omega),List.append_nil]⟩
theorem unit_pt {G P L:Int} {u:TUnit} {gi pi:Nat} (h:UnitOk G P L u) (hg:(gi:Int) < G) (hp:(pi:Int) < P) (h3:P ≤ 3):UPt gi pi u:=by
  obtain ⟨_,p,g,v,_⟩:=h
  exact ⟨by omega,by omega,g.2,by omega,fun x hx=>by have:=v.2 x hx; omega⟩
theorem line_of (r:TRoll) (us:List TUnit) (h:RollOk r us) (hl:us.length ≤ 8) {gi pi:Nat} (hg:(gi:Int) < r.fj) (hp:(pi:Int) < r.fe):LineOk r us gi pi:=by
  have h3:=h.p
  have hu:∀ u ∈ us,UnitOk r.fj r.fe r.fl u:=fun u hu=>by
    obtain ⟨i,hi,rfl⟩:=List.getElem_of_mem hu
    exact (h.land i hi).2
  refine ⟨checkroll_ok r us h,hg,hp,?_,hl,fun u hm=>(hu u hm).1,fun u hm=>unit_pt (hu u hm) hg hp h3.2⟩
  rcases h.all with e | e
  · exact .inl e
  · refine .inr ⟨_,e,rfl,?_,?_⟩
    · show (List.replicate r.fe.toNat (0:Int)).length ≤ 3
      rw [List.length_replicate]; omega
    · intro x hx
      rw [(List.mem_replicate.1 (show x ∈ List.replicate r.fe.toNat (0:Int) from hx)).2]; omega
theorem full_ok (n:Nat) (d:TDraft) (m:Nat) (h1:1 ≤ m) (h2:m ≤ 9) (hn:200 < n):∃ r us,wardmoteref22_Draft_Full_p n d m = some r∧us.length = m∧RollOk r us∧r.fj = 2∧r.fe = 3∧r.fl = 2:=by
  obtain ⟨r,us,e,h,h', a,b,c⟩:=roll_all n ⟨2,3,2,d.ft,d.fNums⟩ m h1 h2 hn
  refine ⟨r,us,?_,h,h', a,b,c⟩
  unfold wardmoteref22_Draft_Full_p
  rw [e,obind]
theorem turned_roll {r:TRoll} {us:List TUnit} (h:RollOk r us) (hG:r.fj = 2) (hP:r.fe = 3) (hL:r.fl = 2):RollOk ⟨r.fj,2,r.fl,r.fu.map cutU⟩ (us.map cutU):=by
  refine ⟨h.g,by show (0:Int) ≤ 2∧(2:Int) ≤ 3; decide,h.l,by rw [List.length_map]; exact h.len,fun i hi=>?_,?_⟩
  · simp only [List.length_map] at hi
    obtain ⟨a,b,c,d,e,f⟩:=h.land i hi
    rw [List.getElem_map]
    refine ⟨a,b,c,d,⟨?_,fun x hx=>e.2 x (List.mem_of_mem_take hx)⟩,f⟩
    show (((us[i].fVotes.take 2).length:Nat):Int) = 2
    rw [List.length_take]; omega
  · rcases h.all with e | e
    · left; simp only [e]
    · right
      simp only [e,List.map_append,List.map_cons,List.map_nil]
      rw [hG,hP,hL]
      rfl
theorem pt_flip {gi:Nat} {u:TUnit} (h:u.fVotes.length = 2):ptO gi 1 u = (ptO gi 0 u).map Pt.flip:=by
  obtain ⟨nm,pp,gs,vs,ps,w⟩:=u
  simp only at h
  match vs,h with
  | [x,y],_=>
    unfold ptO
    simp only
    split
    · rfl
    · simp only [Option.map_some,Pt.flip]
      congr 2
      simp only [List.getElem?_cons_zero,List.getElem?_cons_succ,Option.getD_some,List.sum_cons,List.sum_nil]
      omega
theorem fm_congr {α β:Type} {f g:α → Option β}:∀ {l:List α},(∀ x ∈ l,f x = g x) → l.filterMap f = l.filterMap g
  | [],_=>rfl
  | x :: l,h=>by rw [List.filterMap_cons,List.filterMap_cons,h x (List.mem_cons_self ..),fm_congr fun y hy=>h y (List.mem_cons_of_mem _ hy)]
theorem pts_flip {gi:Nat} {us:List TUnit} (h:∀ u ∈ us,u.fVotes.length = 2):pts us gi 1 = (pts us gi 0).map Pt.flip:=by
  unfold pts
  rw [List.map_filterMap]
  exact fm_congr fun u hu=>pt_flip (h u hu)
theorem turns_ok (a0:UInt8) (a1:TDraft) (a2:UInt8):wardmotelaw29_MinorityTurns_p FU a0 a1 a2 = some true:=by
  have hF:=FU_lt
  have hm:(a0 % (8:UInt8)).toNat < 8:=by rw [UInt8.toNat_mod]; exact Nat.mod_lt _ (by decide)
  have hg:(a2 % (2:UInt8)).toNat < 2:=by rw [UInt8.toNat_mod]; exact Nat.mod_lt _ (by decide)
  obtain ⟨r,us,e,hus,hr,hG,hP,hL⟩:=full_ok FU a1 (1 + (a0 % (8:UInt8)).toNat) (by omega) (by omega) (by omega)
  have hv:∀ u ∈ r.fu,2 ≤ u.fVotes.length:=fun u hu=>by
    obtain ⟨i,hi,rfl⟩:=List.getElem_of_mem hu
    rcases hr.unit hi with ⟨h2,e3⟩ | ⟨h2,e3⟩
    · rw [e3]; have:=(hr.land i h2).2.2.2.2.1.1; omega
    · rw [e3]; show 2 ≤ (List.replicate r.fe.toNat (0:Int)).length; rw [List.length_replicate,hP]; decide
  have hs:=hr.size
  have h2:=turned_roll hr hG hP hL
  have hl2:(us.map cutU).length ≤ 8:=by rw [List.length_map]; omega
  have L0:LineOk ⟨r.fj,2,r.fl,r.fu.map cutU⟩ (us.map cutU) (a2 % (2:UInt8)).toNat 0:=line_of _ _ h2 hl2 (by simp only; omega) (by show (0:Int) < 2; decide)
  have L1:LineOk ⟨r.fj,2,r.fl,r.fu.map cutU⟩ (us.map cutU) (a2 % (2:UInt8)).toNat 1:=line_of _ _ h2 hl2 (by simp only; omega) (by show (1:Int) < 2; decide)
  have hf:pts (us.map cutU) (a2 % (2:UInt8)).toNat 1 = (pts (us.map cutU) (a2 % (2:UInt8)).toNat 0).map Pt.flip:=pts_flip fun u hu=>by
    obtain ⟨i,hi,rfl⟩:=List.getElem_of_mem hu
    have:=(h2.land i hi).2.2.2.2.1.1
    simp only at this
    omega
  have l0:=line_ok L0
  have l1:=line_ok L1
  have f0:=fitP_ok L0
  have f1:=fitP_ok L1
  have hok:=L0.ok
  have hlen:=L0.len
  rw [hf] at l1 f1
  generalize pts (us.map cutU) (a2 % (2:UInt8)).toNat 0 = ps at *
  rw [flip_dd] at l1 f1
  rw [flip_ee hok,flip_fit hok] at f1
  rw [flip_slope hok] at l1
  have o0:wardmotelaw29_of_p FU 0 1 = some (Sg 0):=lof (by decide) (by unfold Sm; decide) (by unfold Sm; decide)
  have o1:wardmotelaw29_of_p FU 1 1 = some (Sg 1):=lof (by decide) (by unfold Sm; decide) (by unfold Sm; decide)
  rw [show ((0:Nat):Int) = 0 from rfl] at l0 f0
  rw [show ((1:Nat):Int) = 1 from rfl] at l1 f1
  unfold wardmotelaw29_MinorityTurns_p jn
  rw [works29,obind,if_pos rfl,e,obind,cut_loop r hv (by omega),obind,l0,obind,l1,obind,f0,obind,f1,obind]
  by_cases h0:dd ps = 0
  · simp only [if_pos h0]
    rfl
  · rw [flip_base hok (sW_ne hok h0)]
    simp only [if_neg h0]
    have fs:=bt_fq (bS hok hlen h0)
    have fs' : FQ (-slope ps):=bt_fq (bS hok hlen h0).neg
    have fb:=bt_fq (bBase hok hlen h0)
    have fb' : FQ (1 - base ps):=bt_fq (Bt.sub (i1:=1) (j1:=1) (i:=266) (show Bt 1 1 1 from ⟨by decide,by decide⟩) (bBase hok hlen h0) (by decide) (by decide))
    have s0:slope ps + -slope ps = 0:=by grind
    have b1:base ps + (1 - base ps) = 1:=by grind
    have a1:=add_q fs fs' (by rw [s0]; exact FQ0) FU_big
    have a2:=add_q fb fb' (by rw [b1]; exact FQ1) FU_big
    rw [s0] at a1
    rw [b1] at a2
    by_cases h1:ee ps = 0
    · have hn:slope ps = 0:=by unfold slope; rw [nn_zero hok h0 h1]; grind
      simp only [if_pos h1]
      simp only [show ¬ (0:Int) = 6 by decide,show ¬ (7:Int) = 6 by decide,show ¬ (7:Int) = 0 by decide,if_false,if_true,a1,a2,o0,o1,obind,show ¬ false = true by decide]
      rw [hn]
      simp
    · simp only [if_neg h1]
      have ff:=bt_fq (bFit hok hlen h0 h1)
      obtain ⟨f1,f2⟩:=fit_le hok h0 h1
      simp only [show ¬ (0:Int) = 6 by decide,show ¬ (0:Int) = 7 by decide,if_false,if_true,a1,a2,o0,o1,obind,atMostG FQ0 ff,atMostG ff FQ1,decide_eq_true f1,decide_eq_true f2,show ¬ false = true by decide]
      have e1:decide (Sg (fit ps) = Sg 0) = decide (Sg (slope ps) = Sg 0):=decide_eq_decide.2 ⟨fun e=>by rw [(fit_zero h0 h1).1 (Sg_inj ff FQ0 e)],fun e=>by rw [(fit_zero h0 h1).2 (Sg_inj fs FQ0 e)]⟩
      rw [e1]
      simp
theorem minorityTurns_ex (a0:UInt8) (a1:TDraft) (a2:UInt8):∃ n,wardmotelaw29_MinorityTurns_p n a0 a1 a2 = some true:=⟨FU,turns_ok a0 a1 a2⟩
end Go.Proofs.YtbgcdbblaadokaaGreatDoor
