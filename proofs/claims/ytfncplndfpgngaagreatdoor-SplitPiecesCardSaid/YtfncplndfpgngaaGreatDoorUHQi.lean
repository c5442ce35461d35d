/- Plain laws: the reference of layer 23, and that the program agrees with it. No program in sight but the printed functions. -/
import Derived.Test.YtfncplndfpgngaaGreatDoorUHQf
import Derived.Test.YtfncplndfpgngaaGreatDoorUHQh
namespace Go.Proofs.YtfncplndfpgngaaGreatDoor
open Go
set_option maxRecDepth 8000
def ux (f:TUnit → Bool):List TUnit → Nat → List Nat
  | [],_=>[]
  | u :: us,j=>if f u = true then j :: ux f us (j + 1) else ux f us (j + 1)
theorem ux_snoc (f:TUnit → Bool) (u:TUnit):∀ (l:List TUnit) (j:Nat),ux f (l ++ [u]) j = ux f l j ++ (if f u = true then [j + l.length] else [])
  | [],j=>by simp [ux]
  | v :: l,j=>by
    rw [List.cons_append,ux,ux,ux_snoc f u l (j + 1),List.length_cons]
    have:j + 1 + l.length = j + (l.length + 1):=by omega
    rw [this]
    split <;> rfl
theorem ux_mem {f:TUnit → Bool} {i:Nat}:∀ {l:List TUnit} {j:Nat},i ∈ ux f l j ↔ ∃ k,∃ h:k < l.length,i = j + k∧f l[k] = true
  | [],j=>by simp [ux]
  | v :: l,j=>by
    rw [ux]
    have ih:=@ux_mem f i l (j + 1)
    constructor
    · intro h
      split at h
      · rename_i hv
        rcases List.mem_cons.1 h with rfl | h
        · exact ⟨0,by simp,by omega,hv⟩
        · obtain ⟨k,hk,e,hf⟩:=ih.1 h
          exact ⟨k + 1,by simpa using hk,by omega,hf⟩
      · obtain ⟨k,hk,e,hf⟩:=ih.1 h
        exact ⟨k + 1,by simpa using hk,by omega,hf⟩
    · rintro ⟨k,hk,e,hf⟩
      cases k with
      | zero=>
        rw [if_pos (by simpa using hf)]
        exact List.mem_cons.2 (.inl (by omega))
      | succ k=>
        have:=ih.2 ⟨k,by simpa using hk,by omega,by simpa using hf⟩
        split
        · exact List.mem_cons_of_mem _ this
        · exact this
theorem ux_len (f:TUnit → Bool):∀ (l:List TUnit) (j:Nat),(ux f l j).length ≤ l.length
  | [],_=>by simp [ux]
  | u :: l,j=>by rw [ux]; have:=ux_len f l (j + 1); split <;> simp only [List.length_cons] <;> omega
structure LV (r:TRoll) (us:List TUnit):Prop where
  s:∀ u ∈ r.fm,Sm4 u
  v:RV r
  l:Lnd r us
  d:∀ (a:Nat) (K:List Int),(a:Int) < r.fh → K.Nodup → (∀ x ∈ K,∃ u ∈ us,(u.fw[a]?).getD 0 = x) → K.length ≤ 12
theorem thnR {α β:Type} (x:β) (K:β → Option α):thn (some (Sum.inr x)) K = K x:=rfl
theorem balOk {r:TRoll} {us:List TUnit} (h:LV r us) {p:List Int} {k:Int} (hk:1 ≤ k) (hk8:k ≤ 8) (hf:Fits p us.length k):balance_Check_p FU r p k = some 0:=by
  have hl:=h.l.le; have hn:=h.v.n; have:=hf.1
  rw [balCheck_eq h.s p k hk hk8 (by omega) us fun _=>h.l,if_pos h.v,if_pos hf]
section
variable {r:TRoll} {us:List TUnit} (h:LV r us)
include h
theorem LV.mem {u:TUnit} (hu:u ∈ us):UV r u:=by
  obtain ⟨i,hi,rfl⟩:=List.getElem_of_mem hu
  have hle:=h.l.le
  have h1:=h.v.u i (by omega)
  rcases h.l.at (i:=i) (by omega) with ⟨_,e,_⟩ | ⟨h2,_⟩
  · rwa [e] at h1
  · omega
theorem LV.lr {a:Nat} (ha:(a:Int) < r.fh):LR r us a:=by
  have hn:=h.v.n
  have hle:=h.l.le
  have hw:=h.l.w
  refine ⟨by rw [checkroll_eq r h.s,if_pos h.v],h.l.all,hw,by omega,fun K=>h.d a K ha,by omega,ha,fun u hu=>?_,fun u hu=>?_⟩
  · have:=h.mem hu
    have h2:=this.2.1
    rw [if_neg (by rw [hw u hu]; decide)] at h2
    exact ⟨this.1,h2⟩
  · have h3:=(h.mem hu).2.2.2.2
    rw [if_neg (by rw [hw u hu]; decide)] at h3
    exact ⟨by have:=h3.1; omega,h3.2⟩
theorem landV:wardmoteref22_Land_p FU r = some (us.length:Int):=land_eq h.s h.v h.l
variable {a:Nat} (ha:(a:Int) < r.fh)
include ha
theorem levelled_ok:wardmoteref23_levelled_p FU r a = some 0:=by
  unfold wardmoteref23_levelled_p
  rw [checkrollR_eq r h.s,if_pos h.v,obind,if_pos rfl,if_neg (by omega),if_neg (by omega)]
theorem unitsR (x:Int):wardmoteref23_Units_p FU r a x = some ((ux (fun u=>decide (key a u = x)) us 0).map fun i:Nat=>(i:Int)):=by
  have hF:=FU_lt
  have hle:=h.l.le
  have hn:=h.v.n
  have hq:=(h.lr ha).q
  have hh:=loop_ok (B:=wardmoteref23_Units_l1 FU r a x) (fun s:Int × List Int=>us.length - s.1.toNat) (fun s=>0 ≤ s.1∧s.1 ≤ us.length∧s.2 = (ux (fun u=>decide (key a u = x)) (us.take s.1.toNat) 0).map fun i:Nat=>(i:Int))
    (fun y=>y = (ux (fun u=>decide (key a u = x)) us 0).map fun i:Nat=>(i:Int)) ?_ FU (0,[]) ⟨by simp,by simp,by simp [ux]⟩ (by simp only; omega)
  · obtain ⟨y,e,rfl⟩:=hh
    unfold wardmoteref23_Units_p
    rw [e,obind]
  · rintro ⟨z,xs⟩ J ⟨a0,a1,a2⟩ hJ
    simp only at a0 a1 a2 hJ
    obtain ⟨i,rfl⟩:∃ i:Nat,z = (i:Int):=⟨z.toNat,by omega⟩
    simp only [Int.toNat_natCast] at a2 hJ
    subst a2
    unfold wardmoteref23_Units_l1
    simp only
    rw [landV h,obind]
    by_cases hi:(i:Int) < us.length
    · have hiu:i < us.length:=by omega
      have e0:r.fm[i]'(by omega) = us[i]:=by
        rcases h.l.at (i:=i) (by omega) with ⟨_,e,_⟩ | ⟨h2,_⟩
        · exact e
        · omega
      have hqi:=hq us[i] (List.getElem_mem _)
      have ek:key a us[i] = us[i].fw[a]'hqi.1:=by unfold key; rw [List.getElem?_eq_getElem hqi.1]; rfl
      rw [if_pos hi,idx_ok (by omega) (by rw [Int.toNat_natCast]; omega),obind]
      simp only [Int.toNat_natCast]
      rw [e0,idx_ok (by omega) (by rw [Int.toNat_natCast]; exact hqi.1),obind]
      simp only [Int.toNat_natCast]
      have hul:((ux (fun u=>decide (key a u = x)) (us.take i) 0).map fun i:Nat=>(i:Int)).length ≤ 100:=by
        have h3:=ux_len (fun u=>decide (key a u = x)) (us.take i) 0
        rw [List.length_take] at h3
        rw [List.length_map]; omega
      have next:=hJ ((i:Int) + 1,(ux (fun u=>decide (key a u = x)) (us.take (i + 1)) 0).map fun i:Nat=>(i:Int)) ⟨by simp only; omega,by simp only; omega,by simp only; rw [show ((i:Int) + 1).toNat = i + 1 by omega]⟩ (by simp only; omega)
      rw [List.take_succ_eq_append_getElem hiu,ux_snoc,List.length_take] at next
      by_cases hx:us[i].fw[a]'hqi.1 = x
      · have hx2:key a us[i] = x:=ek.trans hx
        rw [if_pos hx,appS _ _ (by simp only [List.length_cons,List.length_nil]; omega),obind,chkI (by omega) (by omega),obind]
        rw [if_pos (decide_eq_true hx2),List.map_append,List.map_cons,List.map_nil,show 0 + min i us.length = i by omega] at next
        exact next
      · have hx2:¬ key a us[i] = x:=fun e=>hx (ek.symm.trans e)
        rw [if_neg hx,chkI (by omega) (by omega),obind]
        rw [if_neg (by simpa using hx2),List.append_nil] at next
        exact next
    · rw [if_neg hi]
      exact ⟨_,rfl,by rw [List.take_of_length_le (by omega)]⟩
omit ha h in
theorem ux_pos {x:Int} {p:List Int} (hp:PL us p):0 < (ux (fun u=>decide (key a u = x)) us 0).length ↔ x ∈ keys (dat us a p):=by
  rw [key_mem hp]
  constructor
  · intro h0
    obtain ⟨i,hi⟩:=List.exists_mem_of_length_pos h0
    obtain ⟨k,hk,_,hf⟩:=ux_mem.1 hi
    exact ⟨us[k],List.getElem_mem _,of_decide_eq_true hf⟩
  · rintro ⟨u,hu,e⟩
    obtain ⟨k,hk,rfl⟩:=List.getElem_of_mem hu
    exact List.length_pos_of_mem (ux_mem.2 ⟨k,hk,rfl,decide_eq_true e⟩)
theorem listR {p:List Int} (hp:PL us p):wardmoteref23_list_p FU r a = some (ks (dat us a p)):=by
  unfold wardmoteref23_list_p
  rw [told_ok (List.range 64) (fun i=>decide (((i:Nat):Int) ∈ keys (dat us a p))) (fun i:Nat=>(i:Int)) _ (by simp) ?_ ?_,obind]
  · unfold ks
    rw [List.filter_map]; rfl
  · intro J i xs hi hx
    rw [List.length_range] at hi
    unfold wardmoteref23_list_l1
    simp only [List.getElem_range]
    rw [if_pos hi,unitsR h ha,obind,List.length_map]
    by_cases hk:((i:Nat):Int) ∈ keys (dat us a p)
    · rw [if_pos ((ux_pos hp).2 hk),appS _ _ (by simp only [List.length_cons,List.length_nil]; omega),obind,if_pos (decide_eq_true hk)]
    · rw [if_neg fun h0=>hk ((ux_pos hp).1 h0),if_neg (by simpa using hk)]
  · intro J i xs hi
    rw [List.length_range] at hi
    unfold wardmoteref23_list_l1
    simp only
    rw [if_neg hi]
theorem piecesR {p:List Int} {k:Int} (hk:1 ≤ k) (hk8:k ≤ 8) (hf:Fits p us.length k) (x:Int):wardmoteref23_pieces_p FU r p k a x = some (pcs (dat us a p) x:Int):=by
  have hF:=FU_lt
  have hlu:=h.l.le
  have hnu:=h.v.n
  have hp:PL us p:=pl_of hk8 hf.2 hf.1
  have hpl:=hf.1
  unfold wardmoteref23_pieces_p
  rw [unitsR h ha,obind]
  -- in which districts
  have hm:∀ d:Nat,(d:Int) < k → (d ∈ dsd (dat us a p) x ↔ ∃ i ∈ ux (fun u=>decide (key a u = x)) us 0,p[i]? = some (d:Int)):=fun d hd=>by
    have hne:us.length ≠ 0 → p ≠ []:=fun h0 e=>by rw [e] at hpl; simp at hpl; omega
    rw [dsd_mem]
    constructor
    · rintro ⟨_,t,ht,t1,t2⟩
      obtain ⟨i,hi,rfl⟩:=dat_get hp ht
      simp only at t1 t2
      refine ⟨i,ux_mem.2 ⟨i,hi,by omega,decide_eq_true t1⟩,?_⟩
      rw [List.getElem?_eq_getElem (by omega)]
      simp only [pl0,if_neg (hne (by omega))] at t2
      rw [t2]
    · rintro ⟨i,hi,e⟩
      obtain ⟨j,hj,e2,hf2⟩:=ux_mem.1 hi
      have:i = j:=by omega
      subst this
      refine ⟨by omega,_,dat_has hp hj,of_decide_eq_true hf2,?_⟩
      simp only [pl0,if_neg (hne (by omega))]
      rw [List.getElem?_eq_getElem (by omega)] at e
      exact Option.some.inj e
  have hmem:∀ i ∈ ux (fun u=>decide (key a u = x)) us 0,i < p.length:=fun i hi=>by
    obtain ⟨j,hj,e,_⟩:=ux_mem.1 hi; omega
  have hll:=ux_len (fun u=>decide (key a u = x)) us 0
  generalize ux (fun u=>decide (key a u = x)) us 0 = l at *
  have hcnt:pcs (dat us a p) x = ((List.range k.toNat).filter fun d=>decide (d ∈ dsd (dat us a p) x)).length:=by
    refine List.Perm.length_eq ((List.perm_ext_iff_of_nodup (dsd_nodup _ _) (List.Nodup.sublist List.filter_sublist List.nodup_range)).2 fun d=>?_)
    rw [List.mem_filter,List.mem_range,decide_eq_true_eq]
    constructor
    · intro hd
      refine ⟨?_,hd⟩
      obtain ⟨_,t,ht,_,t2⟩:=dsd_mem.1 hd
      obtain ⟨i,hi,rfl⟩:=dat_get hp ht
      simp only at t2
      have hne:p ≠ []:=fun e=>by rw [e] at hpl; simp at hpl; omega
      simp only [pl0,if_neg hne] at t2
      have:=hf.2.1 (p[i]'(by omega)) (List.getElem_mem _)
      omega
    · exact fun hd=>hd.2
  have hin:∀ d:Nat,(d:Int) < k → loopF (wardmoteref23_pieces_l1 FU (l.map fun i:Nat=>(i:Int)) p (d:Int)) FU (false,0) = some (decide (d ∈ dsd (dat us a p) x)):=fun d hd=>by
    have hh:=loop_ok (B:=wardmoteref23_pieces_l1 FU (l.map fun i:Nat=>(i:Int)) p (d:Int)) (fun s:Bool × Nat=>l.length - s.2) (fun s=>s.2 ≤ l.length∧(s.1 = true ↔ ∃ i ∈ l.take s.2,p[i]? = some (d:Int))) (fun y=>y = decide (d ∈ dsd (dat us a p) x)) ?_ FU (false,0) ⟨Nat.zero_le _,by simp⟩ (by simp only; omega)
    · obtain ⟨y,e,rfl⟩:=hh; exact e
    · rintro ⟨q,j⟩ J ⟨a1,a2⟩ hJ
      simp only at a1 a2 hJ
      unfold wardmoteref23_pieces_l1 jn
      simp only [List.length_map]
      by_cases hj:j < l.length
      · have hi2:=hmem l[j] (List.getElem_mem _)
        rw [if_pos hj,List.getElem?_eq_getElem (by simpa using hj),obind,List.getElem_map,idx_ok (by omega) (by rw [Int.toNat_natCast]; exact hi2),obind]
        simp only [Int.toNat_natCast]
        by_cases he:p[l[j]] = (d:Int)
        · rw [if_pos he]
          refine hJ _ ⟨hj,⟨fun _=>⟨l[j],?_,?_⟩,fun _=>rfl⟩⟩ (by simp only; omega)
          · have e9:l.take (j + 1) = l.take j ++ [l[j]]:=List.take_succ_eq_append_getElem hj
            simp only [e9]
            exact List.mem_append_right _ (List.mem_singleton.2 rfl)
          · rw [List.getElem?_eq_getElem hi2,he]
        · rw [if_neg he]
          refine hJ _ ⟨hj,?_⟩ (by simp only; omega)
          simp only
          rw [a2,List.take_succ_eq_append_getElem hj]
          constructor
          · rintro ⟨i,hi,e⟩; exact ⟨i,List.mem_append_left _ hi,e⟩
          · rintro ⟨i,hi,e⟩
            rcases List.mem_append.1 hi with hi | hi
            · exact ⟨i,hi,e⟩
            · rw [List.mem_singleton.1 hi,List.getElem?_eq_getElem hi2] at e
              exact absurd (Option.some.inj e) he
      · rw [if_neg hj]
        rw [List.take_of_length_le (by omega)] at a2
        refine ⟨_,rfl,?_⟩
        rw [Bool.eq_iff_iff,a2,decide_eq_true_eq,hm d hd]
  have hh:=loop_ok (B:=wardmoteref23_pieces_l2 FU k (l.map fun i:Nat=>(i:Int)) p) (fun s:Int × Int=>9 - s.2.toNat) (fun s=>0 ≤ s.2∧s.2 ≤ k∧s.1 = (((List.range s.2.toNat).filter fun d=>decide (d ∈ dsd (dat us a p) x)).length:Nat)) (fun y=>y = (pcs (dat us a p) x:Int)) ?_ FU (0,0) ⟨by simp,by simp only; omega,by simp⟩ (by simp only; omega)
  · obtain ⟨y,e,rfl⟩:=hh
    rw [e,obind]
  · rintro ⟨c,z⟩ J ⟨z0,z1,z2⟩ hJ
    simp only at z0 z1 z2 hJ
    obtain ⟨d,rfl⟩:∃ d:Nat,z = (d:Int):=⟨z.toNat,by omega⟩
    simp only [Int.toNat_natCast] at z2 hJ
    subst z2
    unfold wardmoteref23_pieces_l2
    simp only
    by_cases hz:(d:Int) < k
    · have hcl:((List.range d).filter fun d=>decide (d ∈ dsd (dat us a p) x)).length ≤ 8:=Nat.le_trans (List.length_filter_le ..) (by rw [List.length_range]; omega)
      have next:=hJ ((((List.range (d + 1)).filter fun d=>decide (d ∈ dsd (dat us a p) x)).length:Nat),(d:Int) + 1) ⟨by simp only; omega,by simp only; omega,by simp only; rw [show ((d:Int) + 1).toNat = d + 1 by omega]⟩ (by simp only; omega)
      rw [List.range_succ,List.filter_append] at next
      rw [if_pos hz,hin d hz,obind]
      by_cases hd:d ∈ dsd (dat us a p) x
      · rw [if_pos (decide_eq_true hd),chkI (by omega) (by omega),obind,chkI (by omega) (by omega),obind]
        rw [List.filter_cons_of_pos (by simpa using hd),List.filter_nil,List.length_append,List.length_singleton] at next
        exact next
      · rw [if_neg (by simpa using hd),chkI (by omega) (by omega),obind]
        rw [List.filter_cons_of_neg (by simpa using hd),List.filter_nil,List.append_nil] at next
        exact next
    · rw [if_neg hz]
      exact ⟨_,rfl,by rw [hcnt,show k.toNat = d by omega]⟩
section
variable {p:List Int} {k:Int} (hk:1 ≤ k) (hk8:k ≤ 8) (hf:Fits p us.length k)
include hk hk8 hf
theorem plannedR:wardmoteref23_planned_p FU r p k a = some 0:=by
  unfold wardmoteref23_planned_p
  rw [refCheck_eq h.s p k hk hk8 us fun _=>h.l,if_pos h.v,if_pos hf,obind,if_pos rfl,levelled_ok h ha,obind]
theorem PiecesR:wardmoteref23_Pieces_p FU r p k a = split_Pieces_p FU r p k a:=by
  have hp:PL us p:=pl_of hk8 hf.2 hf.1
  unfold wardmoteref23_Pieces_p
  rw [plannedR h ha hk hk8 hf,obind,if_pos rfl,listR h ha hp,obind,pieces_res (h.lr ha) hp (balOk h hk hk8 hf)]
  have hl:=ks_len (dat us a p)
  rw [told_ok (ks (dat us a p)) (fun _=>true) (fun k=>(pcs (dat us a p) k:Int)) _ (by omega) ?_ ?_,obind,filt_true]
  · intro J i xs hi hx
    unfold wardmoteref23_Pieces_l1
    simp only
    rw [if_pos hi,List.getElem?_eq_getElem hi,obind,piecesR h ha hk hk8 hf,obind,appS _ _ (by simp only [List.length_cons,List.length_nil]; omega),obind,if_pos trivial]
  · intro J i xs hi
    unfold wardmoteref23_Pieces_l1
    simp only
    rw [if_neg hi]
theorem SplitsR:wardmoteref23_Splits_p FU r p k a = split_Splits_p FU r p k a:=by
  have hF:=FU_lt
  have hp:PL us p:=pl_of hk8 hf.2 hf.1
  unfold wardmoteref23_Splits_p
  rw [PiecesR h ha hk hk8 hf,splits_res (h.lr ha) hp (balOk h hk hk8 hf),pieces_res (h.lr ha) hp (balOk h hk hk8 hf),obind,if_pos rfl]
  have hl:=ks_len (dat us a p)
  have hpl:=pcs_le (dat us a p)
  generalize dat us a p = D at *
  generalize ks D = K at *
  have bd:∀ i,0 ≤ ((K.take i).map fun k=>(pcs D k:Int)).sum∧((K.take i).map fun k=>(pcs D k:Int)).sum ≤ 8 * 64:=fun i=>by
    have key:∀ l:List Int,0 ≤ (l.map fun x=>(pcs D x:Int)).sum∧(l.map fun x=>(pcs D x:Int)).sum ≤ 8 * l.length:=fun l=>by
      induction l with
      | nil=>simp
      | cons x l ih=>have:=hpl x; rw [List.map_cons,List.sum_cons,List.length_cons]; omega
    have h1:=key (K.take i)
    rw [List.length_take] at h1
    omega
  have hh:=loop_ok (B:=wardmoteref23_Splits_l1 FU (K.map fun k=>(pcs D k:Int),0)) (fun s:Nat × Int × Int=>K.length - s.1) (fun s=>s.1 ≤ K.length∧s.2.1 = (((K.take s.1).filter fun k=>decide (1 < pcs D k)).length:Nat)∧s.2.2 = ((K.take s.1).map fun k=>(pcs D k:Int)).sum) (fun y=>y = ((((K.filter fun k=>decide (1 < pcs D k)).length:Nat):Int),(K.map fun k=>(pcs D k:Int)).sum)) ?_ FU (0,0,0) ⟨Nat.zero_le _,by simp,by simp⟩ (by simp only; omega)
  · obtain ⟨y,e,rfl⟩:=hh
    rw [e,obind]
  · rintro ⟨i,c,z⟩ J ⟨a1,a2,a3⟩ hJ
    simp only at a1 a2 a3 hJ
    subst a2 a3
    unfold wardmoteref23_Splits_l1 jn
    simp only [List.length_map]
    by_cases hi:i < K.length
    · have b1:=bd i
      have b2:=hpl K[i]
      have hcl:((K.take i).filter fun k=>decide (1 < pcs D k)).length ≤ 64:=Nat.le_trans (List.length_filter_le ..) (by rw [List.length_take]; omega)
      have next:=hJ (i + 1,(((K.take (i + 1)).filter fun k=>decide (1 < pcs D k)).length:Nat),((K.take (i + 1)).map fun k=>(pcs D k:Int)).sum) ⟨hi,rfl,rfl⟩ (by simp only; omega)
      rw [List.take_succ_eq_append_getElem hi,List.filter_append,List.map_append,List.sum_append] at next
      simp only [List.map_cons,List.map_nil,List.sum_cons,List.sum_nil,Int.add_zero] at next
      rw [if_pos hi,List.getElem?_eq_getElem (by simpa using hi),obind,List.getElem_map]
      by_cases h1:1 < pcs D K[i]
      · rw [if_pos (by omega),chkI (by omega) (by omega),obind,chkI (by omega) (by omega),obind]
        rw [List.filter_cons_of_pos (by simpa using h1),List.filter_nil,List.length_append,List.length_singleton] at next
        exact next
      · rw [if_neg (by omega),chkI (by omega) (by omega),obind]
        rw [List.filter_cons_of_neg (by simpa using h1),List.filter_nil,List.append_nil] at next
        exact next
    · rw [if_neg hi]
      exact ⟨_,rfl,by rw [List.take_of_length_le (by omega)]⟩
theorem KeepsR (x:Int):wardmoteref23_Keeps_p FU r p k a x = split_Keeps_p FU r p k a x:=by
  have hp:PL us p:=pl_of hk8 hf.2 hf.1
  unfold wardmoteref23_Keeps_p
  rw [plannedR h ha hk hk8 hf,obind,if_pos rfl,unitsR h ha,obind,keeps_res (h.lr ha) hp (balOk h hk hk8 hf),List.length_map]
  have hpos:=ux_pos (a:=a) (x:=x) hp
  by_cases hx:x ∈ keys (dat us a p)
  · have h0:=hpos.2 hx
    have h1:=pcs_pos (fun t ht=>(dat_mem (h.lr ha) hp t ht).2.2) hx
    rw [if_neg (by omega),piecesR h ha hk hk8 hf,obind,if_pos (ks_mem.2 ⟨keys_in (h.lr ha) hp x hx,hx⟩)]
    refine congrArg (fun q=>some (q,(0:Int))) (decide_eq_decide.2 (by omega))
  · have h0:¬ 0 < (ux (fun u=>decide (key a u = x)) us 0).length:=fun e=>hx (hpos.1 e)
    rw [if_pos (by omega),if_neg fun e=>hx (ks_mem.1 e).2]
end
end
end Go.Proofs.YtfncplndfpgngaaGreatDoor
