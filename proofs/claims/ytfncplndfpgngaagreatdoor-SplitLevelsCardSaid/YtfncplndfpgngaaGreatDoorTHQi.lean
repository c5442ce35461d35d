/- Plain laws: the reference of layer 23, and that the program agrees with it. No program in sight but the printed functions. -/
import Derived.Test.YtfncplndfpgngaaGreatDoorTHQf
import Derived.Test.YtfncplndfpgngaaGreatDoorTHQh
namespace Go.Proofs.YtfncplndfpgngaaGreatDoor
open Go
set_option maxRecDepth 8000
def ux (f:TUnit → Bool):List TUnit → Nat → List Nat
  | [],_=>[]
  | u :: us,j=>if f u = true then j :: ux f us (j + 1) else ux f us (j + 1)
theorem ux_snoc (f:TUnit → Bool) (u:TUnit):∀ (l:List TUnit) (j:Nat),ux f (l ++ [u]) j = ux f l j ++ (if f u = true then [j + l.length] else [])
  | [],j=>by simp [ux]
  | v :: l,j=>by
    rw [List.cons_append,ux,ux,ux_snoc f u l (j + 1),List.length_cons]
    have:j + 1 + l.length = j + (l.length + 1):=by omega
    rw [this]
    split <;> rfl
theorem ux_mem {f:TUnit → Bool} {i:Nat}:∀ {l:List TUnit} {j:Nat},i ∈ ux f l j ↔ ∃ k,∃ h:k < l.length,i = j + k∧f l[k] = true
  | [],j=>by simp [ux]
  | v :: l,j=>by
    rw [ux]
    have ih:=@ux_mem f i l (j + 1)
    constructor
    · intro h
      split at h
      · rename_i hv
        rcases List.mem_cons.1 h with rfl | h
        · exact ⟨0,by simp,by omega,hv⟩
        · obtain ⟨k,hk,e,hf⟩:=ih.1 h
          exact ⟨k + 1,by simpa using hk,by omega,hf⟩
      · obtain ⟨k,hk,e,hf⟩:=ih.1 h
        exact ⟨k + 1,by simpa using hk,by omega,hf⟩
    · rintro ⟨k,hk,e,hf⟩
      cases k with
      | zero=>
        rw [if_pos (by simpa using hf)]
        exact List.mem_cons.2 (.inl (by omega))
      | succ k=>
        have:=ih.2 ⟨k,by simpa using hk,by omega,by simpa using hf⟩
        split
        · exact List.mem_cons_of_mem _ this
        · exact this
theorem ux_len (f:TUnit → Bool):∀ (l:List TUnit) (j:Nat),(ux f l j).length ≤ l.length
  | [],_=>by simp [ux]
  | u :: l,j=>by rw [ux]; have:=ux_len f l (j + 1); split <;> simp only [List.length_cons] <;> omega
theorem ux_sum (f:TUnit → Bool) (U:List TUnit):∀ (l:List TUnit) (j:Nat),(∀ k (h:k < l.length),U[j + k]? = some l[k]) → ((ux f l j).map fun i=>((U[i]?).map (·.fp)).getD 0).sum = ((l.filter f).map (·.fp)).sum
  | [],_,_=>rfl
  | v :: l,j,h=>by
    have ih:=ux_sum f U l (j + 1) fun k hk=>by
      have:=h (k + 1) (by simpa using hk)
      rw [show j + 1 + k = j + (k + 1) by omega]
      simpa using this
    rw [ux]
    by_cases hv:f v = true
    · rw [if_pos hv,List.filter_cons_of_pos hv,List.map_cons,List.sum_cons,List.map_cons,List.sum_cons,ih]
      have:=h 0 (by simp)
      rw [Nat.add_zero] at this
      rw [this]; rfl
    · rw [if_neg hv,List.filter_cons_of_neg hv,ih]
theorem ppl_us {us:List TUnit} {a:Nat} {p:List Int} (hp:PL us p) (x:Int):ppl (dat us a p) x = ((us.filter fun u=>decide (key a u = x)).map (·.fp)).sum:=by
  unfold ppl dat
  have:=pl0_len hp
  generalize pl0 us p = q at *
  clear hp
  induction us generalizing q with
  | nil=>simp
  | cons u us ih=>
    cases q with
    | nil=>simp at this
    | cons d q=>
      have ih:=ih q (by simpa using this)
      simp only [List.zipWith_cons_cons]
      by_cases hk:key a u = x
      · rw [List.filter_cons_of_pos (by simpa [key] using hk),List.filter_cons_of_pos (by simpa using hk),List.map_cons,List.map_cons,List.sum_cons,List.sum_cons,ih]
      · rw [List.filter_cons_of_neg (by simpa [key] using hk),List.filter_cons_of_neg (by simpa using hk),ih]
structure LV (r:TRoll) (us:List TUnit):Prop where
  s:∀ u ∈ r.fm,Sm4 u
  v:RV r
  l:Lnd r us
  d:∀ (a:Nat) (K:List Int),(a:Int) < r.fh → K.Nodup → (∀ x ∈ K,∃ u ∈ us,(u.fw[a]?).getD 0 = x) → K.length ≤ 12
theorem thnR {α β:Type} (x:β) (K:β → Option α):thn (some (Sum.inr x)) K = K x:=rfl
theorem nst_step {us:List TUnit} {a b i:Nat} (hiu:i < us.length) (z2:∀ u ∈ us.take i,∀ v ∈ us,key a u = key a v → key b u = key b v) (hy:∀ v ∈ us,key a us[i] = key a v → key b us[i] = key b v):∀ u ∈ us.take ((i:Int) + 1).toNat,∀ v ∈ us,key a u = key a v → key b u = key b v:=by
  have e:((i:Int) + 1).toNat = i + 1:=by omega
  rw [e,List.take_succ_eq_append_getElem hiu]
  intro u hu
  rcases List.mem_append.1 hu with hu | hu
  · exact z2 u hu
  · rw [List.mem_singleton.1 hu]; exact hy
section
variable {r:TRoll} {us:List TUnit} (h:LV r us)
include h
theorem LV.mem {u:TUnit} (hu:u ∈ us):UV r u:=by
  obtain ⟨i,hi,rfl⟩:=List.getElem_of_mem hu
  have hle:=h.l.le
  have h1:=h.v.u i (by omega)
  rcases h.l.at (i:=i) (by omega) with ⟨_,e,_⟩ | ⟨h2,_⟩
  · rwa [e] at h1
  · omega
theorem LV.lr {a:Nat} (ha:(a:Int) < r.fh):LR r us a:=by
  have hn:=h.v.n
  have hle:=h.l.le
  have hw:=h.l.w
  refine ⟨by rw [checkroll_eq r h.s,if_pos h.v],h.l.all,hw,by omega,fun K=>h.d a K ha,by omega,ha,fun u hu=>?_,fun u hu=>?_⟩
  · have:=h.mem hu
    have h2:=this.2.1
    rw [if_neg (by rw [hw u hu]; decide)] at h2
    exact ⟨this.1,h2⟩
  · have h3:=(h.mem hu).2.2.2.2
    rw [if_neg (by rw [hw u hu]; decide)] at h3
    exact ⟨by have:=h3.1; omega,h3.2⟩
theorem landV:wardmoteref22_Land_p FU r = some (us.length:Int):=land_eq h.s h.v h.l
variable {a:Nat} (ha:(a:Int) < r.fh)
include ha
theorem levelled_ok:wardmoteref23_levelled_p FU r a = some 0:=by
  unfold wardmoteref23_levelled_p
  rw [checkrollR_eq r h.s,if_pos h.v,obind,if_pos rfl,if_neg (by omega),if_neg (by omega)]
theorem unitsR (x:Int):wardmoteref23_Units_p FU r a x = some ((ux (fun u=>decide (key a u = x)) us 0).map fun i:Nat=>(i:Int)):=by
  have hF:=FU_lt
  have hle:=h.l.le
  have hn:=h.v.n
  have hq:=(h.lr ha).q
  have hh:=loop_ok (B:=wardmoteref23_Units_l1 FU r a x) (fun s:Int × List Int=>us.length - s.1.toNat) (fun s=>0 ≤ s.1∧s.1 ≤ us.length∧s.2 = (ux (fun u=>decide (key a u = x)) (us.take s.1.toNat) 0).map fun i:Nat=>(i:Int))
    (fun y=>y = (ux (fun u=>decide (key a u = x)) us 0).map fun i:Nat=>(i:Int)) ?_ FU (0,[]) ⟨by simp,by simp,by simp [ux]⟩ (by simp only; omega)
  · obtain ⟨y,e,rfl⟩:=hh
    unfold wardmoteref23_Units_p
    rw [e,obind]
  · rintro ⟨z,xs⟩ J ⟨a0,a1,a2⟩ hJ
    simp only at a0 a1 a2 hJ
    obtain ⟨i,rfl⟩:∃ i:Nat,z = (i:Int):=⟨z.toNat,by omega⟩
    simp only [Int.toNat_natCast] at a2 hJ
    subst a2
    unfold wardmoteref23_Units_l1
    simp only
    rw [landV h,obind]
    by_cases hi:(i:Int) < us.length
    · have hiu:i < us.length:=by omega
      have e0:r.fm[i]'(by omega) = us[i]:=by
        rcases h.l.at (i:=i) (by omega) with ⟨_,e,_⟩ | ⟨h2,_⟩
        · exact e
        · omega
      have hqi:=hq us[i] (List.getElem_mem _)
      have ek:key a us[i] = us[i].fw[a]'hqi.1:=by unfold key; rw [List.getElem?_eq_getElem hqi.1]; rfl
      rw [if_pos hi,idx_ok (by omega) (by rw [Int.toNat_natCast]; omega),obind]
      simp only [Int.toNat_natCast]
      rw [e0,idx_ok (by omega) (by rw [Int.toNat_natCast]; exact hqi.1),obind]
      simp only [Int.toNat_natCast]
      have hul:((ux (fun u=>decide (key a u = x)) (us.take i) 0).map fun i:Nat=>(i:Int)).length ≤ 100:=by
        have h3:=ux_len (fun u=>decide (key a u = x)) (us.take i) 0
        rw [List.length_take] at h3
        rw [List.length_map]; omega
      have next:=hJ ((i:Int) + 1,(ux (fun u=>decide (key a u = x)) (us.take (i + 1)) 0).map fun i:Nat=>(i:Int)) ⟨by simp only; omega,by simp only; omega,by simp only; rw [show ((i:Int) + 1).toNat = i + 1 by omega]⟩ (by simp only; omega)
      rw [List.take_succ_eq_append_getElem hiu,ux_snoc,List.length_take] at next
      by_cases hx:us[i].fw[a]'hqi.1 = x
      · have hx2:key a us[i] = x:=ek.trans hx
        rw [if_pos hx,appS _ _ (by simp only [List.length_cons,List.length_nil]; omega),obind,chkI (by omega) (by omega),obind]
        rw [if_pos (decide_eq_true hx2),List.map_append,List.map_cons,List.map_nil,show 0 + min i us.length = i by omega] at next
        exact next
      · have hx2:¬ key a us[i] = x:=fun e=>hx (ek.symm.trans e)
        rw [if_neg hx,chkI (by omega) (by omega),obind]
        rw [if_neg (by simpa using hx2),List.append_nil] at next
        exact next
    · rw [if_neg hi]
      exact ⟨_,rfl,by rw [List.take_of_length_le (by omega)]⟩
omit ha h in
theorem ux_pos {x:Int} {p:List Int} (hp:PL us p):0 < (ux (fun u=>decide (key a u = x)) us 0).length ↔ x ∈ keys (dat us a p):=by
  rw [key_mem hp]
  constructor
  · intro h0
    obtain ⟨i,hi⟩:=List.exists_mem_of_length_pos h0
    obtain ⟨k,hk,_,hf⟩:=ux_mem.1 hi
    exact ⟨us[k],List.getElem_mem _,of_decide_eq_true hf⟩
  · rintro ⟨u,hu,e⟩
    obtain ⟨k,hk,rfl⟩:=List.getElem_of_mem hu
    exact List.length_pos_of_mem (ux_mem.2 ⟨k,hk,rfl,decide_eq_true e⟩)
theorem listR {p:List Int} (hp:PL us p):wardmoteref23_list_p FU r a = some (ks (dat us a p)):=by
  unfold wardmoteref23_list_p
  rw [told_ok (List.range 64) (fun i=>decide (((i:Nat):Int) ∈ keys (dat us a p))) (fun i:Nat=>(i:Int)) _ (by simp) ?_ ?_,obind]
  · unfold ks
    rw [List.filter_map]; rfl
  · intro J i xs hi hx
    rw [List.length_range] at hi
    unfold wardmoteref23_list_l1
    simp only [List.getElem_range]
    rw [if_pos hi,unitsR h ha,obind,List.length_map]
    by_cases hk:((i:Nat):Int) ∈ keys (dat us a p)
    · rw [if_pos ((ux_pos hp).2 hk),appS _ _ (by simp only [List.length_cons,List.length_nil]; omega),obind,if_pos (decide_eq_true hk)]
    · rw [if_neg fun h0=>hk ((ux_pos hp).1 h0),if_neg (by simpa using hk)]
  · intro J i xs hi
    rw [List.length_range] at hi
    unfold wardmoteref23_list_l1
    simp only
    rw [if_neg hi]
theorem livedR {p:List Int} (hp:PL us p) (x:Int):wardmoteref23_lived_p FU r a x = some (ppl (dat us a p) x):=by
  have hF:=FU_lt
  have hle:=h.l.le
  have hn:=h.v.n
  have hpp:=(h.lr ha).p
  unfold wardmoteref23_lived_p
  rw [unitsR h ha,obind]
  have hmem:∀ i ∈ ux (fun u=>decide (key a u = x)) us 0,i < us.length:=fun i hi=>by
    obtain ⟨k,hk,e,_⟩:=ux_mem.1 hi; omega
  have hll:=ux_len (fun u=>decide (key a u = x)) us 0
  have hsum:=ux_sum (fun u=>decide (key a u = x)) r.fm us 0 fun k hk=>by
    rw [Nat.zero_add,List.getElem?_eq_getElem (by omega)]
    rcases h.l.at (i:=k) (by omega) with ⟨_,e,_⟩ | ⟨h2,_⟩
    · rw [e]
    · omega
  rw [← ppl_us hp] at hsum
  have hb:=ppl_bound (D:=dat us a p) (B:=1000000000) (fun t ht=>(dat_mem (h.lr ha) hp t ht).2.1) (by decide) x
  rw [dat_len hp] at hb
  generalize ux (fun u=>decide (key a u = x)) us 0 = l at *
  have hg:∀ i ∈ l,((r.fm[i]?).map (·.fp)).getD 0 = ((r.fm[i]?).map (·.fp)).getD 0∧0 ≤ ((r.fm[i]?).map (·.fp)).getD 0:=fun i hi=>by
    refine ⟨rfl,?_⟩
    have hi2:=hmem i hi
    rw [List.getElem?_eq_getElem (by omega)]
    rcases h.l.at (i:=i) (by omega) with ⟨h3,e,_⟩ | ⟨h2,_⟩
    · rw [e]; exact (hpp _ (List.getElem_mem _)).1
    · omega
  have hnn:∀ y ∈ l.map (fun i=>((r.fm[i]?).map (·.fp)).getD 0),0 ≤ y:=fun y hy=>by
    obtain ⟨i,hi,rfl⟩:=List.mem_map.1 hy
    exact (hg i hi).2
  have hh:=loop_ok (B:=wardmoteref23_lived_l1 FU (l.map fun i:Nat=>(i:Int)) r) (fun s:Int × Nat=>l.length - s.2) (fun s=>s.2 ≤ l.length∧s.1 = ((l.map fun i=>((r.fm[i]?).map (·.fp)).getD 0).take s.2).sum) (fun y=>y = (l.map fun i=>((r.fm[i]?).map (·.fp)).getD 0).sum) ?_ FU (0,0) ⟨Nat.zero_le _,by simp⟩ ?_
  · obtain ⟨y,e,rfl⟩:=hh
    rw [e,obind,hsum]
  · rintro ⟨z,j⟩ J ⟨a1,a2⟩ hJ
    simp only at a1 a2 hJ
    subst a2
    unfold wardmoteref23_lived_l1
    simp only [List.length_map]
    by_cases hj:j < l.length
    · have hi2:=hmem l[j] (List.getElem_mem _)
      have b1:=take_sum_le hnn j
      have b2:=take_sum_le hnn (j + 1)
      have e1:((l.map fun i=>((r.fm[i]?).map (·.fp)).getD 0).take (j + 1)).sum = ((l.map fun i=>((r.fm[i]?).map (·.fp)).getD 0).take j).sum + (r.fm[l[j]]'(by omega)).fp:=by
        rw [List.take_succ_eq_append_getElem (by simpa using hj),List.sum_append,List.getElem_map,List.getElem?_eq_getElem (by omega)]; simp
      rw [if_pos hj,List.getElem?_eq_getElem (by simpa using hj),obind,List.getElem_map,idx_ok (by omega) (by rw [Int.toNat_natCast]; omega),obind]
      simp only [Int.toNat_natCast]
      rw [chkI (by omega) (by omega),obind]
      exact hJ _ ⟨hj,by simp only; omega⟩ (by simp only; omega)
    · rw [if_neg hj]
      exact ⟨_,rfl,by rw [List.take_of_length_le (by rw [List.length_map]; omega)]⟩
  · simp only; omega
theorem parentsR:wardmoteref23_Parents_p FU r a = split_Parents_p FU r a:=by
  unfold wardmoteref23_Parents_p
  rw [levelled_ok h ha,obind,if_pos rfl,listR h ha (.inl rfl),obind,parents_res (h.lr ha)]
theorem peopleR:wardmoteref23_People_p FU r a = split_People_p FU r a:=by
  unfold wardmoteref23_People_p
  rw [levelled_ok h ha,obind,if_pos rfl,listR h ha (.inl rfl),obind,people_res (h.lr ha)]
  have hl:=ks_len (dat us a [])
  rw [told_ok (ks (dat us a [])) (fun _=>true) (ppl (dat us a [])) _ (by omega) ?_ ?_,obind,filt_true]
  · intro J i xs hi hx
    unfold wardmoteref23_People_l1
    simp only
    rw [if_pos hi,List.getElem?_eq_getElem hi,obind,livedR h ha (.inl rfl),obind,appS _ _ (by simp only [List.length_cons,List.length_nil]; omega),obind,if_pos trivial]
  · intro J i xs hi
    unfold wardmoteref23_People_l1
    simp only
    rw [if_neg hi]
theorem forcedR (z:Int):wardmoteref23_Forced_p FU r a z = split_Forced_p FU r a z:=by
  unfold wardmoteref23_Forced_p
  rw [levelled_ok h ha,obind,if_pos rfl,listR h ha (.inl rfl),obind,forced_res (h.lr ha)]
  have hl:=ks_len (dat us a [])
  rw [told_ok (ks (dat us a [])) (fun k=>decide (z < ppl (dat us a []) k)) (fun k=>k) _ (by omega) ?_ ?_,obind]
  · rw [List.map_id']
  · intro J i xs hi hx
    unfold wardmoteref23_Forced_l1
    simp only
    rw [if_pos hi,List.getElem?_eq_getElem hi,obind,livedR h ha (.inl rfl),obind]
    by_cases hz:z < ppl (dat us a []) (ks (dat us a []))[i]
    · rw [if_pos hz,appS _ _ (by simp only [List.length_cons,List.length_nil]; omega),obind,if_pos (decide_eq_true hz)]
    · rw [if_neg hz,if_neg (by simpa using hz)]
  · intro J i xs hi
    unfold wardmoteref23_Forced_l1
    simp only
    rw [if_neg hi]
theorem nestedIn {b:Nat} (hb:(b:Int) < r.fh) (i:Nat) (hi:i < us.length):∃ y,loopF (wardmoteref23_Nested_l1 FU (us.length:Int) r (i:Int) a b) FU 0 = some y∧((y = .inr ()∧∀ v ∈ us,key a us[i] = key a v → key b us[i] = key b v) ∨ (y = .inl (.inl (false,0))∧¬ ∀ v ∈ us,key a us[i] = key a v → key b us[i] = key b v)):=by
  have hF:=FU_lt
  have hlu:=h.l.le
  have hnu:=h.v.n
  have qa:=(h.lr ha).q
  have qb:=(h.lr hb).q
  have hat:∀ i (hi:i < us.length),r.fm[i]'(by omega) = us[i]:=fun i hi=>by
    rcases h.l.at (i:=i) (by omega) with ⟨_,e,_⟩ | ⟨h2,_⟩
    · exact e
    · omega
  have ek:∀ c (hc:(∀ u ∈ us,c < u.fw.length∧∀ x ∈ u.fw,0 ≤ x∧x ≤ 63)) i (hi:i < us.length),idx (us[i]).fw (c:Int) = some (key c us[i]):=fun c hc i hi=>by
    have:=hc us[i] (List.getElem_mem _)
    rw [idx_ok (by omega) (by rw [Int.toNat_natCast]; exact this.1)]
    unfold key
    simp only [Int.toNat_natCast]
    rw [List.getElem?_eq_getElem this.1]; rfl
  refine loop_ok (B:=wardmoteref23_Nested_l1 FU (us.length:Int) r (i:Int) a b) (fun z:Int=>us.length - z.toNat) (fun z=>0 ≤ z∧z ≤ us.length∧∀ v ∈ us.take z.toNat,key a us[i] = key a v → key b us[i] = key b v) _ ?_ FU 0 ⟨by omega,by omega,by simp⟩ (by omega)
  rintro z J ⟨z0,z1,z2⟩ hJ
  obtain ⟨j,rfl⟩:∃ j:Nat,z = (j:Int):=⟨z.toNat,by omega⟩
  simp only [Int.toNat_natCast] at z2 hJ
  unfold wardmoteref23_Nested_l1
  simp only
  by_cases hj:(j:Int) < us.length
  · have hju:j < us.length:=by omega
    rw [if_pos hj,idx_ok (by omega) (by rw [Int.toNat_natCast]; omega),obind,idx_ok (by omega) (by rw [Int.toNat_natCast]; omega),obind]
    simp only [Int.toNat_natCast]
    rw [hat i hi,hat j hju,ek a qa i hi,obind,ek a qa j hju,obind]
    have next:(key a us[i] = key a us[j] → key b us[i] = key b us[j]) → _:=fun hc=>hJ ((j:Int) + 1) ⟨by omega,by omega,by
      rw [show ((j:Int) + 1).toNat = j + 1 by omega,List.take_succ_eq_append_getElem hju]
      intro v hv
      rcases List.mem_append.1 hv with hv | hv
      · exact z2 v hv
      · rw [List.mem_singleton.1 hv]; exact hc⟩ (by omega)
    by_cases c1:key a us[i] = key a us[j]
    · rw [if_pos c1,ek b qb i hi,obind,ek b qb j hju,obind]
      by_cases c2:key b us[i] = key b us[j]
      · rw [if_pos c2,chkI (by omega) (by omega),obind]
        exact next fun _=>c2
      · rw [if_neg c2]
        exact ⟨_,rfl,.inr ⟨rfl,fun hc=>c2 (hc _ (List.getElem_mem _) c1)⟩⟩
    · rw [if_neg c1,chkI (by omega) (by omega),obind]
      exact next fun e=>absurd e c1
  · rw [if_neg hj]
    rw [List.take_of_length_le (by omega)] at z2
    exact ⟨_,rfl,.inl ⟨rfl,z2⟩⟩
theorem nestedR {b:Nat} (hb:(b:Int) < r.fh):wardmoteref23_Nested_p FU r a b = split_Nested_p FU r a b:=by
  have hF:=FU_lt
  have hlu:=h.l.le
  have hnu:=h.v.n
  have qa:=(h.lr ha).q
  have qb:=(h.lr hb).q
  obtain ⟨q,eq,hq⟩:=nested_ok (h.lr ha) (h.lr hb)
  rw [eq]
  unfold wardmoteref23_Nested_p
  rw [levelled_ok h ha,obind,if_pos rfl,levelled_ok h hb,obind,if_pos rfl,landV h,obind]
  have hin:=nestedIn h ha hb
  have hh:=loop_ok (B:=wardmoteref23_Nested_l2 FU (us.length:Int) r a b) (fun z:Int=>us.length - z.toNat) (fun z=>0 ≤ z∧z ≤ us.length∧∀ u ∈ us.take z.toNat,∀ v ∈ us,key a u = key a v → key b u = key b v) (fun y=>y = .inr ()∧Nst us a b ∨ y = .inl (false,0)∧¬ Nst us a b) ?_ FU 0 ⟨by omega,by omega,by simp⟩ (by omega)
  · obtain ⟨y,e,hy⟩:=hh
    rw [e]
    rcases hy with ⟨rfl,hn⟩ | ⟨rfl,hn⟩
    · rw [hq.2 hn]; rfl
    · have:q = false:=by
        rcases q with _ | _
        · rfl
        · exact absurd (hq.1 rfl) hn
      rw [this]; rfl
  · rintro z J ⟨z0,z1,z2⟩ hJ
    obtain ⟨i,rfl⟩:∃ i:Nat,z = (i:Int):=⟨z.toNat,by omega⟩
    simp only [Int.toNat_natCast] at z2 hJ
    unfold wardmoteref23_Nested_l2
    simp only
    by_cases hi:(i:Int) < us.length
    · have hiu:i < us.length:=by omega
      obtain ⟨y,e,hy⟩:=hin i hiu
      rw [if_pos hi,e]
      rcases hy with ⟨rfl,hy⟩ | ⟨rfl,hy⟩
      · have nx:=hJ ((i:Int) + 1) ⟨by omega,by omega,nst_step hiu z2 hy⟩ (by omega)
        rw [thnR,chkI (by omega) (by omega),obind]
        exact nx
      · exact ⟨_,rfl,.inr ⟨rfl,fun hn=>hy fun v hv=>hn _ (List.getElem_mem _) v hv⟩⟩
    · rw [if_neg hi]
      rw [List.take_of_length_le (by omega)] at z2
      exact ⟨_,rfl,.inl ⟨rfl,z2⟩⟩
section
variable {p:List Int} {k:Int} (hk:1 ≤ k) (hk8:k ≤ 8) (hf:Fits p us.length k)
include hk hk8 hf
end
end
end Go.Proofs.YtfncplndfpgngaaGreatDoor
