/- Plain laws: drafted rolls with a change, any levels and parents; SplitLevels and SplitPieces. No program in sight but the printed functions. -/
import Derived.Test.YtfncplndfpgngaaGreatDoorTHQi
namespace Go.Proofs.YtfncplndfpgngaaGreatDoor
open Go
set_option maxRecDepth 8000
structure Dr (r:TRoll):Prop where
  n:r.fm.length ≤ 13
  s:∀ u ∈ r.fm,Sm4 u
  q:∀ u ∈ r.fm,(∀ x ∈ u.fw,0 ≤ x∧x ≤ 2) ∨ (u.fw.length:Int) ≠ r.fh
structure D0 (r:TRoll):Prop where
  n:r.fm.length ≤ 13
  s:∀ u ∈ r.fm,Sm4 u
  k:∀ u ∈ r.fm,u.fC.length ≤ 100∧u.fe.length ≤ 100
  q:∀ u ∈ r.fm,∀ x ∈ u.fw,0 ≤ x∧x ≤ 2
theorem D0.dr {r:TRoll} (h:D0 r):Dr r:=⟨h.n,h.s,fun u hu=>.inl (h.q u hu)⟩
theorem dr_nil:Dr ⟨0,0,0,[]⟩:=⟨Nat.zero_le _,(fun u hu=>by cases hu),(fun u hu=>by cases hu)⟩
theorem Dr.set {r:TRoll} (h:Dr r) (j:Nat) {u:TUnit} (hs:Sm4 u) (hq:(∀ x ∈ u.fw,0 ≤ x∧x ≤ 2) ∨ (u.fw.length:Int) ≠ r.fh):Dr ⟨r.fe,r.fc,r.fh,r.fm.set j u⟩:=by
  refine ⟨by rw [List.length_set]; exact h.n,fun v hv=>?_,fun v hv=>?_⟩
  · rcases List.mem_or_eq_of_mem_set hv with hv | rfl
    · exact h.s v hv
    · exact hs
  · rcases List.mem_or_eq_of_mem_set hv with hv | rfl
    · exact h.q v hv
    · exact hq
theorem Dr.lv {r:TRoll} (h:Dr r) (hv:RV r):∃ us,LV r us:=by
  obtain ⟨us,hl,_⟩:=lnd_of hv
  refine ⟨us,h.s,hv,hl,fun a K ha hK hm=>?_⟩
  have hsub:∀ x ∈ K,x ∈ ([0,1,2]:List Int):=fun x hx=>by
    obtain ⟨u,hu,e⟩:=hm x hx
    obtain ⟨i,hi,rfl⟩:=List.getElem_of_mem hu
    have hle:=hl.le
    have h1:=hv.u i (by omega)
    rcases hl.at (i:=i) (by omega) with ⟨_,e1,_⟩ | ⟨h2,_⟩
    · have hu1:=List.getElem_mem (l:=r.fm) (n:=i) (by omega)
      rw [e1] at h1 hu1
      have h2:=h1.2.2.2.2.1
      rcases h.q _ hu1 with hq | hq
      · have hal:a < us[i].fw.length:=by omega
        have:=hq us[i].fw[a] (List.getElem_mem _)
        rw [List.getElem?_eq_getElem hal] at e
        have e2:us[i].fw[a] = x:=e
        rw [e2] at this
        have hx3:x = 0 ∨ x = 1 ∨ x = 2:=by omega
        rcases hx3 with rfl | rfl | rfl <;> decide
      · exact absurd h2 hq
    · omega
  have:=hK.length_le_of_subset hsub
  exact Nat.le_trans this (by decide)
/-! ### The drafts, up to twelve units -/
theorem parents2 (d:TDraft26) (z:Int) (h0:0 ≤ z) (h1:z ≤ 100):∃ l,loopF (wardmoteref22_Draft_Roll_l1 FU d z) FU (0,[]) = some l∧l.length = (d.fh % 3).toNat∧∀ x ∈ l,0 ≤ x∧x ≤ 2:=by
  have hF:=FU_lt
  have hk:(d.fh % 3).toNat < 3:=by rw [UInt8.toNat_mod]; exact Nat.mod_lt _ (by decide)
  refine loop_ok (B:=wardmoteref22_Draft_Roll_l1 FU d z) (fun s:Nat × List Int=>3 - s.1) (fun s=>s.1 ≤ (d.fh % 3).toNat∧s.2.length = s.1∧∀ x ∈ s.2,0 ≤ x∧x ≤ 2) _ ?_ FU (0,[]) ⟨by simp,rfl,by simp⟩ (by simp only; omega)
  rintro ⟨i,xs⟩ J ⟨a1,a2,a3⟩ hJ
  simp only at a1 a2 a3 hJ
  unfold wardmoteref22_Draft_Roll_l1
  simp only
  split
  · rename_i hi
    obtain ⟨y,e,y0,y1⟩:=num_ok FU d (9 * z + 7 + i) (by omega)
    rw [chkI (by omega) (by omega),obind,chkI (by omega) (by omega),obind,chkI (by omega) (by omega),obind,e,obind,remI_ok (by decide),obind,appS _ _ (by simp only [List.length_cons,List.length_nil]; omega),obind]
    refine hJ _ ⟨by simp only; omega,by simp only [List.length_append,List.length_cons,List.length_nil]; omega,fun x hx=>?_⟩ (by simp only; omega)
    rcases List.mem_append.1 hx with hx | hx
    · exact a3 x hx
    · rw [List.mem_singleton.1 hx,Int.tmod_eq_emod_of_nonneg y0]
      have a1:=Int.emod_nonneg y (b:=(3:Int)) (by omega)
      have a2:=Int.emod_lt_of_pos y (b:=(3:Int)) (by omega)
      omega
  · exact ⟨_,rfl,by omega,a3⟩
theorem name12 (i:Nat) (h:i < 13):(sadd ⟨#[117]⟩ (bstr ([u8ofI (97 + (i:Int)),u8ofI (97 + 0)]:List UInt8))) = some (nm i):=by
  have:u8ofI (97 + (i:Int)) = UInt8.ofNat (97 + i):=by unfold u8ofI; congr 1; omega
  rw [this]; rfl
theorem nm_ns {i:Nat} (h:i < 13):nm i ∈ NS:=List.mem_cons_of_mem _ (List.mem_map.2 ⟨i,List.mem_range.2 h,rfl⟩)
def Du (u:TUnit):Prop:=Sm4 u∧(u.fC.length ≤ 100∧u.fe.length ≤ 100)∧∀ x ∈ u.fw,0 ≤ x∧x ≤ 2
theorem draft_ok (d:TDraft26) (m:Nat) (h2:m ≤ 12):∃ r,wardmoteref22_Draft_Roll_p FU d m = some r∧D0 r∧r.fh = ((d.fh % 3).toNat:Int):=by
  have hF:=FU_lt
  have hG:(d.fe % 3).toNat < 3:=by rw [UInt8.toNat_mod]; exact Nat.mod_lt _ (by decide)
  have hP:(d.fc % 4).toNat < 4:=by rw [UInt8.toNat_mod]; exact Nat.mod_lt _ (by decide)
  have hL:(d.fh % 3).toNat < 3:=by rw [UInt8.toNat_mod]; exact Nat.mod_lt _ (by decide)
  have hW:(d.fo % 2).toNat < 2:=by rw [UInt8.toNat_mod]; exact Nat.mod_lt _ (by decide)
  have hh:=loop_ok (B:=wardmoteref22_Draft_Roll_l3 FU (m:Int) d) (fun s:Int × List TUnit=>13 - s.1.toNat) (fun s=>0 ≤ s.1∧s.1 ≤ m∧(s.2.length:Int) = s.1∧∀ u ∈ s.2,Du u)
    (fun us=>us.length = m∧∀ u ∈ us,Du u) ?_ FU (0,[]) ⟨by simp,by simp,by simp,fun u h=>by cases h⟩ (by simp only; omega)
  · obtain ⟨us,e,u1,u2⟩:=hh
    have hs:=loop_ok (B:=wardmoteref22_Draft_Roll_l2 FU d) (fun s:Nat × List TUnit=>2 - s.1) (fun s=>s.1 ≤ (d.fo % 2).toNat∧s.2.length = m + s.1∧∀ u ∈ s.2,Du u)
      (fun all=>all.length ≤ m + 1∧∀ u ∈ all,Du u) ?_ FU (0,us) ⟨by simp,u1,u2⟩ (by simp only; omega)
    · obtain ⟨all,e2,ha,hd⟩:=hs
      refine ⟨⟨(d.fe % 3).toNat,(d.fc % 4).toNat,(d.fh % 3).toNat,all⟩,?_,⟨by simp only; omega,fun u hu=>(hd u hu).1,fun u hu=>(hd u hu).2.1,fun u hu=>(hd u hu).2.2⟩,rfl⟩
      unfold wardmoteref22_Draft_Roll_p
      rw [e,obind,e2,obind]
    · rintro ⟨i,xs⟩ J ⟨a1,a2,a3⟩ hJ
      simp only at a1 a2 a3 hJ
      unfold wardmoteref22_Draft_Roll_l2
      simp only
      split
      · rename_i hi
        rw [mk_ok _ _ (by omega),obind,mk_ok _ _ (by omega),obind,mk_ok _ _ (by omega),obind,appS _ _ (by simp only [List.length_cons,List.length_nil]; omega),obind]
        refine hJ _ ⟨by simp only; omega,by simp only [List.length_append,List.length_cons,List.length_nil]; omega,fun u hu=>?_⟩ (by simp only; omega)
        rcases List.mem_append.1 hu with hu | hu
        · exact a3 u hu
        · rw [List.mem_singleton.1 hu]
          refine ⟨⟨List.mem_cons_self ..,?_,?_,?_⟩,⟨?_,?_⟩,fun x hx=>?_⟩
          · simp only [List.length_replicate]; omega
          · simp only [List.length_replicate]; omega
          · simp only [List.length_replicate]; omega
          · simp only [List.length_replicate]; omega
          · simp only [List.length_replicate]; omega
          · rw [List.eq_of_mem_replicate hx]; omega
      · exact ⟨_,rfl,by omega,a3⟩
  · rintro ⟨z,xs⟩ J ⟨a1,a2,a3,a4⟩ hJ
    simp only at a1 a2 a3 a4 hJ
    unfold wardmoteref22_Draft_Roll_l3
    simp only
    split
    · rename_i hz
      obtain ⟨i,rfl⟩:∃ i:Nat,z = i:=⟨z.toNat,by omega⟩
      have t1:Int.tmod (i:Int) 26 = i:=by rw [Int.tmod_eq_emod_of_nonneg (by omega)]; omega
      have t2:Int.tdiv (i:Int) 26 = 0:=by rw [Int.tdiv_eq_ediv_of_nonneg (by omega)]; omega
      obtain ⟨y,e,y0,y1⟩:=num_ok FU d (9 * (i:Int)) (by omega)
      obtain ⟨g,eg,g1,g2⟩:=dlist_ok FU d ((d.fe % 3).toNat:Nat) (9 * (i:Int) + 1) y (by omega) (by omega) (by omega) (by omega) y0 (by omega)
      obtain ⟨v,ev,v1,v2⟩:=dlist_ok FU d ((d.fc % 4).toNat:Nat) (9 * (i:Int) + 3) 255 (by omega) (by omega) (by omega) (by omega) (by omega) (by omega)
      obtain ⟨q,eq,q1,q2⟩:=parents2 d (i:Int) (by omega) (by omega)
      rw [remI_ok (by decide),obind,t1,chkI (by omega) (by omega),obind]
      unfold quoI
      rw [if_neg (by decide),t2,chkI (by omega) (by omega),obind,remI_ok (by decide),obind,show Int.tmod 0 26 = 0 from rfl,chkI (by omega) (by omega),obind,chkI (by omega) (by omega),obind,e,obind,name12 i (by omega)]
      simp only [obind]
      rw [chkI (by omega) (by omega)]
      simp only [obind,eg]
      rw [chkI (by omega) (by omega)]
      simp only [obind,ev,eq]
      rw [appS _ _ (by simp only [List.length_cons,List.length_nil]; omega)]
      simp only [obind]
      try rw [chkI (by omega) (by omega),obind]
      refine hJ _ ⟨by simp only; omega,by simp only; omega,by simp only [List.length_append,List.length_cons,List.length_nil]; omega,fun u hu=>?_⟩ (by simp only; omega)
      rcases List.mem_append.1 hu with hu | hu
      · exact a4 u hu
      · rw [List.mem_singleton.1 hu]
        exact ⟨⟨nm_ns (by omega),by simp only; omega,by simp only; omega,by simp only; omega⟩,⟨by simp only; omega,by simp only; omega⟩,q2⟩
    · exact ⟨_,rfl,by omega,a4⟩
theorem fullD (d:TDraft26) (m:Nat) (h2:m ≤ 12):∃ r,wardmoteref22_Draft_Full_p FU d m = some r∧D0 r∧r.fh = 2:=by
  obtain ⟨r,e,h,hl⟩:=draft_ok ⟨2,3,2,d.fo,d.fF⟩ m h2
  refine ⟨r,?_,h,hl⟩
  unfold wardmoteref22_Draft_Full_p
  rw [e,obind]
theorem bendAt (a n:Nat) (hn:0 < n):∃ j:Nat,j < n∧remI (a:Int) (n:Int) = some (j:Int):=by
  refine ⟨a % n,Nat.mod_lt _ hn,?_⟩
  rw [remI_ok (by omega),Int.tmod_eq_emod_of_nonneg (by omega)]
  rfl
theorem idxN {α:Type} {xs:List α} {j:Nat} (h:j < xs.length):idx xs (j:Int) = some xs[j]:=idx_ok (i:=(j:Int)) (by omega) h
theorem bend_ok (b:TBend) {r:TRoll} (h0:D0 r) (hl:r.fh = 2):∃ r', wardmoteref22_Bend_Of_p FU b r = some r' ∧Dr r' :=by
  have h:=h0.dr
  have hn:=h.n
  unfold wardmoteref22_Bend_Of_p
  rw [appS _ _ (by simp only [List.length_nil]; omega),obind,List.nil_append]
  by_cases hz:r.fm.length = 0
  · rw [if_pos hz]
    exact ⟨_,rfl,h⟩
  obtain ⟨j,hj,e⟩:=bendAt b.fAt.toNat r.fm.length (by omega)
  have hm:=List.getElem_mem hj
  have hs:=h.s _ hm
  have hk:=h0.k _ hm
  have hq:=h0.q _ hm
  rw [if_neg hz,e,obind,idxN hj,obind,Int.toNat_natCast]
  by_cases c0:(b.fB % (7:UInt8)).toNat = 0
  · rw [if_pos c0,put_ok _ hj,obind]
    exact ⟨_,rfl,h.set j ⟨hs.n,hs.g,hs.v,hs.q⟩ (.inl hq)⟩
  rw [if_neg c0]
  by_cases c1:(b.fB % (7:UInt8)).toNat = 1
  · rw [if_pos c1,appS _ _ (by simp only [List.length_cons,List.length_nil]; omega),obind,put_ok _ hj,obind]
    exact ⟨_,rfl,h.set j ⟨hs.n,hs.g,by simp only [List.length_append,List.length_cons,List.length_nil]; omega,hs.q⟩ (.inl hq)⟩
  rw [if_neg c1]
  by_cases c2:(b.fB % (7:UInt8)).toNat = 2
  · rw [if_pos c2,appS _ _ (by simp only [List.length_nil]; omega),obind,List.nil_append,appS _ _ (by simp only [List.length_cons,List.length_nil]; omega),obind,put_ok _ hj,obind]
    exact ⟨_,rfl,h.set j ⟨hs.n,by simp only [List.length_append,List.length_cons,List.length_nil]; omega,hs.v,hs.q⟩ (.inl hq)⟩
  rw [if_neg c2]
  by_cases c3:(b.fB % (7:UInt8)).toNat = 3
  · rw [if_pos c3,put_ok _ hj,obind]
    exact ⟨_,rfl,h.set j ⟨hs.n,hs.g,hs.v,hs.q⟩ (.inl hq)⟩
  rw [if_neg c3]
  by_cases c4:(b.fB % (7:UInt8)).toNat = 4
  · have h00:0 < r.fm.length:=by omega
    rw [if_pos c4,List.getElem?_eq_getElem h00,obind,put_ok _ hj,obind]
    exact ⟨_,rfl,h.set j ⟨(h.s _ (List.getElem_mem h00)).n,hs.g,hs.v,hs.q⟩ (.inl hq)⟩
  rw [if_neg c4]
  by_cases c5:(b.fB % (7:UInt8)).toNat = 5
  · rw [if_pos c5]
    exact ⟨_,rfl,hn,h.s,fun u hu=>.inl (h0.q u hu)⟩
  rw [if_neg c5,put_ok _ hj,obind]
  exact ⟨_,rfl,h.set j ⟨hs.n,hs.g,hs.v,by simp only [List.length_cons,List.length_nil]; omega⟩ (.inr (by simp only [List.length_cons,List.length_nil]; omega))⟩
/-! ### Program and reference, for any level -/
theorem lvl {r:TRoll} (h:Dr r) (a:Int):(∃ us,∃ n:Nat,LV r us∧a = n∧(n:Int) < r.fh) ∨ ∃ e,e ≠ 0∧wardmoteref23_levelled_p FU r a = some e∧split_seen_p FU r a = some (⟨⟨0,0,0,[]⟩,0⟩,e):=by
  unfold wardmoteref23_levelled_p split_seen_p
  rw [checkroll_eq r h.s,checkrollR_eq r h.s,obind,obind]
  by_cases hv:RV r
  · obtain ⟨us,hL⟩:=h.lv hv
    rw [if_pos hv,if_pos rfl,if_pos rfl]
    by_cases h0:a < 0
    · rw [if_pos h0,if_pos h0]
      exact .inr ⟨2,by decide,rfl,rfl⟩
    · rw [if_neg h0,if_neg h0]
      by_cases h1:r.fh ≤ a
      · rw [if_pos h1,if_pos h1]
        exact .inr ⟨2,by decide,rfl,rfl⟩
      · exact .inl ⟨us,a.toNat,hL,by omega,by omega⟩
  · rw [if_neg hv,if_neg (by decide),if_neg (by decide)]
    exact .inr ⟨161,by decide,rfl,rfl⟩
section
variable {r:TRoll} (h:Dr r)
include h
theorem parentsB (a:Int):∃ y,split_Parents_p FU r a = some y∧wardmoteref23_Parents_p FU r a = some y∧y.1.length ≤ 1000:=by
  rcases lvl h a with ⟨us,n,hL,rfl,hn⟩ | ⟨e,e0,e1,e2⟩
  · have hl:=ks_len (dat us n [])
    exact ⟨_,parents_res (hL.lr hn),by rw [parentsR hL hn,parents_res (hL.lr hn)],by simp only; omega⟩
  · unfold split_Parents_p wardmoteref23_Parents_p
    rw [e1,e2,obind,obind,if_neg e0,if_neg e0]
    exact ⟨_,rfl,rfl,by simp⟩
theorem peopleB (a:Int):∃ y,split_People_p FU r a = some y∧wardmoteref23_People_p FU r a = some y∧y.1.length ≤ 1000:=by
  rcases lvl h a with ⟨us,n,hL,rfl,hn⟩ | ⟨e,e0,e1,e2⟩
  · have hl:=ks_len (dat us n [])
    exact ⟨_,people_res (hL.lr hn),by rw [peopleR hL hn,people_res (hL.lr hn)],by simp only [List.length_map]; omega⟩
  · unfold split_People_p wardmoteref23_People_p
    rw [e1,e2,obind,obind,if_neg e0,if_neg e0]
    exact ⟨_,rfl,rfl,by simp⟩
theorem forcedB (a z:Int):∃ y,split_Forced_p FU r a z = some y∧wardmoteref23_Forced_p FU r a z = some y∧y.1.length ≤ 1000:=by
  rcases lvl h a with ⟨us,n,hL,rfl,hn⟩ | ⟨e,e0,e1,e2⟩
  · have hl:=ks_len (dat us n [])
    refine ⟨_,forced_res (hL.lr hn) z,by rw [forcedR hL hn,forced_res (hL.lr hn)],?_⟩
    exact Nat.le_trans (List.length_filter_le ..) (by omega)
  · unfold split_Forced_p wardmoteref23_Forced_p
    rw [e1,e2,obind,obind,if_neg e0,if_neg e0]
    exact ⟨_,rfl,rfl,by simp⟩
theorem nestedB (a b:Int):∃ y,split_Nested_p FU r a b = some y∧wardmoteref23_Nested_p FU r a b = some y:=by
  rcases lvl h a with ⟨us,n,hL,rfl,hn⟩ | ⟨e,e0,e1,e2⟩
  · rcases lvl h b with ⟨us', m,hL', rfl,hm⟩ | ⟨e,e0,e1,e2⟩
    · obtain ⟨q,eq,_⟩:=nested_ok (hL.lr hn) (hL.lr hm)
      exact ⟨_,eq,by rw [nestedR hL hn hm,eq]⟩
    · have hs:split_seen_p FU r n = some (⟨r,n⟩,0):=by
        unfold split_seen_p
        rw [checkroll_eq r h.s,obind,if_pos hL.v,if_pos rfl,if_neg (by omega),if_neg (by omega)]
      unfold split_Nested_p wardmoteref23_Nested_p jn
      rw [levelled_ok hL hn,hs]
      simp only [obind]
      rw [if_pos trivial,if_pos trivial,e1,e2]
      simp only [obind]
      rw [if_neg e0,if_neg e0]
      exact ⟨_,rfl,rfl⟩
  · unfold split_Nested_p wardmoteref23_Nested_p jn
    rw [e1,e2]
    simp only [obind]
    rw [if_neg e0,if_neg e0,if_neg e0]
    exact ⟨_,rfl,rfl⟩
/-! ### SplitLevels -/
theorem levels1 (a5:UInt16) (a4 a3:Int):loopF (wardmotelaw23_SplitLevels_l1 FU a5 a4 a3 r) FU 0 = some (.inr ()):=by
  have hF:=FU_lt
  have hh:=loop_ok (B:=wardmotelaw23_SplitLevels_l1 FU a5 a4 a3 r) (fun i:Nat=>3 - i) (fun _=>True) (fun y=>y = .inr ()) ?_ FU 0 trivial (by omega)
  · obtain ⟨y,e,rfl⟩:=hh; exact e
  · intro i J _ hJ
    unfold wardmotelaw23_SplitLevels_l1 jn
    simp only
    by_cases hi:i < 3
    · rw [if_pos hi,List.getElem?_eq_getElem (by simpa using hi),obind]
      generalize ([((0:Int),((a5.toNat:Nat):Int)),((1:Int),a4),(a3,(0:Int))]:List (Int × Int))[i] = z
      obtain ⟨y1,e1,f1,l1⟩:=parentsB h z.1
      obtain ⟨y2,e2,f2,l2⟩:=peopleB h z.1
      obtain ⟨y3,e3,f3,l3⟩:=forcedB h z.1 z.2
      obtain ⟨y4,e4,f4⟩:=nestedB h z.1 1
      rw [e1,obind,f1,obind,e2,obind,f2,obind,e3,obind,f3,obind,e4,obind,f4,obind,equal_ok _ _ l1,obind,if_pos (decide_eq_true rfl),if_pos rfl,equal_ok _ _ l2,obind,if_pos (decide_eq_true rfl),if_pos rfl,equal_ok _ _ l3,obind,if_pos (decide_eq_true rfl),if_pos rfl,if_pos (beq_self_eq_true _),if_neg (by simp)]
      exact hJ (i + 1) trivial (by omega)
    · rw [if_neg hi]; exact ⟨_,rfl,rfl⟩
end
theorem splitLevels_ok (a0:UInt8) (a1:TDraft26) (a2:TBend) (a3 a4:Int) (a5:UInt16):wardmotelaw23_SplitLevels_p FU a0 a1 a2 a3 a4 a5 = some true:=by
  have hF:=FU_lt
  have hm:(a0 % (12:UInt8)).toNat < 12:=by rw [UInt8.toNat_mod]; exact Nat.mod_lt _ (by decide)
  obtain ⟨r1,e1,h1,g1⟩:=fullD a1 (1 + (a0 % (12:UInt8)).toNat) (by omega)
  obtain ⟨r2,e2,h2,_⟩:=draft_ok a1 3 (by omega)
  obtain ⟨r3,e3,h3⟩:=bend_ok a2 h1 g1
  unfold wardmotelaw23_SplitLevels_p
  rw [works23,obind,if_pos rfl,e1,obind,show (3:Int) = ((3:Nat):Int) from rfl,e2,obind,e3,obind]
  have hh:=loop_ok (B:=wardmotelaw23_SplitLevels_l2 FU r1 r2 r3 a5 a4 a3) (fun i:Nat=>4 - i) (fun _=>True) (fun y=>y = .inr ()) ?_ FU 0 trivial (by omega)
  · obtain ⟨y,e,rfl⟩:=hh
    rw [e]; rfl
  · intro i J _ hJ
    unfold wardmotelaw23_SplitLevels_l2
    simp only
    by_cases hi:i < 4
    · rw [if_pos hi,List.getElem?_eq_getElem (by simpa using hi),obind]
      have hr:Dr (([r1,r2,r3,(⟨(0:Int),(0:Int),(0:Int),([]:List TUnit)⟩:TRoll)]:List TRoll)[i]):=by
        have hx:=List.getElem_mem (l:=([r1,r2,r3,(⟨(0:Int),(0:Int),(0:Int),([]:List TUnit)⟩:TRoll)]:List TRoll)) (n:=i) (by simpa using hi)
        generalize ([r1,r2,r3,(⟨(0:Int),(0:Int),(0:Int),([]:List TUnit)⟩:TRoll)]:List TRoll)[i] = x at *
        simp only [List.mem_cons,List.not_mem_nil,or_false] at hx
        rcases hx with rfl | rfl | rfl | rfl
        · exact h1.dr
        · exact h2.dr
        · exact h3
        · exact dr_nil
      generalize ([r1,r2,r3,(⟨(0:Int),(0:Int),(0:Int),([]:List TUnit)⟩:TRoll)]:List TRoll)[i] = x at *
      obtain ⟨y4,e4,f4⟩:=nestedB hr 0 a3
      rw [levels1 hr,thnR,e4,obind,f4,obind,if_pos (beq_self_eq_true _),if_pos rfl]
      exact hJ (i + 1) trivial (by omega)
    · rw [if_neg hi]; exact ⟨_,rfl,rfl⟩
theorem splitLevels_ex (a0:UInt8) (a1:TDraft26) (a2:TBend) (a3 a4:Int) (a5:UInt16):∃ n,wardmotelaw23_SplitLevels_p n a0 a1 a2 a3 a4 a5 = some true:=⟨FU,splitLevels_ok a0 a1 a2 a3 a4 a5⟩
/-! ### SplitPieces -/
section
variable {r:TRoll} (h:Dr r)
include h
end
end Go.Proofs.YtfncplndfpgngaaGreatDoor
