/- Plain laws: both checks of a roll say the same, whatever its numbers are. No program in sight but the printed functions. -/
import Derived.Test.YtfncplndfpgngaaGreatDoorTHSc
namespace Go.Proofs.YtfncplndfpgngaaGreatDoor
open Go
set_option maxRecDepth 8000
theorem every_eq (l:List Bool) (hn:l.length ≤ 1000):units_every_p FU l = some (decide (∀ b ∈ l,b = true)):=by
  have hF:=FU_lt
  by_cases h:∀ b ∈ l,b = true
  · rw [decide_eq_true h]; exact every_ok FU l h (by omega)
  · rw [decide_eq_false h]
    have hh:=loop_ok (B:=slices_Index_bool_bool_l1 FU l false) (fun i:Nat=>l.length - i) (fun i=>i ≤ l.length∧∀ b ∈ l.take i,b = true) (fun r=>∃ j:Nat,r = .inl (j:Int)) ?_ FU 0 ⟨Nat.zero_le _,by simp⟩ (by omega)
    · obtain ⟨r,e,j,rfl⟩:=hh
      unfold units_every_p slices_Contains_bool_bool_p slices_Index_bool_bool_p
      rw [e]
      show (((some (j:Int)).bind fun y1=>some (decide (0 ≤ y1))).bind fun y1=>some (!y1)) = some false
      rw [obind,obind,decide_eq_true (by omega)]; rfl
    · rintro i J ⟨hi,h2⟩ hJ
      unfold slices_Index_bool_bool_l1
      simp only
      split
      · rename_i h0
        rw [List.getElem?_eq_getElem h0,obind]
        rcases hb:l[i] with _ | _
        · rw [if_pos (by decide)]; exact ⟨_,rfl,i,rfl⟩
        · rw [if_neg (by decide)]
          refine hJ (i + 1) ⟨h0,fun b hb2=>?_⟩ (by omega)
          rw [List.take_succ_eq_append_getElem h0,List.mem_append,List.mem_singleton,hb] at hb2
          exact hb2.elim (h2 b) id
      · rw [List.take_of_length_le (by omega)] at h2
        exact absurd h2 h
def Wi (l:List Int) (a most:Int):Prop:=(l.length:Int) = a∧∀ x ∈ l,0 ≤ x∧x ≤ most
instance (l:List Int) (a most:Int):Decidable (Wi l a most):=by unfold Wi; infer_instance
theorem within_eq (l:List Int) (a most:Int) (hn:l.length ≤ 1000):units_within_p FU l a most = some (decide (Wi l a most)):=by
  have hF:=FU_lt
  unfold units_within_p
  by_cases hl:(l.length:Int) = a
  · rw [if_pos hl]
    have hh:=loop_ok (B:=units_within_l1 FU l most) (fun i:Nat=>l.length - i) (fun i=>i ≤ l.length∧∀ x ∈ l.take i,0 ≤ x∧x ≤ most) (fun r=>r = .inr ()∧Wi l a most ∨ r = .inl false∧¬ Wi l a most) ?_ FU 0 ⟨Nat.zero_le _,by simp⟩ (by omega)
    · obtain ⟨r,e,hr⟩:=hh
      rw [e]
      rcases hr with ⟨rfl,hr⟩ | ⟨rfl,hr⟩
      · rw [decide_eq_true hr]; rfl
      · rw [decide_eq_false hr]; rfl
    · rintro i J ⟨hi,h2⟩ hJ
      unfold units_within_l1 units_within_1_p
      simp only
      split
      · rename_i h0
        rw [List.getElem?_eq_getElem h0,obind]
        by_cases h3:0 ≤ l[i]∧l[i] ≤ most
        · rw [if_neg (by omega),obind,decide_eq_false (by omega),if_neg (by decide)]
          refine hJ (i + 1) ⟨h0,fun x hx=>?_⟩ (by omega)
          rw [List.take_succ_eq_append_getElem h0,List.mem_append,List.mem_singleton] at hx
          rcases hx with hx | rfl
          · exact h2 x hx
          · exact h3
        · have hbad:¬ Wi l a most:=fun h=>h3 (h.2 _ (List.getElem_mem _))
          by_cases h4:l[i] < 0
          · rw [if_pos h4,obind,if_pos rfl,decide_eq_true (Nat.zero_le _)]
            exact ⟨_,rfl,.inr ⟨rfl,hbad⟩⟩
          · rw [if_neg h4,obind,decide_eq_true (by omega),if_pos rfl,decide_eq_true (Nat.zero_le _)]
            exact ⟨_,rfl,.inr ⟨rfl,hbad⟩⟩
      · rw [List.take_of_length_le (by omega)] at h2
        exact ⟨_,rfl,.inl ⟨rfl,hl,h2⟩⟩
  · rw [if_neg hl,decide_eq_false fun h=>hl h.1]
theorem withinR_eq (l:List Int) (a most:Int) (hn:l.length ≤ 1000):wardmoteref16_within_p FU l a most = some (decide (Wi l a most)):=by
  have hF:=FU_lt
  have hh:=loop_ok (B:=wardmoteref16_within_l1 FU l most) (fun i:Nat=>l.length - i) (fun i=>i ≤ l.length∧∀ x ∈ l.take i,0 ≤ x∧x ≤ most) (fun r=>r = .inr ()∧(∀ x ∈ l,0 ≤ x∧x ≤ most) ∨ r = .inl false∧¬ ∀ x ∈ l,0 ≤ x∧x ≤ most) ?_ FU 0 ⟨Nat.zero_le _,by simp⟩ (by omega)
  · obtain ⟨r,e,hr⟩:=hh
    unfold wardmoteref16_within_p
    rw [e]
    rcases hr with ⟨rfl,hr⟩ | ⟨rfl,hr⟩
    · exact congrArg some (decide_eq_decide.2 ⟨fun h=>⟨h,hr⟩,fun h=>h.1⟩)
    · rw [decide_eq_false fun h:Wi l a most=>hr h.2]; rfl
  · rintro i J ⟨hi,h2⟩ hJ
    unfold wardmoteref16_within_l1
    simp only
    split
    · rename_i h0
      rw [List.getElem?_eq_getElem h0,obind]
      by_cases h3:0 ≤ l[i]∧l[i] ≤ most
      · rw [if_neg (by omega),if_neg (by omega)]
        refine hJ (i + 1) ⟨h0,fun x hx=>?_⟩ (by omega)
        rw [List.take_succ_eq_append_getElem h0,List.mem_append,List.mem_singleton] at hx
        rcases hx with hx | rfl
        · exact h2 x hx
        · exact h3
      · have hbad:¬ ∀ x ∈ l,0 ≤ x∧x ≤ most:=fun h=>h3 (h _ (List.getElem_mem _))
        by_cases h4:l[i] < 0
        · rw [if_pos h4]; exact ⟨_,rfl,.inr ⟨rfl,hbad⟩⟩
        · rw [if_neg h4,if_pos (by omega)]; exact ⟨_,rfl,.inr ⟨rfl,hbad⟩⟩
    · rw [List.take_of_length_le (by omega)] at h2
      exact ⟨_,rfl,.inl ⟨rfl,h2⟩⟩
def NS:List ByteArray:=⟨#[115,101,97]⟩ :: (List.range 13).map nm
@[reducible] def ltrs:ByteArray:=⟨#[65,66,67,68,69,70,71,72,73,74,75,76,77,78,79,80,81,82,83,84,85,86,87,88,89,90,97,98,99,100,101,102,103,104,105,106,107,108,109,110,111,112,113,114,115,116,117,118,119,120,121,122,48,49,50,51,52,53,54,55,56,57,45,95]⟩
theorem ns_all:NS.all (fun b=>decide (strings_Trim_p FU b ltrs = some ⟨#[]⟩) && decide (wardmoteref16_named_p FU b = some true) && !decide (b = ⟨#[]⟩) && decide (b.size ≤ 12)) = true:=by kernel_rfl
theorem ns_ok {b:ByteArray} (h:b ∈ NS):strings_Trim_p FU b ltrs = some ⟨#[]⟩∧wardmoteref16_named_p FU b = some true∧¬ b = ⟨#[]⟩∧b.size ≤ 12:=by
  have:=List.all_eq_true.1 ns_all b h
  simpa [Bool.and_eq_true,and_assoc] using this
def UV (r:TRoll) (u:TUnit):Prop:=0 ≤ u.fp∧u.fp ≤ (if u.fo = true then 0 else 1000000000)∧Wi u.fe r.fe u.fp∧Wi u.fC r.fc (if u.fo = true then 0 else 1000000000)∧Wi u.fw r.fh (if u.fo = true then 0 else 63)
instance (r:TRoll) (u:TUnit):Decidable (UV r u):=by unfold UV; infer_instance
structure Sm4 (u:TUnit):Prop where
  n:u.ft ∈ NS
  g:u.fe.length ≤ 1000
  v:u.fC.length ≤ 1000
  q:u.fw.length ≤ 1000
theorem right_eq (r:TRoll) (u:TUnit) (h:Sm4 u):units_right_p FU r u = some (decide (UV r u)):=by
  obtain ⟨n1,_,n3,n4⟩:=ns_ok h.n
  have key:∀ (V P:Nat),V = (if u.fo = true then 0 else 1000000000) → P = (if u.fo = true then 0 else 63) → ((strings_Trim_p FU u.ft ltrs).bind fun y30=>(units_within_p FU u.fe r.fe u.fp).bind fun y31=>(units_within_p FU u.fC r.fc ((V:Nat):Int)).bind fun y32=>(units_within_p FU u.fw r.fh ((P:Nat):Int)).bind fun y33=>(units_every_p FU ([(!(decide (u.ft = ⟨#[]⟩))),(decide (u.ft.size ≤ 12)),(decide (y30 = ⟨#[]⟩)),(decide (0 ≤ u.fp)),(decide (u.fp ≤ ((V:Nat):Int))),y31,y32,y33]:List Bool)).bind fun y40=>some y40) = some (decide (UV r u)):=by
    intro V P hV hP
    rw [n1,obind,within_eq _ _ _ h.g,obind,within_eq _ _ _ h.v,obind,within_eq _ _ _ h.q,obind,every_eq _ (by simp),obind]
    refine congrArg some (decide_eq_decide.2 ?_)
    have eV:((V:Nat):Int) = (if u.fo = true then 0 else 1000000000):=by rw [hV]; split <;> rfl
    have eP:((P:Nat):Int) = (if u.fo = true then 0 else 63):=by rw [hP]; split <;> rfl
    rw [eV,eP]
    unfold UV
    simp only [List.mem_cons,List.not_mem_nil,or_false,forall_eq_or_imp,forall_eq,Bool.not_eq_true', decide_eq_false_iff_not,decide_eq_true_eq]
    constructor
    · rintro ⟨_,_,_,a,b,c,d,e⟩; exact ⟨a,b,c,d,e⟩
    · rintro ⟨a,b,c,d,e⟩; exact ⟨n3,n4,trivial,a,b,c,d,e⟩
  unfold units_right_p jn
  simp only
  by_cases hw:u.fo = true
  · rw [if_pos hw]; exact key 0 0 (by rw [if_pos hw]) (by rw [if_pos hw])
  · rw [if_neg hw]; exact key 1000000000 63 (by rw [if_neg hw]) (by rw [if_neg hw])
theorem rightR_eq (r:TRoll) (u:TUnit) (h:Sm4 u):wardmoteref16_right_p FU r u = some (decide (UV r u)):=by
  obtain ⟨_,n2,_,_⟩:=ns_ok h.n
  unfold wardmoteref16_right_p
  rw [n2,obind,if_pos rfl]
  by_cases h1:u.fp < 0
  · rw [if_pos h1,decide_eq_false fun h=>absurd h.1 (by omega)]
  · rw [if_neg h1]
    by_cases h2:1000000000 < u.fp
    · rw [if_pos h2,decide_eq_false fun h=>by have:=h.2.1; split at this <;> omega]
    · rw [if_neg h2,withinR_eq _ _ _ h.g,obind]
      by_cases h3:Wi u.fe r.fe u.fp
      · rw [if_pos (decide_eq_true h3),withinR_eq _ _ _ h.v,obind]
        by_cases h4:Wi u.fC r.fc 1000000000
        · rw [if_pos (decide_eq_true h4),withinR_eq _ _ _ h.q,obind]
          by_cases h5:Wi u.fw r.fh 63
          · rw [if_pos (decide_eq_true h5)]
            by_cases hw:u.fo = true
            · rw [if_pos hw]
              by_cases h6:u.fp = 0
              · rw [if_pos h6,withinR_eq _ _ _ h.v,obind]
                by_cases h7:Wi u.fC r.fc 0
                · rw [if_pos (decide_eq_true h7),withinR_eq _ _ _ h.q,obind]
                  refine congrArg some (decide_eq_decide.2 ?_)
                  unfold UV
                  simp only [if_pos hw]
                  exact ⟨fun h8=>⟨by omega,by omega,h3,h7,h8⟩,fun h=>h.2.2.2.2⟩
                · rw [if_neg (by simpa using h7),decide_eq_false fun h=>h7 (by have:=h.2.2.2.1; rwa [if_pos hw] at this)]
              · rw [if_neg h6,decide_eq_false fun h=>h6 (by have h8:=h.2.1; have:=h.1; rw [if_pos hw] at h8; omega)]
            · rw [if_neg hw,decide_eq_true ⟨by omega,by rw [if_neg hw]; omega,h3,by rw [if_neg hw]; exact h4,by rw [if_neg hw]; exact h5⟩]
          · rw [if_neg (by simpa using h5),decide_eq_false fun h=>h5 ⟨h.2.2.2.2.1,fun x hx=>by have:=h.2.2.2.2.2 x hx; split at this <;> omega⟩]
        · rw [if_neg (by simpa using h4),decide_eq_false fun h=>h4 ⟨h.2.2.2.1.1,fun x hx=>by have:=h.2.2.2.1.2 x hx; split at this <;> omega⟩]
      · rw [if_neg (by simpa using h3),decide_eq_false fun h=>h3 h.2.2.1]
structure RV (r:TRoll):Prop where
  g:0 ≤ r.fe∧r.fe ≤ 6
  p:0 ≤ r.fc∧r.fc ≤ 12
  l:0 ≤ r.fh∧r.fh ≤ 3
  n:1 ≤ r.fm.length∧r.fm.length ≤ 64
  u:∀ i (h:i < r.fm.length),UV r r.fm[i]
  nm:∀ i (h:i < r.fm.length) j (h' : j < i),r.fm[j].ft ≠ r.fm[i].ft
  w:∀ i (h:i < r.fm.length) j (h' : j < i),r.fm[j].fo = true → r.fm[i].fo = true
  z:∀ h:0 < r.fm.length,r.fm[0].fo = false
open Classical in
theorem checkroll_eq (r:TRoll) (h:∀ u ∈ r.fm,Sm4 u):units_CheckRoll_p FU r = some (if RV r then 0 else 161):=by
  have hF:=FU_lt
  unfold units_CheckRoll_p
  rw [every_eq _ (by simp),obind]
  by_cases h0:((0 ≤ r.fe∧r.fe ≤ 6)∧(0 ≤ r.fc∧r.fc ≤ 12)∧(0 ≤ r.fh∧r.fh ≤ 3)∧1 ≤ r.fm.length∧r.fm.length ≤ 64)
  · rw [if_pos]
    · have hh:=loop_ok (B:=units_CheckRoll_l1 FU r) (fun s:Bool × Nat × List (ByteArray × Bool)=>r.fm.length - s.2.1)
        (fun s=>s.2.1 ≤ r.fm.length∧(s.2.1 = 0 → s.1 = false)∧(∀ h:0 < s.2.1,∀ h' : s.2.1 - 1 < r.fm.length,s.1 = r.fm[s.2.1 - 1].fo)∧(∀ x,mgetD s.2.2 x false = true ↔ ∃ j,∃ hj:j < r.fm.length,j < s.2.1∧r.fm[j].ft = x)∧
          (∀ i (h:i < r.fm.length),i < s.2.1 → UV r r.fm[i])∧(∀ i (h:i < r.fm.length) j (h' : j < i),i < s.2.1 → r.fm[j].ft ≠ r.fm[i].ft)∧(∀ i (h:i < r.fm.length) j (h' : j < i),i < s.2.1 → r.fm[j].fo = true → r.fm[i].fo = true)∧(∀ h:0 < r.fm.length,0 < s.2.1 → r.fm[0].fo = false))
        (fun y=>y = .inr ()∧RV r ∨ y = .inl 161∧¬ RV r) ?_ FU (false,0,[]) ⟨Nat.zero_le _,fun _=>rfl,fun h=>absurd h (by simp),fun x=>⟨fun hx=>by simp [mgetD,mget] at hx,fun ⟨j,_,hj,_⟩=>by simp at hj⟩,fun i _ hi=>by simp at hi,fun i _ j _ hi=>by simp at hi,fun i _ j _ hi=>by simp at hi,fun _ hi=>by simp at hi⟩ (by simp only; omega)
      · obtain ⟨y,e,hy⟩:=hh
        rw [e]
        rcases hy with ⟨rfl,hv⟩ | ⟨rfl,hv⟩
        · rw [if_pos hv]; rfl
        · rw [if_neg hv]; rfl
      · rintro ⟨q,i,D⟩ J ⟨a1,a2,a3,a4,a5,a6,a7,a8⟩ hJ
        simp only at a1 a2 a3 a4 a5 a6 a7 a8 hJ
        unfold units_CheckRoll_l1
        simp only
        by_cases hi:i < r.fm.length
        · rw [if_pos hi,List.getElem?_eq_getElem hi,obind,right_eq r _ (h _ (List.getElem_mem _)),obind]
          -- what has to hold of this unit
          have good:UV r r.fm[i] → mgetD D r.fm[i].ft false = false → (q = true → r.fm[i].fo = true) → (i = 0 → r.fm[i].fo = false) → ∃ y,J (r.fm[i].fo,i + 1,mset D r.fm[i].ft true) = some y∧(y = .inr ()∧RV r ∨ y = .inl 161∧¬ RV r):=by
            intro g1 g2 g3 g4
            have gn:∀ j (hj:j < i),r.fm[j].ft ≠ r.fm[i].ft:=fun j hj e=>by
              have:=(a4 r.fm[i].ft).2 ⟨j,by omega,hj,e⟩
              rw [g2] at this; cases this
            have gw:∀ j (hj:j < i),r.fm[j].fo = true → r.fm[i].fo = true:=fun j hj hw=>by
              refine g3 ?_
              rw [a3 (by omega) (by omega)]
              by_cases e:j = i - 1
              · subst e; exact hw
              · exact a7 (i - 1) (by omega) j (by omega) (by omega) hw
            refine hJ _ ⟨hi,fun e=>absurd e (by simp),fun _ h' =>rfl,fun x=>?_,fun k hk hki=>?_,fun k hk j hj hki=>?_,fun k hk j hj hki=>?_,fun hk _=>?_⟩ (by simp only; omega)
            · simp only
              unfold mgetD
              rw [mget_mset]
              have:=a4 x
              unfold mgetD at this
              by_cases e:x = r.fm[i].ft
              · rw [if_pos e]
                exact ⟨fun _=>⟨i,hi,by omega,e.symm⟩,fun _=>rfl⟩
              · rw [if_neg e,this]
                constructor
                · rintro ⟨j,hj,hji,ej⟩; exact ⟨j,hj,by omega,ej⟩
                · rintro ⟨j,hj,hji,ej⟩
                  by_cases e2:j = i
                  · subst e2; exact absurd ej.symm e
                  · exact ⟨j,hj,by omega,ej⟩
            · by_cases e:k = i
              · subst e; exact g1
              · exact a5 k hk (by simp only at hki; omega)
            · by_cases e:k = i
              · subst e; exact gn j hj
              · exact a6 k hk j hj (by simp only at hki; omega)
            · by_cases e:k = i
              · subst e; exact gw j hj
              · exact a7 k hk j hj (by simp only at hki; omega)
            · by_cases e:i = 0
              · subst e; exact g4 rfl
              · exact a8 hk (by omega)
          have bad:(¬ UV r r.fm[i] ∨ mgetD D r.fm[i].ft false = true ∨ (q = true∧r.fm[i].fo = false) ∨ (i = 0∧r.fm[i].fo = true)) → ¬ RV r:=by
            rintro hb hv
            rcases hb with hb | hb | ⟨hb,hb2⟩ | ⟨hb,hb2⟩
            · exact hb (hv.u i hi)
            · obtain ⟨j,hj,hji,e⟩:=(a4 _).1 hb
              exact hv.nm i hi j hji e
            · by_cases e:i = 0
              · rw [a2 e] at hb; cases hb
              · have:=hv.w i hi (i - 1) (by omega) (by rw [← a3 (by omega) (by omega)]; exact hb)
                rw [hb2] at this; cases this
            · subst hb
              have:=hv.z hi
              rw [hb2] at this; cases this
          have fin:∀ l:List Bool,l.length ≤ 1000 → ((∀ b ∈ l,b = true) ↔ (UV r r.fm[i]∧mgetD D r.fm[i].ft false = false∧(q = true → r.fm[i].fo = true)∧(i = 0 → r.fm[i].fo = false))) → ∃ y,((units_every_p FU l).bind fun y=>(if y = true then J (r.fm[i].fo,i + 1,mset D r.fm[i].ft true) else some (.inl (161:Int)))) = some y∧(y = .inr ()∧RV r ∨ y = .inl 161∧¬ RV r):=by
            intro l hl hiff
            rw [every_eq l hl,obind]
            by_cases hq:∀ b ∈ l,b = true
            · rw [if_pos (decide_eq_true hq)]
              obtain ⟨g1,g2,g3,g4⟩:=hiff.1 hq
              exact good g1 g2 g3 g4
            · rw [if_neg (by simpa using hq)]
              refine ⟨_,rfl,.inr ⟨rfl,bad ?_⟩⟩
              refine Classical.byContradiction fun hc=>hq (hiff.2 ?_)
              simp only [not_or,not_and,Bool.not_eq_true,Classical.not_not] at hc
              obtain ⟨c1,c2,c3,c4⟩:=hc
              refine ⟨c1,c2,fun e=>?_,fun e=>?_⟩
              · rcases hww:r.fm[i].fo with _ | _
                · exact absurd hww (by simpa using c3 e)
                · rfl
              · simpa using c4 e
          rcases hw:r.fm[i].fo with _ | _
          · rw [if_neg (by decide)]
            by_cases hp:0 < i
            · rw [if_pos hp]
              have:=fin [decide (UV r r.fm[i]),!(mgetD D r.fm[i].ft false),!q,true] (by simp) (by
                rw [hw]
                simp only [List.mem_cons,List.not_mem_nil,or_false,forall_eq_or_imp,forall_eq,Bool.not_eq_true', decide_eq_true_eq]
                constructor
                · rintro ⟨b1,b2,b3,_⟩; exact ⟨b1,b2,fun e=>(by rw [e] at b3; cases b3),fun _=>trivial⟩
                · rintro ⟨b1,b2,b3,_⟩; exact ⟨b1,b2,by rcases q with _ | _; rfl; exact absurd (b3 rfl) (by decide),trivial⟩)
              rw [hw] at this
              exact this
            · rw [if_neg hp]
              have:=fin [decide (UV r r.fm[i]),!(mgetD D r.fm[i].ft false),!q,!r.fm[i].fo] (by simp) (by
                rw [hw]
                simp only [List.mem_cons,List.not_mem_nil,or_false,forall_eq_or_imp,forall_eq,Bool.not_eq_true', decide_eq_true_eq]
                constructor
                · rintro ⟨b1,b2,b3,_⟩; exact ⟨b1,b2,fun e=>(by rw [e] at b3; cases b3),fun _=>trivial⟩
                · rintro ⟨b1,b2,b3,_⟩; exact ⟨b1,b2,by rcases q with _ | _; rfl; exact absurd (b3 rfl) (by decide),trivial⟩)
              rw [hw] at this
              exact this
          · rw [if_pos rfl]
            by_cases hp:0 < i
            · rw [if_pos hp]
              have:=fin [decide (UV r r.fm[i]),!(mgetD D r.fm[i].ft false),true,true] (by simp) (by
                rw [hw]
                simp only [List.mem_cons,List.not_mem_nil,or_false,forall_eq_or_imp,forall_eq,Bool.not_eq_true', decide_eq_true_eq]
                constructor
                · rintro ⟨b1,b2,_,_⟩; exact ⟨b1,b2,fun _=>trivial,fun e=>by omega⟩
                · rintro ⟨b1,b2,_,_⟩; exact ⟨b1,b2,trivial,trivial⟩)
              rw [hw] at this
              exact this
            · rw [if_neg hp]
              have:=fin [decide (UV r r.fm[i]),!(mgetD D r.fm[i].ft false),true,!r.fm[i].fo] (by simp) (by
                rw [hw]
                simp only [List.mem_cons,List.not_mem_nil,or_false,forall_eq_or_imp,forall_eq,Bool.not_eq_true', decide_eq_true_eq]
                constructor
                · rintro ⟨_,_,_,b4⟩; cases b4
                · rintro ⟨_,_,_,b4⟩; exact absurd (b4 (by omega)) (by decide))
              rw [hw] at this
              exact this
        · rw [if_neg hi]
          refine ⟨_,rfl,.inl ⟨rfl,h0.1,h0.2.1,h0.2.2.1,h0.2.2.2,fun i hi2=>a5 i hi2 (by omega),fun i hi2 j hj=>a6 i hi2 j hj (by omega),fun i hi2 j hj=>a7 i hi2 j hj (by omega),fun hi2=>a8 hi2 (by omega)⟩⟩
    · simp only [List.mem_cons,List.not_mem_nil,or_false,forall_eq_or_imp,forall_eq,decide_eq_true_eq]
      omega
  · rw [if_neg,if_neg fun hv:RV r=>h0 ⟨hv.g,hv.p,hv.l,hv.n⟩]
    simp only [List.mem_cons,List.not_mem_nil,or_false,forall_eq_or_imp,forall_eq,decide_eq_true_eq]
    omega
open Classical in
theorem checkrollR_eq (r:TRoll) (h:∀ u ∈ r.fm,Sm4 u):wardmoteref16_CheckRoll_p FU r = some (if RV r then 0 else 161):=by
  have hF:=FU_lt
  unfold wardmoteref16_CheckRoll_p jn
  simp only [if_true]
  by_cases g1:r.fe < 0
  · rw [if_pos g1,if_neg fun hv:RV r=>by have:=hv.g; omega]
  rw [if_neg g1]
  by_cases g2:6 < r.fe
  · rw [if_pos g2,if_neg fun hv:RV r=>by have:=hv.g; omega]
  rw [if_neg g2]
  by_cases g3:r.fc < 0
  · rw [if_pos g3,if_neg fun hv:RV r=>by have:=hv.p; omega]
  rw [if_neg g3]
  by_cases g4:12 < r.fc
  · rw [if_pos g4,if_neg fun hv:RV r=>by have:=hv.p; omega]
  rw [if_neg g4]
  by_cases g5:r.fh < 0
  · rw [if_pos g5,if_neg fun hv:RV r=>by have:=hv.l; omega]
  rw [if_neg g5]
  by_cases g6:3 < r.fh
  · rw [if_pos (decide_eq_true g6),if_neg fun hv:RV r=>by have:=hv.l; omega]
  rw [if_neg (by simpa using g6)]
  by_cases g7:r.fm.length < 1
  · rw [if_pos g7,if_neg fun hv:RV r=>by have:=hv.n; omega]
  rw [if_neg g7]
  by_cases g8:64 < r.fm.length
  · rw [if_pos g8,if_neg fun hv:RV r=>by have:=hv.n; omega]
  rw [if_neg g8,List.getElem?_eq_getElem (by omega),obind]
  by_cases g9:r.fm[0].fo = true
  · rw [if_pos g9,if_neg fun hv:RV r=>by have:=hv.z (by omega); rw [g9] at this; cases this]
  rw [if_neg g9]
  have hh:=loop_ok (B:=wardmoteref16_CheckRoll_l2 FU r) (fun i:Nat=>r.fm.length - i)
    (fun s=>s ≤ r.fm.length∧(∀ i (h:i < r.fm.length),i < s → UV r r.fm[i])∧(∀ i (h:i < r.fm.length) j (h' : j < i),i < s → r.fm[j].ft ≠ r.fm[i].ft)∧(∀ i (h:i < r.fm.length) j (h' : j < i),i < s → r.fm[j].fo = true → r.fm[i].fo = true))
    (fun y=>y = .inr ()∧RV r ∨ y = .inl 161∧¬ RV r) ?_ FU 0 ⟨Nat.zero_le _,fun i _ hi=>by omega,fun i _ j _ hi=>by omega,fun i _ j _ hi=>by omega⟩ (by omega)
  · obtain ⟨y,e,hy⟩:=hh
    rw [e]
    rcases hy with ⟨rfl,hv⟩ | ⟨rfl,hv⟩
    · rw [if_pos hv]; rfl
    · rw [if_neg hv]; rfl
  · rintro i J ⟨a1,a5,a6,a7⟩ hJ
    unfold wardmoteref16_CheckRoll_l2
    simp only
    by_cases hi:i < r.fm.length
    · rw [if_pos hi,List.getElem?_eq_getElem hi,obind,rightR_eq r _ (h _ (List.getElem_mem _)),obind]
      by_cases hu:UV r r.fm[i]
      · rw [if_pos (decide_eq_true hu)]
        have hin:=loop_ok (B:=wardmoteref16_CheckRoll_l1 FU i r r.fm[i]) (fun j:Nat=>i - j) (fun s=>s ≤ i∧∀ j (hj:j < r.fm.length),j < s → r.fm[j].ft ≠ r.fm[i].ft∧(r.fm[j].fo = true → r.fm[i].fo = true))
          (fun y=>y = .inr ()∧(∀ j (hj:j < r.fm.length),j < i → r.fm[j].ft ≠ r.fm[i].ft∧(r.fm[j].fo = true → r.fm[i].fo = true)) ∨ y = .inl (.inl 161)∧¬ RV r) ?_ FU 0 ⟨Nat.zero_le _,fun j _ hj=>by omega⟩ (by omega)
        · obtain ⟨y,e,hy⟩:=hin
          rw [e]
          rcases hy with ⟨rfl,hy⟩ | ⟨rfl,hy⟩
          · refine hJ (i + 1) ⟨hi,fun k hk hki=>?_,fun k hk j hj hki=>?_,fun k hk j hj hki=>?_⟩ (by omega)
            · by_cases e:k = i
              · subst e; exact hu
              · exact a5 k hk (by omega)
            · by_cases e:k = i
              · subst e; exact (hy j (by omega) hj).1
              · exact a6 k hk j hj (by omega)
            · by_cases e:k = i
              · subst e; exact (hy j (by omega) hj).2
              · exact a7 k hk j hj (by omega)
          · exact ⟨_,rfl,.inr ⟨rfl,hy⟩⟩
        · rintro j J' ⟨b1,b2⟩ hJ'
          unfold wardmoteref16_CheckRoll_l1
          simp only
          by_cases hj:j < i
          · have next:r.fm[j].ft ≠ r.fm[i].ft → (r.fm[j].fo = true → r.fm[i].fo = true) → _:=fun c1 c2=>hJ' (j + 1) ⟨hj,fun k hk hkj=>by
              by_cases e:k = j
              · subst e; exact ⟨c1,c2⟩
              · exact b2 k hk (by omega)⟩ (by omega)
            rw [if_pos hj,List.getElem?_eq_getElem (by omega),obind]
            by_cases c1:r.fm[j].ft = r.fm[i].ft
            · rw [if_pos c1]
              exact ⟨_,rfl,.inr ⟨rfl,fun hv=>hv.nm i hi j hj c1⟩⟩
            · rw [if_neg c1]
              by_cases c2:r.fm[j].fo = true
              · rw [if_pos c2]
                by_cases c3:r.fm[i].fo = true
                · rw [if_pos c3]; exact next c1 fun _=>c3
                · rw [if_neg c3]; exact ⟨_,rfl,.inr ⟨rfl,fun hv=>c3 (hv.w i hi j hj c2)⟩⟩
              · rw [if_neg c2]; exact next c1 fun e=>absurd e c2
          · rw [if_neg hj]
            exact ⟨_,rfl,.inl ⟨rfl,fun k hk hki=>b2 k hk (by omega)⟩⟩
      · rw [if_neg (by simpa using hu)]
        exact ⟨_,rfl,.inr ⟨rfl,fun hv=>hu (hv.u i hi)⟩⟩
    · rw [if_neg hi]
      exact ⟨_,rfl,.inl ⟨rfl,by omega,by omega,by omega,by omega,fun i hi2=>a5 i hi2 (by omega),fun i hi2 j hj=>a6 i hi2 j hj (by omega),fun i hi2 j hj=>a7 i hi2 j hj (by omega),fun hi2=>by simpa using g9⟩⟩
end Go.Proofs.YtfncplndfpgngaaGreatDoor
