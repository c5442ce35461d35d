/- Plain laws: both checks of a roll say the same, whatever its numbers are. No program in sight but the printed functions. -/
import Derived.Test.YtgejkdheojkfiaaGreatDoorPASc
namespace Go.Proofs.YtgejkdheojkfiaaGreatDoor
open Go
set_option maxRecDepth 8000
theorem every_eq (l:List Bool) (hn:l.length <= 1000):bm_p FU l = some (decide (∀ b ∈ l,b = true)):=by
  have hF:=FU_lt
  by_cases h:∀ b ∈ l,b = true
  · rw [decide_eq_true h]; exact every_ok FU l h (by omega)
  · rw [decide_eq_false h]
    have hh:=loop_ok (B:=aA_l1 FU l false) (fun i:Nat=>l.length - i) (fun i=>i <= l.length/\∀ b ∈ l.take i,b = true) (fun r=>∃ j:Nat,r = .inl (j:Int)) ?_ FU 0 ⟨Nat.zero_le _,by simp⟩ (by omega)
    · obtain ⟨r,e,j,rfl⟩:=hh
      unfold bm_p bs_p aA_p
      rw [e]
      show (((some (j:Int)).bind fun y1=>some (decide (0 <= y1))).bind fun y1=>some (!y1)) = some false
      rw [obind,obind,decide_eq_true (by omega)]; rfl
    · rintro i J ⟨hi,h2⟩ hJ
      unfold aA_l1
      simp only
      split
      · rename_i h0
        rw [List.getElem?_eq_getElem h0,obind]
        rcases hb:l[i] with _ | _
        · rw [if_pos (by decide)]; exact ⟨_,rfl,i,rfl⟩
        · rw [if_neg (by decide)]
          refine hJ (i + 1) ⟨h0,fun b hb2=>?_⟩ (by omega)
          rw [List.take_succ_eq_append_getElem h0,List.mem_append,List.mem_singleton,hb] at hb2
          exact hb2.elim (h2 b) id
      · rw [List.take_of_length_le (by omega)] at h2
        exact absurd h2 h
def Wi (l:List Int) (a most:Int):Prop:=(l.length:Int) = a/\∀ x ∈ l,0 <= x/\x <= most
instance (l:List Int) (a most:Int):Decidable (Wi l a most):=by unfold Wi; infer_instance
theorem within_eq (l:List Int) (a most:Int) (hn:l.length <= 1000):bj_p FU l a most = some (decide (Wi l a most)):=by
  have hF:=FU_lt
  unfold bj_p
  by_cases hl:(l.length:Int) = a
  · rw [if_pos hl]
    have hh:=loop_ok (B:=bj_l1 FU l most) (fun i:Nat=>l.length - i) (fun i=>i <= l.length/\∀ x ∈ l.take i,0 <= x/\x <= most) (fun r=>r = .inr ()/\Wi l a most ∨ r = .inl false/\¬ Wi l a most) ?_ FU 0 ⟨Nat.zero_le _,by simp⟩ (by omega)
    · obtain ⟨r,e,hr⟩:=hh
      rw [e]
      rcases hr with ⟨rfl,hr⟩ | ⟨rfl,hr⟩
      · rw [decide_eq_true hr]; rfl
      · rw [decide_eq_false hr]; rfl
    · rintro i J ⟨hi,h2⟩ hJ
      unfold bj_l1 cP_p
      simp only
      split
      · rename_i h0
        rw [List.getElem?_eq_getElem h0,obind]
        by_cases h3:0 <= l[i]/\l[i] <= most
        · rw [if_neg (by omega),obind,decide_eq_false (by omega),if_neg (by decide)]
          refine hJ (i + 1) ⟨h0,fun x hx=>?_⟩ (by omega)
          rw [List.take_succ_eq_append_getElem h0,List.mem_append,List.mem_singleton] at hx
          rcases hx with hx | rfl
          · exact h2 x hx
          · exact h3
        · have hbad:¬ Wi l a most:=fun h=>h3 (h.2 _ (List.getElem_mem _))
          by_cases h4:l[i] < 0
          · rw [if_pos h4,obind,if_pos rfl,decide_eq_true (Nat.zero_le _)]
            exact ⟨_,rfl,.inr ⟨rfl,hbad⟩⟩
          · rw [if_neg h4,obind,decide_eq_true (by omega),if_pos rfl,decide_eq_true (Nat.zero_le _)]
            exact ⟨_,rfl,.inr ⟨rfl,hbad⟩⟩
      · rw [List.take_of_length_le (by omega)] at h2
        exact ⟨_,rfl,.inl ⟨rfl,hl,h2⟩⟩
  · rw [if_neg hl,decide_eq_false fun h=>hl h.1]
theorem withinR_eq (l:List Int) (a most:Int) (hn:l.length <= 1000):al_p FU l a most = some (decide (Wi l a most)):=by
  have hF:=FU_lt
  have hh:=loop_ok (B:=al_l1 FU l most) (fun i:Nat=>l.length - i) (fun i=>i <= l.length/\∀ x ∈ l.take i,0 <= x/\x <= most) (fun r=>r = .inr ()/\(∀ x ∈ l,0 <= x/\x <= most) ∨ r = .inl false/\¬ ∀ x ∈ l,0 <= x/\x <= most) ?_ FU 0 ⟨Nat.zero_le _,by simp⟩ (by omega)
  · obtain ⟨r,e,hr⟩:=hh
    unfold al_p
    rw [e]
    rcases hr with ⟨rfl,hr⟩ | ⟨rfl,hr⟩
    · exact congrArg some (decide_eq_decide.2 ⟨fun h=>⟨h,hr⟩,fun h=>h.1⟩)
    · rw [decide_eq_false fun h:Wi l a most=>hr h.2]; rfl
  · rintro i J ⟨hi,h2⟩ hJ
    unfold al_l1
    simp only
    split
    · rename_i h0
      rw [List.getElem?_eq_getElem h0,obind]
      by_cases h3:0 <= l[i]/\l[i] <= most
      · rw [if_neg (by omega),if_neg (by omega)]
        refine hJ (i + 1) ⟨h0,fun x hx=>?_⟩ (by omega)
        rw [List.take_succ_eq_append_getElem h0,List.mem_append,List.mem_singleton] at hx
        rcases hx with hx | rfl
        · exact h2 x hx
        · exact h3
      · have hbad:¬ ∀ x ∈ l,0 <= x/\x <= most:=fun h=>h3 (h _ (List.getElem_mem _))
        by_cases h4:l[i] < 0
        · rw [if_pos h4]; exact ⟨_,rfl,.inr ⟨rfl,hbad⟩⟩
        · rw [if_neg h4,if_pos (by omega)]; exact ⟨_,rfl,.inr ⟨rfl,hbad⟩⟩
    · rw [List.take_of_length_le (by omega)] at h2
      exact ⟨_,rfl,.inl ⟨rfl,h2⟩⟩
def NS:List ByteArray:=⟨#[115,101,97]⟩ :: (List.range 13).map nm
@[reducible] def ltrs:ByteArray:=⟨#[65,66,67,68,69,70,71,72,73,74,75,76,77,78,79,80,81,82,83,84,85,86,87,88,89,90,97,98,99,100,101,102,103,104,105,106,107,108,109,110,111,112,113,114,115,116,117,118,119,120,121,122,48,49,50,51,52,53,54,55,56,57,45,95]⟩
theorem ns_all:NS.all (fun b=>decide (aH_p FU b ltrs = some ⟨#[]⟩) && decide (br_p FU b = some true) && !decide (b = ⟨#[]⟩) && decide (b.size <= 12)) = true:=by kernel_rfl
theorem ns_ok {b:ByteArray} (h:b ∈ NS):aH_p FU b ltrs = some ⟨#[]⟩/\br_p FU b = some true/\¬ b = ⟨#[]⟩/\b.size <= 12:=by
  have:=List.all_eq_true.1 ns_all b h
  simpa [Bool.and_eq_true,and_assoc] using this
def UV (r:Tc) (u:Tb):Prop:=0 <= u.fv/\u.fv <= (if u.fu = true then 0 else 1000000000)/\Wi u.fe r.fe u.fv/\Wi u.fC r.fh (if u.fu = true then 0 else 1000000000)/\Wi u.fB r.fj (if u.fu = true then 0 else 63)
instance (r:Tc) (u:Tb):Decidable (UV r u):=by unfold UV; infer_instance
structure Sm4 (u:Tb):Prop where
  n:u.fw ∈ NS
  g:u.fe.length <= 1000
  v:u.fC.length <= 1000
  q:u.fB.length <= 1000
theorem right_eq (r:Tc) (u:Tb) (h:Sm4 u):cT_p FU r u = some (decide (UV r u)):=by
  obtain ⟨n1,_,n3,n4⟩:=ns_ok h.n
  have key:∀ (V P:Nat),V = (if u.fu = true then 0 else 1000000000) -> P = (if u.fu = true then 0 else 63) -> ((aH_p FU u.fw ltrs).bind fun y30=>(bj_p FU u.fe r.fe u.fv).bind fun y31=>(bj_p FU u.fC r.fh ((V:Nat):Int)).bind fun y32=>(bj_p FU u.fB r.fj ((P:Nat):Int)).bind fun y33=>(bm_p FU ([(!(decide (u.fw = ⟨#[]⟩))),(decide (u.fw.size <= 12)),(decide (y30 = ⟨#[]⟩)),(decide (0 <= u.fv)),(decide (u.fv <= ((V:Nat):Int))),y31,y32,y33]:List Bool)).bind fun y40=>some y40) = some (decide (UV r u)):=by
    intro V P hV hP
    rw [n1,obind,within_eq _ _ _ h.g,obind,within_eq _ _ _ h.v,obind,within_eq _ _ _ h.q,obind,every_eq _ (by simp),obind]
    refine congrArg some (decide_eq_decide.2 ?_)
    have eV:((V:Nat):Int) = (if u.fu = true then 0 else 1000000000):=by rw [hV]; split <;> rfl
    have eP:((P:Nat):Int) = (if u.fu = true then 0 else 63):=by rw [hP]; split <;> rfl
    rw [eV,eP]
    unfold UV
    simp only [List.mem_cons,List.not_mem_nil,or_false,forall_eq_or_imp,forall_eq,Bool.not_eq_true', decide_eq_false_iff_not,decide_eq_true_eq]
    constructor
    · rintro ⟨_,_,_,a,b,c,d,e⟩; exact ⟨a,b,c,d,e⟩
    · rintro ⟨a,b,c,d,e⟩; exact ⟨n3,n4,trivial,a,b,c,d,e⟩
  unfold cT_p jn
  simp only
  by_cases hw:u.fu = true
  · rw [if_pos hw]; exact key 0 0 (by rw [if_pos hw]) (by rw [if_pos hw])
  · rw [if_neg hw]; exact key 1000000000 63 (by rw [if_neg hw]) (by rw [if_neg hw])
theorem rightR_eq (r:Tc) (u:Tb) (h:Sm4 u):cj_p FU r u = some (decide (UV r u)):=by
  obtain ⟨_,n2,_,_⟩:=ns_ok h.n
  unfold cj_p
  rw [n2,obind,if_pos rfl]
  by_cases h1:u.fv < 0
  · rw [if_pos h1,decide_eq_false fun h=>absurd h.1 (by omega)]
  · rw [if_neg h1]
    by_cases h2:1000000000 < u.fv
    · rw [if_pos h2,decide_eq_false fun h=>by have:=h.2.1; split at this <;> omega]
    · rw [if_neg h2,withinR_eq _ _ _ h.g,obind]
      by_cases h3:Wi u.fe r.fe u.fv
      · rw [if_pos (decide_eq_true h3),withinR_eq _ _ _ h.v,obind]
        by_cases h4:Wi u.fC r.fh 1000000000
        · rw [if_pos (decide_eq_true h4),withinR_eq _ _ _ h.q,obind]
          by_cases h5:Wi u.fB r.fj 63
          · rw [if_pos (decide_eq_true h5)]
            by_cases hw:u.fu = true
            · rw [if_pos hw]
              by_cases h6:u.fv = 0
              · rw [if_pos h6,withinR_eq _ _ _ h.v,obind]
                by_cases h7:Wi u.fC r.fh 0
                · rw [if_pos (decide_eq_true h7),withinR_eq _ _ _ h.q,obind]
                  refine congrArg some (decide_eq_decide.2 ?_)
                  unfold UV
                  simp only [if_pos hw]
                  exact ⟨fun h8=>⟨by omega,by omega,h3,h7,h8⟩,fun h=>h.2.2.2.2⟩
                · rw [if_neg (by simpa using h7),decide_eq_false fun h=>h7 (by have:=h.2.2.2.1; rwa [if_pos hw] at this)]
              · rw [if_neg h6,decide_eq_false fun h=>h6 (by have h8:=h.2.1; have:=h.1; rw [if_pos hw] at h8; omega)]
            · rw [if_neg hw,decide_eq_true ⟨by omega,by rw [if_neg hw]; omega,h3,by rw [if_neg hw]; exact h4,by rw [if_neg hw]; exact h5⟩]
          · rw [if_neg (by simpa using h5),decide_eq_false fun h=>h5 ⟨h.2.2.2.2.1,fun x hx=>by have:=h.2.2.2.2.2 x hx; split at this <;> omega⟩]
        · rw [if_neg (by simpa using h4),decide_eq_false fun h=>h4 ⟨h.2.2.2.1.1,fun x hx=>by have:=h.2.2.2.1.2 x hx; split at this <;> omega⟩]
      · rw [if_neg (by simpa using h3),decide_eq_false fun h=>h3 h.2.2.1]
structure RV (r:Tc):Prop where
  g:0 <= r.fe/\r.fe <= 6
  p:0 <= r.fh/\r.fh <= 12
  l:0 <= r.fj/\r.fj <= 3
  n:1 <= r.fo.length/\r.fo.length <= 64
  u:∀ i (h:i < r.fo.length),UV r r.fo[i]
  nm:∀ i (h:i < r.fo.length) j (h' : j < i),r.fo[j].fw ≠ r.fo[i].fw
  w:∀ i (h:i < r.fo.length) j (h' : j < i),r.fo[j].fu = true -> r.fo[i].fu = true
  z:∀ h:0 < r.fo.length,r.fo[0].fu = false
open Classical in
theorem checkroll_eq (r:Tc) (h:∀ u ∈ r.fo,Sm4 u):bF_p FU r = some (if RV r then 0 else 161):=by
  have hF:=FU_lt
  unfold bF_p
  rw [every_eq _ (by simp),obind]
  by_cases h0:((0 <= r.fe/\r.fe <= 6)/\(0 <= r.fh/\r.fh <= 12)/\(0 <= r.fj/\r.fj <= 3)/\1 <= r.fo.length/\r.fo.length <= 64)
  · rw [if_pos]
    · have hh:=loop_ok (B:=bF_l1 FU r) (fun s:Bool × Nat × List (ByteArray × Bool)=>r.fo.length - s.2.1)
        (fun s=>s.2.1 <= r.fo.length/\(s.2.1 = 0 -> s.1 = false)/\(∀ h:0 < s.2.1,∀ h' : s.2.1 - 1 < r.fo.length,s.1 = r.fo[s.2.1 - 1].fu)/\(∀ x,mgetD s.2.2 x false = true ↔ ∃ j,∃ hj:j < r.fo.length,j < s.2.1/\r.fo[j].fw = x)/\
          (∀ i (h:i < r.fo.length),i < s.2.1 -> UV r r.fo[i])/\(∀ i (h:i < r.fo.length) j (h' : j < i),i < s.2.1 -> r.fo[j].fw ≠ r.fo[i].fw)/\(∀ i (h:i < r.fo.length) j (h' : j < i),i < s.2.1 -> r.fo[j].fu = true -> r.fo[i].fu = true)/\(∀ h:0 < r.fo.length,0 < s.2.1 -> r.fo[0].fu = false))
        (fun y=>y = .inr ()/\RV r ∨ y = .inl 161/\¬ RV r) ?_ FU (false,0,[]) ⟨Nat.zero_le _,fun _=>rfl,fun h=>absurd h (by simp),fun x=>⟨fun hx=>by simp [mgetD,mget] at hx,fun ⟨j,_,hj,_⟩=>by simp at hj⟩,fun i _ hi=>by simp at hi,fun i _ j _ hi=>by simp at hi,fun i _ j _ hi=>by simp at hi,fun _ hi=>by simp at hi⟩ (by simp only; omega)
      · obtain ⟨y,e,hy⟩:=hh
        rw [e]
        rcases hy with ⟨rfl,hv⟩ | ⟨rfl,hv⟩
        · rw [if_pos hv]; rfl
        · rw [if_neg hv]; rfl
      · rintro ⟨q,i,D⟩ J ⟨a1,a2,a3,a4,a5,a6,a7,a8⟩ hJ
        simp only at a1 a2 a3 a4 a5 a6 a7 a8 hJ
        unfold bF_l1
        simp only
        by_cases hi:i < r.fo.length
        · rw [if_pos hi,List.getElem?_eq_getElem hi,obind,right_eq r _ (h _ (List.getElem_mem _)),obind]
          -- what has to hold of this unit
          have good:UV r r.fo[i] -> mgetD D r.fo[i].fw false = false -> (q = true -> r.fo[i].fu = true) -> (i = 0 -> r.fo[i].fu = false) -> ∃ y,J (r.fo[i].fu,i + 1,mset D r.fo[i].fw true) = some y/\(y = .inr ()/\RV r ∨ y = .inl 161/\¬ RV r):=by
            intro g1 g2 g3 g4
            have gn:∀ j (hj:j < i),r.fo[j].fw ≠ r.fo[i].fw:=fun j hj e=>by
              have:=(a4 r.fo[i].fw).2 ⟨j,by omega,hj,e⟩
              rw [g2] at this; cases this
            have gw:∀ j (hj:j < i),r.fo[j].fu = true -> r.fo[i].fu = true:=fun j hj hw=>by
              refine g3 ?_
              rw [a3 (by omega) (by omega)]
              by_cases e:j = i - 1
              · subst e; exact hw
              · exact a7 (i - 1) (by omega) j (by omega) (by omega) hw
            refine hJ _ ⟨hi,fun e=>absurd e (by simp),fun _ h' =>rfl,fun x=>?_,fun k hk hki=>?_,fun k hk j hj hki=>?_,fun k hk j hj hki=>?_,fun hk _=>?_⟩ (by simp only; omega)
            · simp only
              unfold mgetD
              rw [mget_mset]
              have:=a4 x
              unfold mgetD at this
              by_cases e:x = r.fo[i].fw
              · rw [if_pos e]
                exact ⟨fun _=>⟨i,hi,by omega,e.symm⟩,fun _=>rfl⟩
              · rw [if_neg e,this]
                constructor
                · rintro ⟨j,hj,hji,ej⟩; exact ⟨j,hj,by omega,ej⟩
                · rintro ⟨j,hj,hji,ej⟩
                  by_cases e2:j = i
                  · subst e2; exact absurd ej.symm e
                  · exact ⟨j,hj,by omega,ej⟩
            · by_cases e:k = i
              · subst e; exact g1
              · exact a5 k hk (by simp only at hki; omega)
            · by_cases e:k = i
              · subst e; exact gn j hj
              · exact a6 k hk j hj (by simp only at hki; omega)
            · by_cases e:k = i
              · subst e; exact gw j hj
              · exact a7 k hk j hj (by simp only at hki; omega)
            · by_cases e:i = 0
              · subst e; exact g4 rfl
              · exact a8 hk (by omega)
          have bad:(¬ UV r r.fo[i] ∨ mgetD D r.fo[i].fw false = true ∨ (q = true/\r.fo[i].fu = false) ∨ (i = 0/\r.fo[i].fu = true)) -> ¬ RV r:=by
            rintro hb hv
            rcases hb with hb | hb | ⟨hb,hb2⟩ | ⟨hb,hb2⟩
            · exact hb (hv.u i hi)
            · obtain ⟨j,hj,hji,e⟩:=(a4 _).1 hb
              exact hv.nm i hi j hji e
            · by_cases e:i = 0
              · rw [a2 e] at hb; cases hb
              · have:=hv.w i hi (i - 1) (by omega) (by rw [<- a3 (by omega) (by omega)]; exact hb)
                rw [hb2] at this; cases this
            · subst hb
              have:=hv.z hi
              rw [hb2] at this; cases this
          have fin:∀ l:List Bool,l.length <= 1000 -> ((∀ b ∈ l,b = true) ↔ (UV r r.fo[i]/\mgetD D r.fo[i].fw false = false/\(q = true -> r.fo[i].fu = true)/\(i = 0 -> r.fo[i].fu = false))) -> ∃ y,((bm_p FU l).bind fun y=>(if y = true then J (r.fo[i].fu,i + 1,mset D r.fo[i].fw true) else some (.inl (161:Int)))) = some y/\(y = .inr ()/\RV r ∨ y = .inl 161/\¬ RV r):=by
            intro l hl hiff
            rw [every_eq l hl,obind]
            by_cases hq:∀ b ∈ l,b = true
            · rw [if_pos (decide_eq_true hq)]
              obtain ⟨g1,g2,g3,g4⟩:=hiff.1 hq
              exact good g1 g2 g3 g4
            · rw [if_neg (by simpa using hq)]
              refine ⟨_,rfl,.inr ⟨rfl,bad ?_⟩⟩
              refine Classical.byContradiction fun hc=>hq (hiff.2 ?_)
              simp only [not_or,not_and,Bool.not_eq_true,Classical.not_not] at hc
              obtain ⟨c1,c2,c3,c4⟩:=hc
              refine ⟨c1,c2,fun e=>?_,fun e=>?_⟩
              · rcases hww:r.fo[i].fu with _ | _
                · exact absurd hww (by simpa using c3 e)
                · rfl
              · simpa using c4 e
          rcases hw:r.fo[i].fu with _ | _
          · rw [if_neg (by decide)]
            by_cases hp:0 < i
            · rw [if_pos hp]
              have:=fin [decide (UV r r.fo[i]),!(mgetD D r.fo[i].fw false),!q,true] (by simp) (by
                rw [hw]
                simp only [List.mem_cons,List.not_mem_nil,or_false,forall_eq_or_imp,forall_eq,Bool.not_eq_true', decide_eq_true_eq]
                constructor
                · rintro ⟨b1,b2,b3,_⟩; exact ⟨b1,b2,fun e=>(by rw [e] at b3; cases b3),fun _=>trivial⟩
                · rintro ⟨b1,b2,b3,_⟩; exact ⟨b1,b2,by rcases q with _ | _; rfl; exact absurd (b3 rfl) (by decide),trivial⟩)
              rw [hw] at this
              exact this
            · rw [if_neg hp]
              have:=fin [decide (UV r r.fo[i]),!(mgetD D r.fo[i].fw false),!q,!r.fo[i].fu] (by simp) (by
                rw [hw]
                simp only [List.mem_cons,List.not_mem_nil,or_false,forall_eq_or_imp,forall_eq,Bool.not_eq_true', decide_eq_true_eq]
                constructor
                · rintro ⟨b1,b2,b3,_⟩; exact ⟨b1,b2,fun e=>(by rw [e] at b3; cases b3),fun _=>trivial⟩
                · rintro ⟨b1,b2,b3,_⟩; exact ⟨b1,b2,by rcases q with _ | _; rfl; exact absurd (b3 rfl) (by decide),trivial⟩)
              rw [hw] at this
              exact this
          · rw [if_pos rfl]
            by_cases hp:0 < i
            · rw [if_pos hp]
              have:=fin [decide (UV r r.fo[i]),!(mgetD D r.fo[i].fw false),true,true] (by simp) (by
                rw [hw]
                simp only [List.mem_cons,List.not_mem_nil,or_false,forall_eq_or_imp,forall_eq,Bool.not_eq_true', decide_eq_true_eq]
                constructor
                · rintro ⟨b1,b2,_,_⟩; exact ⟨b1,b2,fun _=>trivial,fun e=>by omega⟩
                · rintro ⟨b1,b2,_,_⟩; exact ⟨b1,b2,trivial,trivial⟩)
              rw [hw] at this
              exact this
            · rw [if_neg hp]
              have:=fin [decide (UV r r.fo[i]),!(mgetD D r.fo[i].fw false),true,!r.fo[i].fu] (by simp) (by
                rw [hw]
                simp only [List.mem_cons,List.not_mem_nil,or_false,forall_eq_or_imp,forall_eq,Bool.not_eq_true', decide_eq_true_eq]
                constructor
                · rintro ⟨_,_,_,b4⟩; cases b4
                · rintro ⟨_,_,_,b4⟩; exact absurd (b4 (by omega)) (by decide))
              rw [hw] at this
              exact this
        · rw [if_neg hi]
          refine ⟨_,rfl,.inl ⟨rfl,h0.1,h0.2.1,h0.2.2.1,h0.2.2.2,fun i hi2=>a5 i hi2 (by omega),fun i hi2 j hj=>a6 i hi2 j hj (by omega),fun i hi2 j hj=>a7 i hi2 j hj (by omega),fun hi2=>a8 hi2 (by omega)⟩⟩
    · simp only [List.mem_cons,List.not_mem_nil,or_false,forall_eq_or_imp,forall_eq,decide_eq_true_eq]
      omega
  · rw [if_neg,if_neg fun hv:RV r=>h0 ⟨hv.g,hv.p,hv.l,hv.n⟩]
    simp only [List.mem_cons,List.not_mem_nil,or_false,forall_eq_or_imp,forall_eq,decide_eq_true_eq]
    omega
open Classical in
theorem checkrollR_eq (r:Tc) (h:∀ u ∈ r.fo,Sm4 u):aj_p FU r = some (if RV r then 0 else 161):=by
  have hF:=FU_lt
  unfold aj_p jn
  simp only [if_true]
  by_cases g1:r.fe < 0
  · rw [if_pos g1,if_neg fun hv:RV r=>by have:=hv.g; omega]
  rw [if_neg g1]
  by_cases g2:6 < r.fe
  · rw [if_pos g2,if_neg fun hv:RV r=>by have:=hv.g; omega]
  rw [if_neg g2]
  by_cases g3:r.fh < 0
  · rw [if_pos g3,if_neg fun hv:RV r=>by have:=hv.p; omega]
  rw [if_neg g3]
  by_cases g4:12 < r.fh
  · rw [if_pos g4,if_neg fun hv:RV r=>by have:=hv.p; omega]
  rw [if_neg g4]
  by_cases g5:r.fj < 0
  · rw [if_pos g5,if_neg fun hv:RV r=>by have:=hv.l; omega]
  rw [if_neg g5]
  by_cases g6:3 < r.fj
  · rw [if_pos (decide_eq_true g6),if_neg fun hv:RV r=>by have:=hv.l; omega]
  rw [if_neg (by simpa using g6)]
  by_cases g7:r.fo.length < 1
  · rw [if_pos g7,if_neg fun hv:RV r=>by have:=hv.n; omega]
  rw [if_neg g7]
  by_cases g8:64 < r.fo.length
  · rw [if_pos g8,if_neg fun hv:RV r=>by have:=hv.n; omega]
  rw [if_neg g8,List.getElem?_eq_getElem (by omega),obind]
  by_cases g9:r.fo[0].fu = true
  · rw [if_pos g9,if_neg fun hv:RV r=>by have:=hv.z (by omega); rw [g9] at this; cases this]
  rw [if_neg g9]
  have hh:=loop_ok (B:=aj_l2 FU r) (fun i:Nat=>r.fo.length - i)
    (fun s=>s <= r.fo.length/\(∀ i (h:i < r.fo.length),i < s -> UV r r.fo[i])/\(∀ i (h:i < r.fo.length) j (h' : j < i),i < s -> r.fo[j].fw ≠ r.fo[i].fw)/\(∀ i (h:i < r.fo.length) j (h' : j < i),i < s -> r.fo[j].fu = true -> r.fo[i].fu = true))
    (fun y=>y = .inr ()/\RV r ∨ y = .inl 161/\¬ RV r) ?_ FU 0 ⟨Nat.zero_le _,fun i _ hi=>by omega,fun i _ j _ hi=>by omega,fun i _ j _ hi=>by omega⟩ (by omega)
  · obtain ⟨y,e,hy⟩:=hh
    rw [e]
    rcases hy with ⟨rfl,hv⟩ | ⟨rfl,hv⟩
    · rw [if_pos hv]; rfl
    · rw [if_neg hv]; rfl
  · rintro i J ⟨a1,a5,a6,a7⟩ hJ
    unfold aj_l2
    simp only
    by_cases hi:i < r.fo.length
    · rw [if_pos hi,List.getElem?_eq_getElem hi,obind,rightR_eq r _ (h _ (List.getElem_mem _)),obind]
      by_cases hu:UV r r.fo[i]
      · rw [if_pos (decide_eq_true hu)]
        have hin:=loop_ok (B:=aj_l1 FU i r r.fo[i]) (fun j:Nat=>i - j) (fun s=>s <= i/\∀ j (hj:j < r.fo.length),j < s -> r.fo[j].fw ≠ r.fo[i].fw/\(r.fo[j].fu = true -> r.fo[i].fu = true))
          (fun y=>y = .inr ()/\(∀ j (hj:j < r.fo.length),j < i -> r.fo[j].fw ≠ r.fo[i].fw/\(r.fo[j].fu = true -> r.fo[i].fu = true)) ∨ y = .inl (.inl 161)/\¬ RV r) ?_ FU 0 ⟨Nat.zero_le _,fun j _ hj=>by omega⟩ (by omega)
        · obtain ⟨y,e,hy⟩:=hin
          rw [e]
          rcases hy with ⟨rfl,hy⟩ | ⟨rfl,hy⟩
          · refine hJ (i + 1) ⟨hi,fun k hk hki=>?_,fun k hk j hj hki=>?_,fun k hk j hj hki=>?_⟩ (by omega)
            · by_cases e:k = i
              · subst e; exact hu
              · exact a5 k hk (by omega)
            · by_cases e:k = i
              · subst e; exact (hy j (by omega) hj).1
              · exact a6 k hk j hj (by omega)
            · by_cases e:k = i
              · subst e; exact (hy j (by omega) hj).2
              · exact a7 k hk j hj (by omega)
          · exact ⟨_,rfl,.inr ⟨rfl,hy⟩⟩
        · rintro j J' ⟨b1,b2⟩ hJ'
          unfold aj_l1
          simp only
          by_cases hj:j < i
          · have next:r.fo[j].fw ≠ r.fo[i].fw -> (r.fo[j].fu = true -> r.fo[i].fu = true) -> _:=fun c1 c2=>hJ' (j + 1) ⟨hj,fun k hk hkj=>by
              by_cases e:k = j
              · subst e; exact ⟨c1,c2⟩
              · exact b2 k hk (by omega)⟩ (by omega)
            rw [if_pos hj,List.getElem?_eq_getElem (by omega),obind]
            by_cases c1:r.fo[j].fw = r.fo[i].fw
            · rw [if_pos c1]
              exact ⟨_,rfl,.inr ⟨rfl,fun hv=>hv.nm i hi j hj c1⟩⟩
            · rw [if_neg c1]
              by_cases c2:r.fo[j].fu = true
              · rw [if_pos c2]
                by_cases c3:r.fo[i].fu = true
                · rw [if_pos c3]; exact next c1 fun _=>c3
                · rw [if_neg c3]; exact ⟨_,rfl,.inr ⟨rfl,fun hv=>c3 (hv.w i hi j hj c2)⟩⟩
              · rw [if_neg c2]; exact next c1 fun e=>absurd e c2
          · rw [if_neg hj]
            exact ⟨_,rfl,.inl ⟨rfl,fun k hk hki=>b2 k hk (by omega)⟩⟩
      · rw [if_neg (by simpa using hu)]
        exact ⟨_,rfl,.inr ⟨rfl,fun hv=>hu (hv.u i hi)⟩⟩
    · rw [if_neg hi]
      exact ⟨_,rfl,.inl ⟨rfl,by omega,by omega,by omega,by omega,fun i hi2=>a5 i hi2 (by omega),fun i hi2 j hj=>a6 i hi2 j hj (by omega),fun i hi2 j hj=>a7 i hi2 j hj (by omega),fun hi2=>by simpa using g9⟩⟩
end Go.Proofs.YtgejkdheojkfiaaGreatDoor
/- Plain laws: a drafted plan fits; the totals. No program in sight but the printed functions. -/
namespace Go.Proofs.YtgejkdheojkfiaaGreatDoor
open Go
theorem mset_keys {κ ν:Type} [DecidableEq κ]:∀ (D:List (κ × ν)) (k:κ) (v:ν),(mset D k v).map Prod.fst = if k ∈ D.map Prod.fst then D.map Prod.fst else D.map Prod.fst ++ [k]
  | [],k,v=>by simp [mset]
  | e :: D,k,v=>by
    unfold mset
    by_cases h:k = e.1
    · rw [if_pos h]; simp [h]
    · rw [if_neg h]
      simp only [List.map_cons,mset_keys D k v,List.mem_cons]
      by_cases h2:k ∈ D.map Prod.fst
      · simp [h2]
      · rw [if_neg h2,if_neg (by rintro (h3 | h3); exact h h3; exact h2 h3)]; rfl
theorem range_len {l:List Int} {k:Int} (hk:0 <= k) (hn:l.Nodup) (h:∀ x,x ∈ l ↔ 0 <= x/\x < k):(l.length:Int) = k:=by
  have h2:((List.range k.toNat).map fun i:Nat=>(i:Int)).Nodup:=by
    unfold List.Nodup
    exact List.Pairwise.map _ (fun a b hab=>by omega) List.nodup_range
  have h3:l.length <= ((List.range k.toNat).map fun i:Nat=>(i:Int)).length:=hn.length_le_of_subset fun x hx=>List.mem_map.2 ⟨x.toNat,List.mem_range.2 (by have:=(h x).1 hx; omega),by have:=(h x).1 hx; omega⟩
  have h4:((List.range k.toNat).map fun i:Nat=>(i:Int)).length <= l.length:=h2.length_le_of_subset fun x hx=>by
    obtain ⟨i,hi,rfl⟩:=List.mem_map.1 hx
    have:=List.mem_range.1 hi
    exact (h _).2 ⟨by omega,by omega⟩
  rw [List.length_map,List.length_range] at h3 h4
  omega
end Go.Proofs.YtgejkdheojkfiaaGreatDoor
/- Plain laws: both checks of a plan say the same; the land. No program in sight but the printed functions. -/
namespace Go.Proofs.YtgejkdheojkfiaaGreatDoor
open Go
set_option maxRecDepth 8000
structure Lnd (r:Tc) (us:List Tb):Prop where
  all:∃ ws,r.fo = us ++ ws/\∀ u ∈ ws,u.fu = true
  w:∀ u ∈ us,u.fu = false
theorem lnd_of {r:Tc} (h:RV r):∃ us,Lnd r us/\1 <= us.length:=by
  have key:∀ (l:List Tb),(∀ i (h:i < l.length) j (h' : j < i),l[j].fu = true -> l[i].fu = true) -> ∃ us ws,l = us ++ ws/\(∀ u ∈ us,u.fu = false)/\(∀ u ∈ ws,u.fu = true)/\((∀ h:0 < l.length,l[0].fu = false) -> 0 < l.length -> 1 <= us.length):=by
    intro l
    induction l with
    | nil=>intro _; exact ⟨[],[],rfl,by simp,by simp,fun _ h=>by simp at h⟩
    | cons u l ih=>
      intro hl
      rcases hu:u.fu with _ | _
      · obtain ⟨us,ws,e,h1,h2,_⟩:=ih fun i hi j hj=>hl (i + 1) (by simpa using hi) (j + 1) (by omega)
        refine ⟨u :: us,ws,by rw [e]; rfl,fun v hv=>?_,h2,fun _ _=>by simp⟩
        rcases List.mem_cons.1 hv with rfl | hv
        · exact hu
        · exact h1 v hv
      · refine ⟨[],u :: l,rfl,by simp,fun v hv=>?_,fun h0 _=>?_⟩
        · obtain ⟨i,hi,rfl⟩:=List.getElem_of_mem hv
          cases i with
          | zero=>exact hu
          | succ i=>exact hl (i + 1) hi 0 (by omega) hu
        · have:=h0 (by simp)
          simp only [List.getElem_cons_zero] at this
          rw [hu] at this; cases this
  obtain ⟨us,ws,e,h1,h2,h3⟩:=key r.fo h.w
  exact ⟨us,⟨⟨ws,e,h2⟩,h1⟩,h3 h.z h.n.1⟩
theorem Lnd.at {r:Tc} {us:List Tb} (h:Lnd r us) {i:Nat} (hi:i < r.fo.length):(∃ h2:i < us.length,r.fo[i] = us[i]/\r.fo[i].fu = false) ∨ us.length <= i/\r.fo[i].fu = true:=by
  obtain ⟨ws,e,hw⟩:=h.all
  have hz:r.fo.length = us.length + ws.length:=by rw [e,List.length_append]
  by_cases h2:i < us.length
  · have e0:r.fo[i] = us[i]:=by simp only [e]; exact List.getElem_append_left h2
    exact .inl ⟨h2,e0,by rw [e0]; exact h.w _ (List.getElem_mem _)⟩
  · refine .inr ⟨by omega,hw _ ?_⟩
    have:r.fo[i] = ws[i - us.length]'(by omega):=by simp only [e]; exact List.getElem_append_right (by omega)
    rw [this]; exact List.getElem_mem _
theorem Lnd.le {r:Tc} {us:List Tb} (h:Lnd r us):us.length <= r.fo.length:=by
  obtain ⟨ws,e,_⟩:=h.all
  rw [e,List.length_append]; omega
theorem lands_eq {r:Tc} {us:List Tb} (h:Lnd r us) (hn:r.fo.length <= 1000):a9_p FU r = some (us.length:Int):=by
  have hF:=FU_lt
  have hle:=h.le
  have hh:=loop_ok (B:=a9_l1 FU r) (fun i:Nat=>r.fo.length - i) (fun i=>i <= us.length) (fun y=>y = us.length) ?_ FU 0 (Nat.zero_le _) (by omega)
  · obtain ⟨y,e,rfl⟩:=hh
    unfold a9_p jn
    simp only
    rw [e,obind]
  · intro i J hi hJ
    unfold a9_l1
    simp only
    by_cases h0:i < r.fo.length
    · rw [if_pos h0,List.getElem?_eq_getElem h0,obind]
      rcases h.at h0 with ⟨h2,_,hw⟩ | ⟨h2,hw⟩
      · rw [if_neg (by rw [hw]; decide)]
        exact hJ (i + 1) h2 (by omega)
      · rw [if_pos hw]
        exact ⟨_,rfl,by omega⟩
    · rw [if_neg h0]
      exact ⟨_,rfl,by omega⟩
def Fits (p:List Int) (n:Nat) (k:Int):Prop:=p.length = n/\PlanOk p k
theorem fail_no' (e:Int):ae_p FU false e = some (.ok ()):=rfl
theorem fail_yes:ae_p FU true 220 = some (.error ⟨220⟩):=rfl
theorem fail_arg:ae_p FU true 2 = some (.error ⟨2⟩):=rfl
theorem full_of_len {l:List Int} {k:Int} (hk:0 <= k) (hn:l.Nodup) (h:∀ x ∈ l,0 <= x/\x < k) (hl:(l.length:Int) = k):∀ d,0 <= d -> d < k -> d ∈ l:=fun d d0 d1=>by
  refine Classical.byContradiction fun hd=>?_
  have h2:((List.range k.toNat).map fun i:Nat=>(i:Int)).Nodup:=by
    unfold List.Nodup
    exact List.Pairwise.map _ (fun a b hab=>by omega) List.nodup_range
  have h3:(d :: l).length <= ((List.range k.toNat).map fun i:Nat=>(i:Int)).length:=(List.nodup_cons.2 ⟨hd,hn⟩).length_le_of_subset fun x hx=>by
    have hx2:0 <= x/\x < k:=by
      rcases List.mem_cons.1 hx with rfl | hx
      · exact ⟨d0,d1⟩
      · exact h x hx
    exact List.mem_map.2 ⟨x.toNat,List.mem_range.2 (by omega),by omega⟩
  rw [List.length_cons,List.length_map,List.length_range] at h3
  omega
theorem used_eq (r:Tc) (p:List Int) (k:Int) (hl:p.length <= 1000):∃ y,loopF (ah_l1 FU p ⟨r,k⟩) FU (0,[]) = some y/\((∃ D:List (Int × Bool),y = .inr D/\(∀ x ∈ p,0 <= x/\x < k)/\(D.map Prod.fst).Nodup/\∀ x,x ∈ D.map Prod.fst ↔ x ∈ p) ∨ y = .inl (.error ⟨220⟩)/\¬ ∀ x ∈ p,0 <= x/\x < k):=by
  have hF:=FU_lt
  refine loop_ok (B:=ah_l1 FU p ⟨r,k⟩) (fun s:Nat × List (Int × Bool)=>p.length - s.1) (fun s=>s.1 <= p.length/\(∀ x ∈ p.take s.1,0 <= x/\x < k)/\(s.2.map Prod.fst).Nodup/\∀ x,x ∈ s.2.map Prod.fst ↔ x ∈ p.take s.1) _ ?_ FU (0,[]) ⟨by simp,by simp,by simp,by simp⟩ (by simp only; omega)
  rintro ⟨i,D⟩ J ⟨a1,a0,a2,a3⟩ hJ
  simp only at a0 a1 a2 a3 hJ
  unfold ah_l1
  simp only
  by_cases hi:i < p.length
  · rw [if_pos hi,List.getElem?_eq_getElem hi,obind]
    by_cases hx:0 <= p[i]/\p[i] < k
    · rw [if_neg (by omega),decide_eq_false (by omega),fail_no', obind]
      unfold exc
      simp only
      refine hJ _ ⟨hi,fun x hx2=>?_,?_,fun x=>?_⟩ (by simp only; omega)
      · simp only at hx2
        rw [List.take_succ_eq_append_getElem hi,List.mem_append,List.mem_singleton] at hx2
        rcases hx2 with hx2 | rfl
        · exact a0 x hx2
        · exact hx
      · simp only
        rw [mset_keys]
        split
        · exact a2
        · rename_i h5
          rw [List.nodup_append]
          exact ⟨a2,by simp,fun a ha b hb=>by rw [List.mem_singleton.1 hb]; exact fun e=>h5 (e ▸ ha)⟩
      · simp only
        rw [mset_keys,<- List.take_append_getElem hi,List.mem_append,<- a3 x,List.mem_singleton]
        split
        · rename_i h5
          constructor
          · exact .inl
          · rintro (h6 | rfl)
            · exact h6
            · exact h5
        · rw [List.mem_append,List.mem_singleton]
    · have hbad:¬ ∀ x ∈ p,0 <= x/\x < k:=fun h=>hx (h _ (List.getElem_mem _))
      by_cases h1:p[i] < 0
      · rw [if_pos h1,fail_yes,obind]
        exact ⟨_,rfl,.inr ⟨rfl,hbad⟩⟩
      · rw [if_neg h1,decide_eq_true (by omega),fail_yes,obind]
        exact ⟨_,rfl,.inr ⟨rfl,hbad⟩⟩
  · rw [if_neg hi]
    rw [List.take_of_length_le (by omega)] at a0 a3
    exact ⟨_,rfl,.inl ⟨D,rfl,a0,a2,a3⟩⟩
open Classical in
theorem labels_eq (r:Tc) (p:List Int) (k:Int) (hk:1 <= k) (hl:p.length <= 1000):(thn (loopF (ah_l1 FU p ⟨r,k⟩) FU (0,[])) (fun D443=>(ae_p FU (!(decide (((D443.length:Nat):Int) = k))) (220:Int)).bind fun y497=>exc y497 (fun _=>some (Except.ok ())) (fun e498=>some (.error e498)))) = some (if PlanOk p k then .ok () else .error ⟨220⟩):=by
  obtain ⟨y,e,hy⟩:=used_eq r p k hl
  rw [e]
  rcases hy with ⟨D,rfl,h1,h2,h3⟩ | ⟨rfl,h1⟩
  · unfold thn
    simp only
    by_cases hD:(D.length:Int) = k
    · rw [decide_eq_true hD]
      have hp:PlanOk p k:=⟨h1,fun d d0 d1=>(h3 d).1 (full_of_len (by omega) h2 (fun x hx=>h1 x ((h3 x).1 hx)) (by rw [List.length_map]; exact hD) d d0 d1)⟩
      rw [if_pos hp]; rfl
    · rw [decide_eq_false hD]
      have hp:¬ PlanOk p k:=fun hp=>hD (by
        have:=range_len (l:=D.map Prod.fst) (k:=k) (by omega) h2 fun x=>by
          rw [h3 x]; exact ⟨fun hx=>hp.1 x hx,fun hx=>hp.2 x hx.1 hx.2⟩
        rwa [List.length_map] at this)
      rw [if_neg hp]; rfl
  · have hp:¬ PlanOk p k:=fun hp=>h1 hp.1
    rw [if_neg hp]; rfl
open Classical in
theorem check_eq {r:Tc} {us:List Tb} (h:Lnd r us) (hn:r.fo.length <= 1000) (p:List Int) (k:Int) (hk:1 <= k) (hl:p.length <= 1000):ah_p FU ⟨r,k⟩ p = some (if Fits p us.length k then .ok () else .error ⟨220⟩):=by
  have hF:=FU_lt
  have hle:=h.le
  have lab:=labels_eq r p k hk hl
  have tailOk:∀ z:Int,z = us.length -> ((ae_p FU (!(decide (((p.length:Nat):Int) = z))) (220:Int)).bind fun y182=>exc y182 (fun _=>thn (loopF (ah_l1 FU p ⟨r,k⟩) FU (0,([]:List (Int × Bool)))) (fun D265=>(ae_p FU (!(decide (((D265.length:Nat):Int) = k))) (220:Int)).bind fun y319=>exc y319 (fun _=>some (Except.ok ())) (fun e320=>some (.error e320)))) (fun e183=>some (.error e183))) = some (if Fits p us.length k then .ok () else .error ⟨220⟩):=by
    rintro z rfl
    by_cases hz:((p.length:Nat):Int) = us.length
    · rw [decide_eq_true hz]
      simp only [Bool.not_true]
      rw [fail_no', obind]
      unfold exc
      simp only
      refine lab.trans ?_
      by_cases hp:PlanOk p k
      · rw [if_pos hp,if_pos ⟨by omega,hp⟩]
      · rw [if_neg hp,if_neg fun hf:Fits p us.length k=>hp hf.2]
    · rw [decide_eq_false hz,if_neg fun hf:Fits p us.length k=>hz (by rw [hf.1])]
      rfl
  have hh:=loop_ok (B:=ah_l3 FU ⟨r,k⟩ p) (fun s:Nat × Int=>r.fo.length - s.1) (fun s=>s.1 <= us.length/\s.2 = s.1) (fun y=>y = .inl (if Fits p us.length k then .ok () else .error ⟨220⟩) ∨ y = .inr (us.length:Int)) ?_ FU (0,0) ⟨by simp,by simp⟩ (by simp only; omega)
  · obtain ⟨y,e,hy⟩:=hh
    unfold ah_p
    rw [e]
    rcases hy with rfl | rfl
    · rfl
    · exact tailOk _ rfl
  · rintro ⟨i,z⟩ J ⟨a1,a2⟩ hJ
    simp only at a1 a2 hJ
    subst a2
    unfold ah_l3
    simp only
    by_cases hi:i < r.fo.length
    · rw [if_pos hi,List.getElem?_eq_getElem hi,obind]
      rcases h.at hi with ⟨h2,_,hw⟩ | ⟨h2,hw⟩
      · rw [if_neg (by rw [hw]; decide),chkI (by omega) (by omega),obind]
        exact hJ _ ⟨by simp only; omega,by simp only; omega⟩ (by simp only; omega)
      · rw [if_pos hw]
        refine ⟨.inl (if Fits p us.length k then .ok () else .error ⟨220⟩),?_,.inl rfl⟩
        exact congrArg (Option.map _) (tailOk (i:Int) (by omega))
    · rw [if_neg hi]
      exact ⟨_,rfl,.inr (by rw [show i = us.length by omega])⟩
open Classical in
theorem balCheck_eq {r:Tc} (hS:∀ u ∈ r.fo,Sm4 u) (p:List Int) (k:Int) (hk:1 <= k) (hk8:k <= 8) (hl:p.length <= 1000) (us:List Tb) (hL:RV r -> Lnd r us):cy_p FU r p k = some (if RV r then if Fits p us.length k then 0 else 220 else 161):=by
  unfold cy_p cw_p am_p
  rw [checkroll_eq r hS,obind]
  by_cases hv:RV r
  · have hn:=hv.n
    rw [if_pos hv,if_pos hv]
    unfold co_p
    rw [if_pos rfl,obind]
    unfold exc
    simp only
    rw [if_neg (by omega),decide_eq_false (by omega),fail_no', obind]
    simp only
    rw [obind]
    simp only
    rw [check_eq (hL hv) (by omega) p k hk hl]
    by_cases hf:Fits p us.length k
    · rw [if_pos hf,if_pos hf]; rfl
    · rw [if_neg hf,if_neg hf]; rfl
  · rw [if_neg hv,if_neg hv]
    rfl
open Classical in
theorem fits_eq (p:List Int) (n:Nat) (k:Int) (hk:1 <= k) (hk8:k <= 8) (hn:n <= 1000):aE_p FU p (n:Int) k = some (decide (Fits p n k)):=by
  have hF:=FU_lt
  unfold aE_p
  by_cases hl:((p.length:Nat):Int) = n
  · rw [if_pos hl,show mk k false = some (List.replicate k.toNat false) from if_pos ⟨by omega,by omega⟩,obind]
    have hh:=loop_ok (B:=aE_l2 FU n p k) (fun s:Int × List Bool=>n - s.1.toNat) (fun s=>0 <= s.1/\s.1 <= n/\s.2.length = k.toNat/\(∀ x ∈ p.take s.1.toNat,0 <= x/\x < k)/\∀ d (hd:d < s.2.length),s.2[d] = true ↔ (d:Int) ∈ p.take s.1.toNat)
      (fun y=>(∃ xs:List Bool,y = .inr xs/\xs.length = k.toNat/\(∀ x ∈ p,0 <= x/\x < k)/\∀ d (hd:d < xs.length),xs[d] = true ↔ (d:Int) ∈ p) ∨ y = .inl false/\¬ ∀ x ∈ p,0 <= x/\x < k) ?_ FU (0,List.replicate k.toNat false) ⟨by simp,by simp,by simp,by simp,by simp⟩ (by simp only; omega)
    · obtain ⟨y,e,hy⟩:=hh
      rw [e]
      rcases hy with ⟨xs,rfl,x1,x2,x3⟩ | ⟨rfl,hb⟩
      · have hh2:=loop_ok (B:=aE_l1 FU k xs) (fun z:Int=>9 - z.toNat) (fun z=>0 <= z/\z <= k/\∀ d,0 <= d -> d < z -> d ∈ p) (fun y=>y = .inr ()/\PlanOk p k ∨ y = .inl false/\¬ PlanOk p k) ?_ FU 0 ⟨by omega,by omega,fun d h1 h2=>by omega⟩ (by omega)
        · obtain ⟨y,e2,hy⟩:=hh2
          unfold thn
          simp only
          rw [e2]
          rcases hy with ⟨rfl,hp⟩ | ⟨rfl,hp⟩
          · rw [decide_eq_true (show Fits p n k from ⟨by omega,hp⟩)]
          · rw [decide_eq_false fun hf:Fits p n k=>hp hf.2]
        · rintro z J ⟨z0,z1,z2⟩ hJ
          unfold aE_l1
          simp only
          by_cases hz:z < k
          · have hzx:z.toNat < xs.length:=by omega
            have hiff:=x3 z.toNat hzx
            rw [show ((z.toNat:Nat):Int) = z by omega] at hiff
            rw [if_pos hz,idx_ok z0 hzx,obind]
            by_cases hb:xs[z.toNat] = true
            · rw [if_pos hb,chkI (by omega) (by omega),obind]
              refine hJ _ ⟨by omega,by omega,fun d d0 d1=>?_⟩ (by omega)
              by_cases e:d = z
              · rw [e]; exact hiff.1 hb
              · exact z2 d d0 (by omega)
            · rw [if_neg hb]
              exact ⟨_,rfl,.inr ⟨rfl,fun hp=>hb (hiff.2 (hp.2 z z0 hz))⟩⟩
          · rw [if_neg hz]
            exact ⟨_,rfl,.inl ⟨rfl,x2,fun d d0 d1=>z2 d d0 (by omega)⟩⟩
      · rw [decide_eq_false fun hf:Fits p n k=>hb hf.2.1]; rfl
    · rintro ⟨z,xs⟩ J ⟨z0,z1,a1,a2,a3⟩ hJ
      simp only at z0 z1 a1 a2 a3 hJ
      obtain ⟨i,rfl⟩:∃ i:Nat,z = (i:Int):=⟨z.toNat,by omega⟩
      simp only [Int.toNat_natCast] at a2 a3 hJ
      unfold aE_l2
      simp only
      by_cases hi:(i:Int) < n
      · have hip:i < p.length:=by omega
        rw [if_pos hi,idx_ok (by omega) (by rw [Int.toNat_natCast]; exact hip),obind]
        simp only [Int.toNat_natCast]
        by_cases hx:0 <= p[i]/\p[i] < k
        · have hpx:p[i].toNat < xs.length:=by omega
          rw [if_neg (by omega),if_neg (by omega),idx_ok hx.1 hpx,obind,put_ok _ hpx,obind,chkI (by omega) (by omega),obind]
          refine hJ _ ⟨by simp only; omega,by simp only; omega,by simpa using a1,?_,?_⟩ (by simp only; omega)
          · simp only
            rw [show ((i:Int) + 1).toNat = i + 1 by omega,List.take_succ_eq_append_getElem hip]
            intro x hx2
            rw [List.mem_append,List.mem_singleton] at hx2
            rcases hx2 with hx2 | rfl
            · exact a2 x hx2
            · exact hx
          · simp only
            rw [show ((i:Int) + 1).toNat = i + 1 by omega,List.take_succ_eq_append_getElem hip]
            intro d hd
            rw [List.length_set] at hd
            rw [List.getElem_set,List.mem_append,List.mem_singleton]
            by_cases e:p[i].toNat = d
            · rw [if_pos e]; exact ⟨fun _=>.inr (by omega),fun _=>rfl⟩
            · rw [if_neg e,a3 d hd]
              exact ⟨.inl,fun h=>h.elim id fun h=>absurd h (by omega)⟩
        · have hbad:¬ ∀ x ∈ p,0 <= x/\x < k:=fun h=>hx (h _ (List.getElem_mem _))
          by_cases h1:p[i] < 0
          · rw [if_pos h1]; exact ⟨_,rfl,.inr ⟨rfl,hbad⟩⟩
          · rw [if_neg h1,if_pos (by omega)]; exact ⟨_,rfl,.inr ⟨rfl,hbad⟩⟩
      · rw [if_neg hi]
        rw [List.take_of_length_le (by omega)] at a2 a3
        exact ⟨_,rfl,.inl ⟨xs,rfl,a1,a2,a3⟩⟩
  · rw [if_neg hl,decide_eq_false fun hf:Fits p n k=>hl (by rw [hf.1])]
open Classical in
theorem refCheck_eq {r:Tc} (hS:∀ u ∈ r.fo,Sm4 u) (p:List Int) (k:Int) (hk:1 <= k) (hk8:k <= 8) (us:List Tb) (hL:RV r -> Lnd r us):ba_p FU r p k = some (if RV r then if Fits p us.length k then 0 else 220 else 161):=by
  unfold ba_p aV_p
  rw [checkrollR_eq r hS,obind]
  by_cases hv:RV r
  · have hn:=hv.n
    have hle:=(hL hv).le
    rw [if_pos hv,if_pos hv,if_pos rfl,if_neg (by omega),if_neg (by omega),obind,if_pos rfl]
    unfold bC_p cm_p
    rw [checkrollR_eq r hS,if_pos hv,obind,if_pos rfl,lands_eq (hL hv) (by omega),obind,obind,obind,fits_eq p us.length k hk hk8 (by omega),obind]
    by_cases hf:Fits p us.length k
    · rw [if_pos (decide_eq_true hf),if_pos hf]
    · rw [if_neg (by simpa using hf),if_neg hf]
  · rw [if_neg hv,if_neg hv,if_neg (by decide),obind,if_neg (by decide)]
theorem land_eq {r:Tc} (hS:∀ u ∈ r.fo,Sm4 u) (hv:RV r) {us:List Tb} (hL:Lnd r us):bC_p FU r = some (us.length:Int):=by
  have hn:=hv.n
  unfold bC_p cm_p
  rw [checkrollR_eq r hS,if_pos hv,obind,if_pos rfl,lands_eq hL (by omega),obind,obind]
end Go.Proofs.YtgejkdheojkfiaaGreatDoor
/- Plain laws: drafted rolls up to twelve units, with a change; plans with a change. No program in sight but the printed functions. -/
namespace Go.Proofs.YtgejkdheojkfiaaGreatDoor
open Go
set_option maxRecDepth 8000
structure D0 (r:Tc):Prop where
  n:r.fo.length <= 13
  s:∀ u ∈ r.fo,Sm4 u
  k:∀ u ∈ r.fo,u.fC.length <= 100/\u.fe.length <= 100
  q:∀ u ∈ r.fo,∀ x ∈ u.fB,0 <= x/\x <= 2
theorem parents2 (d:Ti) (z:Int) (h0:0 <= z) (h1:z <= 100):∃ l,loopF (ac_l1 FU d z) FU (0,[]) = some l/\l.length = (d.fj % 3).toNat/\∀ x ∈ l,0 <= x/\x <= 2:=by
  have hF:=FU_lt
  have hk:(d.fj % 3).toNat < 3:=by rw [UInt8.toNat_mod]; exact Nat.mod_lt _ (by decide)
  refine loop_ok (B:=ac_l1 FU d z) (fun s:Nat × List Int=>3 - s.1) (fun s=>s.1 <= (d.fj % 3).toNat/\s.2.length = s.1/\∀ x ∈ s.2,0 <= x/\x <= 2) _ ?_ FU (0,[]) ⟨by simp,rfl,by simp⟩ (by simp only; omega)
  rintro ⟨i,xs⟩ J ⟨a1,a2,a3⟩ hJ
  simp only at a1 a2 a3 hJ
  unfold ac_l1
  simp only
  split
  · rename_i hi
    obtain ⟨y,e,y0,y1⟩:=num_ok FU d (9 * z + 7 + i) (by omega)
    rw [chkI (by omega) (by omega),obind,chkI (by omega) (by omega),obind,chkI (by omega) (by omega),obind,e,obind,remI_ok (by decide),obind,appS _ _ (by simp only [List.length_cons,List.length_nil]; omega),obind]
    refine hJ _ ⟨by simp only; omega,by simp only [List.length_append,List.length_cons,List.length_nil]; omega,fun x hx=>?_⟩ (by simp only; omega)
    rcases List.mem_append.1 hx with hx | hx
    · exact a3 x hx
    · rw [List.mem_singleton.1 hx,Int.tmod_eq_emod_of_nonneg y0]
      have a1:=Int.emod_nonneg y (b:=(3:Int)) (by omega)
      have a2:=Int.emod_lt_of_pos y (b:=(3:Int)) (by omega)
      omega
  · exact ⟨_,rfl,by omega,a3⟩
theorem name12 (i:Nat) (h:i < 13):(sadd ⟨#[117]⟩ (bstr ([u8ofI (97 + (i:Int)),u8ofI (97 + 0)]:List UInt8))) = some (nm i):=by
  have:u8ofI (97 + (i:Int)) = UInt8.ofNat (97 + i):=by unfold u8ofI; congr 1; omega
  rw [this]; rfl
theorem nm_ns {i:Nat} (h:i < 13):nm i ∈ NS:=List.mem_cons_of_mem _ (List.mem_map.2 ⟨i,List.mem_range.2 h,rfl⟩)
def Du (u:Tb):Prop:=Sm4 u/\(u.fC.length <= 100/\u.fe.length <= 100)/\∀ x ∈ u.fB,0 <= x/\x <= 2
theorem draft_ok (d:Ti) (m:Nat) (h2:m <= 12):∃ r,ac_p FU d m = some r/\D0 r/\r.fj = ((d.fj % 3).toNat:Int):=by
  have hF:=FU_lt
  have hG:(d.fe % 3).toNat < 3:=by rw [UInt8.toNat_mod]; exact Nat.mod_lt _ (by decide)
  have hP:(d.fh % 4).toNat < 4:=by rw [UInt8.toNat_mod]; exact Nat.mod_lt _ (by decide)
  have hL:(d.fj % 3).toNat < 3:=by rw [UInt8.toNat_mod]; exact Nat.mod_lt _ (by decide)
  have hW:(d.fu % 2).toNat < 2:=by rw [UInt8.toNat_mod]; exact Nat.mod_lt _ (by decide)
  have hh:=loop_ok (B:=ac_l3 FU (m:Int) d) (fun s:Int × List Tb=>13 - s.1.toNat) (fun s=>0 <= s.1/\s.1 <= m/\(s.2.length:Int) = s.1/\∀ u ∈ s.2,Du u)
    (fun us=>us.length = m/\∀ u ∈ us,Du u) ?_ FU (0,[]) ⟨by simp,by simp,by simp,fun u h=>by cases h⟩ (by simp only; omega)
  · obtain ⟨us,e,u1,u2⟩:=hh
    have hs:=loop_ok (B:=ac_l2 FU d) (fun s:Nat × List Tb=>2 - s.1) (fun s=>s.1 <= (d.fu % 2).toNat/\s.2.length = m + s.1/\∀ u ∈ s.2,Du u)
      (fun all=>all.length <= m + 1/\∀ u ∈ all,Du u) ?_ FU (0,us) ⟨by simp,u1,u2⟩ (by simp only; omega)
    · obtain ⟨all,e2,ha,hd⟩:=hs
      refine ⟨⟨(d.fe % 3).toNat,(d.fh % 4).toNat,(d.fj % 3).toNat,all⟩,?_,⟨by simp only; omega,fun u hu=>(hd u hu).1,fun u hu=>(hd u hu).2.1,fun u hu=>(hd u hu).2.2⟩,rfl⟩
      unfold ac_p
      rw [e,obind,e2,obind]
    · rintro ⟨i,xs⟩ J ⟨a1,a2,a3⟩ hJ
      simp only at a1 a2 a3 hJ
      unfold ac_l2
      simp only
      split
      · rename_i hi
        rw [mk_ok _ _ (by omega),obind,mk_ok _ _ (by omega),obind,mk_ok _ _ (by omega),obind,appS _ _ (by simp only [List.length_cons,List.length_nil]; omega),obind]
        refine hJ _ ⟨by simp only; omega,by simp only [List.length_append,List.length_cons,List.length_nil]; omega,fun u hu=>?_⟩ (by simp only; omega)
        rcases List.mem_append.1 hu with hu | hu
        · exact a3 u hu
        · rw [List.mem_singleton.1 hu]
          refine ⟨⟨List.mem_cons_self ..,?_,?_,?_⟩,⟨?_,?_⟩,fun x hx=>?_⟩
          · simp only [List.length_replicate]; omega
          · simp only [List.length_replicate]; omega
          · simp only [List.length_replicate]; omega
          · simp only [List.length_replicate]; omega
          · simp only [List.length_replicate]; omega
          · rw [List.eq_of_mem_replicate hx]; omega
      · exact ⟨_,rfl,by omega,a3⟩
  · rintro ⟨z,xs⟩ J ⟨a1,a2,a3,a4⟩ hJ
    simp only at a1 a2 a3 a4 hJ
    unfold ac_l3
    simp only
    split
    · rename_i hz
      obtain ⟨i,rfl⟩:∃ i:Nat,z = i:=⟨z.toNat,by omega⟩
      have t1:Int.tmod (i:Int) 26 = i:=by rw [Int.tmod_eq_emod_of_nonneg (by omega)]; omega
      have t2:Int.tdiv (i:Int) 26 = 0:=by rw [Int.tdiv_eq_ediv_of_nonneg (by omega)]; omega
      obtain ⟨y,e,y0,y1⟩:=num_ok FU d (9 * (i:Int)) (by omega)
      obtain ⟨g,eg,g1,g2⟩:=dlist_ok FU d ((d.fe % 3).toNat:Nat) (9 * (i:Int) + 1) y (by omega) (by omega) (by omega) (by omega) y0 (by omega)
      obtain ⟨v,ev,v1,v2⟩:=dlist_ok FU d ((d.fh % 4).toNat:Nat) (9 * (i:Int) + 3) 255 (by omega) (by omega) (by omega) (by omega) (by omega) (by omega)
      obtain ⟨q,eq,q1,q2⟩:=parents2 d (i:Int) (by omega) (by omega)
      rw [remI_ok (by decide),obind,t1,chkI (by omega) (by omega),obind]
      unfold quoI
      rw [if_neg (by decide),t2,chkI (by omega) (by omega),obind,remI_ok (by decide),obind,show Int.tmod 0 26 = 0 from rfl,chkI (by omega) (by omega),obind,chkI (by omega) (by omega),obind,e,obind,name12 i (by omega)]
      simp only [obind]
      rw [chkI (by omega) (by omega)]
      simp only [obind,eg]
      rw [chkI (by omega) (by omega)]
      simp only [obind,ev,eq]
      rw [appS _ _ (by simp only [List.length_cons,List.length_nil]; omega)]
      simp only [obind]
      try rw [chkI (by omega) (by omega),obind]
      refine hJ _ ⟨by simp only; omega,by simp only; omega,by simp only [List.length_append,List.length_cons,List.length_nil]; omega,fun u hu=>?_⟩ (by simp only; omega)
      rcases List.mem_append.1 hu with hu | hu
      · exact a4 u hu
      · rw [List.mem_singleton.1 hu]
        exact ⟨⟨nm_ns (by omega),by simp only; omega,by simp only; omega,by simp only; omega⟩,⟨by simp only; omega,by simp only; omega⟩,q2⟩
    · exact ⟨_,rfl,by omega,a4⟩
theorem bendAt (a n:Nat) (hn:0 < n):∃ j:Nat,j < n/\remI (a:Int) (n:Int) = some (j:Int):=by
  refine ⟨a % n,Nat.mod_lt _ hn,?_⟩
  rw [remI_ok (by omega),Int.tmod_eq_emod_of_nonneg (by omega)]
  rfl
theorem idxK {α:Type} {xs:List α} {j:Nat} (h:j < xs.length):idx xs (j:Int) = some xs[j]:=idx_ok (i:=(j:Int)) (by omega) h
structure Dn (r:Tc):Prop where
  n:r.fo.length <= 13
  s:∀ u ∈ r.fo,Sm4 u
theorem D0.dn {r:Tc} (h:D0 r):Dn r:=⟨h.n,h.s⟩
theorem Dn.set {r:Tc} (h:Dn r) (j:Nat) {u:Tb} (hs:Sm4 u):Dn ⟨r.fe,r.fh,r.fj,r.fo.set j u⟩:=
  ⟨by rw [List.length_set]; exact h.n,fun v hv=>(List.mem_or_eq_of_mem_set hv).elim (h.s v) fun e=>by rw [e]; exact hs⟩
theorem bend_ok (b:Tl) {r:Tc} (h:D0 r):∃ r', bY_p FU b r = some r' /\Dn r' :=by
  have hn:=h.n
  unfold bY_p
  rw [appS _ _ (by simp only [List.length_nil]; omega),obind,List.nil_append]
  by_cases hz:r.fo.length = 0
  · rw [if_pos hz]
    exact ⟨_,rfl,h.dn⟩
  obtain ⟨j,hj,e⟩:=bendAt b.fAt.toNat r.fo.length (by omega)
  have hm:=List.getElem_mem hj
  have hs:=h.s _ hm
  have hk:=h.k _ hm
  rw [if_neg hz,e,obind,idxK hj,obind,Int.toNat_natCast]
  by_cases c0:(b.fE % (7:UInt8)).toNat = 0
  · rw [if_pos c0,put_ok _ hj,obind]
    exact ⟨_,rfl,h.dn.set j ⟨hs.n,hs.g,hs.v,hs.q⟩⟩
  rw [if_neg c0]
  by_cases c1:(b.fE % (7:UInt8)).toNat = 1
  · rw [if_pos c1,appS _ _ (by simp only [List.length_cons,List.length_nil]; omega),obind,put_ok _ hj,obind]
    exact ⟨_,rfl,h.dn.set j ⟨hs.n,hs.g,by simp only [List.length_append,List.length_cons,List.length_nil]; omega,hs.q⟩⟩
  rw [if_neg c1]
  by_cases c2:(b.fE % (7:UInt8)).toNat = 2
  · rw [if_pos c2,appS _ _ (by simp only [List.length_nil]; omega),obind,List.nil_append,appS _ _ (by simp only [List.length_cons,List.length_nil]; omega),obind,put_ok _ hj,obind]
    exact ⟨_,rfl,h.dn.set j ⟨hs.n,by simp only [List.length_append,List.length_cons,List.length_nil]; omega,hs.v,hs.q⟩⟩
  rw [if_neg c2]
  by_cases c3:(b.fE % (7:UInt8)).toNat = 3
  · rw [if_pos c3,put_ok _ hj,obind]
    exact ⟨_,rfl,h.dn.set j ⟨hs.n,hs.g,hs.v,hs.q⟩⟩
  rw [if_neg c3]
  by_cases c4:(b.fE % (7:UInt8)).toNat = 4
  · have h00:0 < r.fo.length:=by omega
    rw [if_pos c4,List.getElem?_eq_getElem h00,obind,put_ok _ hj,obind]
    exact ⟨_,rfl,h.dn.set j ⟨(h.s _ (List.getElem_mem h00)).n,hs.g,hs.v,hs.q⟩⟩
  rw [if_neg c4]
  by_cases c5:(b.fE % (7:UInt8)).toNat = 5
  · rw [if_pos c5]
    exact ⟨_,rfl,hn,h.s⟩
  rw [if_neg c5,put_ok _ hj,obind]
  exact ⟨_,rfl,h.dn.set j ⟨hs.n,hs.g,hs.v,by simp only [List.length_cons,List.length_nil]; omega⟩⟩
theorem bendP (b:Tl) {p:List Int} (h1:1 <= p.length) (h2:p.length <= 9):∃ q,bX_p FU b p = some q/\q.length <= 10:=by
  unfold bX_p
  rw [appS _ _ (by simp only [List.length_nil]; omega),obind,List.nil_append]
  by_cases c0:(b.fE % (4:UInt8)).toNat = 0
  · obtain ⟨j,hj,e⟩:=bendAt b.fAt.toNat p.length (by omega)
    rw [if_pos c0,e,obind,idxK hj,obind,Int.toNat_natCast,put_ok _ hj,obind]
    exact ⟨_,rfl,by rw [List.length_set]; omega⟩
  rw [if_neg c0]
  by_cases c1:(b.fE % (4:UInt8)).toNat = 1
  · rw [if_pos c1,appS _ _ (by simp only [List.length_cons,List.length_nil]; omega),obind]
    exact ⟨_,rfl,by simp only [List.length_append,List.length_cons,List.length_nil]; omega⟩
  rw [if_neg c1]
  by_cases c2:(b.fE % (4:UInt8)).toNat = 2
  · rw [if_pos c2,show ((p.length:Nat):Int) - 1 = ((p.length - 1:Nat):Int) by omega,cut_ok (by omega),obind]
    exact ⟨_,rfl,by rw [List.length_take]; omega⟩
  rw [if_neg c2]
  exact ⟨_,rfl,by omega⟩
end Go.Proofs.YtgejkdheojkfiaaGreatDoor
