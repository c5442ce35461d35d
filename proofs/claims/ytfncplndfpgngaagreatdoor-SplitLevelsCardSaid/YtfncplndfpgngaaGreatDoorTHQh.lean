/- Plain laws: both checks of a plan say the same; the land. No program in sight but the printed functions. -/
import Derived.Test.YtfncplndfpgngaaGreatDoorTHQg
import Derived.Test.YtfncplndfpgngaaGreatDoorTHSd
namespace Go.Proofs.YtfncplndfpgngaaGreatDoor
open Go
set_option maxRecDepth 8000
structure Lnd (r:TRoll) (us:List TUnit):Prop where
  all:∃ ws,r.fm = us ++ ws∧∀ u ∈ ws,u.fo = true
  w:∀ u ∈ us,u.fo = false
theorem lnd_of {r:TRoll} (h:RV r):∃ us,Lnd r us∧1 ≤ us.length:=by
  have key:∀ (l:List TUnit),(∀ i (h:i < l.length) j (h' : j < i),l[j].fo = true → l[i].fo = true) → ∃ us ws,l = us ++ ws∧(∀ u ∈ us,u.fo = false)∧(∀ u ∈ ws,u.fo = true)∧((∀ h:0 < l.length,l[0].fo = false) → 0 < l.length → 1 ≤ us.length):=by
    intro l
    induction l with
    | nil=>intro _; exact ⟨[],[],rfl,by simp,by simp,fun _ h=>by simp at h⟩
    | cons u l ih=>
      intro hl
      rcases hu:u.fo with _ | _
      · obtain ⟨us,ws,e,h1,h2,_⟩:=ih fun i hi j hj=>hl (i + 1) (by simpa using hi) (j + 1) (by omega)
        refine ⟨u :: us,ws,by rw [e]; rfl,fun v hv=>?_,h2,fun _ _=>by simp⟩
        rcases List.mem_cons.1 hv with rfl | hv
        · exact hu
        · exact h1 v hv
      · refine ⟨[],u :: l,rfl,by simp,fun v hv=>?_,fun h0 _=>?_⟩
        · obtain ⟨i,hi,rfl⟩:=List.getElem_of_mem hv
          cases i with
          | zero=>exact hu
          | succ i=>exact hl (i + 1) hi 0 (by omega) hu
        · have:=h0 (by simp)
          simp only [List.getElem_cons_zero] at this
          rw [hu] at this; cases this
  obtain ⟨us,ws,e,h1,h2,h3⟩:=key r.fm h.w
  exact ⟨us,⟨⟨ws,e,h2⟩,h1⟩,h3 h.z h.n.1⟩
theorem Lnd.at {r:TRoll} {us:List TUnit} (h:Lnd r us) {i:Nat} (hi:i < r.fm.length):(∃ h2:i < us.length,r.fm[i] = us[i]∧r.fm[i].fo = false) ∨ us.length ≤ i∧r.fm[i].fo = true:=by
  obtain ⟨ws,e,hw⟩:=h.all
  have hz:r.fm.length = us.length + ws.length:=by rw [e,List.length_append]
  by_cases h2:i < us.length
  · have e0:r.fm[i] = us[i]:=by simp only [e]; exact List.getElem_append_left h2
    exact .inl ⟨h2,e0,by rw [e0]; exact h.w _ (List.getElem_mem _)⟩
  · refine .inr ⟨by omega,hw _ ?_⟩
    have:r.fm[i] = ws[i - us.length]'(by omega):=by simp only [e]; exact List.getElem_append_right (by omega)
    rw [this]; exact List.getElem_mem _
theorem Lnd.le {r:TRoll} {us:List TUnit} (h:Lnd r us):us.length ≤ r.fm.length:=by
  obtain ⟨ws,e,_⟩:=h.all
  rw [e,List.length_append]; omega
theorem lands_eq {r:TRoll} {us:List TUnit} (h:Lnd r us) (hn:r.fm.length ≤ 1000):wardmoteref16_Lands_p FU r = some (us.length:Int):=by
  have hF:=FU_lt
  have hle:=h.le
  have hh:=loop_ok (B:=wardmoteref16_Lands_l1 FU r) (fun i:Nat=>r.fm.length - i) (fun i=>i ≤ us.length) (fun y=>y = us.length) ?_ FU 0 (Nat.zero_le _) (by omega)
  · obtain ⟨y,e,rfl⟩:=hh
    unfold wardmoteref16_Lands_p jn
    simp only
    rw [e,obind]
  · intro i J hi hJ
    unfold wardmoteref16_Lands_l1
    simp only
    by_cases h0:i < r.fm.length
    · rw [if_pos h0,List.getElem?_eq_getElem h0,obind]
      rcases h.at h0 with ⟨h2,_,hw⟩ | ⟨h2,hw⟩
      · rw [if_neg (by rw [hw]; decide)]
        exact hJ (i + 1) h2 (by omega)
      · rw [if_pos hw]
        exact ⟨_,rfl,by omega⟩
    · rw [if_neg h0]
      exact ⟨_,rfl,by omega⟩
def Fits (p:List Int) (n:Nat) (k:Int):Prop:=p.length = n∧PlanOk p k
theorem land_eq {r:TRoll} (hS:∀ u ∈ r.fm,Sm4 u) (hv:RV r) {us:List TUnit} (hL:Lnd r us):wardmoteref22_Land_p FU r = some (us.length:Int):=by
  have hn:=hv.n
  unfold wardmoteref22_Land_p wardmoteref16_Land_p
  rw [checkrollR_eq r hS,if_pos hv,obind,if_pos rfl,lands_eq hL (by omega),obind,obind]
end Go.Proofs.YtfncplndfpgngaaGreatDoor
