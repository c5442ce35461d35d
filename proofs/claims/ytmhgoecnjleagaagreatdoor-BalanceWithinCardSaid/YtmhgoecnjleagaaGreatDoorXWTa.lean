/- Plain laws: the totals, exactly; plans that do not fit. No program in sight but the printed functions. -/
import Derived.Test.YtmhgoecnjleagaaGreatDoorXWSe
namespace Go.Proofs.YtmhgoecnjleagaaGreatDoor
open Go
def peo:List TUnit → List Int → Int → Int
  | u :: us,x :: p,d=>(if x = d then u.fPeople else 0) + peo us p d
  | _,_,_=>0
def tlO (us:List TUnit) (p:List Int) (k:Int):List Int:=(List.range k.toNat).map fun d:Nat=>peo us p d
theorem tl_len (us:List TUnit) (p:List Int) (k:Int):(tlO us p k).length = k.toNat:=by simp [tlO]
theorem tl_get (us:List TUnit) (p:List Int) (k:Int) (d:Nat) (h:d < (tlO us p k).length):(tlO us p k)[d] = peo us p d:=by simp [tlO]
theorem peo_take:∀ {us:List TUnit} {p:List Int} {i:Nat} (h:i < us.length) (h2:i < p.length) (d:Int),peo (us.take (i + 1)) p d = peo (us.take i) p d + (if p[i] = d then us[i].fPeople else 0)
  | u :: us,x :: p,0,_,_,d=>by simp [peo]
  | u :: us,x :: p,i + 1,h,h2,d=>by
    have:=peo_take (us:=us) (p:=p) (i:=i) (by simpa using h) (by simpa using h2) d
    simp only [List.take_succ_cons,peo,List.getElem_cons_succ,this]; omega
theorem peo_le:∀ {us:List TUnit} {p:List Int} (d:Int),(∀ u ∈ us,0 ≤ u.fPeople∧u.fPeople ≤ 255) → 0 ≤ peo us p d∧peo us p d ≤ 255 * us.length
  | [],p,d,_=>by unfold peo; simp
  | u :: us,[],d,h=>by unfold peo; simp; omega
  | u :: us,x :: p,d,h=>by
    have h1:=h u (List.mem_cons_self ..)
    have h2:=peo_le (us:=us) (p:=p) d fun y hy=>h y (List.mem_cons_of_mem _ hy)
    simp only [peo,List.length_cons]
    split <;> omega
theorem tl_take {us:List TUnit} {p:List Int} {k:Int} {i:Nat} (h:i < us.length) (h2:i < p.length) (x0:0 ≤ p[i]) (x1:p[i] < k) (a:p[i].toNat < (tlO (us.take i) p k).length) :
    tlO (us.take (i + 1)) p k = (tlO (us.take i) p k).set p[i].toNat ((tlO (us.take i) p k)[p[i].toNat] + us[i].fPeople):=by
  apply List.ext_getElem
  · simp [tlO]
  · intro d h3 h4
    rw [tl_get,peo_take h h2]
    by_cases e1:p[i].toNat = d
    · subst e1
      rw [List.getElem_set_self,tl_get,if_pos (by omega)]
    · rw [List.getElem_set_ne e1,tl_get,if_neg (by omega)]; omega
theorem tl_zero (p:List Int) (k:Int):tlO [] p k = List.replicate k.toNat 0:=by
  apply List.ext_getElem
  · simp [tlO]
  · intro d h1 h2
    rw [tl_get]; simp [peo]
theorem RollOk.ppl {r:TRoll} {us:List TUnit} (h:RollOk r us) (i:Nat) (p:List Int) (d:Int):0 ≤ peo (us.take i) p d∧peo (us.take i) p d ≤ 2295:=by
  have:=peo_le (us:=us.take i) (p:=p) d fun u hu=>h.people u (List.mem_of_mem_take hu)
  have:=h.len
  rw [List.length_take] at *
  omega
theorem totalsC_ok (r:TRoll) (us:List TUnit) (hr:RollOk r us) (p:List Int) (k:Int) (hk:1 ≤ k) (hk8:k ≤ 8) (h:PlanOk p k) (hl:p.length = us.length):balance_count_totals_p FU ⟨r,k⟩ p = some (.ok (tlO us p k)):=by
  have hF:=FU_lt
  have hs:=hr.size
  have hlen:=hr.len
  have hh:=loop_ok (B:=balance_count_totals_l1 FU ⟨r,k⟩ p) (fun s:Nat × List Int=>r.fUnits.length - s.1) (fun s=>s.1 ≤ us.length + 1∧s.2 = tlO (us.take s.1) p k)
    (fun y=>y = .inl (.ok (tlO us p k)) ∨ y = .inr (tlO us p k)) ?_ FU (0,List.replicate k.toNat 0) ⟨by simp,by simp only [List.take_zero]; rw [tl_zero]⟩ (by simp only; omega)
  · obtain ⟨y,e,hy⟩:=hh
    unfold balance_count_totals_p
    rw [check_plan r us hr p k hk h hl,obind]
    unfold exc
    simp only
    rw [show mk k (0:Int) = some (List.replicate k.toNat 0) from if_pos ⟨by omega,by omega⟩,obind,e]
    rcases hy with rfl | rfl <;> rfl
  · rintro ⟨i,xs⟩ J ⟨a1,a2⟩ hJ
    simp only at a1 a2 hJ
    subst a2
    unfold balance_count_totals_l1
    simp only
    split
    · rename_i hi
      rw [List.getElem?_eq_getElem hi,obind]
      rcases hr.unit hi with ⟨h2,e3⟩ | ⟨h2,e3⟩
      · have hx:=h.1 (p[i]'(by omega)) (List.getElem_mem _)
        have hp:(p[i]'(by omega)).toNat < (tlO (us.take i) p k).length:=by rw [tl_len]; omega
        have hb:=hr.ppl i p ((p[i]'(by omega)).toNat:Nat)
        have hu:=(hr.land i h2).2.2.1
        rw [e3,if_neg (by rw [(hr.land i h2).2.1]; decide),List.getElem?_eq_getElem (by omega),obind,idx_ok hx.1 hp,obind,tl_get,chkI (by omega) (by omega),obind,put_ok _ hp,obind]
        refine hJ _ ⟨by simp only; omega,?_⟩ (by simp only; omega)
        simp only
        rw [tl_take h2 (by omega) hx.1 hx.2 hp,tl_get]
      · rw [e3,if_pos (show (sea r.fGroups r.fParties r.fLevels).fWater = true from rfl)]
        exact ⟨_,rfl,.inl (by rw [List.take_of_length_le (by omega)])⟩
    · exact ⟨_,rfl,.inr (by rw [List.take_of_length_le (by omega)])⟩
end Go.Proofs.YtmhgoecnjleagaaGreatDoor
