/- Plain laws: a drafted plan fits; the totals. No program in sight but the printed functions. -/
import Derived.Test.YtfccehcnajelgaaGreatDoorRDSc
namespace Go.Proofs.YtfccehcnajelgaaGreatDoor
open Go
theorem mset_keys {κ ν:Type} [DecidableEq κ]:∀ (D:List (κ × ν)) (k:κ) (v:ν),(mset D k v).map Prod.fst = if k ∈ D.map Prod.fst then D.map Prod.fst else D.map Prod.fst ++ [k]
  | [],k,v=>by simp [mset]
  | e :: D,k,v=>by
    unfold mset
    by_cases h:k = e.1
    · rw [if_pos h]; simp [h]
    · rw [if_neg h]
      simp only [List.map_cons,mset_keys D k v,List.mem_cons]
      by_cases h2:k ∈ D.map Prod.fst
      · simp [h2]
      · rw [if_neg h2,if_neg (by rintro (h3 | h3); exact h h3; exact h2 h3)]; rfl
theorem range_len {l:List Int} {k:Int} (hk:0 ≤ k) (hn:l.Nodup) (h:∀ x,x ∈ l ↔ 0 ≤ x∧x < k):(l.length:Int) = k:=by
  have h2:((List.range k.toNat).map fun i:Nat=>(i:Int)).Nodup:=by
    unfold List.Nodup
    exact List.Pairwise.map _ (fun a b hab=>by omega) List.nodup_range
  have h3:l.length ≤ ((List.range k.toNat).map fun i:Nat=>(i:Int)).length:=hn.length_le_of_subset fun x hx=>List.mem_map.2 ⟨x.toNat,List.mem_range.2 (by have:=(h x).1 hx; omega),by have:=(h x).1 hx; omega⟩
  have h4:((List.range k.toNat).map fun i:Nat=>(i:Int)).length ≤ l.length:=h2.length_le_of_subset fun x hx=>by
    obtain ⟨i,hi,rfl⟩:=List.mem_map.1 hx
    have:=List.mem_range.1 hi
    exact (h _).2 ⟨by omega,by omega⟩
  rw [List.length_map,List.length_range] at h3 h4
  omega
theorem fail_no (n:Nat) (e:Int):balance_fail_p n false e = some (.ok ()):=rfl
theorem used_ok (r:TRoll) (p:List Int) (k:Int) (hk:1 ≤ k) (h:PlanOk p k) (hl:p.length ≤ 9):∃ D,loopF (balance_count_check_l1 FU p ⟨r,k⟩) FU (0,[]) = some (.inr D)∧(D.length:Int) = k:=by
  have hF:=FU_lt
  have hh:=loop_ok (B:=balance_count_check_l1 FU p ⟨r,k⟩) (fun s:Nat × List (Int × Bool)=>p.length - s.1) (fun s=>s.1 ≤ p.length∧(s.2.map Prod.fst).Nodup∧∀ x,x ∈ s.2.map Prod.fst ↔ x ∈ p.take s.1)
    (fun y=>∃ D,y = .inr D∧(D.length:Int) = k) ?_ FU (0,[]) ⟨by simp,by simp,by simp⟩ (by simp only; omega)
  · obtain ⟨y,e,D,rfl,hD⟩:=hh; exact ⟨D,e,hD⟩
  · rintro ⟨i,D⟩ J ⟨a1,a2,a3⟩ hJ
    simp only at a1 a2 a3 hJ
    unfold balance_count_check_l1
    simp only
    split
    · rename_i hi
      have hx:=h.1 p[i] (List.getElem_mem _)
      rw [List.getElem?_eq_getElem hi,obind,if_neg (by omega),decide_eq_false (by omega),fail_no,obind]
      unfold exc
      simp only
      refine hJ _ ⟨hi,?_,fun x=>?_⟩ (by simp only; omega)
      · simp only
        rw [mset_keys]
        split
        · exact a2
        · rename_i h5
          rw [List.nodup_append]
          exact ⟨a2,by simp,fun a ha b hb=>by rw [List.mem_singleton.1 hb]; exact fun e=>h5 (e ▸ ha)⟩
      · simp only
        rw [mset_keys,← List.take_append_getElem hi,List.mem_append,← a3 x,List.mem_singleton]
        split
        · rename_i h5
          constructor
          · exact .inl
          · rintro (h6 | rfl)
            · exact h6
            · exact h5
        · rw [List.mem_append,List.mem_singleton]
    · refine ⟨_,rfl,D,rfl,?_⟩
      rw [List.take_of_length_le (by omega)] at a3
      have:=range_len (l:=D.map Prod.fst) (k:=k) (by omega) a2 fun x=>by
        rw [a3 x]; exact ⟨fun hx=>h.1 x hx,fun hx=>h.2 x hx.1 hx.2⟩
      rwa [List.length_map] at this
theorem used2_ok (r:TRoll) (p:List Int) (k:Int) (hk:1 ≤ k) (h:PlanOk p k) (hl:p.length ≤ 9):∃ D,loopF (balance_count_check_l2 FU p ⟨r,k⟩) FU (0,[]) = some (.inr D)∧(D.length:Int) = k:=used_ok r p k hk h hl
theorem check_plan (r:TRoll) (us:List TUnit) (hr:RollOk r us) (p:List Int) (k:Int) (hk:1 ≤ k) (h:PlanOk p k) (hl:p.length = us.length):balance_count_check_p FU ⟨r,k⟩ p = some (.ok ()):=by
  have hF:=FU_lt
  have hs:=hr.size
  have hlen:=hr.len
  obtain ⟨D,e1,d1⟩:=used_ok r p k hk h (by omega)
  obtain ⟨D2,e2,d2⟩:=used2_ok r p k hk h (by omega)
  have hh:=loop_ok (B:=balance_count_check_l3 FU ⟨r,k⟩ p) (fun s:Nat × Int=>r.fo.length - s.1) (fun s=>s.1 ≤ r.fo.length∧s.2 = s.1∧s.1 ≤ us.length) (fun x=>x = .inl (.ok ()) ∨ x = .inr (us.length:Int)) ?_ FU (0,0) ⟨by simp,by simp,by simp⟩ (by simp only; omega)
  · obtain ⟨x,e,hx⟩:=hh
    unfold balance_count_check_p
    rw [e]
    rcases hx with rfl | rfl
    · rfl
    · unfold thn
      simp only
      rw [decide_eq_true (show ((p.length:Nat):Int) = us.length by omega)]
      simp only [Bool.not_true]
      rw [fail_no,obind]
      unfold exc
      simp only
      rw [e2]
      simp only
      rw [decide_eq_true d2]
      rfl
  · rintro ⟨i,z⟩ J ⟨a1,a2,a4⟩ hJ
    simp only at a1 a2 a4 hJ
    unfold balance_count_check_l3
    simp only
    split
    · rename_i hi
      rw [List.getElem?_eq_getElem hi,obind]
      rcases hr.unit hi with ⟨h2,e3⟩ | ⟨h2,e3⟩
      · rw [e3,if_neg (by rw [(hr.land i h2).2.1]; decide),chkI (by omega) (by omega),obind]
        exact hJ _ ⟨by simp only; omega,by simp only; omega,h2⟩ (by simp only; omega)
      · rw [e3,if_pos (show (sea r.fh r.fc r.fe).fu = true from rfl)]
        refine ⟨.inl (.ok ()),?_,.inl rfl⟩
        rw [decide_eq_true (show ((p.length:Nat):Int) = z by omega)]
        simp only [Bool.not_true]
        rw [fail_no,obind]
        unfold exc
        simp only
        rw [e1]
        unfold thn
        simp only
        rw [decide_eq_true d1]
        rfl
    · exact ⟨_,rfl,.inr (by rw [a2,show i = us.length by omega])⟩
end Go.Proofs.YtfccehcnajelgaaGreatDoor
