/- Plain laws: a drafted roll is valid; its people. No program in sight but the printed functions. -/
import Derived.Test.YtfccehcnajelgaaGreatDoorRDSb
namespace Go.Proofs.YtfccehcnajelgaaGreatDoor
open Go
theorem trim_all:(List.range 9).all (fun i=>decide (strings_Trim_p FU (nm i) ⟨#[65,66,67,68,69,70,71,72,73,74,75,76,77,78,79,80,81,82,83,84,85,86,87,88,89,90,97,98,99,100,101,102,103,104,105,106,107,108,109,110,111,112,113,114,115,116,117,118,119,120,121,122,48,49,50,51,52,53,54,55,56,57,45,95]⟩ = some ⟨#[]⟩)) = true:=by kernel_rfl
theorem trim_nm {i:Nat} (h:i < 9):strings_Trim_p FU (nm i) ⟨#[65,66,67,68,69,70,71,72,73,74,75,76,77,78,79,80,81,82,83,84,85,86,87,88,89,90,97,98,99,100,101,102,103,104,105,106,107,108,109,110,111,112,113,114,115,116,117,118,119,120,121,122,48,49,50,51,52,53,54,55,56,57,45,95]⟩ = some ⟨#[]⟩:=of_decide_eq_true (List.all_eq_true.1 trim_all i (List.mem_range.2 h))
theorem trim_sea:strings_Trim_p FU ⟨#[115,101,97]⟩ ⟨#[65,66,67,68,69,70,71,72,73,74,75,76,77,78,79,80,81,82,83,84,85,86,87,88,89,90,97,98,99,100,101,102,103,104,105,106,107,108,109,110,111,112,113,114,115,116,117,118,119,120,121,122,48,49,50,51,52,53,54,55,56,57,45,95]⟩ = some ⟨#[]⟩:=by kernel_rfl
theorem right_land (r:TRoll) (u:TUnit) {i:Nat} (hi:i < 9) (hG:r.fh ≤ 6) (hP:r.fc ≤ 12) (hL:r.fe ≤ 3) (hn:u.fp = nm i) (h:UnitOk r.fh r.fc r.fe u):units_right_p FU r u = some true:=by
  obtain ⟨w,pp,g,v,q⟩:=h
  have hF:=FU_lt
  unfold units_right_p jn
  simp only
  rw [if_neg (by rw [w]; decide),hn,trim_nm hi,obind,within_ok FU _ _ _ g.1 g.2 (by omega),obind,within_ok FU _ _ _ v.1 (fun x hx=>⟨(v.2 x hx).1,by have:=(v.2 x hx).2; omega⟩) (by omega),obind,within_ok FU _ _ _ q.1 (fun x hx=>⟨(q.2 x hx).1,by have:=(q.2 x hx).2; omega⟩) (by omega),obind]
  rw [every_ok FU _ ?_ (by simp only [List.length_cons,List.length_nil]; omega),obind]
  have e1:¬ nm i = ⟨#[]⟩:=fun e=>by have:=congrArg ByteArray.size e; exact absurd this (by show ¬ (3:Nat) = 0; decide)
  have e2:(nm i).size ≤ 12:=by show (3:Nat) ≤ 12; decide
  simp [e1,e2,pp.1]
  omega
theorem right_sea (r:TRoll) (hG:0 ≤ r.fh∧r.fh ≤ 6) (hP:0 ≤ r.fc∧r.fc ≤ 12) (hL:0 ≤ r.fe∧r.fe ≤ 3):units_right_p FU r (sea r.fh r.fc r.fe) = some true:=by
  have hF:=FU_lt
  have z:∀ (n:Nat) (x:Int),x ∈ List.replicate n (0:Int) → 0 ≤ x∧x ≤ 0:=fun n x hx=>by rw [(List.mem_replicate.1 hx).2]; omega
  unfold units_right_p jn sea
  simp only
  rw [if_pos trivial,trim_sea,obind,within_ok FU _ _ _ (by rw [List.length_replicate]; omega) (z _) (by rw [List.length_replicate]; omega),obind,within_ok FU _ _ ((0:Nat):Int) (by rw [List.length_replicate]; omega) (z _) (by rw [List.length_replicate]; omega),obind,within_ok FU _ _ ((0:Nat):Int) (by rw [List.length_replicate]; omega) (z _) (by rw [List.length_replicate]; omega),obind]
  rw [every_ok FU _ ?_ (by simp only [List.length_cons,List.length_nil]; omega),obind]
  have e1:¬ (⟨#[115,101,97]⟩:ByteArray) = ⟨#[]⟩:=fun e=>by have:=congrArg ByteArray.size e; exact absurd this (by show ¬ (3:Nat) = 0; decide)
  have e2:(⟨#[115,101,97]⟩:ByteArray).size ≤ 12:=by show (3:Nat) ≤ 12; decide
  simp [e1,e2]
theorem RollOk.unit {r:TRoll} {us:List TUnit} (h:RollOk r us) {j:Nat} (hj:j < r.fo.length):(∃ h2:j < us.length,r.fo[j] = us[j]) ∨ (j = us.length∧r.fo[j] = sea r.fh r.fc r.fe):=by
  obtain ⟨G,P,L,U⟩:=r
  rcases h.all with e | e
  · simp only at e hj ⊢
    subst e; exact .inl ⟨hj,rfl⟩
  · simp only at e hj ⊢
    subst e
    by_cases h2:j < us.length
    · exact .inl ⟨h2,List.getElem_append_left h2⟩
    · have h3:j = us.length:=by simp only [List.length_append,List.length_cons,List.length_nil] at hj; omega
      subst h3
      exact .inr ⟨rfl,by rw [List.getElem_append_right (by omega)]; simp⟩
theorem RollOk.size {r:TRoll} {us:List TUnit} (h:RollOk r us):us.length ≤ r.fo.length∧r.fo.length ≤ us.length + 1:=by
  rcases h.all with e | e <;> rw [e] <;> simp
theorem checkroll_ok (r:TRoll) (us:List TUnit) (h:RollOk r us):units_CheckRoll_p FU r = some 0:=by
  have hF:=FU_lt
  have hs:=h.size
  have hl:=h.len
  have hg:=h.g
  have hp:=h.p
  have hv:=h.l
  unfold units_CheckRoll_p
  rw [every_ok FU _ ?_ (by simp only [List.length_cons,List.length_nil]; omega),obind,if_pos rfl]
  · have hh:=loop_ok (B:=units_CheckRoll_l1 FU r) (fun s:Bool × Nat × List (ByteArray × Bool)=>r.fo.length - s.2.1)
      (fun s=>s.2.1 ≤ r.fo.length∧(s.2.1 ≤ us.length → s.1 = false)∧∀ x,mget s.2.2 x ≠ none → ∃ j,∃ hj:j < r.fo.length,j < s.2.1∧r.fo[j].fp = x) (fun r=>r = .inr ()) ?_ FU (false,0,[]) ⟨by simp,fun _=>rfl,fun x hx=>absurd rfl hx⟩ (by simp only; omega)
    · obtain ⟨x,e,rfl⟩:=hh
      rw [e]; rfl
    · rintro ⟨q,i,D⟩ J ⟨a1,a2,a3⟩ hJ
      simp only at a1 a2 a3 hJ
      unfold units_CheckRoll_l1
      simp only
      split
      · rename_i hi
        have hnone:mget D r.fo[i].fp = none:=by
          rcases hm:mget D r.fo[i].fp with _ | b
          · rfl
          · exfalso
            obtain ⟨j,hj,hji,he⟩:=a3 r.fo[i].fp (by rw [hm]; simp)
            rcases h.unit hi with ⟨h2,e2⟩ | ⟨h2,e2⟩ <;> rcases h.unit hj with ⟨h3,e3⟩ | ⟨h3,e3⟩
            · rw [e2,e3,(h.land i h2).1,(h.land j h3).1] at he
              have:=nm_inj (by omega) (by omega) he; omega
            · omega
            · rw [e2,e3,(h.land j h3).1] at he
              exact nm_sea he
            · omega
        have hmD:mgetD D r.fo[i].fp false = false:=by unfold mgetD; rw [hnone]; rfl
        have next:∀ b,(i + 1 ≤ us.length → b = false) → ∃ x,J (b,i + 1,mset D r.fo[i].fp true) = some x∧x = .inr ():=fun b hb=>by
          refine hJ (b,i + 1,mset D r.fo[i].fp true) ⟨hi,hb,fun x hx=>?_⟩ (by simp only; omega)
          simp only at hx ⊢
          rw [mget_mset] at hx
          by_cases hx2:x = r.fo[i].fp
          · exact ⟨i,hi,by omega,hx2.symm⟩
          · rw [if_neg hx2] at hx
            obtain ⟨j,hj,hji,he⟩:=a3 x hx
            exact ⟨j,hj,by omega,he⟩
        rw [List.getElem?_eq_getElem hi,obind]
        rcases h.unit hi with ⟨h2,e2⟩ | ⟨h2,e2⟩
        · have hu:=h.land i h2
          have hw:r.fo[i].fu = false:=by rw [e2]; exact hu.2.1
          have hq:q = false:=a2 (by omega)
          have hr:units_right_p FU r r.fo[i] = some true:=by rw [e2]; exact right_land r us[i] (by omega) (by omega) (by omega) (by omega) hu.1 hu.2
          rw [hr,obind,hw,if_neg (by decide),hmD,hq]
          by_cases h0:0 < i
          · rw [if_pos h0,every_ok FU _ (by simp) (by simp only [List.length_cons,List.length_nil]; omega),obind,if_pos rfl]
            exact next false fun _=>rfl
          · rw [if_neg h0,every_ok FU _ (by simp) (by simp only [List.length_cons,List.length_nil]; omega),obind,if_pos rfl]
            exact next false fun _=>rfl
        · have hw:r.fo[i].fu = true:=by rw [e2]; rfl
          have hr:units_right_p FU r r.fo[i] = some true:=by rw [e2]; exact right_sea r ⟨hg.1,by omega⟩ ⟨hp.1,by omega⟩ ⟨hv.1,by omega⟩
          rw [hr,obind,hw,if_pos rfl,hmD,if_pos (by omega),every_ok FU _ (by simp) (by simp only [List.length_cons,List.length_nil]; omega),obind,if_pos rfl]
          exact next true fun h5=>by omega
      · exact ⟨_,rfl,rfl⟩
  · simp; omega
theorem counted_ok (r:TRoll) (us:List TUnit) (h:RollOk r us) (k:Int) (h1:1 ≤ k) (h2:k ≤ 8):balance_counted_p FU r k = some (.ok ⟨r,k⟩):=by
  unfold balance_counted_p
  rw [checkroll_ok r us h,obind]
  unfold balance_need_p
  rw [if_pos rfl,obind]
  unfold exc
  simp only
  rw [if_neg (by omega)]
  unfold balance_fail_p
  rw [decide_eq_false (by omega),if_neg (by decide),obind]
end Go.Proofs.YtfccehcnajelgaaGreatDoor
