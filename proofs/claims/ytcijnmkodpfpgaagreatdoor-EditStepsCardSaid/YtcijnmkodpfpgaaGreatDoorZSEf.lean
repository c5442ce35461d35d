/- Plain laws: the checks of sessions agree. No program in sight but the printed functions. -/
import Derived.Test.YtcijnmkodpfpgaaGreatDoorZSEe
namespace Go.Proofs.YtcijnmkodpfpgaaGreatDoor
open Go
theorem chkO_P {us:List TUnit} {s:TSession} (h:chkP us.length s.fPlan s.fK ≠ 0):chkO us us.length s = chkP us.length s.fPlan s.fK:=by
  unfold chkP at h
  unfold chkO chkP
  by_cases h1:1 ≤ s.fK∧s.fK ≤ 8
  · rw [if_pos h1] at h ⊢
    rw [if_pos h1]
    by_cases h2:Fits us.length s.fPlan s.fK
    · rw [if_pos h2] at h; exact absurd rfl h
    · rw [if_neg h2,if_neg h2]
  · rw [if_neg h1,if_neg h1]
theorem chkO_in {us:List TUnit} {s:TSession} (h:chkP us.length s.fPlan s.fK = 0) (q:Prop) (hq:SOk us us.length s ↔ q) [Decidable q]:chkO us us.length s = if q then 0 else 260:=by
  obtain ⟨h1,h2⟩:=chkP_no h
  unfold chkO
  rw [if_pos h1,if_pos h2]
  by_cases hs:SOk us us.length s
  · rw [if_pos hs,if_pos (hq.1 hs)]
  · rw [if_neg hs,if_neg fun h=>hs (hq.2 h)]
theorem range_step (x:TMove) (n:Nat) (k:Int) (q:Bool) {β:Type} (J:Bool → β) (z:Int) (hz:z = n) :
    (if q = true then (if 0 ≤ x.fUnit then (if x.fUnit < z then (if 0 ≤ x.fFrom then (if x.fFrom < k then (if 0 ≤ x.fTo then (if x.fTo < k then J (!(decide (x.fFrom = x.fTo))) else J false) else J false) else J false) else J false) else J false) else J false) else J false) = J (q && decide (Mv n k x)):=by
  subst hz
  cases q with
  | false=>rfl
  | true=>
    rw [if_pos rfl,Bool.true_and]
    unfold Mv
    by_cases h1:0 ≤ x.fUnit
    · by_cases h2:x.fUnit < n
      · by_cases h3:0 ≤ x.fFrom
        · by_cases h4:x.fFrom < k
          · by_cases h5:0 ≤ x.fTo
            · by_cases h6:x.fTo < k
              · simp [h1,h2,h3,h4,h5,h6]
              · simp [h1,h2,h3,h4,h5,h6]
            · simp [h1,h2,h3,h4,h5]
          · simp [h1,h2,h3,h4]
        · simp [h1,h2,h3]
      · simp [h1,h2]
    · simp [h1]
theorem steps_done (s:TSession) (n:Nat) (hn:s.fPlan.length = n) (h:s.fDone.length ≤ 1000) (q0:Bool):loopF (edit_Check_l4 FU s) FU (q0,0) = some (q0 && decide (∀ x ∈ s.fDone,Mv n s.fK x)):=by
  have hF:=FU_lt
  refine and_loop (l:=s.fDone) (Mv n s.fK) (fun J q i=>?_) (by omega) q0
  unfold edit_Check_l4 jn
  simp only
  by_cases hi:i < s.fDone.length
  · rw [if_pos hi,dif_pos hi,List.getElem?_eq_getElem hi,obind]
    exact range_step _ n s.fK q (fun q731=>J (q731,i + 1)) _ (by rw [hn])
  · rw [if_neg hi,dif_neg hi]
theorem steps_undone (s:TSession) (n:Nat) (hn:s.fPlan.length = n) (h:s.fUndone.length ≤ 1000) (q0:Bool):loopF (edit_Check_l2 FU s) FU (q0,0) = some (q0 && decide (∀ x ∈ s.fUndone,Mv n s.fK x)):=by
  have hF:=FU_lt
  refine and_loop (l:=s.fUndone) (Mv n s.fK) (fun J q i=>?_) (by omega) q0
  unfold edit_Check_l2 jn
  simp only
  by_cases hi:i < s.fUndone.length
  · rw [if_pos hi,dif_pos hi,List.getElem?_eq_getElem hi,obind]
    exact range_step _ n s.fK q (fun q731=>J (q731,i + 1)) _ (by rw [hn])
  · rw [if_neg hi,dif_neg hi]
theorem walk_done (s:TSession) (n:Nat) (hp:s.fPlan.length = n) (hn:n ≤ 1000) (h:s.fDone.length ≤ 1000) (q0:Bool) (hq:q0 = true → ∀ x ∈ s.fDone,Mv n s.fK x):loopF (edit_Check_l3 FU s) FU (q0,0,s.fPlan) = some (q0 && walkO revM s.fDone.reverse s.fPlan):=by
  have hF:=FU_lt
  cases q0 with
  | false=>
    rw [FU_3,loopF_succ]
    unfold edit_Check_l3
    simp only
    split <;> rfl
  | true=>
    refine walk_prog (l:=s.fDone) (n:=n) (k:=s.fK) revM (fun _=>mv_rev) (hq rfl) h hn (fun J q i xs hx=>?_) s.fPlan hp true
    unfold edit_Check_l3
    simp only
    by_cases hi:i < s.fDone.length
    · rw [if_pos hi,dif_pos hi]
      cases q with
      | false=>rfl
      | true=>
        rw [if_pos rfl,if_pos rfl,idx_ok (by omega) (by omega),obind]
        have e:((((s.fDone.length:Nat):Int) - 1) - ((i:Nat):Int)).toNat = s.fDone.length - 1 - i:=by omega
        have hm:=mv_rev (hq rfl _ (List.getElem_mem (l:=s.fDone) (n:=s.fDone.length - 1 - i) (by omega)))
        simp only [e]
        exact put_prog xs _ _ _ hm.1 (by have:=hm.2.1; omega) (by omega) (fun ys=>J (true,i + 1,ys)) (J (false,i + 1,xs))
    · rw [if_neg hi,dif_neg hi]
theorem walk_undone (s:TSession) (n:Nat) (hp:s.fPlan.length = n) (hn:n ≤ 1000) (h:s.fUndone.length ≤ 1000) (q0:Bool) (hq:q0 = true → ∀ x ∈ s.fUndone,Mv n s.fK x):loopF (edit_Check_l1 FU s) FU (q0,0,s.fPlan) = some (q0 && walkO id s.fUndone.reverse s.fPlan):=by
  have hF:=FU_lt
  cases q0 with
  | false=>
    rw [FU_3,loopF_succ]
    unfold edit_Check_l1
    simp only
    split <;> rfl
  | true=>
    refine walk_prog (l:=s.fUndone) (n:=n) (k:=s.fK) id (fun _ h=>h) (hq rfl) h hn (fun J q i xs hx=>?_) s.fPlan hp true
    unfold edit_Check_l1
    simp only
    by_cases hi:i < s.fUndone.length
    · rw [if_pos hi,dif_pos hi]
      cases q with
      | false=>rfl
      | true=>
        rw [if_pos rfl,if_pos rfl,idx_ok (by omega) (by omega),obind]
        have e:((((s.fUndone.length:Nat):Int) - 1) - ((i:Nat):Int)).toNat = s.fUndone.length - 1 - i:=by omega
        have hm:=hq rfl _ (List.getElem_mem (l:=s.fUndone) (n:=s.fUndone.length - 1 - i) (by omega))
        simp only [e]
        exact put_prog xs _ _ _ hm.1 (by have:=hm.2.1; omega) (by omega) (fun ys=>J (true,i + 1,ys)) (J (false,i + 1,xs))
    · rw [if_neg hi,dif_neg hi]
theorem sok_iff {us:List TUnit} {s:TSession} (h:chkP us.length s.fPlan s.fK = 0):SOk us us.length s ↔ tlO us s.fPlan s.fK = s.fTotals∧(s.fDone.length ≤ 200∧(∀ x ∈ s.fDone,Mv us.length s.fK x)∧walkO revM s.fDone.reverse s.fPlan = true)∧s.fUndone.length ≤ 200∧(∀ x ∈ s.fUndone,Mv us.length s.fK x)∧walkO id s.fUndone.reverse s.fPlan = true:=by
  obtain ⟨h1,h2⟩:=chkP_no h
  exact ⟨fun h=>⟨h.tot.symm,⟨h.dl,h.dm,h.db⟩,h.ul,h.um,h.ub⟩,fun h=>⟨h1,h2,h.1.symm,h.2.1.1,h.2.1.2.1,h.2.2.1,h.2.2.2.1,h.2.1.2.2,h.2.2.2.2⟩⟩
theorem checkE_ok {g:TGraph} {r:TRoll} {us:List TUnit} (c:Case g r us) (s:TSession) (hs:Small s):edit_Check_p FU g r s = some (chkO us us.length s):=by
  have hlen:=c.roll.len
  unfold edit_Check_p
  rw [judge_ok c,obind]
  by_cases h0:chkP us.length s.fPlan s.fK = 0
  · obtain ⟨h1,h2⟩:=chkP_no h0
    have hp:s.fPlan.length = us.length:=h2.1
    rw [if_pos h0,totalsP_ok r us c.roll _ _ h1.1 h1.2 h2,obind,if_pos rfl,equal_ok _ _ (by rw [tl_len]; omega),obind,chkO_in h0 _ (sok_iff h0)]
    by_cases ht:tlO us s.fPlan s.fK = s.fTotals
    · rw [if_pos (decide_eq_true ht),steps_done s us.length hp hs.2.2.1,obind]
      unfold jn
      simp only
      rw [walk_done s us.length hp (by omega) hs.2.2.1 _ (fun h=>by simp only [Bool.and_eq_true,decide_eq_true_eq] at h; exact h.2)]
      simp only [obind]
      rw [steps_undone s us.length hp hs.2.2.2]
      simp only [obind]
      rw [walk_undone s us.length hp (by omega) hs.2.2.2 _ (fun h=>by simp only [Bool.and_eq_true,decide_eq_true_eq] at h; exact h.2)]
      simp only [obind,Bool.and_eq_true,decide_eq_true_eq]
      by_cases a:(s.fDone.length ≤ 200∧∀ x ∈ s.fDone,Mv us.length s.fK x)∧walkO revM s.fDone.reverse s.fPlan = true
      · rw [if_pos a]
        by_cases b:(s.fUndone.length ≤ 200∧∀ x ∈ s.fUndone,Mv us.length s.fK x)∧walkO id s.fUndone.reverse s.fPlan = true
        · rw [if_pos b,if_pos ⟨ht,⟨a.1.1,a.1.2,a.2⟩,b.1.1,b.1.2,b.2⟩]
        · rw [if_neg b,if_neg fun h=>b ⟨⟨h.2.2.1,h.2.2.2.1⟩,h.2.2.2.2⟩]
      · rw [if_neg a,if_neg fun h=>a ⟨⟨h.2.1.1,h.2.1.2.1⟩,h.2.1.2.2⟩]
    · rw [if_neg (by simpa using ht),if_neg fun h=>ht h.1]
  · rw [if_neg h0,chkO_P h0]
theorem stepsR_ok (l:List TMove) (n:Nat) (k:Int) (h:l.length ≤ 1000):wardmoteref26_steps_p FU l n k = some (decide ((∀ x ∈ l,Mv n k x)∧l.length ≤ 200)):=by
  have hF:=FU_lt
  unfold wardmoteref26_steps_p
  rw [all_loop (l:=l) (Mv n k) false (fun J i=>?_) (by omega)]
  · split
    · rename_i hx; simp only [thn]; exact congrArg some (decide_eq_decide.2 ⟨fun h=>⟨hx,h⟩,fun h=>h.2⟩)
    · rename_i hx; simp only [thn]; rw [decide_eq_false fun h=>hx h.1]
  · unfold wardmoteref26_steps_l1 jn
    simp only
    by_cases hi:i < l.length
    · rw [if_pos hi,dif_pos hi,List.getElem?_eq_getElem hi,obind]
      generalize l[i] = x
      by_cases h1:x.fUnit < 0
      · rw [if_pos h1,if_pos trivial,if_neg fun hm=>by unfold Mv at hm; omega]
      · by_cases h2:(n:Int) ≤ x.fUnit
        · rw [if_neg h1,if_pos h2,if_pos trivial,if_neg fun hm=>by unfold Mv at hm; omega]
        · by_cases h3:x.fFrom < 0
          · rw [if_neg h1,if_neg h2,if_pos h3,if_pos trivial,if_neg fun hm=>by unfold Mv at hm; omega]
          · by_cases h4:k ≤ x.fFrom
            · rw [if_neg h1,if_neg h2,if_neg h3,if_pos h4,if_pos trivial,if_neg fun hm=>by unfold Mv at hm; omega]
            · by_cases h5:x.fTo < 0
              · rw [if_neg h1,if_neg h2,if_neg h3,if_neg h4,if_pos h5,if_pos trivial,if_neg fun hm=>by unfold Mv at hm; omega]
              · by_cases h6:k ≤ x.fTo
                · rw [if_neg h1,if_neg h2,if_neg h3,if_neg h4,if_neg h5,if_pos h6,if_pos trivial,if_neg fun hm=>by unfold Mv at hm; omega]
                · rw [if_neg h1,if_neg h2,if_neg h3,if_neg h4,if_neg h5,if_neg h6]
                  by_cases h7:x.fFrom = x.fTo
                  · rw [decide_eq_true h7,if_pos rfl,if_neg fun hm=>by unfold Mv at hm; omega]
                  · rw [decide_eq_false h7,if_neg (by decide),if_pos (show Mv n k x by unfold Mv; omega)]
    · rw [if_neg hi,dif_neg hi]
theorem walk_ref {l:List TMove} {n:Nat} {k:Int} (tr:TMove → TMove) (htr:∀ m,Mv n k m → Mv n k (tr m)) (hm:∀ m ∈ l,Mv n k m) (hl:l.length ≤ 1000) (hn:n ≤ 1000) {B:(List Int × Int → Option (Int ⊕ Unit)) → List Int × Int → Option (Int ⊕ Unit)}
    (hB:∀ J xs (i:Nat),xs.length = n → B J (xs,(l.length:Int) - 1 - i) = if h:i < l.length then (match putO xs (tr (l[l.length - 1 - i]'(by omega))).fUnit (tr (l[l.length - 1 - i]'(by omega))).fFrom (tr (l[l.length - 1 - i]'(by omega))).fTo with | some ys=>J (ys,(l.length:Int) - 1 - (i + 1:Nat)) | none=>some (.inl 260)) else some (.inr ()))
    (p:List Int) (hp:p.length = n):loopF B FU (p,(l.length:Int) - 1) = if walkO tr l.reverse p = true then some (.inr ()) else some (.inl 260):=by
  have hF:=FU_lt
  have hh:=loop_ok (B:=B) (fun s:List Int × Int=>(s.2 + 1).toNat) (fun s=>∃ i:Nat,s.2 = (l.length:Int) - 1 - i∧i ≤ l.length∧s.1.length = n∧walkO tr l.reverse p = walkO tr (l.reverse.drop i) s.1) (fun y=>y = if walkO tr l.reverse p = true then .inr () else .inl 260) ?_ FU (p,(l.length:Int) - 1) ⟨0,by simp,Nat.zero_le _,hp,by simp⟩ (by simp only; omega)
  · obtain ⟨y,e,rfl⟩:=hh
    rw [e]; split <;> rfl
  · rintro ⟨xs,z⟩ J ⟨i,h0,h1,h2,h3⟩ hJ
    simp only at h0 h1 h2 h3 hJ
    subst h0
    rw [hB J xs i h2]
    split
    · rename_i hi
      rw [rev_at hi] at h3
      simp only [walkO] at h3
      rcases hq:putO xs (tr (l[l.length - 1 - i]'(by omega))).fUnit (tr (l[l.length - 1 - i]'(by omega))).fFrom (tr (l[l.length - 1 - i]'(by omega))).fTo with _ | ys
      · rw [hq] at h3
        exact ⟨_,rfl,by rw [h3]; rfl⟩
      · rw [hq] at h3
        exact hJ _ ⟨i + 1,rfl,hi,by rw [putO_len hq]; exact h2,h3⟩ (by simp only; omega)
    · rename_i hi
      refine ⟨_,rfl,?_⟩
      rw [h3,List.drop_eq_nil_of_le (by rw [List.length_reverse]; omega)]
      rfl
theorem walkR_done (s:TSession) (n:Nat) (hp:s.fPlan.length = n) (hn:n ≤ 1000) (h:s.fDone.length ≤ 1000) (hq:∀ x ∈ s.fDone,Mv n s.fK x):loopF (wardmoteref26_Check_l2 FU s) FU (s.fPlan,((s.fDone.length:Nat):Int) - 1) = if walkO revM s.fDone.reverse s.fPlan = true then some (.inr ()) else some (.inl 260):=by
  refine walk_ref (l:=s.fDone) (n:=n) (k:=s.fK) revM (fun _=>mv_rev) hq h hn (fun J xs i hx=>?_) s.fPlan hp
  unfold wardmoteref26_Check_l2
  simp only
  by_cases hi:i < s.fDone.length
  · have e:(((s.fDone.length:Nat):Int) - 1 - ((i:Nat):Int)).toNat = s.fDone.length - 1 - i:=by omega
    have hm:=hq _ (List.getElem_mem (l:=s.fDone) (n:=s.fDone.length - 1 - i) (by omega))
    rw [if_pos (by omega),dif_pos hi,idx_ok (by omega) (by omega),obind]
    simp only [e]
    rw [put_ref xs _ _ _ hm.1 (by have:=hm.2.1; omega) (by omega),obind]
    simp only [revM]
    generalize putO xs _ _ _ = o
    cases o with
    | none=>rfl
    | some ys=>
      simp only
      rw [if_pos trivial,chkI (by omega) (by omega),obind]
      exact congrArg (fun z=>J (ys,z)) (by omega)
  · rw [if_neg (by omega),dif_neg hi]
theorem walkR_undone (s:TSession) (n:Nat) (hp:s.fPlan.length = n) (hn:n ≤ 1000) (h:s.fUndone.length ≤ 1000) (hq:∀ x ∈ s.fUndone,Mv n s.fK x):loopF (wardmoteref26_Check_l1 FU s) FU (s.fPlan,((s.fUndone.length:Nat):Int) - 1) = if walkO id s.fUndone.reverse s.fPlan = true then some (.inr ()) else some (.inl 260):=by
  refine walk_ref (l:=s.fUndone) (n:=n) (k:=s.fK) id (fun _ h=>h) hq h hn (fun J xs i hx=>?_) s.fPlan hp
  unfold wardmoteref26_Check_l1
  simp only
  by_cases hi:i < s.fUndone.length
  · have e:(((s.fUndone.length:Nat):Int) - 1 - ((i:Nat):Int)).toNat = s.fUndone.length - 1 - i:=by omega
    have hm:=hq _ (List.getElem_mem (l:=s.fUndone) (n:=s.fUndone.length - 1 - i) (by omega))
    rw [if_pos (by omega),dif_pos hi,idx_ok (by omega) (by omega),obind]
    simp only [e]
    rw [put_ref xs _ _ _ hm.1 (by have:=hm.2.1; omega) (by omega),obind]
    simp only [id]
    generalize putO xs _ _ _ = o
    cases o with
    | none=>rfl
    | some ys=>
      simp only
      rw [if_pos trivial,chkI (by omega) (by omega),obind]
      exact congrArg (fun z=>J (ys,z)) (by omega)
  · rw [if_neg (by omega),dif_neg hi]
theorem checkR_ok {g:TGraph} {r:TRoll} {us:List TUnit} (c:Case g r us) (s:TSession) (hs:Small s):wardmoteref26_Check_p FU g r s = some (chkO us us.length s):=by
  have hlen:=c.roll.len
  unfold wardmoteref26_Check_p
  rw [check25_ok c,obind]
  by_cases h0:chkP us.length s.fPlan s.fK = 0
  · obtain ⟨h1,h2⟩:=chkP_no h0
    have hp:s.fPlan.length = us.length:=h2.1
    rw [if_pos h0,totalsR_ok r us c.roll _ _ h1.1 h1.2 h2,obind,sameInts_ok _ _ (by rw [tl_len]; omega),obind,chkO_in h0 _ (sok_iff h0)]
    by_cases ht:tlO us s.fPlan s.fK = s.fTotals
    · rw [if_pos (decide_eq_true ht),c.n,stepsR_ok _ _ _ hs.2.2.1,obind]
      by_cases a:(∀ x ∈ s.fDone,Mv us.length s.fK x)∧s.fDone.length ≤ 200
      · rw [if_pos (decide_eq_true a),stepsR_ok _ _ _ hs.2.2.2,obind]
        by_cases b:(∀ x ∈ s.fUndone,Mv us.length s.fK x)∧s.fUndone.length ≤ 200
        · rw [if_pos (decide_eq_true b),walkR_done s us.length hp (by omega) hs.2.2.1 a.1]
          by_cases w1:walkO revM s.fDone.reverse s.fPlan = true
          · rw [if_pos w1]
            simp only [thn]
            rw [walkR_undone s us.length hp (by omega) hs.2.2.2 b.1]
            by_cases w2:walkO id s.fUndone.reverse s.fPlan = true
            · rw [if_pos w2,if_pos ⟨ht,⟨a.2,a.1,w1⟩,b.2,b.1,w2⟩]
            · rw [if_neg w2,if_neg fun h=>w2 h.2.2.2.2]
          · rw [if_neg w1,if_neg fun h=>w1 h.2.1.2.2]; rfl
        · rw [if_neg (by simpa using b),if_neg fun h=>b ⟨h.2.2.2.1,h.2.2.1⟩]
      · rw [if_neg (by simpa using a),if_neg fun h=>a ⟨h.2.1.2.1,h.2.1.1⟩]
    · rw [if_neg (by simpa using ht),if_neg fun h=>ht h.1]
  · rw [if_neg h0,chkO_P h0]
end Go.Proofs.YtcijnmkodpfpgaaGreatDoor
