/- Plain laws: sessions are checked alike. No program in sight but the printed functions. -/
import Derived.Test.YtcijnmkodpfpgaaGreatDoorZSEd
namespace Go.Proofs.YtcijnmkodpfpgaaGreatDoor
open Go
instance (n:Nat) (k:Int) (m:TMove):Decidable (Mv n k m):=by unfold Mv; infer_instance
theorem and_loop {α:Type} {l:List α} (P:α → Prop) [DecidablePred P] {B:(Bool × Nat → Option Bool) → Bool × Nat → Option Bool} (hB:∀ J q i,B J (q,i) = if h:i < l.length then J (q && decide (P l[i]),i + 1) else some q) {n:Nat} (hn:l.length < n) (q0:Bool) :
    loopF B n (q0,0) = some (q0 && decide (∀ x ∈ l,P x)):=by
  have key:∀ m i q,l.length - i < m → loopF B m (q,i) = some (q && decide (∀ x ∈ l.drop i,P x)):=by
    intro m
    induction m with
    | zero=>intro i q h; omega
    | succ m ih=>
      intro i q h
      rw [loopF_succ,hB]
      by_cases hi:i < l.length
      · rw [dif_pos hi,ih (i + 1) _ (by omega)]
        have hd:=List.drop_eq_getElem_cons hi
        have:(∀ x ∈ l.drop i,P x) ↔ P l[i]∧∀ x ∈ l.drop (i + 1),P x:=by
          rw [hd]
          exact ⟨fun h2=>⟨h2 _ (List.mem_cons_self ..),fun x hx=>h2 x (List.mem_cons_of_mem _ hx)⟩,fun h2 x hx=>(List.mem_cons.1 hx).elim (fun e=>e ▸ h2.1) (h2.2 x)⟩
        simp only [this,Bool.decide_and,Bool.and_assoc]
      · rw [dif_neg hi,List.drop_eq_nil_of_le (by omega)]; simp
  have:=key n 0 q0 (by omega)
  simpa using this
theorem eq_loop {α:Type} [DecidableEq α] {a b:List α} (hl:a.length = b.length) {B:(Nat → Option (Bool ⊕ Unit)) → Nat → Option (Bool ⊕ Unit)} (hB:∀ J i,B J i = if i < a.length then (a[i]?).bind fun x=>(b[i]?).bind fun y=>if x = y then J (i + 1) else some (.inl false) else some (.inr ())) {n:Nat} (hn:a.length < n) :
    thn (loopF B n 0) (fun _=>some true) = some (decide (a = b)):=by
  have hh:=loop_ok (B:=B) (fun i:Nat=>a.length - i) (fun i=>i ≤ a.length∧a.take i = b.take i) (fun y=>y = .inr ()∧a = b ∨ y = .inl false∧a ≠ b) ?_ n 0 ⟨Nat.zero_le _,by simp⟩ (by omega)
  · obtain ⟨y,e,hy⟩:=hh
    rw [e]
    rcases hy with ⟨rfl,hy⟩ | ⟨rfl,hy⟩
    · simp [thn,hy]
    · simp [thn,hy]
  · intro i J ⟨h1,h2⟩ hJ
    rw [hB]
    split
    · rename_i hi
      rw [List.getElem?_eq_getElem hi,obind,List.getElem?_eq_getElem (by omega),obind]
      split
      · rename_i he
        refine hJ (i + 1) ⟨hi,?_⟩ (by omega)
        rw [List.take_succ_eq_append_getElem hi,List.take_succ_eq_append_getElem (by omega),h2,he]
      · rename_i he
        exact ⟨_,rfl,.inr ⟨rfl,fun e=>he (by subst e; rfl)⟩⟩
    · refine ⟨_,rfl,.inl ⟨rfl,?_⟩⟩
      rwa [List.take_of_length_le (by omega),List.take_of_length_le (by omega)] at h2
theorem equal_ok (a b:List Int) (h:a.length ≤ 1000):slices_Equal_int_int_p FU a b = some (decide (a = b)):=by
  have hF:=FU_lt
  unfold slices_Equal_int_int_p
  split
  · rename_i hl; exact eq_loop hl (fun J i=>by rfl) (by omega)
  · rename_i hl; rw [decide_eq_false fun e=>hl (by rw [e])]
theorem sameInts_ok (a b:List Int) (h:a.length ≤ 1000):wardmoteref26_sameInts_p FU a b = some (decide (a = b)):=by
  have hF:=FU_lt
  unfold wardmoteref26_sameInts_p
  split
  · rename_i hl; exact eq_loop hl (fun J i=>by rfl) (by omega)
  · rename_i hl; rw [decide_eq_false fun e=>hl (by rw [e])]
theorem sameMoves_ok (a b:List TMove) (h:a.length ≤ 1000):wardmoteref26_sameMoves_p FU a b = some (decide (a = b)):=by
  have hF:=FU_lt
  unfold wardmoteref26_sameMoves_p
  split
  · rename_i hl; exact eq_loop hl (fun J i=>by rfl) (by omega)
  · rename_i hl; rw [decide_eq_false fun e=>hl (by rw [e])]
def Small (s:TSession):Prop:=s.fPlan.length ≤ 1000∧s.fTotals.length ≤ 1000∧s.fDone.length ≤ 1000∧s.fUndone.length ≤ 1000
theorem same_ok (a b:TSession) (h:Small a):wardmoteref26_Same_p FU a b = some (decide (a = b)):=by
  unfold wardmoteref26_Same_p
  rw [sameInts_ok _ _ h.1,sameInts_ok _ _ h.2.1,sameMoves_ok _ _ h.2.2.1,sameMoves_ok _ _ h.2.2.2]
  simp only [obind]
  obtain ⟨k,p,t,d,u⟩:=a
  obtain ⟨k', p', t', d', u'⟩:=b
  simp only [decide_eq_true_eq,TSession.mk.injEq]
  by_cases h1:k = k'
  · by_cases h2:p = p'
    · by_cases h3:t = t'
      · by_cases h4:d = d'
        · simp [h1,h2,h3,h4]
        · simp [h1,h2,h3,h4]
      · simp [h1,h2,h3]
    · simp [h1,h2]
  · simp [h1]
theorem contains_ok (xs:List Int) (f:Int) (h:xs.length ≤ 1000):slices_Contains_api_Plan_int_p FU xs f = some (decide (f ∈ xs)):=by
  have hF:=FU_lt
  have hh:=loop_ok (B:=slices_Index_api_Plan_int_l1 FU xs f) (fun i:Nat=>xs.length - i) (fun i=>i ≤ xs.length∧f ∉ xs.take i) (fun y=>y = .inr ()∧f ∉ xs ∨ ∃ j:Nat,y = .inl (j:Int)∧f ∈ xs) ?_ FU 0 ⟨Nat.zero_le _,by simp⟩ (by omega)
  · obtain ⟨y,e,hy⟩:=hh
    unfold slices_Contains_api_Plan_int_p slices_Index_api_Plan_int_p
    rw [e]
    rcases hy with ⟨rfl,hy⟩ | ⟨j,rfl,hy⟩
    · rw [decide_eq_false hy]; rfl
    · rw [decide_eq_true hy]; simp [thn]
  · intro i J ⟨h1,h2⟩ hJ
    unfold slices_Index_api_Plan_int_l1
    simp only
    split
    · rename_i hi
      rw [List.getElem?_eq_getElem hi,obind]
      split
      · rename_i he; exact ⟨_,rfl,.inr ⟨i,rfl,by rw [he]; exact List.getElem_mem _⟩⟩
      · rename_i he
        refine hJ (i + 1) ⟨hi,?_⟩ (by omega)
        rw [List.take_succ_eq_append_getElem hi,List.mem_append,List.mem_singleton]
        rintro (h3 | h3)
        · exact h2 h3
        · exact he h3
    · exact ⟨_,rfl,.inl ⟨rfl,by rwa [List.take_of_length_le (by omega)] at h2⟩⟩
theorem put_prog {β:Type} (xs:List Int) (u f t:Int) (h0:0 ≤ u) (h1:u < xs.length) (hl:xs.length ≤ 1000) (A:List Int → Option β) (B:Option β) :
    ((idx xs u).bind fun x=>if x = f then (slices_Clone_api_Plan_int_p FU xs).bind fun y=>(idx y u).bind fun _=>(put y ((u.toNat:Nat):Int) t).bind fun ys=>(slices_Contains_api_Plan_int_p FU ys f).bind fun q=>if q = true then A ys else B else B) =
    match putO xs u f t with | some ys=>A ys | none=>B:=by
  have hu:u.toNat < xs.length:=by omega
  rw [idx_ok h0 hu,obind]
  unfold putO
  rw [List.getElem?_eq_getElem hu]
  by_cases hx:xs[u.toNat] = f
  · rw [if_pos hx,cloneP_ok xs (by omega),obind,idx_ok h0 hu,obind,put_ok _ hu,obind,contains_ok _ _ (by simpa using hl),obind]
    by_cases hf:f ∈ xs.set u.toNat t
    · rw [if_pos (decide_eq_true hf),if_pos ⟨by rw [hx],hf⟩]
    · rw [if_neg (by simpa using hf),if_neg fun h=>hf h.2]
  · rw [if_neg hx,if_neg fun h=>hx (Option.some.inj h.1)]
theorem put_ref (xs:List Int) (u f t:Int) (h0:0 ≤ u) (h1:u < xs.length) (hl:xs.length ≤ 1000):wardmoteref26_put_p FU xs u f t = some (match putO xs u f t with | some ys=>(ys,true) | none=>([],false)):=by
  have hF:=FU_lt
  have hu:u.toNat < xs.length:=by omega
  unfold wardmoteref26_put_p
  rw [idx_ok h0 hu,obind]
  unfold putO
  rw [List.getElem?_eq_getElem hu]
  by_cases hx:xs[u.toNat] = f
  · rw [if_pos hx,appS [] xs (by simp only [List.length_nil]; omega),obind,List.nil_append,idx_ok h0 hu,obind,put_ok _ hu,obind]
    generalize hz:xs.set u.toNat t = zs
    have hzl:zs.length ≤ 1000:=by rw [← hz]; simpa using hl
    have hh:=loop_ok (B:=wardmoteref26_put_l1 FU zs f) (fun i:Nat=>zs.length - i) (fun i=>i ≤ zs.length∧f ∉ zs.take i) (fun y=>y = .inr ()∧f ∉ zs ∨ y = .inl (zs,true)∧f ∈ zs) ?_ FU 0 ⟨Nat.zero_le _,by simp⟩ (by omega)
    · obtain ⟨y,e,hy⟩:=hh
      rw [e]
      rcases hy with ⟨rfl,hy⟩ | ⟨rfl,hy⟩
      · rw [if_neg fun h=>hy h.2]; rfl
      · rw [if_pos ⟨by rw [hx],hy⟩]; rfl
    · intro i J ⟨h1,h2⟩ hJ
      unfold wardmoteref26_put_l1
      simp only
      split
      · rename_i hi
        rw [List.getElem?_eq_getElem hi,obind]
        split
        · rename_i he; exact ⟨_,rfl,.inr ⟨rfl,by rw [← he]; exact List.getElem_mem _⟩⟩
        · rename_i he
          refine hJ (i + 1) ⟨hi,?_⟩ (by omega)
          rw [List.take_succ_eq_append_getElem hi,List.mem_append,List.mem_singleton]
          rintro (h3 | h3)
          · exact h2 h3
          · exact he h3.symm
      · exact ⟨_,rfl,.inl ⟨rfl,by rwa [List.take_of_length_le (by omega)] at h2⟩⟩
  · rw [if_neg hx,if_neg fun h=>hx (Option.some.inj h.1)]
theorem putO_len {p q:List Int} {u f t:Int} (h:putO p u f t = some q):q.length = p.length:=by
  obtain ⟨_,_,rfl⟩:=putO_some h
  rw [List.length_set]
theorem rev_at {α:Type} {l:List α} {i:Nat} (h:i < l.length):l.reverse.drop i = l[l.length - 1 - i]'(by omega) :: l.reverse.drop (i + 1):=by
  rw [List.drop_eq_getElem_cons (by simpa using h),List.getElem_reverse]
theorem walk_prog {l:List TMove} {n:Nat} {k:Int} (tr:TMove → TMove) (htr:∀ m,Mv n k m → Mv n k (tr m)) (hm:∀ m ∈ l,Mv n k m) (hl:l.length ≤ 1000) (hn:n ≤ 1000) {B:(Bool × Nat × List Int → Option Bool) → Bool × Nat × List Int → Option Bool}
    (hB:∀ J q i xs,xs.length = n → B J (q,i,xs) = if h:i < l.length then (if q = true then match putO xs (tr (l[l.length - 1 - i]'(by omega))).fUnit (tr (l[l.length - 1 - i]'(by omega))).fFrom (tr (l[l.length - 1 - i]'(by omega))).fTo with | some ys=>J (true,i + 1,ys) | none=>J (false,i + 1,xs) else some q) else some q)
    (p:List Int) (hp:p.length = n) (q0:Bool):loopF B FU (q0,0,p) = some (q0 && walkO tr l.reverse p):=by
  have hF:=FU_lt
  have hh:=loop_ok (B:=B) (fun s:Bool × Nat × List Int=>l.length - s.2.1) (fun s=>s.2.1 ≤ l.length∧s.2.2.length = n∧(q0 && walkO tr l.reverse p) = (s.1 && walkO tr (l.reverse.drop s.2.1) s.2.2)) (fun y=>y = (q0 && walkO tr l.reverse p)) ?_ FU (q0,0,p) ⟨Nat.zero_le _,hp,by simp⟩ (by simp only; omega)
  · obtain ⟨y,e,rfl⟩:=hh; exact e
  · rintro ⟨q,i,xs⟩ J ⟨h1,h2,h3⟩ hJ
    simp only at h1 h2 h3 hJ
    rw [hB J q i xs h2]
    split
    · rename_i hi
      rw [rev_at hi] at h3
      cases q with
      | false=>rw [if_neg (by decide)]; exact ⟨_,rfl,by rw [h3]; rfl⟩
      | true=>
        rw [if_pos rfl]
        simp only [walkO] at h3
        rcases hq:putO xs (tr (l[l.length - 1 - i]'(by omega))).fUnit (tr (l[l.length - 1 - i]'(by omega))).fFrom (tr (l[l.length - 1 - i]'(by omega))).fTo with _ | ys
        · rw [hq] at h3
          refine hJ _ ⟨hi,h2,?_⟩ (by simp only; omega)
          simpa using h3
        · rw [hq] at h3
          refine hJ _ ⟨hi,by rw [putO_len hq]; exact h2,?_⟩ (by simp only; omega)
          simpa using h3
    · rename_i hi
      refine ⟨_,rfl,?_⟩
      rw [h3,List.drop_eq_nil_of_le (by rw [List.length_reverse]; omega)]
      simp [walkO]
end Go.Proofs.YtcijnmkodpfpgaaGreatDoor
