/- Plain laws: sorted lists of units; what the reference takes for changed. No program in sight but the printed functions. -/
import Derived.Test.YtcijnmkodpfpgaaGreatDoorZSEv
namespace Go.Proofs.YtcijnmkodpfpgaaGreatDoor
open Go
theorem ins_ok {xs:List Int} {u:Int} {z:Nat} (hs:xs.Pairwise (· < ·)) (h1:∀ x ∈ xs.take z,x < u) (h2:∀ x ∈ xs.drop z,u < x):(xs.take z ++ [u] ++ xs.drop z).Pairwise (· < ·)∧∀ x,x ∈ xs.take z ++ [u] ++ xs.drop z ↔ x ∈ xs ∨ x = u:=by
  have e:=List.take_append_drop z xs
  rw [← e,List.pairwise_append] at hs
  obtain ⟨a,b,c⟩:=hs
  constructor
  · rw [List.append_assoc,List.pairwise_append]
    refine ⟨a,?_,fun x hx y hy=>?_⟩
    · rw [List.singleton_append,List.pairwise_cons]
      exact ⟨h2,b⟩
    · rcases List.mem_append.1 hy with hy | hy
      · rw [List.mem_singleton.1 hy]; exact h1 x hx
      · exact c x hx y hy
  · intro x
    have m:x ∈ xs ↔ x ∈ xs.take z ∨ x ∈ xs.drop z:=by
      conv=>lhs; rw [← e]
      exact List.mem_append
    rw [List.mem_append,List.mem_append,List.mem_singleton,m]
    constructor
    · rintro ((h | h) | h)
      · exact .inl (.inl h)
      · exact .inr h
      · exact .inl (.inr h)
    · rintro ((h | h) | h)
      · exact .inl (.inl h)
      · exact .inr h
      · exact .inl (.inr h)
theorem sorted_ext:∀ {a b:List Int},a.Pairwise (· < ·) → b.Pairwise (· < ·) → (∀ x,x ∈ a ↔ x ∈ b) → a = b
  | [],[],_,_,_=>rfl
  | x :: a,[],_,_,h=>absurd ((h x).1 (List.mem_cons_self ..)) (by simp)
  | [],y :: b,_,_,h=>absurd ((h y).2 (List.mem_cons_self ..)) (by simp)
  | x :: a,y :: b,ha,hb,h=>by
    rw [List.pairwise_cons] at ha hb
    have e:x = y:=by
      rcases List.mem_cons.1 ((h x).1 (List.mem_cons_self ..)) with h1 | h1
      · exact h1
      · rcases List.mem_cons.1 ((h y).2 (List.mem_cons_self ..)) with h2 | h2
        · exact h2.symm
        · have:=hb.1 x h1
          have:=ha.1 y h2
          omega
    subst e
    refine congrArg (x :: ·) (sorted_ext ha.2 hb.2 fun z=>⟨fun hz=>?_,fun hz=>?_⟩)
    · rcases List.mem_cons.1 ((h z).1 (List.mem_cons_of_mem _ hz)) with h1 | h1
      · have:=ha.1 z hz; omega
      · exact h1
    · rcases List.mem_cons.1 ((h z).2 (List.mem_cons_of_mem _ hz)) with h1 | h1
      · have:=hb.1 z hz; omega
      · exact h1
theorem cut_end {α:Type} {xs:List α} {z:Nat} (h:z ≤ xs.length):cut xs (z:Int) (xs.length:Int) = some (xs.drop z):=by
  unfold cut
  rw [if_pos ⟨Int.natCast_nonneg _,by omega,by omega⟩,Int.toNat_natCast,Int.toNat_natCast,List.take_length]
theorem at_loop (xs:List Int) (s:TSession) {i:Nat} (hi:i < s.fDone.length) (hl:xs.length ≤ 2000):∃ z:Nat,loopF (wardmoteref26_Changed_l1 FU xs s i) FU 0 = some (z:Int)∧z ≤ xs.length∧(∀ x ∈ xs.take z,x < s.fDone[i].fUnit)∧∀ h:z < xs.length,s.fDone[i].fUnit ≤ xs[z]:=by
  have hF:=FU_lt
  have hh:=loop_ok (B:=wardmoteref26_Changed_l1 FU xs s i) (fun z:Int=>xs.length - z.toNat) (fun z=>∃ k:Nat,z = k∧k ≤ xs.length∧∀ x ∈ xs.take k,x < s.fDone[i].fUnit)
    (fun y=>∃ z:Nat,y = z∧z ≤ xs.length∧(∀ x ∈ xs.take z,x < s.fDone[i].fUnit)∧∀ h:z < xs.length,s.fDone[i].fUnit ≤ xs[z]) ?_ FU 0 ⟨0,rfl,Nat.zero_le _,by simp⟩ (by omega)
  · obtain ⟨y,e,z,rfl,h1⟩:=hh
    exact ⟨z,e,h1⟩
  · rintro z J ⟨k,rfl,h1,h2⟩ hJ
    unfold wardmoteref26_Changed_l1 jn
    simp only
    by_cases hk:k < xs.length
    · rw [if_pos (by omega),idx_ok (by omega) (by rw [Int.toNat_natCast]; exact hk),obind,List.getElem?_eq_getElem hi,obind]
      simp only [Int.toNat_natCast]
      by_cases hlt:xs[k] < s.fDone[i].fUnit
      · rw [if_pos (decide_eq_true hlt),chkI (by omega) (by omega),obind]
        refine hJ _ ⟨k + 1,by omega,hk,fun x hx=>?_⟩ (by omega)
        rw [List.take_succ_eq_append_getElem hk,List.mem_append,List.mem_singleton] at hx
        rcases hx with hx | rfl
        · exact h2 x hx
        · exact hlt
      · rw [if_neg (by simpa using hlt)]
        exact ⟨_,rfl,k,rfl,h1,h2,fun _=>by omega⟩
    · rw [if_neg (by omega),if_neg (by decide)]
      exact ⟨_,rfl,k,rfl,h1,h2,fun h=>absurd h hk⟩
theorem changedR_ok (s:TSession) (h:s.fDone.length ≤ 1000):∃ l,wardmoteref26_Changed_p FU s = some l∧l.Pairwise (· < ·)∧(∀ x,x ∈ l ↔ x ∈ s.fDone.map TMove.fUnit):=by
  have hF:=FU_lt
  have hh:=loop_ok (B:=wardmoteref26_Changed_l2 FU s) (fun t:Nat × List Int=>s.fDone.length - t.1) (fun t=>t.1 ≤ s.fDone.length∧t.2.Pairwise (· < ·)∧(∀ x,x ∈ t.2 ↔ x ∈ (s.fDone.take t.1).map TMove.fUnit)∧t.2.length ≤ t.1)
    (fun l=>l.Pairwise (· < ·)∧(∀ x,x ∈ l ↔ x ∈ s.fDone.map TMove.fUnit)) ?_ FU (0,[]) ⟨by simp,by simp,by simp,by simp⟩ (by simp only; omega)
  · obtain ⟨l,e,hl⟩:=hh
    unfold wardmoteref26_Changed_p
    rw [e,obind]
    exact ⟨l,rfl,hl⟩
  · rintro ⟨i,xs⟩ J ⟨a1,a2,a3,a4⟩ hJ
    simp only at a1 a2 a3 a4 hJ
    unfold wardmoteref26_Changed_l2
    simp only
    by_cases hi:i < s.fDone.length
    · obtain ⟨z,e,z1,z2,z3⟩:=at_loop xs s hi (by omega)
      have m:∀ x,x ∈ (s.fDone.take (i + 1)).map TMove.fUnit ↔ x ∈ xs ∨ x = s.fDone[i].fUnit:=fun x=>by
        rw [List.take_succ_eq_append_getElem hi,List.map_append,List.mem_append,← a3 x,List.map_cons,List.map_nil,List.mem_singleton]
      have tail:(∀ x ∈ xs.drop z,s.fDone[i].fUnit < x) → ∃ r,((cut xs 0 (z:Int)).bind fun xs6456=>(cut xs (z:Int) (xs.length:Int)).bind fun xs6465=>(app ([]:List Int) xs6456).bind fun xs7074=>(s.fDone[i]?).bind fun x7683=>(app xs7074 ([x7683.fUnit]:List Int)).bind fun xs9207=>(app xs9207 xs6465).bind fun xs9215=>J (i + 1,xs9215)) = some r∧r.Pairwise (· < ·)∧(∀ x,x ∈ r ↔ x ∈ s.fDone.map TMove.fUnit):=fun h2=>by
        obtain ⟨o1,o2⟩:=ins_ok a2 z2 h2
        have l1:(xs.take z).length = z:=by rw [List.length_take]; omega
        have l2:(xs.drop z).length = xs.length - z:=List.length_drop
        rw [cut_ok z1,obind,cut_end z1,obind,appS [] _ (by rw [l1,List.length_nil]; omega),obind,List.nil_append,List.getElem?_eq_getElem hi,obind,appS _ _ (by rw [l1,List.length_cons,List.length_nil]; omega),obind,appS _ _ (by rw [List.length_append,l1,l2,List.length_cons,List.length_nil]; omega),obind]
        refine hJ _ ⟨hi,o1,fun x=>?_,?_⟩ (by simp only; omega)
        · simp only
          rw [o2 x,m x]
        · simp only
          rw [List.length_append,List.length_append,l1,l2,List.length_cons,List.length_nil]; omega
      rw [if_pos hi,e,obind]
      unfold jn
      simp only
      by_cases hz:z < xs.length
      · rw [if_pos (by omega),idx_ok (by omega) (by rw [Int.toNat_natCast]; exact hz),obind,List.getElem?_eq_getElem hi,obind]
        simp only [Int.toNat_natCast]
        have hd:=List.drop_eq_getElem_cons hz
        by_cases he:xs[z] = s.fDone[i].fUnit
        · rw [if_pos (decide_eq_true he)]
          refine hJ _ ⟨hi,a2,fun x=>?_,by simp only; omega⟩ (by simp only; omega)
          simp only
          rw [m x,← he]
          exact ⟨.inl,fun h=>h.elim id fun e=>e ▸ List.getElem_mem hz⟩
        · rw [if_neg (by simpa using he)]
          rw [List.getElem?_eq_getElem hi] at tail
          refine tail fun x hx=>?_
          have hp:(xs.drop z).Pairwise (· < ·):=a2.sublist (List.drop_sublist ..)
          have h3:=z3 hz
          rw [hd] at hx hp
          rcases List.mem_cons.1 hx with rfl | hx
          · omega
          · have:=(List.pairwise_cons.1 hp).1 x hx; omega
      · rw [if_neg (by omega),if_neg (by decide)]
        exact tail fun x hx=>by rw [List.drop_eq_nil_of_le (by omega)] at hx; simp at hx
    · rw [if_neg hi]
      rw [List.take_of_length_le (by omega)] at a3
      exact ⟨_,rfl,a2,a3⟩
theorem changed_both (s:TSession) (U:List Int) (hU:U.length ≤ 12) (hs:∀ x ∈ s.fDone.map TMove.fUnit,x ∈ U) (h:s.fDone.length ≤ 1000):∃ l,edit_Changed_p FU s = some l∧wardmoteref26_Changed_p FU s = some l∧l.length ≤ 1000:=by
  obtain ⟨l,e,h1,h2,h3,h4⟩:=changed_all s U hU hs h
  obtain ⟨l', e', h1', h2'⟩:=changedR_ok s h
  refine ⟨l,e,?_,by omega⟩
  rw [e']
  refine congrArg some (sorted_ext h1' ?_ fun x=>(h2' x).trans (h2 x).symm)
  have h5:l.Pairwise (· ≠ ·):=h4
  exact (h1.and h5).imp fun h=>by omega
end Go.Proofs.YtcijnmkodpfpgaaGreatDoor
