/- Plain laws: the units of the steps, sorted. No program in sight but the printed functions. -/
import Derived.Test.YtcijnmkodpfpgaaGreatDoorZSEh
namespace Go.Proofs.YtcijnmkodpfpgaaGreatDoor
open Go
theorem len_all:(List.range 20).all (fun l=>(math_bits_Len_p FU (u64of ((l:Nat):Int))).isSome) = true:=by kernel_rfl
theorem len_ok (l:Nat) (h:l < 20):∃ y,math_bits_Len_p FU (u64of ((l:Nat):Int)) = some y:=Option.isSome_iff_exists.1 (List.all_eq_true.1 len_all l (List.mem_range.2 h))
theorem less_ok (a b:Int):cmp_Less_int_p FU a b = some (decide (a < b)):=by
  unfold cmp_Less_int_p cmp_isNaN_int_p
  simp
theorem count_swap (xs:List Int) (i j:Nat) (hi:i < xs.length) (hj:j < xs.length) (hij:i ≠ j):((xs.set i xs[j]).set j xs[i]).Perm xs:=by
  rw [List.perm_iff_count]
  intro a
  rw [List.count_set (by simpa using hj),List.count_set hi,List.getElem_set_ne hij]
  have h1:xs[i] = a → 0 < xs.count a:=fun h=>List.count_pos_iff.2 (h ▸ List.getElem_mem hi)
  simp only [beq_iff_eq]
  by_cases c1:xs[i] = a
  · have:=h1 c1
    by_cases c2:xs[j] = a
    · rw [if_pos c1,if_pos c2]; omega
    · rw [if_pos c1,if_neg c2]; omega
  · by_cases c2:xs[j] = a
    · rw [if_neg c1,if_pos c2]; omega
    · rw [if_neg c1,if_neg c2]; omega
theorem insert_ok (xs:List Int) (z:Nat) (hz:z < xs.length) (hl:xs.length ≤ 100) (hs:∀ a b,(hab:a < b) → (hb:b < z) → xs[a]'(by omega) ≤ xs[b]'(by omega)) :
    ∃ ys,loopF (edit_Changed_l1 FU 0) FU ((z:Int),xs) = some ys∧ys.Perm xs∧∃ hlen:ys.length = xs.length,∀ a b,(hab:a < b) → (hb:b ≤ z) → ys[a]'(by omega) ≤ ys[b]'(by omega):=by
  have hF:=FU_lt
  refine loop_ok (B:=edit_Changed_l1 FU 0) (fun s:Int × List Int=>s.1.toNat) (fun s=>0 ≤ s.1∧s.1 ≤ z∧s.2.Perm xs∧∃ hlen:s.2.length = xs.length,∀ a b,(hab:a < b) → (hb:b ≤ z) → (b:Int) ≠ s.1 → s.2[a]'(by omega) ≤ s.2[b]'(by omega)) _ ?_ FU ((z:Int),xs) ⟨by simp only; omega,by simp,.refl _,rfl,fun a b hab hb hne=>hs a b hab (by simp only at hne; omega)⟩ (by simp only; omega)
  rintro ⟨j,ys⟩ J ⟨a1,a2,a3,a4,a5⟩ hJ
  simp only at a1 a2 a3 a4 a5 hJ
  unfold edit_Changed_l1
  simp only
  split
  · rename_i h0
    obtain ⟨k,rfl⟩:∃ k:Nat,j = ((k + 1:Nat):Int):=⟨j.toNat - 1,by omega⟩
    have hk:k + 1 < ys.length:=by omega
    have hk0:k < ys.length:=by omega
    have e1:(((k + 1:Nat):Int)).toNat = k + 1:=by omega
    have e2:(((k + 1:Nat):Int) - 1) = (k:Int):=by omega
    rw [idx_ok (by omega) (by rw [e1]; exact hk),obind,chkI (by omega) (by omega),obind,e2,idx_ok (by omega) (by rw [Int.toNat_natCast]; exact hk0),obind,less_ok,obind]
    simp only [e1,Int.toNat_natCast]
    by_cases hlt:ys[k + 1] < ys[k]
    · rw [if_pos (decide_eq_true hlt),obind,obind,idx_ok (by omega) (by rw [Int.toNat_natCast]; exact hk0),obind]
      simp only [Int.toNat_natCast]
      rw [put_ok _ hk,obind,idx_ok (by omega) (by simpa using hk0),obind,put_ok _ (by simpa using hk0),obind,obind]
      refine hJ _ ⟨by simp only; omega,by simp only; omega,(count_swap ys (k + 1) k hk hk0 (by omega)).trans a3,by simpa using a4,fun a b hab hb hne=>?_⟩ (by simp only; omega)
      simp only at hne
      have hbn:b ≠ k:=fun e=>hne (by rw [e])
      simp only [List.getElem_set]
      have key:(if k = b then ys[k + 1] else if k + 1 = b then ys[k] else ys[b]'(by omega)) = if k + 1 = b then ys[k] else ys[b]'(by omega):=if_neg (Ne.symm hbn)
      rw [key]
      by_cases hb1:k + 1 = b
      · subst hb1
        rw [if_pos rfl]
        by_cases ha:k = a
        · subst ha; rw [if_pos rfl]; omega
        · rw [if_neg ha,if_neg (by omega)]; exact a5 a k (by omega) (by omega) (by omega)
      · rw [if_neg hb1]
        by_cases ha:k = a
        · subst ha; rw [if_pos rfl]; exact a5 (k + 1) b (by omega) hb (by omega)
        · rw [if_neg ha]
          by_cases ha2:k + 1 = a
          · subst ha2; rw [if_pos rfl]; exact a5 k b (by omega) hb (by omega)
          · rw [if_neg ha2]; exact a5 a b hab hb (by omega)
    · rw [if_neg (by simpa using hlt)]
      refine ⟨ys,rfl,a3,a4,fun a b hab hb=>?_⟩
      by_cases hbk:b = k + 1
      · subst hbk
        by_cases ha:a = k
        · subst ha; omega
        · have:=a5 a k (by omega) (by omega) (by omega); omega
      · exact a5 a b hab hb (by omega)
  · rename_i h0
    refine ⟨ys,rfl,a3,a4,fun a b hab hb=>a5 a b hab hb (by omega)⟩
theorem sort_ok (xs:List Int) (h:xs.length ≤ 12):∃ ys,(math_bits_Len_p FU (u64of ((xs.length:Nat):Int))).bind (fun y=>loopF (edit_Changed_l3 FU xs) FU (0,xs.length,y,true,true)) = some ys∧ys.Perm xs∧ys.Pairwise (· ≤ ·):=by
  have hF:=FU_lt
  obtain ⟨y,e⟩:=len_ok xs.length (by omega)
  have hh:=loop_ok (B:=edit_Changed_l2 FU xs.length 0) (fun s:Int × List Int=>13 - s.1.toNat) (fun s=>1 ≤ s.1∧s.2.Perm xs∧∃ hlen:s.2.length = xs.length,∀ a b,(hab:a < b) → (hb:b < xs.length) → (b:Int) < s.1 → s.2[a]'(by omega) ≤ s.2[b]'(by omega))
    (fun ys=>ys.Perm xs∧ys.Pairwise (· ≤ ·)) ?_ FU (1,xs) ⟨by simp,.refl _,rfl,fun a b hab hb hc=>by simp only at hc; omega⟩ (by simp only; omega)
  · obtain ⟨ys,e2,hy⟩:=hh
    refine ⟨ys,?_,hy⟩
    rw [e,obind,FU_3,loopF_succ,← FU_3]
    unfold edit_Changed_l3
    simp only
    rw [chkI (by omega) (by omega),obind,if_pos (by omega),chkI (by omega) (by omega),obind]
    simp only [Int.natCast_zero,Int.zero_add]
    rw [e2,obind]
  · rintro ⟨z,ys⟩ J ⟨a1,a2,a3,a4⟩ hJ
    simp only at a1 a2 a3 a4 hJ
    unfold edit_Changed_l2 jn
    simp only
    split
    · rename_i hz
      obtain ⟨k,rfl⟩:∃ k:Nat,z = (k:Int):=⟨z.toNat,by omega⟩
      obtain ⟨zs,e3,z1,z2,z3⟩:=insert_ok ys k (by omega) (by omega) fun a b hab hb=>a4 a b hab (by omega) (by omega)
      rw [e3,obind,chkI (by omega) (by omega),obind]
      exact hJ _ ⟨by simp only; omega,z1.trans a2,z2.trans a3,fun a b hab hb hc=>z3 a b hab (by simp only at hc; omega)⟩ (by simp only; omega)
    · refine ⟨ys,rfl,a2,?_⟩
      rw [List.pairwise_iff_getElem]
      intro a b ha hb hab
      exact a4 a b hab (by omega) (by omega)
theorem picks_perm {ε:Type}:∀ {l:List ε} {e:ε} {r:List ε},(e,r) ∈ picks l → (e :: r).Perm l
  | x :: xs,e,r,h=>by
    rcases List.mem_cons.1 h with h | h
    · cases h; exact .refl _
    · obtain ⟨⟨e', r'⟩,h1,h2⟩:=List.mem_map.1 h
      cases h2
      exact (List.Perm.swap x e' r').trans (.cons x (picks_perm h1))
theorem picks_ne {ε:Type} {x:ε} {l:List ε}:picks (x :: l) ≠ []:=by simp [picks]
theorem collect_ok (X:List Int → Option (List Int)) (r:List Int) (keys:List Int) (hX:∀ xs,xs.Perm keys → X xs = some r) (hk:keys.length ≤ 100):∀ (n:Nat) (rest:List (Int × Bool)) (xs:List Int),rest.length ≤ n → (xs ++ rest.map Prod.fst).Perm keys → mloop X (edit_Changed_b193 FU) n rest xs = some r
  | n,[],xs,_,h=>by
    rw [List.map_nil,List.append_nil] at h
    unfold mloop
    exact hX xs h
  | n + 1,e :: rest,xs,hn,h=>by
    unfold mloop
    refine allSame_of (fun h0=>picks_ne (List.map_eq_nil_iff.1 h0)) fun y hy=>?_
    obtain ⟨⟨e', r'⟩,h1,rfl⟩:=List.mem_map.1 hy
    have hp:=picks_perm h1
    have hlen:=hp.length_eq
    have hlk:=h.length_eq
    simp only [List.length_append,List.length_map,List.length_cons] at hlk hlen
    unfold edit_Changed_b193
    simp only
    rw [appS _ _ (by simp only [List.length_cons,List.length_nil]; omega),obind]
    refine collect_ok X r keys hX hk n r' _ (by simp only [List.length_cons] at hn; omega) (List.Perm.trans ?_ h)
    rw [List.append_assoc]
    exact List.Perm.append_left xs ((hp.map Prod.fst))
theorem changed_all (s:TSession) (U:List Int) (hU:U.length ≤ 12) (hs:∀ x ∈ s.fDone.map TMove.fUnit,x ∈ U) (h:s.fDone.length ≤ 1000):∃ l,edit_Changed_p FU s = some l∧l.Pairwise (· ≤ ·)∧(∀ x,x ∈ l ↔ x ∈ s.fDone.map TMove.fUnit)∧l.length ≤ s.fDone.length∧l.Nodup:=by
  have hF:=FU_lt
  have hh:=loop_ok (B:=edit_Changed_l4 FU s) (fun t:Nat × List (Int × Bool)=>s.fDone.length - t.1) (fun t=>t.1 ≤ s.fDone.length∧(t.2.map Prod.fst).Nodup∧(∀ x,x ∈ t.2.map Prod.fst ↔ x ∈ (s.fDone.take t.1).map TMove.fUnit)∧t.2.length ≤ t.1)
    (fun D=>(D.map Prod.fst).Nodup∧(∀ x,x ∈ D.map Prod.fst ↔ x ∈ s.fDone.map TMove.fUnit)∧D.length ≤ s.fDone.length) ?_ FU (0,[]) ⟨by simp,by simp,by simp,by simp⟩ (by simp only; omega)
  · obtain ⟨D,e,d1,d2,d3⟩:=hh
    have hD:(D.map Prod.fst).length ≤ 12:=Nat.le_trans (d1.length_le_of_subset fun x hx=>hs x ((d2 x).1 hx)) hU
    obtain ⟨r,e2,r1,r2⟩:=sort_ok (D.map Prod.fst) hD
    refine ⟨r,?_,r2,fun x=>(r1.mem_iff).trans (d2 x),by rw [r1.length_eq,List.length_map]; exact d3,r1.nodup_iff.2 d1⟩
    unfold edit_Changed_p
    rw [e,obind]
    refine collect_ok _ r (D.map Prod.fst) (fun xs hp=>?_) (by omega) FU D [] (by omega) (by rw [List.nil_append])
    obtain ⟨r', e3,q1,q2⟩:=sort_ok xs (by rw [hp.length_eq]; exact hD)
    try simp only
    rw [e3]
    exact congrArg some (List.Perm.eq_of_pairwise (fun a b _ _ h1 h2=>by omega) q2 r2 (q1.trans (hp.trans r1.symm)))
  · rintro ⟨i,D⟩ J ⟨a1,a2,a3,a4⟩ hJ
    simp only at a1 a2 a3 a4 hJ
    unfold edit_Changed_l4
    simp only
    split
    · rename_i hi
      rw [List.getElem?_eq_getElem hi,obind]
      have hk:=mset_keys D s.fDone[i].fUnit true
      have hlen:(mset D s.fDone[i].fUnit true).length = ((mset D s.fDone[i].fUnit true).map Prod.fst).length:=(List.length_map ..).symm
      refine hJ _ ⟨hi,?_,fun x=>?_,?_⟩ (by simp only; omega)
      · simp only
        rw [hk]
        split
        · exact a2
        · rename_i h5
          rw [List.nodup_append]
          exact ⟨a2,by simp,fun a ha b hb=>by rw [List.mem_singleton.1 hb]; exact fun e=>h5 (e ▸ ha)⟩
      · simp only
        rw [hk,List.take_succ_eq_append_getElem hi,List.map_append,List.mem_append,← a3 x,List.map_cons,List.map_nil,List.mem_singleton]
        split
        · rename_i h5
          constructor
          · exact .inl
          · rintro (h6 | rfl)
            · exact h6
            · exact h5
        · rw [List.mem_append,List.mem_singleton]
      · simp only
        rw [hlen,hk]
        split
        · rw [List.length_map]; omega
        · rw [List.length_append,List.length_map,List.length_cons,List.length_nil]; omega
    · rename_i hi
      rw [List.take_of_length_le (by omega)] at a3
      exact ⟨_,rfl,a2,a3,by omega⟩
end Go.Proofs.YtcijnmkodpfpgaaGreatDoor
