/- Plain laws: drafted graphs are valid. No program in sight but the printed functions. -/
import Derived.Test.YtcijnmkodpfpgaaGreatDoorZSEb
namespace Go.Proofs.YtcijnmkodpfpgaaGreatDoor
open Go
def Lex (a b:Int × Int):Prop:=a.1 < b.1 ∨ a.1 = b.1∧a.2 < b.2
structure EdgesOk (N:Int) (l:List (Int × Int)):Prop where
  all:∀ x ∈ l,0 ≤ x.1∧x.1 < x.2∧x.2 < N
  srt:l.Pairwise Lex
  len:l.length ≤ 200
theorem parent_ok (d:TDraft) (b:Int) (h:1 ≤ b) (h9:b ≤ 9):∃ y,wardmoteref21_Draft_parent_p FU d b = some y:=by
  unfold wardmoteref21_Draft_parent_p
  rw [chkI (by omega) (by omega),obind]
  split
  · rw [obind,idx_ok (by omega) (by omega),obind,remI_ok (by omega),obind]; exact ⟨_,rfl⟩
  · rw [obind]; exact ⟨_,rfl⟩
theorem joined_ok (d:TDraft) (a b:Int) (h:1 ≤ b) (h9:b ≤ 9):∃ q,wardmoteref21_Draft_joined_p FU d a b = some q:=by
  have hF:=FU_lt
  obtain ⟨y,e⟩:=parent_ok d b h h9
  unfold wardmoteref21_Draft_joined_p
  rw [e,obind]
  split
  · exact ⟨_,rfl⟩
  · have hh:=loop_ok (B:=wardmoteref21_Draft_joined_l1 FU d a b) (fun i:Nat=>12 - i) (fun _=>True) (fun y=>y = .inl true ∨ y = .inr ()) ?_ FU 0 trivial (by omega)
    · obtain ⟨y,e2,hy⟩:=hh
      unfold jn
      simp only
      rw [e2]
      rcases hy with rfl | rfl
      · exact ⟨_,rfl⟩
      · exact ⟨_,rfl⟩
    · intro i J _ hJ
      unfold wardmoteref21_Draft_joined_l1 wardmoteref21_Draft_Units_p
      simp only
      split
      · rename_i hi
        split
        · rename_i h12
          rw [List.getElem?_eq_getElem hi,obind,obind,remI_ok (by omega),obind,obind,remI_ok (by omega),obind]
          have nx:=hJ (i + 1) trivial (by omega)
          split
          · split
            · exact ⟨_,rfl,.inl rfl⟩
            · exact nx
          · exact nx
        · exact ⟨_,rfl,.inr rfl⟩
      · exact ⟨_,rfl,.inr rfl⟩
theorem graph_inner (d:TDraft) (N z:Int) (hz:0 ≤ z) (hzN:z < N) (hN:N ≤ 9) (l:List (Int × Int)) (h1:∀ x ∈ l,0 ≤ x.1∧x.1 < x.2∧x.2 < N) (h2:l.Pairwise Lex) (h3:∀ x ∈ l,x.1 < z) (h4:l.length ≤ 9 * z.toNat) :
    ∃ r,loopF (wardmoteref21_Draft_Graph_l1 FU N d z) FU (z + 1,l) = some r∧(∀ x ∈ r,0 ≤ x.1∧x.1 < x.2∧x.2 < N)∧r.Pairwise Lex∧(∀ x ∈ r,x.1 < z + 1)∧r.length ≤ 9 * (z + 1).toNat:=by
  have hF:=FU_lt
  refine loop_ok (B:=wardmoteref21_Draft_Graph_l1 FU N d z) (fun s:Int × List (Int × Int)=>10 - s.1.toNat) (fun s=>z + 1 ≤ s.1∧s.1 ≤ N∧(∀ x ∈ s.2,0 ≤ x.1∧x.1 < x.2∧x.2 < N)∧s.2.Pairwise Lex∧(∀ x ∈ s.2,x.1 < z ∨ x.1 = z∧x.2 < s.1)∧s.2.length ≤ 9 * z.toNat + (s.1 - z - 1).toNat) _ ?_ FU (z + 1,l) ⟨by simp,by simp only; omega,h1,h2,fun x hx=>.inl (h3 x hx),by simp only; omega⟩ (by simp only; omega)
  rintro ⟨v,xs⟩ J ⟨a1,a2,a3,a4,a5,a6⟩ hJ
  simp only at a1 a2 a3 a4 a5 a6 hJ
  unfold wardmoteref21_Draft_Graph_l1
  simp only
  split
  · rename_i hv
    obtain ⟨q,e⟩:=joined_ok d z v (by omega) (by omega)
    rw [e,obind]
    unfold jn
    simp only
    split
    · rw [appS _ _ (by simp only [List.length_cons,List.length_nil]; omega),obind,chkI (by omega) (by omega),obind]
      refine hJ _ ⟨by simp only; omega,by simp only; omega,fun x hx=>?_,?_,fun x hx=>?_,by simp only [List.length_append,List.length_cons,List.length_nil]; omega⟩ (by simp only; omega)
      · rcases List.mem_append.1 hx with hx | hx
        · exact a3 x hx
        · rw [List.mem_singleton.1 hx]; exact ⟨hz,by simp only; omega,hv⟩
      · simp only
        rw [List.pairwise_append]
        refine ⟨a4,by simp,fun x hx y hy=>?_⟩
        rw [List.mem_singleton.1 hy]
        unfold Lex
        simp only
        exact a5 x hx
      · simp only
        rcases List.mem_append.1 hx with hx | hx
        · have:=a5 x hx; omega
        · rw [List.mem_singleton.1 hx]; exact .inr ⟨rfl,by simp only; omega⟩
    · rw [chkI (by omega) (by omega),obind]
      refine hJ _ ⟨by simp only; omega,by simp only; omega,a3,a4,fun x hx=>?_,by simp only; omega⟩ (by simp only; omega)
      have:=a5 x hx
      simp only; omega
  · refine ⟨_,rfl,a3,a4,fun x hx=>?_,by omega⟩
    have:=a5 x hx; omega
theorem graph_ok (d:TDraft):∃ g,wardmoteref21_Draft_Graph_p FU d = some g∧g.fN = ((1 + (d.fN % 9).toNat:Nat):Int)∧EdgesOk g.fN g.fEdges:=by
  have hF:=FU_lt
  have hu:(d.fN % 9).toNat < 9:=by rw [UInt8.toNat_mod]; exact Nat.mod_lt _ (by decide)
  generalize hM:((1 + (d.fN % 9).toNat:Nat):Int) = N
  have hh:=loop_ok (B:=wardmoteref21_Draft_Graph_l2 FU N d) (fun s:Int × List (Int × Int)=>10 - s.1.toNat) (fun s=>0 ≤ s.1∧s.1 ≤ N∧(∀ x ∈ s.2,0 ≤ x.1∧x.1 < x.2∧x.2 < N)∧s.2.Pairwise Lex∧(∀ x ∈ s.2,x.1 < s.1)∧s.2.length ≤ 9 * s.1.toNat)
    (fun r=>EdgesOk N r) ?_ FU (0,[]) ⟨by simp,by simp only; omega,by simp,by simp,by simp,by simp⟩ (by simp only; omega)
  · obtain ⟨r,e,hr⟩:=hh
    refine ⟨⟨N,r⟩,?_,rfl,hr⟩
    unfold wardmoteref21_Draft_Graph_p wardmoteref21_Draft_Units_p
    rw [obind,hM,e,obind]
  · rintro ⟨z,xs⟩ J ⟨a1,a2,a3,a4,a5,a6⟩ hJ
    simp only at a1 a2 a3 a4 a5 a6 hJ
    unfold wardmoteref21_Draft_Graph_l2
    simp only
    split
    · rename_i hz
      obtain ⟨r,e,r1,r2,r3,r4⟩:=graph_inner d N z a1 hz (by omega) xs a3 a4 a5 a6
      rw [chkI (by omega) (by omega),obind,e,obind,obind]
      exact hJ _ ⟨by simp only; omega,by simp only; omega,r1,r2,r3,r4⟩ (by simp only; omega)
    · exact ⟨_,rfl,a3,a4,by omega⟩
theorem cmp_lt {a b:Int} (h:a < b):cmp_Compare_int_p FU a b = some (-1):=by
  unfold cmp_Compare_int_p cmp_isNaN_int_p
  simp [h]
theorem cmp_eq (a:Int):cmp_Compare_int_p FU a a = some 0:=by
  unfold cmp_Compare_int_p cmp_isNaN_int_p
  simp
theorem FU_3:FU = 18446744073709551997 + 1 + 1 + 1:=rfl
theorem compare_lex {a b c d:Int} (h:Lex (a,b) (c,d)):slices_Compare_int_int_p FU [a,b] [c,d] = some (-1):=by
  unfold slices_Compare_int_int_p
  rw [FU_3,loopF_succ]
  unfold Lex at h
  simp only at h
  by_cases h1:a < c
  · unfold slices_Compare_int_int_l1
    simp only
    rw [← FU_3]
    simp [cmp_lt h1,thn]
  · obtain ⟨rfl,h2⟩:a = c∧b < d:=by omega
    unfold slices_Compare_int_int_l1
    simp only
    rw [← FU_3]
    simp only [List.length_cons,List.length_nil,List.getElem?_cons_zero]
    simp [cmp_eq]
    rw [loopF_succ]
    simp [cmp_lt h2,thn]
theorem graphP_ok (g:TGraph) (h1:1 ≤ g.fN) (h9:g.fN ≤ 9) (h:EdgesOk g.fN g.fEdges):graph_Check_p FU g = some 0:=by
  have hF:=FU_lt
  have hh:=loop_ok (B:=graph_Check_l1 FU g) (fun s:Nat × Int × Int=>g.fEdges.length - s.1) (fun s=>s.1 ≤ g.fEdges.length∧(s.1 = 0∧s.2 = (-1,-1) ∨ ∃ j,∃ hj:j < g.fEdges.length,s.1 = j + 1∧s.2 = g.fEdges[j])) (fun y=>y = .inr ()) ?_ FU (0,-1,-1) ⟨by simp,.inl ⟨rfl,rfl⟩⟩ (by have:=h.len; simp only; omega)
  · obtain ⟨y,e,rfl⟩:=hh
    unfold graph_Check_p
    rw [if_neg (by omega),if_neg (by omega),if_neg (by have:=h.len; omega),e]
    rfl
  · rintro ⟨i,b1,b2⟩ J ⟨a1,a2⟩ hJ
    simp only at a1 a2 hJ
    unfold graph_Check_l1
    simp only
    split
    · rename_i hi
      have hx:=h.all g.fEdges[i] (List.getElem_mem _)
      have hl:Lex (b1,b2) (g.fEdges[i].1,g.fEdges[i].2):=by
        rcases a2 with ⟨_,e⟩ | ⟨j,hj,rfl,e⟩
        · cases e; left; simp only; omega
        · rw [e]; exact List.pairwise_iff_getElem.1 h.srt j (j + 1) hj hi (by omega)
      rw [List.getElem?_eq_getElem hi,obind,if_neg (by omega),if_neg (by omega),if_neg (by omega),compare_lex hl,obind,if_neg (by decide)]
      exact hJ _ ⟨hi,.inr ⟨i,hi,rfl,rfl⟩⟩ (by simp only; omega)
    · exact ⟨_,rfl,rfl⟩
theorem graphR_ok (g:TGraph) (h1:1 ≤ g.fN) (h9:g.fN ≤ 9) (h:EdgesOk g.fN g.fEdges):wardmoteref18_Check_p FU g = some 0:=by
  have hF:=FU_lt
  have hh:=loop_ok (B:=wardmoteref18_Check_l1 FU g) (fun i:Nat=>g.fEdges.length - i) (fun i=>i ≤ g.fEdges.length) (fun y=>y = .inr ()) ?_ FU 0 (by simp) (by have:=h.len; omega)
  · obtain ⟨y,e,rfl⟩:=hh
    unfold wardmoteref18_Check_p
    rw [if_neg (by omega),if_neg (by omega),if_neg (by have:=h.len; omega),e]
    rfl
  · intro i J a1 hJ
    unfold wardmoteref18_Check_l1
    simp only
    split
    · rename_i hi
      have hx:=h.all g.fEdges[i] (List.getElem_mem _)
      rw [List.getElem?_eq_getElem hi,obind,if_neg (by omega),if_neg (by omega),if_neg (by omega)]
      by_cases h0:0 < i
      · have hl:Lex g.fEdges[i - 1] g.fEdges[i]:=List.pairwise_iff_getElem.1 h.srt (i - 1) i (by omega) hi (by omega)
        unfold Lex at hl
        rw [if_pos h0,List.getElem?_eq_getElem (by omega),obind,if_neg (by omega)]
        split
        · rw [if_neg (by omega)]; exact hJ _ hi (by omega)
        · exact hJ _ hi (by omega)
      · rw [if_neg h0]; exact hJ _ hi (by omega)
    · exact ⟨_,rfl,rfl⟩
end Go.Proofs.YtcijnmkodpfpgaaGreatDoor
