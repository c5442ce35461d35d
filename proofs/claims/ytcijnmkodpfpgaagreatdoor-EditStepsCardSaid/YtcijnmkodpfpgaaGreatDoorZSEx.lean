/- EditSteps: the plain law. No program in sight but the printed functions. -/
import Derived.Test.YtcijnmkodpfpgaaGreatDoorZSEw
import Derived.Test.YtcijnmkodpfpgaaGreatDoorZSEr
namespace Go.Proofs.YtcijnmkodpfpgaaGreatDoor
open Go
theorem bend_all (b:TBend) (s:TSession) (M:Nat) (hM:M ≤ 900) (h1:s.fPlan.length ≤ M) (h2:s.fTotals.length ≤ M) (h3:s.fDone.length ≤ M) (h4:s.fUndone.length ≤ M):∃ y,wardmoteref26_Bend_Of_p FU b s = some y∧(∀ x ∈ y.fDone.map TMove.fUnit,x = b.fN ∨ x ∈ s.fDone.map TMove.fUnit)∧y.fPlan.length ≤ M + 1∧y.fTotals.length ≤ M + 1∧y.fDone.length ≤ M + 1∧y.fUndone.length ≤ M + 1:=by
  unfold wardmoteref26_Bend_Of_p
  rw [appS [] _ (by simp only [List.length_nil]; omega),obind,appS [] _ (by simp only [List.length_nil]; omega),obind,appS [] _ (by simp only [List.length_nil]; omega),obind,appS [] _ (by simp only [List.length_nil]; omega),obind]
  simp only [List.nil_append]
  split
  · exact ⟨_,rfl,fun x hx=>.inr hx,by simp only; omega⟩
  · split
    · rw [appS _ _ (by simp only [List.length_cons,List.length_nil]; omega),obind]
      exact ⟨_,rfl,fun x hx=>.inr hx,by simp only [List.length_append,List.length_cons,List.length_nil]; omega⟩
    · split
      · rw [appS _ _ (by simp only [List.length_cons,List.length_nil]; omega),obind]
        refine ⟨_,rfl,fun x hx=>?_,by simp only [List.length_append,List.length_cons,List.length_nil]; omega⟩
        simp only [List.map_append,List.map_cons,List.map_nil,List.mem_append,List.mem_singleton] at hx
        exact hx.symm
      · split
        · rw [appS _ _ (by simp only [List.length_cons,List.length_nil]; omega),obind]
          exact ⟨_,rfl,fun x hx=>.inr hx,by simp only [List.length_append,List.length_cons,List.length_nil]; omega⟩
        · split
          · split
            · rename_i hl
              have m0:=Int.emod_nonneg ((b.fAt.toNat:Nat):Int) (b:=((s.fDone.length:Nat):Int)) (by omega)
              have m1:=Int.emod_lt_of_pos ((b.fAt.toNat:Nat):Int) (b:=((s.fDone.length:Nat):Int)) (by omega)
              rw [remI_ok (by omega),obind,Int.tmod_eq_emod_of_nonneg (by omega),idx_ok m0 (by omega),obind,put_ok _ (by omega),obind]
              refine ⟨_,rfl,fun x hx=>.inr ?_,by simp only [List.length_set]; omega⟩
              obtain ⟨m,hm,rfl⟩:=List.mem_map.1 hx
              rcases List.mem_or_eq_of_mem_set hm with hm | rfl
              · exact List.mem_map_of_mem hm
              · exact List.mem_map.2 ⟨_,List.getElem_mem _,rfl⟩
            · exact ⟨_,rfl,fun x hx=>.inr hx,by simp only; omega⟩
          · split
            · split
              · rename_i hl
                have m0:=Int.emod_nonneg ((b.fAt.toNat:Nat):Int) (b:=((s.fPlan.length:Nat):Int)) (by omega)
                have m1:=Int.emod_lt_of_pos ((b.fAt.toNat:Nat):Int) (b:=((s.fPlan.length:Nat):Int)) (by omega)
                rw [remI_ok (by omega),obind,Int.tmod_eq_emod_of_nonneg (by omega),idx_ok m0 (by omega),obind,put_ok _ (by omega),obind]
                exact ⟨_,rfl,fun x hx=>.inr hx,by simp only [List.length_set]; omega⟩
              · exact ⟨_,rfl,fun x hx=>.inr hx,by simp only; omega⟩
            · split
              · rename_i hl
                rw [List.getElem?_eq_getElem hl,obind,List.getElem?_eq_getElem (by omega),obind,put_ok _ (by omega),obind,List.getElem?_eq_getElem (by simpa using hl),obind,put_ok _ (by simpa using hl),obind]
                refine ⟨_,rfl,fun x hx=>.inr ?_,by simp only [List.length_set]; omega⟩
                obtain ⟨m,hm,rfl⟩:=List.mem_map.1 hx
                rcases List.mem_or_eq_of_mem_set hm with hm | rfl
                · rcases List.mem_or_eq_of_mem_set hm with hm | rfl
                  · exact List.mem_map_of_mem hm
                  · exact List.mem_map_of_mem (List.getElem_mem _)
                · exact List.mem_map_of_mem (List.getElem_mem _)
              · exact ⟨_,rfl,fun x hx=>.inr hx,by simp only; omega⟩
noncomputable def startO (us:List TUnit) (p:List Int) (k:Int):TSession × Int:=if chkP us.length p k = 0 then (⟨k,p,tlO us p k,[],[]⟩,0) else (S0,chkP us.length p k)
theorem startP_ok {g:TGraph} {r:TRoll} {us:List TUnit} (c:Case g r us) (p:List Int) (k:Int):edit_Start_p FU g r p k = some (startO us p k):=by
  unfold edit_Start_p startO
  rw [judge_ok c,obind]
  by_cases h0:chkP us.length p k = 0
  · obtain ⟨h1,h2⟩:=chkP_no h0
    rw [if_pos h0,if_pos h0,totalsP_ok r us c.roll _ _ h1.1 h1.2 h2,obind,if_pos rfl]
  · rw [if_neg h0,if_neg h0]; rfl
theorem startR_ok {g:TGraph} {r:TRoll} {us:List TUnit} (c:Case g r us) (p:List Int) (k:Int):wardmoteref26_Start_p FU g r p k = some (startO us p k):=by
  unfold wardmoteref26_Start_p startO
  rw [check25_ok c,obind]
  by_cases h0:chkP us.length p k = 0
  · obtain ⟨h1,h2⟩:=chkP_no h0
    rw [if_pos h0,if_pos h0,totalsR_ok r us c.roll _ _ h1.1 h1.2 h2,obind]
  · rw [if_neg h0,if_neg h0]; rfl
theorem startO_small {g:TGraph} {r:TRoll} {us:List TUnit} (c:Case g r us) (p:List Int) (k:Int):Small (startO us p k).1:=by
  have:=c.roll.len
  unfold startO
  by_cases h0:chkP us.length p k = 0
  · obtain ⟨h1,h2⟩:=chkP_no h0
    have:=h2.1
    rw [if_pos h0]
    exact ⟨by simp only; omega,by simp only; rw [tl_len]; omega,by simp,by simp⟩
  · rw [if_neg h0]; exact s0_small
theorem editSteps_ex (c:TScene) (b:TBend × TBend) (k0:Int):∃ n,wardmotelaw26_EditSteps_p n c b k0 = some true:=by
  refine ⟨FU,?_⟩
  have hF:=FU_lt
  obtain ⟨g,r,p,k,us,e1,cs,hk,hfit⟩:=set_ok c
  obtain ⟨s,e2,hs,hc⟩:=session_ok cs hk hfit c.fL
  have hsm:=sok_small cs hs
  have hl:=cs.roll.len
  obtain ⟨s1,e3,u1,b1⟩:=bend_all b.1 s 100 (by omega) (by rw [hs.fits.1]; omega) (by rw [hs.tot,tl_len]; have:=hs.k; omega) (by unfold cnt at hc; omega) (by unfold cnt at hc; omega)
  obtain ⟨s2,e4,u2,b2⟩:=bend_all b.2 s1 101 (by omega) b1.1 b1.2.1 b1.2.2.1 b1.2.2.2
  have u0:∀ x ∈ s.fDone.map TMove.fUnit,x ∈ (List.range 9).map fun i:Nat=>(i:Int):=fun x hx=>by
    obtain ⟨m,hm,rfl⟩:=List.mem_map.1 hx
    have:=hs.dm m hm
    unfold Mv at this
    exact List.mem_map.2 ⟨m.fUnit.toNat,List.mem_range.2 (by omega),by omega⟩
  generalize hU:(b.1.fN :: b.2.fN :: (List.range 9).map fun i:Nat=>(i:Int)) = U
  have hU1:U.length ≤ 12:=by rw [← hU]; simp
  have v0:∀ x ∈ s.fDone.map TMove.fUnit,x ∈ U:=fun x hx=>by rw [← hU]; exact List.mem_cons_of_mem _ (List.mem_cons_of_mem _ (u0 x hx))
  have v1:∀ x ∈ s1.fDone.map TMove.fUnit,x ∈ U:=fun x hx=>by
    rcases u1 x hx with rfl | hx
    · rw [← hU]; exact List.mem_cons_self ..
    · exact v0 x hx
  have v2:∀ x ∈ s2.fDone.map TMove.fUnit,x ∈ U:=fun x hx=>by
    rcases u2 x hx with rfl | hx
    · rw [← hU]; exact List.mem_cons_of_mem _ (List.mem_cons_self ..)
    · exact v1 x hx
  have all:∀ i,i < 4 → ∃ z,([s,s1,s2,S0]:List TSession)[i]? = some z∧Small z∧∀ x ∈ z.fDone.map TMove.fUnit,x ∈ U:=fun i hi=>by
    match i,hi with
    | 0,_=>exact ⟨s,rfl,hsm,v0⟩
    | 1,_=>exact ⟨s1,rfl,by unfold Small; omega,v1⟩
    | 2,_=>exact ⟨s2,rfl,by unfold Small; omega,v2⟩
    | 3,_=>exact ⟨S0,rfl,s0_small,by simp [S0]⟩
  obtain ⟨y,l2,rfl⟩:=loop_ok (B:=wardmotelaw26_EditSteps_l2 FU s s1 s2 (g,r,p,k)) (fun i:Nat=>4 - i) (fun _=>True) (fun y=>y = .inr ()) (fun i J _ hJ=>by
    unfold wardmotelaw26_EditSteps_l2
    simp only
    split
    · rename_i hi
      obtain ⟨z,hz,zs,zu⟩:=all i hi
      obtain ⟨l,c1,c2,c3⟩:=changed_both z U hU1 zu zs.2.2.1
      refine ⟨.inr (),?_,rfl⟩
      obtain ⟨y,hy,rfl⟩:=hJ (i + 1) trivial (by omega)
      refine (congrArg (Option.bind · _) hz).trans ?_
      rw [obind,undoP_ok cs z zs,obind,undoR_ok cs z zs,obind,redoP_ok cs z zs,obind,redoR_ok cs z zs,obind]
      unfold jn
      simp only
      rw [checkE_ok cs z zs,obind,checkR_ok cs z zs,obind,if_pos rfl,sameP_ok z s zs,obind,same_ok z s zs,obind,if_pos (beq_self_eq_true _),same_self _ (undoO_small cs z),obind,if_pos rfl,if_pos trivial,same_self _ (redoO_small cs z),obind,if_pos rfl,if_pos trivial,c1,obind,c2,obind,equal_ok l l c3,obind,decide_eq_true rfl,if_neg (by decide)]
      exact hy
    · exact ⟨_,rfl,rfl⟩) FU 0 trivial (by omega)
  obtain ⟨y,l1,rfl⟩:=loop_ok (B:=wardmotelaw26_EditSteps_l1 FU (g,r,p,k) k0) (fun i:Nat=>2 - i) (fun _=>True) (fun y=>y = .inr ()) (fun i J _ hJ=>by
    unfold wardmotelaw26_EditSteps_l1
    simp only
    split
    · rename_i hi
      have hz:∃ m,([k,k0]:List Int)[i]? = some m:=⟨_,List.getElem?_eq_getElem (by simpa using hi)⟩
      obtain ⟨m,hz⟩:=hz
      rw [hz,obind,startP_ok cs p m,obind,startR_ok cs p m,obind,same_self _ (startO_small cs p m),obind,if_pos rfl,if_pos rfl]
      exact hJ (i + 1) trivial (by omega)
    · exact ⟨_,rfl,rfl⟩) FU 0 trivial (by omega)
  unfold wardmotelaw26_EditSteps_p
  rw [works26,obind,if_pos rfl,e1,obind]
  simp only
  rw [e2,obind,e3,obind,e4,obind,l2]
  simp only [thn]
  rw [l1]
end Go.Proofs.YtcijnmkodpfpgaaGreatDoor
