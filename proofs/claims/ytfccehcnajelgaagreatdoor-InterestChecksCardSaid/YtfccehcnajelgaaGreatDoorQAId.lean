/- Plain laws: drafted lists of communities, with changes; InterestChecks. No program in sight but the printed functions. -/
import Derived.Test.YtfccehcnajelgaaGreatDoorQAIc
import Derived.Test.YtfccehcnajelgaaGreatDoorQARc
namespace Go.Proofs.YtfccehcnajelgaaGreatDoor
open Go
set_option maxRecDepth 8000
theorem pc_snoc (i x:Nat):pc (i + 1) x = pc i x + x / 2 ^ i % 2:=by
  rw [pc_add]; rfl
theorem bitsR_ok (u:UInt64):wardmoteref27_bits_p FU u = some ((pc 64 u.toNat:Nat):Int):=by
  have hF:=FU_lt
  unfold wardmoteref27_bits_p wardmoteref27_count_p
  have hh:=loop_ok (B:=wardmoteref27_count_l1 FU u false ⟨(0:Int),(0:Int),(0:Int),([]:List TUnit)⟩) (fun s:Int × Nat=>64 - s.2) (fun s=>s.2 ≤ 64∧s.1 = (pc s.2 u.toNat:Nat)) (fun y=>y = (pc 64 u.toNat:Nat)) ?_ FU (0,0) ⟨Nat.zero_le _,rfl⟩ (by simp only; omega)
  · obtain ⟨y,e,rfl⟩:=hh
    rw [e,obind,obind]
  · rintro ⟨z,i⟩ J ⟨a1,a2⟩ hJ
    simp only at a1 a2 hJ
    subst a2
    unfold wardmoteref27_count_l1
    simp only
    have hp:=pc_snoc i u.toNat
    have hl:=pc_le i u.toNat
    by_cases hi:i < 64
    · rw [if_pos hi,has_ok u i hi,obind]
      by_cases hb:u.toNat / 2 ^ i % 2 = 1
      · rw [if_pos (decide_eq_true hb),if_neg (by decide),chkI (by omega) (by omega),obind]
        exact hJ _ ⟨hi,by simp only; omega⟩ (by simp only; omega)
      · have h0:u.toNat / 2 ^ i % 2 = 0:=(Nat.mod_two_eq_zero_or_one _).resolve_right hb
        rw [if_neg (by simpa using hb)]
        exact hJ _ ⟨hi,by simp only; omega⟩ (by simp only; omega)
    · rw [if_neg hi]
      exact ⟨_,rfl,by rw [show i = 64 by omega]⟩
theorem overlapB (x y:UInt64):∃ q,interest_Overlap_p FU x y = some q∧wardmoteref27_Overlap_p FU x y = some q:=by
  by_cases h:x = 0∧y = 0
  · obtain ⟨rfl,rfl⟩:=h
    unfold interest_Overlap_p wardmoteref27_Overlap_p
    rw [if_pos (by decide),if_pos (by decide)]
    exact ⟨_,rfl,rfl⟩
  · obtain ⟨e1,hp⟩:=overlap_ok h
    refine ⟨_,e1,?_⟩
    have b1:=pc_le 64 (x.toNat &&& y.toNat)
    have b2:=pc_le 64 (x.toNat ||| y.toNat)
    have hle:=pc_and_le 64 x.toNat y.toNat
    unfold wardmoteref27_Overlap_p
    rw [if_neg fun e=>h ((or_zero x y).1 e),bitsR_ok,obind,bitsR_ok,obind,UInt64.toNat_and,UInt64.toNat_or]
    generalize pc 64 (x.toNat &&& y.toNat) = a at *
    generalize pc 64 (x.toNat ||| y.toNat) = b at *
    obtain ⟨d1,d2⟩:=div_le (a:=(a:Int)) (b:=(b:Int)) (by omega)
    rw [refOf_ok FU _ _ (Sm_of (by omega)) (Sm_of (by omega)) (by omega) (by omega) FU_big,obind,Sh_Sg (Sm_of (by omega)) (Sm_of (by omega))]
/-! ### Drafts -/
def Sl (m:Nat) (l:List TInterest):Prop:=l.length ≤ m∧∀ c ∈ l,c.fp.size ≤ 100
theorem shl_ne:∀ k,k < 13 → shlU (1:UInt64) k ≠ 0:=by decide
theorem cname (x:UInt8):sadd ⟨#[99]⟩ (bstr ([x]:List UInt8)) = some ⟨#[99,x]⟩:=rfl
theorem mname (x:UInt8):sadd ⟨#[109,111,114,101]⟩ (bstr ([x]:List UInt8)) = some ⟨#[109,111,114,101,x]⟩:=rfl
theorem list_ok (d:TDraft) (m:Nat) (hm:m < 13):∃ l,wardmoteref27_Draft_List_p FU d m = some l∧Sl 6 l:=by
  have hF:=FU_lt
  have hh:=loop_ok (B:=wardmoteref27_Draft_List_l1 FU d m) (fun s:Nat × List TInterest=>6 - s.1) (fun s=>s.1 ≤ 6∧Sl s.1 s.2) (fun l=>Sl 6 l) ?_ FU (0,[]) ⟨Nat.zero_le _,Nat.le_refl _,fun c hc=>by cases hc⟩ (by simp only; omega)
  · obtain ⟨l,e,hl⟩:=hh
    unfold wardmoteref27_Draft_List_p jn
    rw [e]
    exact ⟨l,rfl,hl⟩
  · rintro ⟨i,xs⟩ J ⟨a1,a2,a3⟩ hJ
    simp only at a1 a2 a3 hJ
    unfold wardmoteref27_Draft_List_l1
    simp only
    have fin:Sl 6 xs:=⟨by omega,a3⟩
    by_cases h1:i < d.fL.length
    · rw [if_pos h1]
      by_cases h2:i < 6
      · have next:∀ c:TInterest,c.fp.size ≤ 100 → ∃ r,J (i + 1,xs ++ [c]) = some r∧Sl 6 r:=fun c hc=>
          hJ (i + 1,xs ++ [c]) ⟨h2,by simp only [List.length_append,List.length_cons,List.length_nil]; omega,fun c' hc' =>by
            rcases List.mem_append.1 hc' with h | h
            · exact a3 c' h
            · rw [List.mem_singleton.1 h]; exact hc⟩ (by simp only; omega)
        have hn:natOf (m:Int) = some m:=by unfold natOf; rw [if_pos (by omega),Int.toNat_natCast]
        rw [if_pos h2,List.getElem?_eq_getElem h1,obind,hn,obind]
        unfold remW
        rw [if_neg (shl_ne m hm),obind,cname,obind,obind]
        split
        · rw [appS _ _ (by simp only [List.length_cons,List.length_nil]; omega),obind]
          exact next _ (by show 2 ≤ 100; decide)
        · rw [appS _ _ (by simp only [List.length_cons,List.length_nil]; omega),obind]
          exact next _ (by show 2 ≤ 100; decide)
      · rw [if_neg h2]
        exact ⟨_,rfl,fin⟩
    · rw [if_neg h1]
      exact ⟨_,rfl,fin⟩
theorem bAt (a n:Nat) (hn:0 < n):∃ j:Nat,j < n∧remI (a:Int) (n:Int) = some (j:Int):=by
  refine ⟨a % n,Nat.mod_lt _ hn,?_⟩
  unfold remI
  rw [if_neg (by omega),Int.tmod_eq_emod_of_nonneg (by omega)]
  rfl
theorem idxM {α:Type} {xs:List α} {j:Nat} (h:j < xs.length):idx xs (j:Int) = some xs[j]:=idx_ok (i:=(j:Int)) (by omega) h
theorem Sl.set {m:Nat} {l:List TInterest} (h:Sl m l) (j:Nat) {c:TInterest} (hc:c.fp.size ≤ 100):Sl m (l.set j c):=by
  refine ⟨by rw [List.length_set]; exact h.1,fun v hv=>?_⟩
  rcases List.mem_or_eq_of_mem_set hv with hv | rfl
  · exact h.2 v hv
  · exact hc
theorem bend27_ok (b:TBend) {l:List TInterest} {m:Nat} (h:Sl m l) (hm:m ≤ 1000):∃ l', wardmoteref27_Bend_Of_p FU b l = some l' ∧Sl (m + 21) l' :=by
  have hF:=FU_lt
  have hl:=h.1
  have key:∀ xs:List TInterest,Sl (m + 21) xs → ∃ l', (if xs.length = 0 then some xs else (remI ((b.fAt.toNat:Nat):Int) ((xs.length:Nat):Int)).bind fun s154=>(idx xs s154).bind fun x155=>(if ((b.fF % (5:UInt8)).toNat) = 0 then (scut b.fp 0 ((min b.fp.size 30:Nat):Int)).bind fun s169=>(put xs ((s154.toNat:Nat):Int) (⟨s169,x155.fw,x155.fm⟩:TInterest)).bind fun xs177=>some xs177 else (if ((b.fF % (5:UInt8)).toNat) = 1 then (put xs ((s154.toNat:Nat):Int) (⟨x155.fp,b.fN,x155.fm⟩:TInterest)).bind fun xs195=>some xs195 else (if ((b.fF % (5:UInt8)).toNat) = 2 then (put xs ((s154.toNat:Nat):Int) (⟨x155.fp,x155.fw,u64of b.fN⟩:TInterest)).bind fun xs213=>some xs213 else (if ((b.fF % (5:UInt8)).toNat) = 3 then (xs[0]?).bind fun x224=>(put xs ((s154.toNat:Nat):Int) (⟨x224.fp,x155.fw,x155.fm⟩:TInterest)).bind fun xs242=>some xs242 else some xs))))) = some l' ∧Sl (m + 21) l' :=fun xs hx=>by
    by_cases hz:xs.length = 0
    · rw [if_pos hz]; exact ⟨_,rfl,hx⟩
    obtain ⟨j,hj,e⟩:=bAt b.fAt.toNat xs.length (by omega)
    have hc:=hx.2 _ (List.getElem_mem hj)
    rw [if_neg hz,e,obind,idxM hj,obind,Int.toNat_natCast]
    by_cases c0:(b.fF % (5:UInt8)).toNat = 0
    · have hs:scut b.fp 0 ((min b.fp.size 30:Nat):Int) = some (b.fp.extract 0 (min b.fp.size 30)):=by
        unfold scut
        rw [if_pos ⟨by omega,by omega,by omega⟩]
        rfl
      rw [if_pos c0,hs,obind,put_ok _ hj,obind]
      exact ⟨_,rfl,hx.set j (by simp only; rw [ByteArray.size_extract]; omega)⟩
    rw [if_neg c0]
    by_cases c1:(b.fF % (5:UInt8)).toNat = 1
    · rw [if_pos c1,put_ok _ hj,obind]
      exact ⟨_,rfl,hx.set j hc⟩
    rw [if_neg c1]
    by_cases c2:(b.fF % (5:UInt8)).toNat = 2
    · rw [if_pos c2,put_ok _ hj,obind]
      exact ⟨_,rfl,hx.set j hc⟩
    rw [if_neg c2]
    by_cases c3:(b.fF % (5:UInt8)).toNat = 3
    · have h0:0 < xs.length:=by omega
      rw [if_pos c3,List.getElem?_eq_getElem h0,obind,put_ok _ hj,obind]
      exact ⟨_,rfl,hx.set j (show xs[0].fp.size ≤ 100 from hx.2 _ (List.getElem_mem h0))⟩
    rw [if_neg c3]
    exact ⟨_,rfl,hx⟩
  unfold wardmoteref27_Bend_Of_p jn
  rw [appS _ _ (by simp only [List.length_nil]; omega),obind,List.nil_append]
  simp only
  by_cases c4:(b.fF % (5:UInt8)).toNat = 4
  · rw [if_pos c4]
    have hat:(b.fAt % (22:UInt8)).toNat < 22:=by rw [UInt8.toNat_mod]; exact Nat.mod_lt _ (by decide)
    have hh:=loop_ok (B:=wardmoteref27_Bend_Of_l1 FU b) (fun s:Nat × List TInterest=>22 - s.1) (fun s=>s.1 ≤ 21∧Sl (m + s.1) s.2) (fun l=>Sl (m + 21) l) ?_ FU (0,l) ⟨Nat.zero_le _,h⟩ (by simp only; omega)
    · obtain ⟨xs,e,hx⟩:=hh
      rw [e,obind]
      exact key xs hx
    · rintro ⟨i,xs⟩ J ⟨a1,a2,a3⟩ hJ
      simp only at a1 a2 a3 hJ
      unfold wardmoteref27_Bend_Of_l1
      simp only
      by_cases hi:i < (b.fAt % (22:UInt8)).toNat
      · rw [if_pos hi,mname,obind,appS _ _ (by simp only [List.length_cons,List.length_nil]; omega),obind]
        refine hJ _ ⟨by simp only; omega,by simp only [List.length_append,List.length_cons,List.length_nil]; omega,fun c' hc' =>?_⟩ (by simp only; omega)
        rcases List.mem_append.1 hc' with h | h
        · exact a3 c' h
        · rw [List.mem_singleton.1 h]; show 5 ≤ 100; decide
      · rw [if_neg hi]
        exact ⟨_,rfl,by omega,a3⟩
  · rw [if_neg c4]
    exact key l ⟨by omega,h.2⟩
theorem checkB (n:Int) {l:List TInterest} {m:Nat} (h:Sl m l):∃ q,interest_Check_p FU n l = some q∧wardmoteref27_Check_p FU n l = some q:=by
  have hs:∀ c ∈ l,c.fp.size ≤ 1000:=fun c hc=>by have:=h.2 c hc; omega
  exact ⟨_,checkI_eq n l hs,checkRI_eq n l hs⟩
theorem checks_ok (a0:Int) (a1:UInt8) (a2:TDraft) (a3:TBend × TBend) (a4 a5:UInt64):wardmotelaw27_InterestChecks_p FU a0 a1 a2 a3 a4 a5 = some true:=by
  have hm:(a1 % (12:UInt8)).toNat < 12:=by rw [UInt8.toNat_mod]; exact Nat.mod_lt _ (by decide)
  obtain ⟨l,e0,h0⟩:=list_ok a2 (1 + (a1 % (12:UInt8)).toNat) (by omega)
  obtain ⟨l1,e1,h1⟩:=bend27_ok a3.1 h0 (by omega)
  obtain ⟨l2,e2,h2⟩:=bend27_ok a3.2 h1 (by omega)
  obtain ⟨q1,f1,g1⟩:=checkB ((1 + (a1 % (12:UInt8)).toNat:Nat):Int) h0
  obtain ⟨q2,f2,g2⟩:=checkB ((1 + (a1 % (12:UInt8)).toNat:Nat):Int) h1
  obtain ⟨q3,f3,g3⟩:=checkB ((1 + (a1 % (12:UInt8)).toNat:Nat):Int) h2
  obtain ⟨q4,f4,g4⟩:=checkB a0 h0
  obtain ⟨q5,f5,g5⟩:=checkB a0 h1
  obtain ⟨q6,f6,g6⟩:=checkB a0 h2
  obtain ⟨o1,u1,v1⟩:=overlapB a4 a5
  obtain ⟨o2,u2,v2⟩:=overlapB (a4 &&& (7:UInt64)) (a5 &&& (7:UInt64))
  obtain ⟨o3,u3,v3⟩:=overlapB a4 a4
  obtain ⟨o4,u4,v4⟩:=overlapB 0 a5
  unfold wardmotelaw27_InterestChecks_p
  rw [works27,obind,if_pos rfl,e0,obind,e1,obind,e2,obind,f1,obind,g1,obind,if_pos rfl,f2,obind,g2,obind,if_pos rfl,f3,obind,g3,obind,if_pos rfl,obind,f4,obind,g4,obind,if_pos rfl,f5,obind,g5,obind,if_pos rfl,f6,obind,g6,obind,if_pos rfl]
  rw [u1,obind,v1,obind,if_pos rfl,if_pos rfl,u2,obind,v2,obind,if_pos rfl,if_pos rfl,u3,obind,v3,obind,if_pos rfl,if_pos rfl,u4,obind,v4,obind,if_pos rfl,if_pos rfl]
theorem interestChecks_ex (a0:Int) (a1:UInt8) (a2:TDraft) (a3:TBend × TBend) (a4 a5:UInt64):∃ n,wardmotelaw27_InterestChecks_p n a0 a1 a2 a3 a4 a5 = some true:=⟨FU,checks_ok a0 a1 a2 a3 a4 a5⟩
end Go.Proofs.YtfccehcnajelgaaGreatDoor
