/- Plain law: MinorityTwo. No program in sight but the printed functions. -/
import Derived.Test.YtbgcdbblaadokaaGreatDoorRVTu
namespace Go.Proofs.YtbgcdbblaadokaaGreatDoor
open Go
set_option maxRecDepth 8000
abbrev Q4:Type:=UInt8 × UInt8 × UInt8 × UInt8
def unit2 (nm:ByteArray) (a:Q4):TUnit:=⟨nm,((1 + a.1.toNat:Nat):Int),[Int.tmod ((a.2.1.toNat:Nat):Int) (((1 + a.1.toNat) + 1:Nat):Int)],[((a.2.2.1.toNat:Nat):Int),((1 + a.2.2.2.toNat:Nat):Int)],[],false⟩
def pt2 (a:Q4):Pt:=⟨((1 + a.1.toNat:Nat):Int),Int.tmod ((a.2.1.toNat:Nat):Int) (((1 + a.1.toNat) + 1:Nat):Int),((a.2.2.1.toNat:Nat):Int),((a.2.2.1.toNat:Nat):Int) + ((1 + a.2.2.2.toNat:Nat):Int)⟩
theorem tm2 (a:Q4):0 ≤ Int.tmod ((a.2.1.toNat:Nat):Int) (((1 + a.1.toNat) + 1:Nat):Int)∧Int.tmod ((a.2.1.toNat:Nat):Int) (((1 + a.1.toNat) + 1:Nat):Int) ≤ ((1 + a.1.toNat:Nat):Int):=by
  rw [Int.tmod_eq_emod_of_nonneg (by omega)]
  have h1:=Int.emod_nonneg ((a.2.1.toNat:Nat):Int) (b:=(((1 + a.1.toNat) + 1:Nat):Int)) (by omega)
  have h2:=Int.emod_lt_of_pos ((a.2.1.toNat:Nat):Int) (b:=(((1 + a.1.toNat) + 1:Nat):Int)) (by omega)
  generalize ((a.2.1.toNat:Nat):Int) % (((1 + a.1.toNat) + 1:Nat):Int) = z at *
  omega
theorem pt2_ok (a:Q4):PtOk (pt2 a):=by
  have h:=tm2 a
  have h1:=a.1.toNat_lt
  have h2:=a.2.2.1.toNat_lt
  have h3:=a.2.2.2.toNat_lt
  unfold pt2
  generalize Int.tmod ((a.2.1.toNat:Nat):Int) (((1 + a.1.toNat) + 1:Nat):Int) = z at *
  exact ⟨by simp only; omega,by simp only; omega,by simp only; omega,by simp only; omega⟩
theorem ptO2 (nm:ByteArray) (a:Q4):ptO 0 0 (unit2 nm a) = some (pt2 a):=by
  have e:(unit2 nm a).fP.sum = ((a.2.2.1.toNat:Nat):Int) + ((1 + a.2.2.2.toNat:Nat):Int):=by unfold unit2; simp only [List.sum_cons,List.sum_nil,Int.add_zero]
  unfold ptO
  rw [e,if_neg (by unfold unit2; simp only; omega)]
  rfl
theorem upt2 (nm:ByteArray) (a:Q4):UPt 0 0 (unit2 nm a):=by
  have h:=tm2 a
  have h1:=a.1.toNat_lt
  have h2:=a.2.2.1.toNat_lt
  have h3:=a.2.2.2.toNat_lt
  unfold unit2
  generalize Int.tmod ((a.2.1.toNat:Nat):Int) (((1 + a.1.toNat) + 1:Nat):Int) = z at *
  refine ⟨by simp only; omega,by simp,fun x hx=>?_,by simp,fun x hx=>?_⟩
  · simp only [List.mem_singleton] at hx; subst hx; simp only; omega
  · simp only [List.mem_cons,List.not_mem_nil,or_false] at hx
    rcases hx with rfl | rfl <;> omega
theorem at2 (nm:ByteArray) (a:Q4):wardmotelaw29_MinorityTwo_1_p FU (unit2 nm a) = some (Sg (pt2 a).X,Sg (pt2 a).Y):=by
  have h:=tm2 a
  have h1:=a.1.toNat_lt
  have h2:=a.2.2.1.toNat_lt
  have h3:=a.2.2.2.toNat_lt
  unfold wardmotelaw29_MinorityTwo_1_p pt2 unit2
  generalize Int.tmod ((a.2.1.toNat:Nat):Int) (((1 + a.1.toNat) + 1:Nat):Int) = z at *
  simp only [List.getElem?_cons_zero,List.getElem?_cons_succ,obind]
  rw [lof (by omega) (Sm_of (by omega)) (Sm_of (by omega)),obind,chkI (by omega) (by omega),obind,lof (by omega) (Sm_of (by omega)) (Sm_of (by omega)),obind]
  rfl
@[reducible] def ltrs:ByteArray:=⟨#[65,66,67,68,69,70,71,72,73,74,75,76,77,78,79,80,81,82,83,84,85,86,87,88,89,90,97,98,99,100,101,102,103,104,105,106,107,108,109,110,111,112,113,114,115,116,117,118,119,120,121,122,48,49,50,51,52,53,54,55,56,57,45,95]⟩
theorem trim_a:strings_Trim_p FU ⟨#[117,97]⟩ ltrs = some ⟨#[]⟩:=by kernel_rfl
theorem trim_b:strings_Trim_p FU ⟨#[117,98]⟩ ltrs = some ⟨#[]⟩:=by kernel_rfl
theorem right2 (U:List TUnit) (nm:ByteArray) (a:Q4) (ht:strings_Trim_p FU nm ltrs = some ⟨#[]⟩) (e1:¬ nm = ⟨#[]⟩) (e2:nm.size ≤ 12):units_right_p FU ⟨1,2,0,U⟩ (unit2 nm a) = some true:=by
  have hF:=FU_lt
  have h:=upt2 nm a
  have hp:=h.p
  have hv:=h.v
  have hg:=h.g
  unfold units_right_p jn
  simp only
  rw [if_neg (show ¬ (unit2 nm a).fJ = true by show ¬ false = true; decide),show (unit2 nm a).fI = nm from rfl,show strings_Trim_p FU nm _ = some ⟨#[]⟩ from ht,obind,within_ok FU _ _ _ (show (((unit2 nm a).fj.length:Nat):Int) = 1 from rfl) hg (show 1 < FU by omega),obind,within_ok FU _ _ _ (show (((unit2 nm a).fP.length:Nat):Int) = 2 from rfl) (fun x hx=>⟨(hv x hx).1,by have:=(hv x hx).2; omega⟩) (show 2 < FU by omega),obind,within_ok FU _ _ _ (show (((unit2 nm a).fParents.length:Nat):Int) = 0 from rfl) (fun x hx=>by cases hx) (show 0 < FU by omega),obind]
  rw [every_ok FU _ ?_ (by simp only [List.length_cons,List.length_nil]; omega),obind]
  simp [e1,e2,hp.1]
  omega
theorem checkroll_gen (r:TRoll) (hG:0 ≤ r.fj∧r.fj ≤ 6) (hP:0 ≤ r.fh∧r.fh ≤ 12) (hL:0 ≤ r.fl∧r.fl ≤ 3) (hl:1 ≤ r.fE.length∧r.fE.length ≤ 64) (hw:∀ i (h:i < r.fE.length),r.fE[i].fJ = false) (hr:∀ i (h:i < r.fE.length),units_right_p FU r r.fE[i] = some true)
    (hn:∀ i (h:i < r.fE.length) j (h' : j < r.fE.length),j < i → r.fE[j].fI ≠ r.fE[i].fI):units_CheckRoll_p FU r = some 0:=by
  have hF:=FU_lt
  unfold units_CheckRoll_p
  rw [every_ok FU _ ?_ (by simp only [List.length_cons,List.length_nil]; omega),obind,if_pos rfl]
  · have hh:=loop_ok (B:=units_CheckRoll_l1 FU r) (fun s:Bool × Nat × List (ByteArray × Bool)=>r.fE.length - s.2.1)
      (fun s=>s.2.1 ≤ r.fE.length∧s.1 = false∧∀ x,mget s.2.2 x ≠ none → ∃ j,∃ hj:j < r.fE.length,j < s.2.1∧r.fE[j].fI = x) (fun r=>r = .inr ()) ?_ FU (false,0,[]) ⟨by simp,rfl,fun x hx=>absurd rfl hx⟩ (by simp only; omega)
    · obtain ⟨x,e,rfl⟩:=hh
      rw [e]; rfl
    · rintro ⟨q,i,D⟩ J ⟨a1,a2,a3⟩ hJ
      simp only at a1 a2 a3 hJ
      unfold units_CheckRoll_l1
      simp only
      split
      · rename_i hi
        have hnone:mget D r.fE[i].fI = none:=by
          rcases hm:mget D r.fE[i].fI with _ | b
          · rfl
          · exfalso
            obtain ⟨j,hj,hji,he⟩:=a3 r.fE[i].fI (by rw [hm]; simp)
            exact hn i hi j hj hji he
        have hmD:mgetD D r.fE[i].fI false = false:=by unfold mgetD; rw [hnone]; rfl
        have next:∃ x,J (false,i + 1,mset D r.fE[i].fI true) = some x∧x = .inr ():=by
          refine hJ (false,i + 1,mset D r.fE[i].fI true) ⟨hi,rfl,fun x hx=>?_⟩ (by simp only; omega)
          simp only at hx ⊢
          rw [mget_mset] at hx
          by_cases hx2:x = r.fE[i].fI
          · exact ⟨i,hi,by omega,hx2.symm⟩
          · rw [if_neg hx2] at hx
            obtain ⟨j,hj,hji,he⟩:=a3 x hx
            exact ⟨j,hj,by omega,he⟩
        rw [List.getElem?_eq_getElem hi,obind]
        rw [hr i hi,obind,hw i hi,if_neg (by decide),hmD,a2]
        by_cases h0:0 < i
        · rw [if_pos h0,every_ok FU _ (by simp) (by simp only [List.length_cons,List.length_nil]; omega),obind,if_pos rfl]
          exact next
        · rw [if_neg h0,every_ok FU _ (by simp) (by simp only [List.length_cons,List.length_nil]; omega),obind,if_pos rfl]
          exact next
      · exact ⟨_,rfl,rfl⟩
  · simp; omega
def r2 (a b:Q4):TRoll:=⟨1,2,0,[unit2 ⟨#[117,97]⟩ a,unit2 ⟨#[117,98]⟩ b]⟩
theorem cases2 {α:Type} {x y:α} {P:α → Prop} (h1:P x) (h2:P y):∀ i (h:i < [x,y].length),P [x,y][i]
  | 0,_=>h1
  | 1,_=>h2
theorem line2 (a b:Q4):LineOk (r2 a b) [unit2 ⟨#[117,97]⟩ a,unit2 ⟨#[117,98]⟩ b] 0 0:=by
  refine ⟨?_,by show (0:Int) < 1; decide,by show (0:Int) < 2; decide,.inl rfl,by simp,fun u hu=>?_,fun u hu=>?_⟩
  · refine checkroll_gen _ (by show (0:Int) ≤ 1∧(1:Int) ≤ 6; decide) (by show (0:Int) ≤ 2∧(2:Int) ≤ 12; decide) (by show (0:Int) ≤ 0∧(0:Int) ≤ 3; decide) (by unfold r2; simp) (fun i hi=>?_) (fun i hi=>?_) (fun i hi j hj hji=>?_)
    · exact cases2 (P:=fun u=>u.fJ = false) rfl rfl i hi
    · exact cases2 (P:=fun u=>units_right_p FU (r2 a b) u = some true) (right2 _ _ a trim_a (by decide) (by decide)) (right2 _ _ b trim_b (by decide) (by decide)) i hi
    · have hi2:i < 2:=hi
      obtain rfl:j = 0:=by omega
      obtain rfl:i = 1:=by omega
      show (⟨#[117,97]⟩:ByteArray) ≠ ⟨#[117,98]⟩
      decide
  · simp only [List.mem_cons,List.not_mem_nil,or_false] at hu
    rcases hu with rfl | rfl <;> rfl
  · simp only [List.mem_cons,List.not_mem_nil,or_false] at hu
    rcases hu with rfl | rfl <;> exact upt2 _ _
theorem pts2 (a b:Q4):pts [unit2 ⟨#[117,97]⟩ a,unit2 ⟨#[117,98]⟩ b] 0 0 = [pt2 a,pt2 b]:=by
  unfold pts
  rw [List.filterMap_cons,ptO2,List.filterMap_cons,ptO2,List.filterMap_nil]
theorem FQ_X {p:Pt} (h:PtOk p):FQ p.X:=by have:=h.w; have:=h.g; exact fq_q (by omega) (by omega) (by omega)
theorem FQ_Y {p:Pt} (h:PtOk p):FQ p.Y:=by have:=h.a; have:=h.v; exact fq_q (by omega) (by omega) (by omega)
theorem keep0 (c:Tcalc) (s:TShare):wardmotelaw29_calc_keep_p FU c s 0 = some s:=by unfold wardmotelaw29_calc_keep_p; rw [if_pos rfl]
theorem cmul {a b:Rat} (c:Tcalc) (ha:FQ a) (hb:FQ b) (h:FQ (a * b)):wardmotelaw29_calc_mul_p FU c (Sg a) (Sg b) = some (Sg (a * b)):=by
  unfold wardmotelaw29_calc_mul_p
  rw [mul_q ha hb h FU_big,obind,keep0,obind]
theorem cadd {a b:Rat} (c:Tcalc) (ha:FQ a) (hb:FQ b) (h:FQ (a + b)):wardmotelaw29_calc_add_p FU c (Sg a) (Sg b) = some (Sg (a + b)):=by
  unfold wardmotelaw29_calc_add_p
  rw [add_q ha hb h FU_big,obind,keep0,obind]
theorem two_ok (a b:Q4):wardmotelaw29_MinorityTwo_p FU a b = some true:=by
  have L:=line2 a b
  have l0:=line_ok L
  have f0:=fitP_ok L
  have hok:=L.ok
  rw [pts2] at l0 f0 hok
  have hp:PtOk (pt2 a):=pt2_ok a
  have hq:PtOk (pt2 b):=pt2_ok b
  have hlen:[pt2 a,pt2 b].length ≤ 8:=by simp
  have oa:=at2 ⟨#[117,97]⟩ a
  have ob:=at2 ⟨#[117,98]⟩ b
  have o0:wardmotelaw29_of_p FU 0 1 = some (Sg 0):=lof (by decide) (by unfold Sm; decide) (by unfold Sm; decide)
  have o1:wardmotelaw29_of_p FU 1 1 = some (Sg 1):=lof (by decide) (by unfold Sm; decide) (by unfold Sm; decide)
  have fx:=FQ_X hp
  have fu:=FQ_X hq
  have fy:=FQ_Y hp
  have fv:=FQ_Y hq
  unfold wardmotelaw29_MinorityTwo_p
  rw [works29,obind,if_pos rfl,show sadd ⟨#[117]⟩ ⟨#[97]⟩ = some ⟨#[117,97]⟩ from rfl,obind,remI_ok (by omega),obind,appS _ _ (by simp only [List.length_cons,List.length_nil]; omega),obind,show sadd ⟨#[117]⟩ ⟨#[98]⟩ = some ⟨#[117,98]⟩ from rfl,obind,remI_ok (by omega),obind,appS _ _ (by simp only [List.length_cons,List.length_nil,List.length_append]; omega),obind]
  show ((some (unit2 ⟨#[117,97]⟩ a)).bind fun x2601=>(wardmotelaw29_MinorityTwo_1_p FU x2601).bind fun y2619=>(some (unit2 ⟨#[117,98]⟩ b)).bind fun x2636=>(wardmotelaw29_MinorityTwo_1_p FU x2636).bind fun y2655=>(minority_Line_p FU (r2 a b) ((0:Nat):Int) ((0:Nat):Int)).bind fun y2672=>(minority_Fit_p FU (r2 a b) ((0:Nat):Int) ((0:Nat):Int)).bind fun y2691=>_) = _
  rw [obind,oa,obind,obind,ob,obind,l0,obind,f0,obind]
  generalize pt2 a = p at *
  generalize pt2 b = q at *
  clear oa ob L l0 f0
  by_cases h:p.X = q.X
  · have h0:=(dd2_zero hp hq).2 h
    simp only [if_pos h0,h]
    rfl
  · have h0:dd [p,q] ≠ 0:=fun e=>h ((dd2_zero hp hq).1 e)
    have hx:¬ Sg p.X = Sg q.X:=fun e=>h (Sg_inj fx fu e)
    obtain ⟨b1,b2⟩:=base2 hp hq h
    have fs:=bt_fq (bS hok hlen h0)
    have fb:=bt_fq (bBase hok hlen h0)
    have fm1:FQ (slope [p,q] * p.X):=bt_fq (i:=189) (j:=189) ((bS hok hlen h0).mul (show Bt 20 20 p.X from Bt.of (by have:=hp.w; omega) (by have:=hp.g; have:=hp.w; omega) (by have:=hp.w; omega)))
    have fm2:FQ (slope [p,q] * q.X):=bt_fq (i:=189) (j:=189) ((bS hok hlen h0).mul (show Bt 20 20 q.X from Bt.of (by have:=hq.w; omega) (by have:=hq.g; have:=hq.w; omega) (by have:=hq.w; omega)))
    have a1:=cadd ⟨false⟩ fb fm1 (by rw [b1]; exact fy)
    have a2:=cadd ⟨false⟩ fb fm2 (by rw [b2]; exact fv)
    rw [b1] at a1
    rw [b2] at a2
    simp only [if_neg h0,if_neg hx,if_true,cmul ⟨false⟩ fs fx fm1,cmul ⟨false⟩ fs fu fm2,obind,a1,a2]
    by_cases hy:p.Y = q.Y
    · have h1:=(ee2_zero hp hq).2 hy
      have hs:slope [p,q] = 0:=by unfold slope; rw [nn_zero hok h0 h1]; grind
      simp only [if_pos h1,hy,if_true,o0,obind,hs]
      simp
    · have h1:ee [p,q] ≠ 0:=fun e=>hy ((ee2_zero hp hq).1 e)
      have hy' : ¬ Sg p.Y = Sg q.Y:=fun e=>hy (Sg_inj fy fv e)
      simp only [if_neg h1,if_neg hy', fit2 hp hq h hy]
      unfold wardmotelaw29_is_1_p
      rw [o1]
      simp
theorem minorityTwo_ex (a0:UInt8 × UInt8 × UInt8 × UInt8) (a1:UInt8 × UInt8 × UInt8 × UInt8):∃ n,wardmotelaw29_MinorityTwo_p n a0 a1 = some true:=⟨FU,two_ok a0 a1⟩
end Go.Proofs.YtbgcdbblaadokaaGreatDoor
