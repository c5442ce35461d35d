/- Plain law: MinorityNormal. No program in sight but the printed functions. -/
import Derived.Test.YtbgcdbblaadokaaGreatDoorQZTv
namespace Go.Proofs.YtbgcdbblaadokaaGreatDoor
open Go
set_option maxRecDepth 8000
theorem unit_pt {G P L:Int} {u:TUnit} {gi pi:Nat} (h:UnitOk G P L u) (hg:(gi:Int) < G) (hp:(pi:Int) < P) (h3:P ≤ 3):UPt gi pi u:=by
  obtain ⟨_,p,g,v,_⟩:=h
  exact ⟨by omega,by omega,g.2,by omega,fun x hx=>by have:=v.2 x hx; omega⟩
theorem line_of (r:TRoll) (us:List TUnit) (h:RollOk r us) (hl:us.length ≤ 8) {gi pi:Nat} (hg:(gi:Int) < r.fj) (hp:(pi:Int) < r.fe):LineOk r us gi pi:=by
  have h3:=h.p
  have hu:∀ u ∈ us,UnitOk r.fj r.fe r.fl u:=fun u hu=>by
    obtain ⟨i,hi,rfl⟩:=List.getElem_of_mem hu
    exact (h.land i hi).2
  refine ⟨checkroll_ok r us h,hg,hp,?_,hl,fun u hm=>(hu u hm).1,fun u hm=>unit_pt (hu u hm) hg hp h3.2⟩
  rcases h.all with e | e
  · exact .inl e
  · refine .inr ⟨_,e,rfl,?_,?_⟩
    · show (List.replicate r.fe.toNat (0:Int)).length ≤ 3
      rw [List.length_replicate]; omega
    · intro x hx
      rw [(List.mem_replicate.1 (show x ∈ List.replicate r.fe.toNat (0:Int) from hx)).2]; omega
theorem full_ok (n:Nat) (d:TDraft) (m:Nat) (h1:1 ≤ m) (h2:m ≤ 9) (hn:200 < n):∃ r us,wardmoteref22_Draft_Full_p n d m = some r∧us.length = m∧RollOk r us∧r.fj = 2∧r.fe = 3∧r.fl = 2:=by
  obtain ⟨r,us,e,h,h', a,b,c⟩:=roll_all n ⟨2,3,2,d.fu,d.fNums⟩ m h1 h2 hn
  refine ⟨r,us,?_,h,h', a,b,c⟩
  unfold wardmoteref22_Draft_Full_p
  rw [e,obind]
abbrev FN:Type:=UInt64 × UInt64 × UInt64 × UInt64 × UInt64 × UInt64 × UInt64 × UInt64 × UInt64 × UInt64 × UInt64 × UInt64 × UInt64 × UInt64 × UInt64 × UInt64 × UInt64 × UInt64 × UInt64 × UInt64 × UInt64 × UInt64 × UInt64 × UInt64 × UInt64 × UInt64 × UInt64 × UInt64 × UInt64 × UInt64 × UInt64 × UInt64
def flatN (i:Nat) (two one:TShare):Nat × FN:=(i,two.fN.1,two.fN.2.1,two.fN.2.2.1,two.fN.2.2.2.1,two.fN.2.2.2.2.1,two.fN.2.2.2.2.2.1,two.fN.2.2.2.2.2.2.1,two.fN.2.2.2.2.2.2.2,two.fD.1,two.fD.2.1,two.fD.2.2.1,two.fD.2.2.2.1,two.fD.2.2.2.2.1,two.fD.2.2.2.2.2.1,two.fD.2.2.2.2.2.2.1,two.fD.2.2.2.2.2.2.2,one.fN.1,one.fN.2.1,one.fN.2.2.1,one.fN.2.2.2.1,one.fN.2.2.2.2.1,one.fN.2.2.2.2.2.1,one.fN.2.2.2.2.2.2.1,one.fN.2.2.2.2.2.2.2,one.fD.1,one.fD.2.1,one.fD.2.2.1,one.fD.2.2.2.1,one.fD.2.2.2.2.1,one.fD.2.2.2.2.2.1,one.fD.2.2.2.2.2.2.1,one.fD.2.2.2.2.2.2.2)
def flatM (one two:TShare):FN:=(one.fN.1,one.fN.2.1,one.fN.2.2.1,one.fN.2.2.2.1,one.fN.2.2.2.2.1,one.fN.2.2.2.2.2.1,one.fN.2.2.2.2.2.2.1,one.fN.2.2.2.2.2.2.2,one.fD.1,one.fD.2.1,one.fD.2.2.1,one.fD.2.2.2.1,one.fD.2.2.2.2.1,one.fD.2.2.2.2.2.1,one.fD.2.2.2.2.2.2.1,one.fD.2.2.2.2.2.2.2,two.fN.1,two.fN.2.1,two.fN.2.2.1,two.fN.2.2.2.1,two.fN.2.2.2.2.1,two.fN.2.2.2.2.2.1,two.fN.2.2.2.2.2.2.1,two.fN.2.2.2.2.2.2.2,two.fD.1,two.fD.2.1,two.fD.2.2.1,two.fD.2.2.2.1,two.fD.2.2.2.2.1,two.fD.2.2.2.2.2.1,two.fD.2.2.2.2.2.2.1,two.fD.2.2.2.2.2.2.2)
theorem nrm_body (r:TRoll) (a3 a2:UInt8) (t:TShare × TShare × Int) (J:Nat × FN → Option FN) (i:Nat) (two one:TShare):wardmotelaw29_MinorityNormal_l2 FU r a3 t a2 J (flatN i two one) =
    if i < r.ft.length then (r.ft[i]?).bind fun x=>Option.bind (loopF (wardmotelaw29_MinorityNormal_l1 FU x) FU (0,0)) (fun z=>if x.fE = 0 then J (flatN (i + 1) two one) else if z = 0 then J (flatN (i + 1) two one) else (x.fL[(a3 % (3:UInt8)).toNat]?).bind fun v=>(wardmotelaw29_of_p FU v z).bind fun y1=>(wardmotelaw29_calc_sub_p FU (⟨false⟩:Tcalc) y1 t.2.1).bind fun y2=>(x.fj[(a2 % (2:UInt8)).toNat]?).bind fun gg=>(wardmotelaw29_of_p FU gg x.fE).bind fun y3=>(wardmotelaw29_calc_mul_p FU (⟨false⟩:Tcalc) t.1 y3).bind fun y4=>(wardmotelaw29_calc_sub_p FU (⟨false⟩:Tcalc) y2 y4).bind fun y5=>(wardmotelaw29_of_p FU x.fE (1:Int)).bind fun y6=>(wardmotelaw29_calc_mul_p FU (⟨false⟩:Tcalc) y6 y5).bind fun y7=>(wardmotelaw29_calc_add_p FU (⟨false⟩:Tcalc) one y7).bind fun y8=>(wardmotelaw29_of_p FU gg (1:Int)).bind fun y9=>(wardmotelaw29_calc_mul_p FU (⟨false⟩:Tcalc) y9 y5).bind fun y10=>(wardmotelaw29_calc_add_p FU (⟨false⟩:Tcalc) two y10).bind fun y11=>J (flatN (i + 1) y11 y8)) else some (flatM one two):=rfl
theorem Dn.sm {T M:Nat} (h0:0 < T) {f:Pt → Rat}:∀ {ps:List Pt},(∀ p ∈ ps,Dn T M (f p)) → Dn T (M * ps.length) (Proofs.YtbgcdbblaadokaaGreatDoor.sm f ps)
  | [],_=>⟨h0,0,by simp only [Proofs.YtbgcdbblaadokaaGreatDoor.sm]; exact (Rat.zero_divInt _).symm,by simp⟩
  | p :: ps,H=>by
    rw [List.length_cons,Nat.mul_add,Nat.mul_one,Nat.add_comm]
    exact (H p (List.mem_cons_self ..)).add (Dn.sm h0 fun q hq=>H q (List.mem_cons_of_mem _ hq))
theorem keep0 (c:Tcalc) (s:TShare):wardmotelaw29_calc_keep_p FU c s 0 = some s:=by unfold wardmotelaw29_calc_keep_p; rw [if_pos rfl]
theorem cmul {a b:Rat} (c:Tcalc) (ha:FQ a) (hb:FQ b) (h:FQ (a * b)):wardmotelaw29_calc_mul_p FU c (Sg a) (Sg b) = some (Sg (a * b)):=by
  unfold wardmotelaw29_calc_mul_p
  rw [mul_q ha hb h FU_big,obind,keep0,obind]
theorem cadd {a b:Rat} (c:Tcalc) (ha:FQ a) (hb:FQ b) (h:FQ (a + b)):wardmotelaw29_calc_add_p FU c (Sg a) (Sg b) = some (Sg (a + b)):=by
  unfold wardmotelaw29_calc_add_p
  rw [add_q ha hb h FU_big,obind,keep0,obind]
theorem csub {a b:Rat} (c:Tcalc) (ha:FQ a) (hb:FQ b) (h:FQ (a - b)):wardmotelaw29_calc_sub_p FU c (Sg a) (Sg b) = some (Sg (a - b)):=by
  unfold wardmotelaw29_calc_sub_p
  rw [sub_q ha hb h FU_big,obind,keep0,obind]
theorem sum_loopN (u:TUnit) (hl:u.fL.length ≤ 3) (h:∀ x ∈ u.fL,0 ≤ x∧x ≤ 256):loopF (wardmotelaw29_MinorityNormal_l1 FU u) FU (0,0) = some u.fL.sum:=by
  have hF:=FU_lt
  have hh:=loop_ok (B:=wardmotelaw29_MinorityNormal_l1 FU u) (fun s:Int × Nat=>u.fL.length - s.2) (fun s=>s.2 ≤ u.fL.length∧s.1 = (u.fL.take s.2).sum) (fun z=>z = u.fL.sum) ?_ FU (0,0) ⟨Nat.zero_le _,by simp⟩ (by simp only; omega)
  · obtain ⟨z,e,rfl⟩:=hh; exact e
  · rintro ⟨z,i⟩ J ⟨h1,h2⟩ hJ
    simp only at h1 h2 hJ
    subst h2
    unfold wardmotelaw29_MinorityNormal_l1
    simp only
    split
    · rename_i hi
      have hb:=sum_le (l:=u.fL.take i) fun x hx=>h x (List.mem_of_mem_take hx)
      have hx:=h u.fL[i] (List.getElem_mem _)
      have hle:(u.fL.take i).length ≤ 3:=by rw [List.length_take]; omega
      rw [List.getElem?_eq_getElem hi,obind,chkI (by omega) (by omega),obind]
      refine hJ _ ⟨by simp only; omega,?_⟩ (by simp only; omega)
      simp only
      rw [List.take_succ_eq_append_getElem hi,List.sum_append]; simp
    · exact ⟨_,rfl,by rw [List.take_of_length_le (by omega)]⟩
structure OffOk (s b:Rat) (ps:List Pt):Prop where
  ok:∀ p ∈ ps,PtOk p
  len:ps.length ≤ 8
  fs:FQ s
  fb:FQ b
  den:∃ T,0 < T∧T ≤ 2 ^ 242∧∀ p ∈ ps,Dn T (2 ^ 87) (s * p.X)∧Dn T (2 ^ 98 + 2048) b∧Dn T 1 p.Y
def oW (s b:Rat) (p:Pt):Rat:=p.W * offp s b p
def oG (s b:Rat) (p:Pt):Rat:=p.G * offp s b p
theorem OffOk.sub {s b:Rat} {ps qs:List Pt} (h:OffOk s b ps) (hq:∀ p ∈ qs,p ∈ ps) (hl:qs.length ≤ 8):OffOk s b qs:=by
  obtain ⟨T,a1,a2,a3⟩:=h.den
  exact ⟨fun p hp=>h.ok p (hq p hp),hl,h.fs,h.fb,T,a1,a2,fun p hp=>a3 p (hq p hp)⟩
section
variable {s b:Rat} {ps:List Pt} (h:OffOk s b ps)
include h
theorem OffOk.parts {p:Pt} (hp:p ∈ ps):FQ (s * p.X)∧FQ (p.Y - b)∧FQ (offp s b p)∧FQ (oW s b p)∧FQ (oG s b p):=by
  obtain ⟨T,a1,a2,a3⟩:=h.den
  obtain ⟨d1,d2,d3⟩:=a3 p hp
  have e1:=d3.sub d2
  have e2:Dn T (1 + (2 ^ 98 + 2048) + 2 ^ 87) (offp s b p):=e1.sub d1
  have e3:=(Pt.dW (h.ok p hp)).mul e2
  have e4:=(Pt.dG (h.ok p hp)).mul e2
  rw [Nat.one_mul] at e3 e4
  exact ⟨d1.q (a:=88) a2 (by decide) (by decide),e1.q (a:=100) a2 (by decide) (by decide),e2.q (a:=100) a2 (by decide) (by decide),e3.q (a:=108) a2 (by decide) (by decide),e4.q (a:=108) a2 (by decide) (by decide)⟩
theorem OffOk.sums:FQ (sm (oW s b) ps)∧FQ (sm (oG s b) ps):=by
  obtain ⟨T,a1,a2,a3⟩:=h.den
  have hl:=h.len
  have e2:∀ p ∈ ps,Dn T (1 + (2 ^ 98 + 2048) + 2 ^ 87) (offp s b p):=fun p hp=>((a3 p hp).2.2.sub (a3 p hp).2.1).sub (a3 p hp).1
  have e3:=Dn.sm a1 fun p hp=>by have:=(Pt.dW (h.ok p hp)).mul (e2 p hp); rw [Nat.one_mul] at this; exact this
  have e4:=Dn.sm a1 fun p hp=>by have:=(Pt.dG (h.ok p hp)).mul (e2 p hp); rw [Nat.one_mul] at this; exact this
  exact ⟨e3.q (a:=112) a2 (by omega) (by decide),e4.q (a:=112) a2 (by omega) (by decide)⟩
end
theorem nrm_step {s b:Rat} {ps:List Pt} {p:Pt} (h:OffOk s b (ps ++ [p])) (e:Int) (J:Nat × FN → Option FN) (i:Nat) :
    ((wardmotelaw29_of_p FU p.v p.a).bind fun y1=>(wardmotelaw29_calc_sub_p FU (⟨false⟩:Tcalc) y1 (Sg s,Sg b,e).2.1).bind fun y2=>(some p.g).bind fun gg=>(wardmotelaw29_of_p FU gg p.w).bind fun y3=>(wardmotelaw29_calc_mul_p FU (⟨false⟩:Tcalc) (Sg s,Sg b,e).1 y3).bind fun y4=>(wardmotelaw29_calc_sub_p FU (⟨false⟩:Tcalc) y2 y4).bind fun y5=>(wardmotelaw29_of_p FU p.w (1:Int)).bind fun y6=>(wardmotelaw29_calc_mul_p FU (⟨false⟩:Tcalc) y6 y5).bind fun y7=>(wardmotelaw29_calc_add_p FU (⟨false⟩:Tcalc) (Sg (sm (oW s b) ps)) y7).bind fun y8=>(wardmotelaw29_of_p FU gg (1:Int)).bind fun y9=>(wardmotelaw29_calc_mul_p FU (⟨false⟩:Tcalc) y9 y5).bind fun y10=>(wardmotelaw29_calc_add_p FU (⟨false⟩:Tcalc) (Sg (sm (oG s b) ps)) y10).bind fun y11=>J (flatN (i + 1) y11 y8))
    = J (flatN (i + 1) (Sg (sm (oG s b) (ps ++ [p]))) (Sg (sm (oW s b) (ps ++ [p])))):=by
  have hm:p ∈ ps ++ [p]:=by simp
  have hp:=h.ok p hm
  obtain ⟨f1,f2,f3,f4,f5⟩:=h.parts hm
  obtain ⟨g1,g2⟩:=h.sums
  have hl:=h.len
  rw [List.length_append,List.length_singleton] at hl
  obtain ⟨k1,k2⟩:=(h.sub (qs:=ps) (fun q hq=>List.mem_append.2 (.inl hq)) (by omega)).sums
  have a1:=hp.w; have a2:=hp.g; have a3:=hp.a; have a4:=hp.v
  have fw:FQ p.W:=by have:=fq_int (z:=p.w) (by omega); rwa [divI_one] at this
  have fg:FQ p.G:=by have:=fq_int (z:=p.g) (by omega); rwa [divI_one] at this
  have fy:FQ p.Y:=fq_q (by omega) (by omega) (by omega)
  have fx:FQ p.X:=fq_q (by omega) (by omega) (by omega)
  have ey:Rat.divInt p.v p.a = p.Y:=rfl
  have ex:Rat.divInt p.g p.w = p.X:=rfl
  have eg:Rat.divInt p.g 1 = p.G:=divI_one _
  have ee:Rat.divInt p.w 1 = p.W:=divI_one _
  rw [sm_snoc] at g1 g2
  rw [sm_snoc,sm_snoc,lof (by omega) (Sm_of (by omega)) (Sm_of (by omega)),obind,ey]
  simp only
  rw [csub _ fy h.fb f2,obind,obind,lof (by omega) (Sm_of (by omega)) (Sm_of (by omega)),obind,ex,cmul _ h.fs fx f1,obind,csub _ f2 f1 f3,obind,lof (by decide) (Sm_of (by omega)) (Sm_of (by omega)),obind,ee]
  rw [show p.Y - b - s * p.X = offp s b p from rfl,cmul _ fw f3 f4,obind,show p.W * offp s b p = oW s b p from rfl,cadd _ k1 f4 g1,obind,lof (by decide) (Sm_of (by omega)) (Sm_of (by omega)),obind,eg,cmul _ fg f3 f5,obind,show p.G * offp s b p = oG s b p from rfl,cadd _ k2 f5 g2,obind]
theorem nrm_loop (r:TRoll) (us:List TUnit) (a2 a3:UInt8) (s b:Rat) (e:Int) (hL:LineOk r us (a2 % (2:UInt8)).toNat (a3 % (3:UInt8)).toNat) (hz:r.ft = us ∨ ∃ s:TUnit,r.ft = us ++ [s]∧s.fE = 0∧s.fL.length ≤ 3∧∀ x ∈ s.fL,0 ≤ x∧x ≤ 256) (hO:OffOk s b (pts us (a2 % (2:UInt8)).toNat (a3 % (3:UInt8)).toNat)) :
    loopF (wardmotelaw29_MinorityNormal_l2 FU r a3 (Sg s,Sg b,e) a2) FU (flatN 0 (Sg 0) (Sg 0)) = some (flatM (Sg (sm (oW s b) (pts us (a2 % (2:UInt8)).toNat (a3 % (3:UInt8)).toNat))) (Sg (sm (oG s b) (pts us (a2 % (2:UInt8)).toNat (a3 % (3:UInt8)).toNat)))):=by
  have hF:=FU_lt
  have hu:=hL.u
  have hl:=hL.l
  unfold pts at hO ⊢
  generalize hgi:(a2 % (2:UInt8)).toNat = gi at *
  generalize hpi:(a3 % (3:UInt8)).toNat = pi at *
  have hsub:∀ i,OffOk s b ((us.take i).filterMap (ptO gi pi)):=fun i=>hO.sub (fun p hp=>by
    obtain ⟨u,hu1,hu2⟩:=List.mem_filterMap.1 hp
    exact List.mem_filterMap.2 ⟨u,List.mem_of_mem_take hu1,hu2⟩) (Nat.le_trans (List.length_filterMap_le ..) (by rw [List.length_take]; omega))
  have hsz:us.length ≤ r.ft.length∧r.ft.length ≤ us.length + 1:=by
    rcases hz with e | ⟨s,e,_⟩ <;> rw [e] <;> simp
  have hh:=loop_ok (B:=wardmotelaw29_MinorityNormal_l2 FU r a3 (Sg s,Sg b,e) a2) (fun s=>r.ft.length - s.1)
    (fun st=>∃ i,i ≤ r.ft.length∧st = flatN i (Sg (sm (oG s b) ((us.take i).filterMap (ptO gi pi)))) (Sg (sm (oW s b) ((us.take i).filterMap (ptO gi pi)))))
    (fun y=>y = flatM (Sg (sm (oW s b) (us.filterMap (ptO gi pi)))) (Sg (sm (oG s b) (us.filterMap (ptO gi pi))))) ?_ FU (flatN 0 (Sg 0) (Sg 0)) ⟨0,Nat.zero_le _,rfl⟩ (by show r.ft.length - 0 < FU; omega)
  · obtain ⟨y,e,rfl⟩:=hh; exact e
  · rintro st J ⟨i,h1,rfl⟩ hJ
    have hJ' :=fun (i' : Nat) (hi:i < i') (hi2:i' ≤ r.ft.length)=>hJ _ ⟨i', hi2,rfl⟩ (by show r.ft.length - i' < r.ft.length - i; omega)
    generalize hT:flatM (Sg (sm (oW s b) (us.filterMap (ptO gi pi)))) (Sg (sm (oG s b) (us.filterMap (ptO gi pi)))) = T at *
    have hend:us.length ≤ i → flatM (Sg (sm (oW s b) ((us.take i).filterMap (ptO gi pi)))) (Sg (sm (oG s b) ((us.take i).filterMap (ptO gi pi)))) = T:=fun h=>by rw [List.take_of_length_le h]; exact hT
    rw [nrm_body]
    split
    · rename_i hi
      rw [List.getElem?_eq_getElem hi,obind]
      by_cases h2:i < us.length
      · have e0:r.ft[i] = us[i]:=by
          rcases hz with e | ⟨s,e,_⟩
          · simp only [e]
          · simp only [e]; exact List.getElem_append_left h2
        have hU:=hu us[i] (List.getElem_mem _)
        rw [e0]
        have hn:=hJ' (i + 1) (by omega) (by omega)
        have hs1:=hsub (i + 1)
        rw [pts_snoc h2] at hn hs1
        generalize us[i] = u at *
        generalize (us.take i).filterMap (ptO gi pi) = ps at *
        have hvl:=hU.vl
        rw [sum_loopN u hvl.2 hU.v,obind]
        have key:ptO gi pi u = none → ∃ y,J (flatN (i + 1) (Sg (sm (oG s b) ps)) (Sg (sm (oW s b) ps))) = some y∧y = T:=fun e=>by
          rw [e,Option.toList_none,List.append_nil] at hn
          exact hn
        split
        · rename_i h3; exact key (if_pos (.inl h3))
        · rename_i h3
          split
          · rename_i h4; exact key (if_pos (.inr h4))
          · rename_i h4
            have eP:ptO gi pi u = some ⟨u.fE,u.fj[gi]?.getD 0,u.fL[pi]?.getD 0,u.fL.sum⟩:=if_neg (fun h=>h.elim h3 h4)
            rw [List.getElem?_eq_getElem hU.gl,List.getElem?_eq_getElem hvl.1] at eP
            rw [eP,Option.toList_some] at hn hs1
            simp only [Option.getD_some] at hn hs1
            rw [hgi,hpi,List.getElem?_eq_getElem hvl.1,obind,List.getElem?_eq_getElem hU.gl]
            have hstep:=nrm_step hs1 e J i
            simp only at hstep
            rw [hstep]
            exact hn
      · have h3:i = us.length:=by omega
        rcases hz with e | ⟨s,e,hs1,hs2,hs3⟩
        · rw [e] at hi; omega
        · have e0:r.ft[i] = s:=by
            subst h3
            simp only [e]
            rw [List.getElem_append_right (by omega)]; simp
          have hn:=hJ' (i + 1) (by omega) (by omega)
          rw [e0,sum_loopN s hs2 hs3,obind,if_pos hs1]
          rw [List.take_of_length_le (by omega)] at hn ⊢
          exact hn
    · exact ⟨_,rfl,hend (by omega)⟩
theorem normal_ok (a0:UInt8) (a1:TDraft) (a2 a3:UInt8):wardmotelaw29_MinorityNormal_p FU a0 a1 a2 a3 = some true:=by
  have hF:=FU_lt
  have hm:(a0 % (8:UInt8)).toNat < 8:=by rw [UInt8.toNat_mod]; exact Nat.mod_lt _ (by decide)
  have hg:(a2 % (2:UInt8)).toNat < 2:=by rw [UInt8.toNat_mod]; exact Nat.mod_lt _ (by decide)
  have hp:(a3 % (3:UInt8)).toNat < 3:=by rw [UInt8.toNat_mod]; exact Nat.mod_lt _ (by decide)
  obtain ⟨r,us,e,hus,hr,hG,hP,_⟩:=full_ok FU a1 (1 + (a0 % (8:UInt8)).toNat) (by omega) (by omega) (by omega)
  have L0:LineOk r us (a2 % (2:UInt8)).toNat (a3 % (3:UInt8)).toNat:=line_of _ _ hr (by omega) (by omega) (by omega)
  have l0:=line_ok L0
  have hok:=L0.ok
  have hlen:=L0.len
  have hz:r.ft = us ∨ ∃ s:TUnit,r.ft = us ++ [s]∧s.fE = 0∧s.fL.length ≤ 3∧∀ x ∈ s.fL,0 ≤ x∧x ≤ 256:=by
    rcases hr.all with e | e
    · exact .inl e
    · refine .inr ⟨_,e,rfl,?_,?_⟩
      · show (List.replicate r.fe.toNat (0:Int)).length ≤ 3
        rw [List.length_replicate]; omega
      · intro x hx
        rw [(List.mem_replicate.1 (show x ∈ List.replicate r.fe.toNat (0:Int) from hx)).2]; omega
  have o0:wardmotelaw29_of_p FU 0 1 = some (Sg 0):=lof (by decide) (by unfold Sm; decide) (by unfold Sm; decide)
  unfold wardmotelaw29_MinorityNormal_p
  rw [works29,obind,if_pos rfl,e,obind,l0,obind]
  by_cases h0:dd (pts us (a2 % (2:UInt8)).toNat (a3 % (3:UInt8)).toNat) = 0
  · simp only [if_pos h0]
    rfl
  · simp only [if_neg h0,if_true]
    have hO:OffOk (slope (pts us (a2 % (2:UInt8)).toNat (a3 % (3:UInt8)).toNat)) (base (pts us (a2 % (2:UInt8)).toNat (a3 % (3:UInt8)).toNat)) (pts us (a2 % (2:UInt8)).toNat (a3 % (3:UInt8)).toNat):=⟨hok,hlen,bt_fq (bS hok hlen h0),bt_fq (bBase hok hlen h0),den hok hlen h0⟩
    have hl:=nrm_loop r us a2 a3 _ _ 0 L0 hz hO
    rw [o0,obind,obind]
    refine (congrArg (fun o=>Option.bind o _) hl).trans ?_
    rw [show sm (oW (slope (pts us (a2 % (2:UInt8)).toNat (a3 % (3:UInt8)).toNat)) (base (pts us (a2 % (2:UInt8)).toNat (a3 % (3:UInt8)).toNat))) (pts us (a2 % (2:UInt8)).toNat (a3 % (3:UInt8)).toNat) = 0 from sum_off hok h0,show sm (oG (slope (pts us (a2 % (2:UInt8)).toNat (a3 % (3:UInt8)).toNat)) (base (pts us (a2 % (2:UInt8)).toNat (a3 % (3:UInt8)).toNat))) (pts us (a2 % (2:UInt8)).toNat (a3 % (3:UInt8)).toNat) = 0 from sum_off2 hok h0]
    show ((some (Sg 0)).bind fun y653=>(if Sg 0 = y653 then (some (Sg 0)).bind fun y655=>some (decide (Sg 0 = y655)) else some false)) = some true
    rw [obind,if_pos rfl,obind]
    simp
theorem minorityNormal_ex (a0:UInt8) (a1:TDraft) (a2:UInt8) (a3:UInt8):∃ n,wardmotelaw29_MinorityNormal_p n a0 a1 a2 a3 = some true:=⟨FU,normal_ok a0 a1 a2 a3⟩
end Go.Proofs.YtbgcdbblaadokaaGreatDoor
