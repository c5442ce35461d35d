/- Functions of the program, and what they give: part 8. -/
import Derived.Test.YtfccehcnajelgaaGreatDoorQA7
namespace Go.Proofs.YtfccehcnajelgaaGreatDoor
open Go Go.RowKit
set_option maxRecDepth 4000
set_option maxHeartbeats 4000000

theorem body10:bodyB Tryz.prog 10 = true:=by kernel_rfl
theorem body11:bodyB Tryz.prog 11 = true:=by kernel_rfl
theorem body12:bodyB Tryz.prog 12 = true:=by kernel_rfl
theorem body14:bodyB Tryz.prog 14 = true:=by kernel_rfl
theorem body16:bodyB Tryz.prog 16 = true:=by kernel_rfl
def wardmotelaw27_InterestChecks_p (n:Nat) (a0:Int) (a1:UInt8) (a2:TDraft) (a3:TBend × TBend) (a4:UInt64) (a5:UInt64):Option Bool:=
  (wardmotelaw27_works_p n).bind fun x0=>(if x0 = true then (wardmoteref27_Draft_List_p n a2 ((1 + ((a1 % (12:UInt8)).toNat):Nat):Int)).bind fun c0=>(wardmoteref27_Bend_Of_p n a3.1 c0).bind fun b0=>(wardmoteref27_Bend_Of_p n a3.2 b0).bind fun u0=>(interest_Check_p n ((1 + ((a1 % (12:UInt8)).toNat):Nat):Int) c0).bind fun y0=>(wardmoteref27_Check_p n ((1 + ((a1 % (12:UInt8)).toNat):Nat):Int) c0).bind fun z0=>(if y0 = z0 then (interest_Check_p n ((1 + ((a1 % (12:UInt8)).toNat):Nat):Int) b0).bind fun A0=>(wardmoteref27_Check_p n ((1 + ((a1 % (12:UInt8)).toNat):Nat):Int) b0).bind fun B0=>(if A0 = B0 then (interest_Check_p n ((1 + ((a1 % (12:UInt8)).toNat):Nat):Int) u0).bind fun C0=>(wardmoteref27_Check_p n ((1 + ((a1 % (12:UInt8)).toNat):Nat):Int) u0).bind fun D0=>(if C0 = D0 then (wardmoteref27_Bend_Of_p n a3.2 b0).bind fun v0=>(interest_Check_p n a0 c0).bind fun E0=>(wardmoteref27_Check_p n a0 c0).bind fun F0=>(if E0 = F0 then (interest_Check_p n a0 b0).bind fun G0=>(wardmoteref27_Check_p n a0 b0).bind fun H0=>(if G0 = H0 then (interest_Check_p n a0 v0).bind fun I0=>(wardmoteref27_Check_p n a0 v0).bind fun J0=>(if I0 = J0 then (interest_Overlap_p n a4 a5).bind fun d0=>(wardmoteref27_Overlap_p n a4 a5).bind fun g0=>(if d0.1 = g0.1 then (if d0.2 = g0.2 then (interest_Overlap_p n (a4 &&& (7:UInt64)) (a5 &&& (7:UInt64))).bind fun j0=>(wardmoteref27_Overlap_p n (a4 &&& (7:UInt64)) (a5 &&& (7:UInt64))).bind fun k0=>(if j0.1 = k0.1 then (if j0.2 = k0.2 then (interest_Overlap_p n a4 a4).bind fun p0=>(wardmoteref27_Overlap_p n a4 a4).bind fun q0=>(if p0.1 = q0.1 then (if p0.2 = q0.2 then (interest_Overlap_p n (0:UInt64) a5).bind fun s0=>(wardmoteref27_Overlap_p n (0:UInt64) a5).bind fun t0=>(if s0.1 = t0.1 then (if s0.2 = t0.2 then some true else some false) else some false) else some false) else some false) else some false) else some false) else some false) else some false) else some false) else some false) else some false) else some false) else some false) else some false) else some false)
theorem wardmotelaw27_InterestChecks_c (n:Nat) (L:List Nat) (w:World) (hL:∀ b ∈ L,b < w.heap.size) (a0:Int) (a1:UInt8) (a2:TDraft) {v2_0:Value} (h2_0:Rep.R w L [v2_0] a2.fL) (a3:TBend × TBend) (a4:UInt64) (a5:UInt64) (hG0:Glob 0 tab0 w)  {r:Bool} (h:wardmotelaw27_InterestChecks_p n a0 a1 a2 a3 a4 a5 = some r) :
    Calls Tryz.prog 3 #[vI a0,.int .u8 (a1.toNat:Int),.agg #[v2_0],.agg #[.int .u8 (a3.1.fF.toNat:Int),.int .u8 (a3.1.fAt.toNat:Int),vI a3.1.fN,.string a3.1.fp,.int .u8 (a3.2.fF.toNat:Int),.int .u8 (a3.2.fAt.toNat:Int),vI a3.2.fN,.string a3.2.fp],vU a4,vU a5] w (Gives w fun _ u=>u = .bool r):=by
 unfold wardmotelaw27_InterestChecks_p at h
 have hS0:=Az w
 refine AC Tryz.func3 rfl rfl rfl (fun _ cs0 hb0=>?_)
 refine Ac<|Am .plain rfl (AB hS0 rfl rfl) (fun A5 X3 k2 E4=>?_)
 refine Am .plain rfl (AB k2 rfl rfl) (fun M5 g4 j0 W4=>?_)
 refine Af rfl<|Aa<|Ai<|Ac ?_
 obtain ⟨H3,j3,h⟩:=bi h
 refine Bb (.bool H3) body10 rfl evs_nil (fun w9 hw9=>wardmotelaw27_works_c n _ w9 (j0.hL0 hL hw9) (hG0.keep (j0.ag.trans hw9)) j3) rfl<|Ab (By rfl)<|Aa<|MX.ifnb rfl h (fun V1 h=>?_) (fun V1 h=>?_)
 refine Ao<|Ac<|Ae rfl<|Ab (FV.rem8 (a:=a1) (b:=(12:UInt8)) rfl rfl (by decide)) ?_
 have s5:=(a1 % (12:UInt8)).toNat_lt
 refine Ab (FV.convN (i:=(a1 % (12:UInt8)).toNat) Tryz.underlying5 Tryz.underlying3 rfl (by omega))<|Ab (Bj (i:=1) (j:=(a1 % (12:UInt8)).toNat) rfl rfl (by omega))<|Af rfl<|Aa<|Ac<|Ab (AI rfl (j0.memA (.tl .hd)))<|Ae rfl ?_
 obtain ⟨H0,p3,h⟩:=bi h
 refine Bf (fst:=[]) (cap:=[]) .plain body11 rfl (e2 rfl rfl) (fun w9 hw9=>wardmoteref27_Draft_List_c n _ w9 (j0.hL hL hw9) a2 (j0.km h2_0 hw9) ((1 + ((a1 % (12:UInt8)).toNat):Nat):Int) p3) rfl (fun g6 d0 F2 ⟨t5,hu_,g1⟩=>?_)
 subst hu_
 obtain ⟨X0,q5⟩:=j0.agr F2
 refine Af rfl<|Aa<|Ac<|Ab (AD (m:=4) (k:=0) (len:=2) (by kernel_rfl) rfl rfl rfl (by omega))<|Ab (Br (cs:=[.int .u8 (a3.1.fF.toNat:Int),.int .u8 (a3.1.fAt.toNat:Int),vI a3.1.fN,.string a3.1.fp]) (by kernel_rfl) rfl (mem_part (X0.memA .hd) 0 4))<|Ae rfl ?_
 obtain ⟨z0,q3,h⟩:=bi h
 refine Bf (fst:=[]) (cap:=[]) .plain body12 rfl (e2 rfl rfl) (fun w9 hw9=>wardmoteref27_Bend_Of_c n _ w9 (X0.hL hL hw9) a3.1 H0 (Au g1 hw9) q3) rfl (fun j6 g0 G2 ⟨u5,hu_,W0⟩=>?_)
 subst hu_
 obtain ⟨Y0,k1⟩:=X0.agr G2
 refine Af rfl<|Aa<|Ai<|Ac<|Ae rfl<|Ae rfl<|Ab (AN (vs:=[vI ((1 + ((a1 % (12:UInt8)).toNat):Nat):Int),vI a0]) (u:=.agg #[vI ((1 + ((a1 % (12:UInt8)).toNat):Nat):Int),vI a0]) (e2 rfl rfl) (fun w9=>by kernel_rfl))<|Ae rfl<|Aa<|Aq<|MX.loop1<|Ac<|Ab (AZ (i:=0) (j:=2) rfl rfl)<|Aa<|Ai<|AV rfl<|Ao<|Ai<|Aq<|Ac<|Ab (FV.idx1 (cs:=[vI ((1 + ((a1 % (12:UInt8)).toNat):Nat):Int),vI a0]) (k:=0) (m:=1) (len:=2) (by kernel_rfl) (by kernel_rfl) rfl rfl rfl (by omega) rfl)<|Af rfl<|Aa<|Ac ?_
 refine Ae rfl<|Ae rfl<|Ab (AD (m:=4) (k:=1) (len:=2) (by kernel_rfl) rfl rfl rfl (by omega))<|Ab (Br (cs:=[.int .u8 (a3.2.fF.toNat:Int),.int .u8 (a3.2.fAt.toNat:Int),vI a3.2.fN,.string a3.2.fp]) (by kernel_rfl) rfl (mem_part (Y0.memA .hd) 4 4))<|Ae rfl ?_
 obtain ⟨u1,s3,h⟩:=bi h
 refine Bf (fst:=[]) (cap:=[]) .plain body12 rfl (e2 rfl rfl) (fun w9 hw9=>wardmoteref27_Bend_Of_c n _ w9 (Y0.hL hL hw9) a3.2 z0 (Au W0 hw9) s3) rfl (fun k6 F0 H2 ⟨v5,hu_,s1⟩=>?_)
 subst hu_
 obtain ⟨k0,E0⟩:=Y0.agr H2
 have Z0:=Av g1 (Tt k1 E0)
 obtain ⟨I3,q4,P2,_⟩:=Rep.sl Z0
 have J2:=Av W0 E0
 obtain ⟨J3,s4,Q2,_⟩:=Rep.sl J2
 obtain ⟨K3,t4,R2,_⟩:=Rep.sl s1
 refine Ab (AN (vs:=[d0,g0,F0]) (u:=.agg #[d0,g0,F0]) (e3 rfl rfl rfl) (fun w9=>by rw [P2,Q2,R2]; try kernel_rfl))<|Ae rfl<|Aa<|Aq<|MX.loop1<|Ac<|Ab (AZ (i:=0) (j:=3) rfl rfl)<|Aa<|Ai<|AV rfl<|Ao<|Ai<|Aq<|Ac<|Ab (FV.idx1 (cs:=[d0,g0,F0]) (k:=0) (m:=1) (len:=3) (by kernel_rfl) (by kernel_rfl) rfl rfl rfl (by omega) rfl)<|Af rfl<|Aa<|Ac<|Ae rfl<|Ae rfl ?_
 obtain ⟨v1,t3,h⟩:=bi h
 refine Bb (vI v1) body13 rfl (e2 rfl rfl) (fun w9 hw9=>interest_Check_c n _ w9 (k0.hL0 hL hw9) ((1 + ((a1 % (12:UInt8)).toNat):Nat):Int) H0 (k0.kd Z0 hw9) t3) rfl<|Ae rfl<|Ae rfl ?_
 obtain ⟨x1,u3,h⟩:=bi h
 refine Bb (vI x1) body14 rfl (e2 rfl rfl) (fun w9 hw9=>wardmoteref27_Check_c n _ w9 (k0.hL0 hL hw9) ((1 + ((a1 % (12:UInt8)).toNat):Nat):Int) H0 (k0.kd Z0 hw9) u3) rfl<|Ab (FV.neq (i:=v1) (j:=x1) rfl rfl)<|Aa<|MX.ifn rfl h (fun Y1 h=>?_) (fun Y1 h=>?_)
 refine Ao<|Ar<|Al<|Ab (FV.add (i:=0) (j:=1) (r:=1) rfl rfl (by decide))<|Ae rfl<|Aa<|Bz ?_
 obtain ⟨c0,V0⟩:=AH k0 (.one .hd .done)
 refine Ac<|Ab (AZ (i:=1) (j:=3) rfl rfl)<|Aa<|Ai<|AV rfl<|Ao<|Ai<|Aq<|Ac<|Ab (FV.idx1 (cs:=[d0,g0,F0]) (k:=1) (m:=1) (len:=3) (by kernel_rfl) (by kernel_rfl) rfl rfl rfl (by omega) rfl)<|Af rfl<|Aa<|Ac<|Ae rfl<|Ae rfl ?_
 obtain ⟨y1,v3,h⟩:=bi h
 have b1:=Av W0 (Tt E0 V0)
 refine Bb (vI y1) body13 rfl (e2 rfl rfl) (fun w9 hw9=>interest_Check_c n _ w9 (c0.hL0 hL hw9) ((1 + ((a1 % (12:UInt8)).toNat):Nat):Int) z0 (c0.kd b1 hw9) v3) rfl<|Ae rfl<|Ae rfl ?_
 obtain ⟨z1,x3,h⟩:=bi h
 refine Bb (vI z1) body14 rfl (e2 rfl rfl) (fun w9 hw9=>wardmoteref27_Check_c n _ w9 (c0.hL0 hL hw9) ((1 + ((a1 % (12:UInt8)).toNat):Nat):Int) z0 (c0.kd b1 hw9) x3) rfl<|Ab (FV.neq (i:=y1) (j:=z1) rfl rfl)<|Aa<|MX.ifn rfl h (fun Z1 h=>?_) (fun Z1 h=>?_)
 refine Ao<|Ar<|Al<|Ab (FV.add (i:=1) (j:=1) (r:=2) rfl rfl (by decide))<|Ae rfl<|Aa<|Bz<|Ac<|Ab (AZ (i:=2) (j:=3) rfl rfl)<|Aa<|Ai<|AV rfl<|Ao<|Ai<|Aq<|Ac<|Ab (FV.idx1 (cs:=[d0,g0,F0]) (k:=2) (m:=1) (len:=3) (by kernel_rfl) (by kernel_rfl) rfl rfl rfl (by omega) rfl)<|Af rfl<|Aa<|Ac<|Ae rfl<|Ae rfl ?_
 obtain ⟨A1,y3,h⟩:=bi h
 have q1:=Av s1 V0
 refine Bb (vI A1) body13 rfl (e2 rfl rfl) (fun w9 hw9=>interest_Check_c n _ w9 (c0.hL0 hL hw9) ((1 + ((a1 % (12:UInt8)).toNat):Nat):Int) u1 (c0.kd q1 hw9) y3) rfl<|Ae rfl<|Ae rfl ?_
 obtain ⟨B1,z3,h⟩:=bi h
 refine Bb (vI B1) body14 rfl (e2 rfl rfl) (fun w9 hw9=>wardmoteref27_Check_c n _ w9 (c0.hL0 hL hw9) ((1 + ((a1 % (12:UInt8)).toNat):Nat):Int) u1 (c0.kd q1 hw9) z3) rfl<|Ab (FV.neq (i:=A1) (j:=B1) rfl rfl)<|Aa<|MX.ifn rfl h (fun b2 h=>?_) (fun b2 h=>?_)
 refine Ao<|Ar<|Al<|Ab (FV.add (i:=2) (j:=1) (r:=3) rfl rfl (by decide))<|Ae rfl<|Aa<|Bz<|Ac<|Ab (AZ (i:=3) (j:=3) rfl rfl)<|Aa<|Ai<|Bm rfl<|AW rfl<|Ar<|Al<|Ab (FV.add (i:=0) (j:=1) (r:=1) rfl rfl (by decide))<|Ae rfl<|Aa<|Bz<|Ac<|Ab (AZ (i:=1) (j:=2) rfl rfl)<|Aa<|Ai<|AV rfl ?_
 refine Ao<|Ai<|Aq<|Ac<|Ab (FV.idx1 (cs:=[vI ((1 + ((a1 % (12:UInt8)).toNat):Nat):Int),vI a0]) (k:=1) (m:=1) (len:=2) (by kernel_rfl) (by kernel_rfl) rfl rfl rfl (by omega) rfl)<|Af rfl<|Aa<|Ac<|Ae rfl<|Ae rfl<|Ab (AD (m:=4) (k:=1) (len:=2) (by kernel_rfl) rfl rfl rfl (by omega))<|Ab (Br (cs:=[.int .u8 (a3.2.fF.toNat:Int),.int .u8 (a3.2.fAt.toNat:Int),vI a3.2.fN,.string a3.2.fp]) (by kernel_rfl) rfl (mem_part (c0.memA .hd) 4 4))<|Ae rfl ?_
 obtain ⟨C1,A3,h⟩:=bi h
 refine Bf (fst:=[]) (cap:=[]) .plain body12 rfl (e2 rfl rfl) (fun w9 hw9=>wardmoteref27_Bend_Of_c n _ w9 (c0.hL hL hw9) a3.2 z0 (Au b1 hw9) A3) rfl (fun p6 G0 I2 ⟨x5,hu_,j1⟩=>?_)
 subst hu_
 obtain ⟨b0,p1⟩:=c0.agr I2
 have K2:=Tt k1 (Tt E0 (Tt V0 p1))
 have c1:=Av g1 K2
 obtain ⟨M3,u4,U2,_⟩:=Rep.sl c1
 have M2:=Tt E0 (Tt V0 p1)
 have d1:=Av W0 M2
 obtain ⟨P3,v4,V2,_⟩:=Rep.sl d1
 obtain ⟨Q3,x4,W2,_⟩:=Rep.sl j1
 refine Ab (AN (vs:=[d0,g0,G0]) (u:=.agg #[d0,g0,G0]) (e3 rfl rfl rfl) (fun w9=>by rw [U2,V2,W2]; try kernel_rfl))<|Ae rfl<|Aa<|Aq<|MX.loop1<|Ac<|Ab (AZ (i:=0) (j:=3) rfl rfl)<|Aa<|Ai<|AV rfl<|Ao<|Ai<|Aq<|Ac<|Ab (FV.idx1 (cs:=[d0,g0,G0]) (k:=0) (m:=1) (len:=3) (by kernel_rfl) (by kernel_rfl) rfl rfl rfl (by omega) rfl)<|Af rfl<|Aa<|Ac<|Ae rfl<|Ae rfl ?_
 obtain ⟨D1,B3,h⟩:=bi h
 refine Bb (vI D1) body13 rfl (e2 rfl rfl) (fun w9 hw9=>interest_Check_c n _ w9 (b0.hL0 hL hw9) a0 H0 (b0.kd c1 hw9) B3) rfl<|Ae rfl<|Ae rfl ?_
 obtain ⟨E1,C3,h⟩:=bi h
 refine Bb (vI E1) body14 rfl (e2 rfl rfl) (fun w9 hw9=>wardmoteref27_Check_c n _ w9 (b0.hL0 hL hw9) a0 H0 (b0.kd c1 hw9) C3) rfl<|Ab (FV.neq (i:=D1) (j:=E1) rfl rfl)<|Aa<|MX.ifn rfl h (fun c2 h=>?_) (fun c2 h=>?_)
 refine Ao<|Ar<|Al<|Ab (FV.add (i:=0) (j:=1) (r:=1) rfl rfl (by decide))<|Ae rfl<|Aa<|Bz<|Ac<|Ab (AZ (i:=1) (j:=3) rfl rfl)<|Aa<|Ai<|AV rfl<|Ao<|Ai<|Aq<|Ac<|Ab (FV.idx1 (cs:=[d0,g0,G0]) (k:=1) (m:=1) (len:=3) (by kernel_rfl) (by kernel_rfl) rfl rfl rfl (by omega) rfl)<|Af rfl<|Aa<|Ac<|Ae rfl<|Ae rfl ?_
 obtain ⟨F1,D3,h⟩:=bi h
 refine Bb (vI F1) body13 rfl (e2 rfl rfl) (fun w9 hw9=>interest_Check_c n _ w9 (b0.hL0 hL hw9) a0 z0 (b0.kd d1 hw9) D3) rfl<|Ae rfl<|Ae rfl ?_
 obtain ⟨G1,E3,h⟩:=bi h
 refine Bb (vI G1) body14 rfl (e2 rfl rfl) (fun w9 hw9=>wardmoteref27_Check_c n _ w9 (b0.hL0 hL hw9) a0 z0 (b0.kd d1 hw9) E3) rfl<|Ab (FV.neq (i:=F1) (j:=G1) rfl rfl)<|Aa<|MX.ifn rfl h (fun d2 h=>?_) (fun d2 h=>?_)
 refine Ao<|Ar<|Al<|Ab (FV.add (i:=1) (j:=1) (r:=2) rfl rfl (by decide))<|Ae rfl<|Aa<|Bz<|Ac<|Ab (AZ (i:=2) (j:=3) rfl rfl)<|Aa<|Ai<|AV rfl<|Ao<|Ai<|Aq<|Ac<|Ab (FV.idx1 (cs:=[d0,g0,G0]) (k:=2) (m:=1) (len:=3) (by kernel_rfl) (by kernel_rfl) rfl rfl rfl (by omega) rfl)<|Af rfl<|Aa<|Ac<|Ae rfl<|Ae rfl ?_
 obtain ⟨H1,F3,h⟩:=bi h
 refine Bb (vI H1) body13 rfl (e2 rfl rfl) (fun w9 hw9=>interest_Check_c n _ w9 (b0.hL0 hL hw9) a0 C1 (b0.kd j1 hw9) F3) rfl<|Ae rfl<|Ae rfl ?_
 obtain ⟨I1,G3,h⟩:=bi h
 refine Bb (vI I1) body14 rfl (e2 rfl rfl) (fun w9 hw9=>wardmoteref27_Check_c n _ w9 (b0.hL0 hL hw9) a0 C1 (b0.kd j1 hw9) G3) rfl<|Ab (FV.neq (i:=H1) (j:=I1) rfl rfl)<|Aa<|MX.ifn rfl h (fun J1 h=>?_) (fun J1 h=>?_)
 refine Ao<|Ar<|Al<|Ab (FV.add (i:=2) (j:=1) (r:=3) rfl rfl (by decide))<|Ae rfl<|Aa<|Bz<|Ac<|Ab (AZ (i:=3) (j:=3) rfl rfl)<|Aa<|Ai<|Bm rfl<|AW rfl<|Ar<|Al<|Ab (FV.add (i:=1) (j:=1) (r:=2) rfl rfl (by decide))<|Ae rfl<|Aa<|Bz<|Ac<|Ab (AZ (i:=2) (j:=2) rfl rfl)<|Aa<|Ai<|Bm rfl ?_
 refine AW rfl<|Ai<|Ac<|Ae rfl<|Ae rfl<|Ab (AN (vs:=[vU a4,vU a5]) (u:=.agg #[vU a4,vU a5]) (e2 rfl rfl) (fun w9=>by kernel_rfl))<|Ae rfl<|Ab (FV.andU (a:=a4) (b:=(7:UInt64)) rfl rfl)<|Ae rfl<|Ab (FV.andU (a:=a5) (b:=(7:UInt64)) rfl rfl)<|Ab (AN (vs:=[vW ((a4 &&& (7:UInt64)).toNat:Int),vW ((a5 &&& (7:UInt64)).toNat:Int)]) (u:=.agg #[vW ((a4 &&& (7:UInt64)).toNat:Int),vW ((a5 &&& (7:UInt64)).toNat:Int)]) (e2 rfl rfl) (fun w9=>by kernel_rfl))<|Ae rfl<|Ae rfl<|Ab (AN (vs:=[vU a4,vU a4]) (u:=.agg #[vU a4,vU a4]) (e2 rfl rfl) (fun w9=>by kernel_rfl))<|Ae rfl<|Ab (AN (vs:=[vW 0,vU a5]) (u:=.agg #[vW 0,vU a5]) (e2 rfl rfl) (fun w9=>by kernel_rfl))<|Ab (AN (vs:=[.agg #[vU a4,vU a5],.agg #[vW ((a4 &&& (7:UInt64)).toNat:Int),vW ((a5 &&& (7:UInt64)).toNat:Int)],.agg #[vU a4,vU a4],.agg #[vW 0,vU a5]]) (u:=.agg #[vU a4,vU a5,vW ((a4 &&& (7:UInt64)).toNat:Int),vW ((a5 &&& (7:UInt64)).toNat:Int),vU a4,vU a4,vW 0,vU a5]) (e4 rfl rfl rfl rfl) (fun w9=>by kernel_rfl))<|Ae rfl<|Aa<|Aq<|MX.loop1<|Ac<|Ab (AZ (i:=0) (j:=4) rfl rfl)<|Aa ?_
 refine Ai<|AV rfl<|Ao<|Ai<|Aq<|Ac<|Ab (FV.idxN (cs:=[vU a4,vU a5,vW ((a4 &&& (7:UInt64)).toNat:Int),vW ((a5 &&& (7:UInt64)).toNat:Int),vU a4,vU a4,vW 0,vU a5]) (k:=0) (m:=2) (len:=4) (by kernel_rfl) (by kernel_rfl) rfl rfl rfl (by omega) rfl)<|Am .plain rfl (Ay [vW 0,vW 0] b0) (fun y5 R3 g2 y4=>?_)
 refine AR [vU a4,vU a5] g2 .hd (onesB rfl) (fun z5 I0 z4=>?_)
 refine Aa<|Ac<|Ab (AD (m:=1) (k:=0) (len:=2) (by kernel_rfl) rfl rfl rfl (by omega))<|AS rfl ((I0.memA .hd) 0 _ rfl)<|Ab (AD (m:=1) (k:=1) (len:=2) (by kernel_rfl) rfl rfl rfl (by omega))<|AS rfl ((I0.memA .hd) 1 _ rfl) ?_
 obtain ⟨p0,X2,h⟩:=bi h
 refine Bb (.tuple #[.agg ((cs_TShare p0.1)).toArray,vI p0.2]) body15 rfl (e2 rfl rfl) (fun w9 hw9=>interest_Overlap_c n _ w9 (I0.hL0 hL hw9) a4 a5 X2) rfl<|Ae rfl<|Ab (Ag rfl rfl)<|Ab (Ag rfl rfl)<|Am .plain rfl (Ay zL I0) (fun B5 U3 j2 A4=>?_)
 refine AR (cs_TShare p0.1) j2 .hd (onesB rfl) (fun C5 J0 B4=>?_)
 refine Af rfl<|Aa<|Ac<|Ab (AD (m:=1) (k:=0) (len:=2) (by kernel_rfl) rfl rfl rfl (by omega))<|AS rfl ((J0.memA (.tl .hd)) 0 _ rfl)<|Ab (AD (m:=1) (k:=1) (len:=2) (by kernel_rfl) rfl rfl rfl (by omega))<|AS rfl ((J0.memA (.tl .hd)) 1 _ rfl) ?_
 obtain ⟨q0,Y2,h⟩:=bi h
 refine Bb (.tuple #[.agg ((cs_TShare q0.1)).toArray,vI q0.2]) body16 rfl (e2 rfl rfl) (fun w9 hw9=>wardmoteref27_Overlap_c n _ w9 (J0.hL0 hL hw9) a4 a5 Y2) rfl<|Ae rfl<|Ab (Ag rfl rfl)<|Ab (Ag rfl rfl)<|Am .plain rfl (Ay zL J0) (fun D5 V3 p2 C4=>?_)
 refine AR (cs_TShare q0.1) p2 .hd (onesB rfl) (fun E5 A0 D4=>?_)
 refine Af rfl<|Aa<|Ac<|Ab (AI rfl (A0.memA (.tl .hd)))<|Ab (AI rfl (A0.memA .hd))<|Ab (FV.neqV (xs:=((cs_TShare p0.1)).toArray) (ys:=((cs_TShare q0.1)).toArray) rfl rfl (by kernel_rfl) (eqlD_42 p0.1 q0.1))<|Ae rfl<|RG.ifn (s:=100) rfl h (fun K1 h=>?_) (fun K1 h=>?_)
 refine AJ (Aj rfl)<|AJ (Aj rfl)<|AJ (FV.neq (i:=p0.2) (j:=q0.2) rfl rfl)<|Bx rfl rfl<|Aa<|MX.ifn rfl h (fun M1 h=>?_) (fun M1 h=>?_)
 refine Ao<|Ar<|Al<|Ab (FV.add (i:=0) (j:=1) (r:=1) rfl rfl (by decide))<|Ae rfl<|Aa<|Bz ?_
 obtain ⟨q2,F4⟩:=AH A0 .done
 refine Ac<|Ab (AZ (i:=1) (j:=4) rfl rfl)<|Aa<|Ai<|AV rfl<|Ao<|Ai<|Aq<|Ac<|Ab (FV.idxN (cs:=[vU a4,vU a5,vW ((a4 &&& (7:UInt64)).toNat:Int),vW ((a5 &&& (7:UInt64)).toNat:Int),vU a4,vU a4,vW 0,vU a5]) (k:=1) (m:=2) (len:=4) (by kernel_rfl) (by kernel_rfl) rfl rfl rfl (by omega) rfl)<|Am .plain rfl (Ay [vW 0,vW 0] q2) (fun F5 W3 s2 G4=>?_)
 refine AR [vW ((a4 &&& (7:UInt64)).toNat:Int),vW ((a5 &&& (7:UInt64)).toNat:Int)] s2 .hd (onesB rfl) (fun G5 K0 H4=>?_)
 refine Aa<|Ac<|Ab (AD (m:=1) (k:=0) (len:=2) (by kernel_rfl) rfl rfl rfl (by omega))<|AS rfl ((K0.memA .hd) 0 _ rfl)<|Ab (AD (m:=1) (k:=1) (len:=2) (by kernel_rfl) rfl rfl rfl (by omega))<|AS rfl ((K0.memA .hd) 1 _ rfl) ?_
 obtain ⟨s0,Z2,h⟩:=bi h
 refine Bb (.tuple #[.agg ((cs_TShare s0.1)).toArray,vI s0.2]) body15 rfl (e2 rfl rfl) (fun w9 hw9=>interest_Overlap_c n _ w9 (K0.hL0 hL hw9) (a4 &&& (7:UInt64)) (a5 &&& (7:UInt64)) Z2) rfl<|Ae rfl<|Ab (Ag rfl rfl)<|Ab (Ag rfl rfl)<|Am .plain rfl (Ay zL K0) (fun H5 Y3 t2 I4=>?_)
 refine AR (cs_TShare s0.1) t2 .hd (onesB rfl) (fun I5 M0 J4=>?_)
 refine Af rfl<|Aa<|Ac<|Ab (AD (m:=1) (k:=0) (len:=2) (by kernel_rfl) rfl rfl rfl (by omega))<|AS rfl ((M0.memA (.tl .hd)) 0 _ rfl)<|Ab (AD (m:=1) (k:=1) (len:=2) (by kernel_rfl) rfl rfl rfl (by omega))<|AS rfl ((M0.memA (.tl .hd)) 1 _ rfl) ?_
 obtain ⟨t0,b3,h⟩:=bi h
 refine Bb (.tuple #[.agg ((cs_TShare t0.1)).toArray,vI t0.2]) body16 rfl (e2 rfl rfl) (fun w9 hw9=>wardmoteref27_Overlap_c n _ w9 (M0.hL0 hL hw9) (a4 &&& (7:UInt64)) (a5 &&& (7:UInt64)) b3) rfl<|Ae rfl<|Ab (Ag rfl rfl)<|Ab (Ag rfl rfl)<|Am .plain rfl (Ay zL M0) (fun J5 Z3 u2 K4=>?_)
 refine AR (cs_TShare t0.1) u2 .hd (onesB rfl) (fun K5 B0 M4=>?_)
 refine Af rfl<|Aa<|Ac<|Ab (AI rfl (B0.memA (.tl .hd)))<|Ab (AI rfl (B0.memA .hd))<|Ab (FV.neqV (xs:=((cs_TShare s0.1)).toArray) (ys:=((cs_TShare t0.1)).toArray) rfl rfl (by kernel_rfl) (eqlD_42 s0.1 t0.1))<|Ae rfl<|RG.ifn (s:=100) rfl h (fun P1 h=>?_) (fun P1 h=>?_)
 refine AJ (Aj rfl)<|AJ (Aj rfl)<|AJ (FV.neq (i:=s0.2) (j:=t0.2) rfl rfl)<|Bx rfl rfl<|Aa<|MX.ifn rfl h (fun Q1 h=>?_) (fun Q1 h=>?_)
 refine Ao<|Ar<|Al<|Ab (FV.add (i:=1) (j:=1) (r:=2) rfl rfl (by decide))<|Ae rfl<|Aa<|Bz ?_
 obtain ⟨v2,P4⟩:=AH B0 .done
 refine Ac<|Ab (AZ (i:=2) (j:=4) rfl rfl)<|Aa<|Ai<|AV rfl<|Ao<|Ai<|Aq<|Ac<|Ab (FV.idxN (cs:=[vU a4,vU a5,vW ((a4 &&& (7:UInt64)).toNat:Int),vW ((a5 &&& (7:UInt64)).toNat:Int),vU a4,vU a4,vW 0,vU a5]) (k:=2) (m:=2) (len:=4) (by kernel_rfl) (by kernel_rfl) rfl rfl rfl (by omega) rfl)<|Am .plain rfl (Ay [vW 0,vW 0] v2) (fun P5 b4 x2 Q4=>?_)
 refine AR [vU a4,vU a4] x2 .hd (onesB rfl) (fun Q5 P0 R4=>?_)
 refine Aa<|Ac<|Ab (AD (m:=1) (k:=0) (len:=2) (by kernel_rfl) rfl rfl rfl (by omega))<|AS rfl ((P0.memA .hd) 0 _ rfl)<|Ab (AD (m:=1) (k:=1) (len:=2) (by kernel_rfl) rfl rfl rfl (by omega))<|AS rfl ((P0.memA .hd) 1 _ rfl) ?_
 obtain ⟨u0,c3,h⟩:=bi h
 refine Bb (.tuple #[.agg ((cs_TShare u0.1)).toArray,vI u0.2]) body15 rfl (e2 rfl rfl) (fun w9 hw9=>interest_Overlap_c n _ w9 (P0.hL0 hL hw9) a4 a4 c3) rfl<|Ae rfl<|Ab (Ag rfl rfl)<|Ab (Ag rfl rfl)<|Am .plain rfl (Ay zL P0) (fun R5 c4 y2 U4=>?_)
 refine AR (cs_TShare u0.1) y2 .hd (onesB rfl) (fun U5 Q0 V4=>?_)
 refine Af rfl<|Aa<|Ac<|Ab (AD (m:=1) (k:=0) (len:=2) (by kernel_rfl) rfl rfl rfl (by omega))<|AS rfl ((Q0.memA (.tl .hd)) 0 _ rfl)<|Ab (AD (m:=1) (k:=1) (len:=2) (by kernel_rfl) rfl rfl rfl (by omega))<|AS rfl ((Q0.memA (.tl .hd)) 1 _ rfl) ?_
 obtain ⟨v0,d3,h⟩:=bi h
 refine Bb (.tuple #[.agg ((cs_TShare v0.1)).toArray,vI v0.2]) body16 rfl (e2 rfl rfl) (fun w9 hw9=>wardmoteref27_Overlap_c n _ w9 (Q0.hL0 hL hw9) a4 a4 d3) rfl<|Ae rfl<|Ab (Ag rfl rfl)<|Ab (Ag rfl rfl)<|Am .plain rfl (Ay zL Q0) (fun V5 d4 z2 X4=>?_)
 refine AR (cs_TShare v0.1) z2 .hd (onesB rfl) (fun W5 C0 Y4=>?_)
 refine Af rfl<|Aa<|Ac<|Ab (AI rfl (C0.memA (.tl .hd)))<|Ab (AI rfl (C0.memA .hd))<|Ab (FV.neqV (xs:=((cs_TShare u0.1)).toArray) (ys:=((cs_TShare v0.1)).toArray) rfl rfl (by kernel_rfl) (eqlD_42 u0.1 v0.1))<|Ae rfl<|RG.ifn (s:=100) rfl h (fun R1 h=>?_) (fun R1 h=>?_)
 refine AJ (Aj rfl)<|AJ (Aj rfl)<|AJ (FV.neq (i:=u0.2) (j:=v0.2) rfl rfl)<|Bx rfl rfl<|Aa<|MX.ifn rfl h (fun U1 h=>?_) (fun U1 h=>?_)
 refine Ao<|Ar<|Al<|Ab (FV.add (i:=2) (j:=1) (r:=3) rfl rfl (by decide))<|Ae rfl<|Aa<|Bz ?_
 obtain ⟨A2,Z4⟩:=AH C0 .done
 refine Ac<|Ab (AZ (i:=3) (j:=4) rfl rfl)<|Aa<|Ai<|AV rfl<|Ao<|Ai<|Aq<|Ac<|Ab (FV.idxN (cs:=[vU a4,vU a5,vW ((a4 &&& (7:UInt64)).toNat:Int),vW ((a5 &&& (7:UInt64)).toNat:Int),vU a4,vU a4,vW 0,vU a5]) (k:=3) (m:=2) (len:=4) (by kernel_rfl) (by kernel_rfl) rfl rfl rfl (by omega) rfl)<|Am .plain rfl (Ay [vW 0,vW 0] A2) (fun X5 j4 B2 b5=>?_)
 refine AR [vW 0,vU a5] B2 .hd (onesB rfl) (fun Y5 R0 c5=>?_)
 refine Aa<|Ac<|Ab (AD (m:=1) (k:=0) (len:=2) (by kernel_rfl) rfl rfl rfl (by omega))<|AS rfl ((R0.memA .hd) 0 _ rfl)<|Ab (AD (m:=1) (k:=1) (len:=2) (by kernel_rfl) rfl rfl rfl (by omega))<|AS rfl ((R0.memA .hd) 1 _ rfl) ?_
 obtain ⟨x0,g3,h⟩:=bi h
 refine Bb (.tuple #[.agg ((cs_TShare x0.1)).toArray,vI x0.2]) body15 rfl (e2 rfl rfl) (fun w9 hw9=>interest_Overlap_c n _ w9 (R0.hL0 hL hw9) (0:UInt64) a5 g3) rfl<|Ae rfl<|Ab (Ag rfl rfl)<|Ab (Ag rfl rfl)<|Am .plain rfl (Ay zL R0) (fun Z5 k4 C2 d5=>?_)
 refine AR (cs_TShare x0.1) C2 .hd (onesB rfl) (fun b6 U0 g5=>?_)
 refine Af rfl<|Aa<|Ac<|Ab (AD (m:=1) (k:=0) (len:=2) (by kernel_rfl) rfl rfl rfl (by omega))<|AS rfl ((U0.memA (.tl .hd)) 0 _ rfl)<|Ab (AD (m:=1) (k:=1) (len:=2) (by kernel_rfl) rfl rfl rfl (by omega))<|AS rfl ((U0.memA (.tl .hd)) 1 _ rfl) ?_
 obtain ⟨y0,k3,h⟩:=bi h
 refine Bb (.tuple #[.agg ((cs_TShare y0.1)).toArray,vI y0.2]) body16 rfl (e2 rfl rfl) (fun w9 hw9=>wardmoteref27_Overlap_c n _ w9 (U0.hL0 hL hw9) (0:UInt64) a5 k3) rfl<|Ae rfl<|Ab (Ag rfl rfl)<|Ab (Ag rfl rfl)<|Am .plain rfl (Ay zL U0) (fun c6 p4 D2 j5=>?_)
 refine AR (cs_TShare y0.1) D2 .hd (onesB rfl) (fun d6 D0 k5=>?_)
 refine Af rfl<|Aa<|Ac<|Ab (AI rfl (D0.memA (.tl .hd)))<|Ab (AI rfl (D0.memA .hd))<|Ab (FV.neqV (xs:=((cs_TShare x0.1)).toArray) (ys:=((cs_TShare y0.1)).toArray) rfl rfl (by kernel_rfl) (eqlD_42 x0.1 y0.1))<|Ae rfl<|RG.ifn (s:=100) rfl h (fun W1 h=>?_) (fun W1 h=>?_)
 refine AJ (Aj rfl)<|AJ (Aj rfl)<|AJ (FV.neq (i:=x0.2) (j:=y0.2) rfl rfl)<|Bx rfl rfl<|Aa<|MX.ifn rfl h (fun X1 h=>?_) (fun X1 h=>?_)
 refine Ao<|Ar<|Al<|Ab (FV.add (i:=3) (j:=1) (r:=4) rfl rfl (by decide))<|Ae rfl<|Aa<|Bz ?_
 obtain ⟨E2,p5⟩:=AH D0 .done
 refine Ac<|Ab (AZ (i:=4) (j:=4) rfl rfl)<|Aa<|Ai<|Bm rfl<|AW rfl<|Ac<|Af rfl<|Aa<|Ak rfl<|AP hb0 Tryz.func3 rfl rfl ?_
 cases h
 exact E2.gv
 refine Ac<|Af rfl<|Aa<|Ak rfl<|AP hb0 Tryz.func3 rfl rfl ?_
 cases h
 exact D0.gv
 refine AA<|AA<|AA<|BF rfl rfl<|Aa<|AV rfl<|Ac<|Af rfl<|Aa<|Ak rfl<|AP hb0 Tryz.func3 rfl rfl ?_
 cases h
 exact D0.gv
 refine Ac<|Af rfl<|Aa<|Ak rfl<|AP hb0 Tryz.func3 rfl rfl ?_
 cases h
 exact C0.gv
 refine AA<|AA<|AA<|BF rfl rfl<|Aa<|AV rfl<|Ac<|Af rfl<|Aa<|Ak rfl<|AP hb0 Tryz.func3 rfl rfl ?_
 cases h
 exact C0.gv
 refine Ac<|Af rfl<|Aa<|Ak rfl<|AP hb0 Tryz.func3 rfl rfl ?_
 cases h
 exact B0.gv
 refine AA<|AA<|AA<|BF rfl rfl<|Aa<|AV rfl<|Ac<|Af rfl<|Aa<|Ak rfl<|AP hb0 Tryz.func3 rfl rfl ?_
 cases h
 exact B0.gv
 refine Ac<|Af rfl<|Aa<|Ak rfl<|AP hb0 Tryz.func3 rfl rfl ?_
 cases h
 exact A0.gv
 refine AA<|AA<|AA<|BF rfl rfl<|Aa<|AV rfl<|Ac<|Af rfl<|Aa<|Ak rfl<|AP hb0 Tryz.func3 rfl rfl ?_
 cases h
 exact A0.gv
 refine Ac<|Af rfl<|Aa<|Ak rfl<|AP hb0 Tryz.func3 rfl rfl ?_
 cases h
 exact b0.gv
 refine Ac<|Af rfl<|Aa<|Ak rfl<|AP hb0 Tryz.func3 rfl rfl ?_
 cases h
 exact b0.gv
 refine Ac<|Af rfl<|Aa<|Ak rfl<|AP hb0 Tryz.func3 rfl rfl ?_
 cases h
 exact b0.gv
 refine Ac<|Af rfl<|Aa<|Ak rfl<|AP hb0 Tryz.func3 rfl rfl ?_
 cases h
 exact c0.gv
 refine Ac<|Af rfl<|Aa<|Ak rfl<|AP hb0 Tryz.func3 rfl rfl ?_
 cases h
 exact c0.gv
 refine Ac<|Af rfl<|Aa<|Ak rfl<|AP hb0 Tryz.func3 rfl rfl ?_
 cases h
 exact k0.gv
 refine Ac<|Af rfl<|Aa<|Ak rfl<|AP hb0 Tryz.func3 rfl rfl ?_
 cases h
 exact j0.gv
end Go.Proofs.YtfccehcnajelgaaGreatDoor
