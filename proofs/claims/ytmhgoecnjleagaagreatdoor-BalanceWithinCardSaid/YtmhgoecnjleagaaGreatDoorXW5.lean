/- Functions of the program, and what they give: part 5. -/
import Derived.Test.YtmhgoecnjleagaaGreatDoorXW4
namespace Go.Proofs.YtmhgoecnjleagaaGreatDoor
open Go Go.RowKit
set_option maxRecDepth 4000
set_option maxHeartbeats 4000000

def tb126_1:List (Nat × Nat × Nat):=[(0,32,4),(1,64,32),(0,128,8),(4,256,128),(10,512,320),(0,1024,4),(32,2048,1024),(0,4096,8),(128,8192,4096),(336,16384,10240),(528,32768,16896),(2047,0,32784)]
def share_Ratio_Over_p (n:Nat) (a0:TRatio) (a1:TRatio):Option TRatio:=
  (wide_Long_Times_p n a0.fLong a1.fUnder).bind fun b0=>(wide_Long_Times_p n a0.fUnder a1.fLong).bind fun c0=>(share_Lowest_p n b0 c0).bind fun d0=>some d0
theorem share_Ratio_Over_c (n:Nat) (L:List Nat) (w:World) (hL:∀ b ∈ L,b < w.heap.size) (a0:TRatio) {v0_1:Value} (h0_1:Rep.R w L [v0_1] a0.fLong.fWords) {v0_3:Value} (h0_3:Rep.R w L [v0_3] a0.fUnder.fWords) (a1:TRatio) {v1_1:Value} (h1_1:Rep.R w L [v1_1] a1.fLong.fWords) {v1_3:Value} (h1_3:Rep.R w L [v1_3] a1.fUnder.fWords)  {r:TRatio} (h:share_Ratio_Over_p n a0 a1 = some r) :
    Calls Tryz.prog 126 #[.agg #[.bool a0.fLong.fBelow,v0_1,.bool a0.fUnder.fBelow,v0_3],.agg #[.bool a1.fLong.fBelow,v1_1,.bool a1.fUnder.fBelow,v1_3]] w (Gives w fun w' u=>∃ v0_1 v0_3:Value,u = .agg #[.bool r.fLong.fBelow,v0_1,.bool r.fUnder.fBelow,v0_3]∧Rep.R w' L [v0_1] r.fLong.fWords∧Rep.R w' L [v0_3] r.fUnder.fWords):=by
 unfold share_Ratio_Over_p at h
 have hS0:=Ax w
 refine AA Tryz.func126 rfl rfl rfl (fun _ cs0 hb0=>?_)
 refine Ac<|Aj .plain rfl (Aw hS0 rfl rfl) (fun p1 R0 x0 W0=>?_)
 refine Aj .plain rfl (Aw x0 rfl rfl) (fun q1 U0 y0 X0=>?_)
 refine Aj .plain rfl (Av [.bool false,vN,.bool false,vN] y0) (fun s1 V0 c0 Y0=>?_)
 refine Aa<|Ak<|AF 11 tb126_1 (by kernel_rfl) (by kernel_rfl) (by kernel_rfl) (fun b0 d0=>?_)
 refine Ah 0 1 b0 rfl d0 (fun _=>Bh 0 rfl) rfl<|AD 1 3 3600 b0 rfl d0 (Bl (cs:=[.bool a0.fLong.fBelow,v0_1]) (by kernel_rfl) rfl (mem_part (c0.memA (.tl (.tl .hd))) 0 2)) rfl<|Ah 2 7 b0 rfl d0 (fun _=>Bh 2 rfl) rfl<|AD 3 15 3600 b0 rfl d0 (Bl (cs:=[.bool a1.fUnder.fBelow,v1_3]) (by kernel_rfl) rfl (mem_part (c0.memA (.tl .hd)) 2 2)) rfl<|Ah 5 47 b0 rfl d0 (fun _=>Bh 2 rfl) rfl<|AD 6 111 3584 b0 rfl d0 (Bl (cs:=[.bool a0.fUnder.fBelow,v0_3]) (by kernel_rfl) rfl (mem_part (c0.memA (.tl (.tl .hd))) 2 2)) rfl<|Ah 7 239 b0 rfl d0 (fun _=>Bh 0 rfl) rfl<|AD 8 495 3584 b0 rfl d0 (Bl (cs:=[.bool a1.fLong.fBelow,v1_1]) (by kernel_rfl) rfl (mem_part (c0.memA (.tl .hd)) 0 2)) rfl ?_
 obtain ⟨P0,J0,h⟩:=bi h
 refine Bi 4 511 b0 rfl .plain body132 rfl (e2 rfl rfl) (fun w9 hw9=>wide_Long_Times_c n _ w9 (c0.hL hL hw9) a0.fLong (c0.km h0_1 hw9) a1.fUnder (c0.km h1_3 hw9) J0) rfl (fun t1 g1 B0 ⟨c1,hu_,H0⟩=>?_)
 subst hu_
 obtain ⟨g0,Z0⟩:=c0.agr B0
 obtain ⟨Q0,K0,h⟩:=bi h
 refine Bi 9 1023 b0 rfl .plain body132 rfl (e2 rfl rfl) (fun w9 hw9=>wide_Long_Times_c n _ w9 (g0.hL hL hw9) a0.fUnder (g0.km h0_3 hw9) a1.fLong (g0.km h1_1 hw9) K0) rfl (fun u1 j1 C0 ⟨d1,hu_,I0⟩=>?_)
 subst hu_
 obtain ⟨s0,A0⟩:=g0.agr C0
 obtain ⟨k0,M0,h⟩:=bi h
 have E0:=Ap H0 A0
 refine Bi 10 2047 b0 rfl .plain body131 rfl (e2 rfl rfl) (fun w9 hw9=>share_Lowest_c n _ w9 (s0.hL hL hw9) P0 (Am E0 hw9) Q0 (Am I0 hw9) M0) rfl (fun v1 k1 D0 ⟨p0,q0,hu_,u0,v0⟩=>?_)
 subst hu_
 obtain ⟨z0,b1⟩:=s0.agr D0
 refine Bt 11 4095 b0 rfl rfl .plain (Ay (news:=[.bool k0.fLong.fBelow,p0,.bool k0.fUnder.fBelow,q0]) z0 .hd rfl rfl rfl rfl rfl rfl (o4 rfl (AI u0) rfl (AI v0))) (fun x1 j0 t0=>?_)
 refine AE (doneD_ok b0 (by kernel_rfl))<|Al rfl<|Ao hb0 Tryz.func126 rfl (.cons (.many (cs:=[.bool k0.fLong.fBelow,p0,.bool k0.fUnder.fBelow,q0]) (by kernel_rfl) rfl (j0.memA .hd)) .nil) rfl ?_
 cases h
 have F0:=Ap u0 t0
 have G0:=Ap v0 t0
 exact ⟨j0.ag,fun w9 hw9=>⟨p0,q0,rfl,j0.kd F0 hw9,j0.kd G0 hw9⟩⟩
theorem body126:bodyB Tryz.prog 126 = true:=by kernel_rfl
def share_Div_p (n:Nat) (a0:TShare) (a1:TShare):Option (TShare × Int):=
  (share_valid_p n ([a0,a1]:List TShare)).bind fun s0=>(if s0 = true then (if a1.fN = ((0:UInt64),(0:UInt64),(0:UInt64),(0:UInt64),(0:UInt64),(0:UInt64),(0:UInt64),(0:UInt64)) then some ((⟨((0:UInt64),(0:UInt64),(0:UInt64),(0:UInt64),(0:UInt64),(0:UInt64),(0:UInt64),(0:UInt64)),((0:UInt64),(0:UInt64),(0:UInt64),(0:UInt64),(0:UInt64),(0:UInt64),(0:UInt64),(0:UInt64))⟩:TShare),(7:Int)) else (share_valid_p n ([a0,a1]:List TShare)).bind fun t0=>(if t0 = true then (share_Read_p n a0).bind fun u0=>(share_Read_p n a1).bind fun v0=>(share_Ratio_Over_p n u0 v0).bind fun x0=>(share_told_p n x0 (0:Int)).bind fun b0=>some (b0.1,b0.2) else (share_told_p n (⟨(⟨false,([]:List UInt64)⟩:TLong),(⟨false,([]:List UInt64)⟩:TLong)⟩:TRatio) (20:Int)).bind fun c0=>some (c0.1,c0.2))) else (share_valid_p n ([a0,a1]:List TShare)).bind fun j0=>(if j0 = true then (share_Read_p n a0).bind fun k0=>(share_Read_p n a1).bind fun p0=>(share_Ratio_Over_p n k0 p0).bind fun q0=>(share_told_p n q0 (0:Int)).bind fun d0=>some (d0.1,d0.2) else (share_told_p n (⟨(⟨false,([]:List UInt64)⟩:TLong),(⟨false,([]:List UInt64)⟩:TLong)⟩:TRatio) (20:Int)).bind fun g0=>some (g0.1,g0.2)))
theorem share_Div_c (n:Nat) (L:List Nat) (w:World) (hL:∀ b ∈ L,b < w.heap.size) (a0:TShare) (a1:TShare)  {r:TShare × Int} (h:share_Div_p n a0 a1 = some r) :
    Calls Tryz.prog 77 #[.agg ((cs_TShare a0)).toArray,.agg ((cs_TShare a1)).toArray] w (Gives w fun _ u=>u = .tuple #[.agg ((cs_TShare r.1)).toArray,vI r.2]):=by
 unfold share_Div_p at h
 have hS0:=Ax w
 refine AA Tryz.func77 rfl rfl rfl (fun _ cs0 hb0=>?_)
 refine Ac<|Aj .plain rfl (Aw hS0 rfl rfl) (fun C4 Y2 y1 B3=>?_)
 refine Aj .plain rfl (Aw y1 rfl rfl) (fun M4 b3 B1 G3=>?_)
 refine Aj .plain rfl (Av zL B1) (fun X4 d3 B0 M3=>?_)
 refine Ag rfl<|Aa<|Ak<|Ac<|Ab (AB rfl (B0.memA (.tl (.tl .hd))))<|Ab (AB rfl (B0.memA (.tl .hd)))<|Aj .plain rfl (AW (α:=TShare) (xs:=([a0,a1]:List TShare)) (vs:=[.agg ((cs_TShare a0)).toArray,.agg ((cs_TShare a1)).toArray]) (ds' :=(cs_TShare a0 ++ cs_TShare a1)) rfl B0 el68 rfl (e2 rfl rfl) (by kernel_rfl) rfl) (fun Y4 g3 b0 P3=>?_)
 have Q1:=AG (cs:=(cs_TShare a0 ++ cs_TShare a1)) (xs:=(([a0,a1]:List TShare):List TShare)) b0 L (Au (cs:=(cs_TShare a0)) (ds:=(cs_TShare a1)) (mk_TShare a0.fN a0.fD) (Au (cs:=(cs_TShare a1)) (ds:=[]) (mk_TShare a1.fN a1.fD) (AO _ _)))
 obtain ⟨M2,D2,h⟩:=bi h
 refine Bf (.bool M2) body125 rfl (e1 rfl) (fun w9 hw9=>share_valid_c n _ w9 (b0.hL0 hL hw9) ([a0,a1]:List TShare) (Am (St.lend (α:=TShare) (L:=L) b0 .hd Q1 hL) hw9) D2) rfl<|Ae rfl<|RG.ifb (s:=10) rfl h (fun u1 h=>?_) (fun u1 h=>?_)
 refine RG.fg 0 rfl<|AY (Bl (cs:=(cs_A34 a1.fN)) (by kernel_rfl) rfl (mem_part (b0.memA (.tl (.tl .hd))) 0 8))<|AY (AS (vs:=[]) (u:=.agg zQ) evs_nil (fun w9=>by kernel_rfl))<|AY (FV.eqlV (v:=.agg ((cs_A34 a1.fN)).toArray) (u:=.agg zQ) rfl rfl (eqlD_35 a1.fN ((0:UInt64),(0:UInt64),(0:UInt64),(0:UInt64),(0:UInt64),(0:UInt64),(0:UInt64),(0:UInt64))))<|RG.pt rfl rfl<|Aa<|AQ rfl h (fun v1 h=>?_) (fun v1 h=>?_)
 refine Ac<|Ab (AS (vs:=[]) (u:=.agg zM) evs_nil (fun w9=>by kernel_rfl))<|AL zL b0 (.tl .hd) (onesB rfl) (fun Z4 W0 Q3=>?_)
 refine Ag rfl<|Aa<|Al rfl<|Ao hb0 Tryz.func77 rfl (.cons (.many (cs:=zL) (by kernel_rfl) rfl (W0.memA (.tl .hd))) (.cons (.tmp rfl) .nil)) rfl ?_
 cases h
 exact W0.gv
 refine Aq<|Ac<|Ab (AB rfl (b0.memA (.tl (.tl (.tl .hd)))))<|Ab (AB rfl (b0.memA (.tl (.tl .hd))))<|Bw (fst:=[]) (cap:=[]) (vs:=[.agg ((cs_TShare a0)).toArray,.agg ((cs_TShare a1)).toArray,.func (.func 126) #[] #[]]) .plain body80 Tryz.func80 rfl rfl rfl rfl (e3 rfl rfl rfl) rfl (fun t3 j1 b4=>?_)
 refine Ac<|Aj .plain rfl (Aw b0 rfl rfl) (fun b5 j3 D1 R3=>?_)
 refine Aj .plain rfl (Aw D1 rfl rfl) (fun c5 k3 E1 U3=>?_)
 refine Aj .plain rfl (Av [.bool false,vN,.bool false,vN] E1) (fun d5 p3 C0 V3=>?_)
 refine Ag rfl<|Aa<|Ak<|Ac<|Ab (AB rfl (C0.memA (.tl (.tl .hd))))<|Ab (AB rfl (C0.memA (.tl .hd)))<|Aj .plain rfl (AW (α:=TShare) (xs:=([a0,a1]:List TShare)) (vs:=[.agg ((cs_TShare a0)).toArray,.agg ((cs_TShare a1)).toArray]) (ds' :=(cs_TShare a0 ++ cs_TShare a1)) rfl C0 el68 rfl (e2 rfl rfl) (by kernel_rfl) rfl) (fun g5 q3 j0 W3=>?_)
 have R1:=AG (cs:=(cs_TShare a0 ++ cs_TShare a1)) (xs:=(([a0,a1]:List TShare):List TShare)) j0 L (Au (cs:=(cs_TShare a0)) (ds:=(cs_TShare a1)) (mk_TShare a0.fN a0.fD) (Au (cs:=(cs_TShare a1)) (ds:=[]) (mk_TShare a1.fN a1.fD) (AO _ _)))
 obtain ⟨P2,E2,h⟩:=bi h
 refine Bf (.bool P2) body125 rfl (e1 rfl) (fun w9 hw9=>share_valid_c n _ w9 (j0.hL0 hL hw9) ([a0,a1]:List TShare) (Am (St.lend (α:=TShare) (L:=L) j0 .hd R1 hL) hw9) E2) rfl<|Ab (Bz rfl)<|Aa<|MX.ifnb rfl h (fun x1 h=>?_) (fun x1 h=>?_)
 refine Aq<|Ak<|AF 6 tb80_4 (by kernel_rfl) (by kernel_rfl) (by kernel_rfl) (fun d0 E0=>?_)
 refine Ah 0 1 d0 rfl E0 (fun _=>Ai rfl) rfl<|AD 1 3 244 d0 rfl E0 (AB rfl (j0.memA (.tl (.tl (.tl .hd))))) rfl<|AD 3 11 240 d0 rfl E0 (AB rfl (j0.memA (.tl (.tl .hd)))) rfl ?_
 obtain ⟨Q2,F2,h⟩:=bi h
 refine Bi 2 15 d0 rfl .plain body130 rfl (e1 rfl) (fun w9 hw9=>share_Read_c n _ w9 (j0.hL hL hw9) a0 F2) rfl (fun j5 x4 J1 ⟨k4,p4,hu_,p2,q2⟩=>?_)
 subst hu_
 obtain ⟨X0,X3⟩:=j0.agr J1
 obtain ⟨R2,G2,h⟩:=bi h
 refine Bi 4 31 d0 rfl .plain body130 rfl (e1 rfl) (fun w9 hw9=>share_Read_c n _ w9 (X0.hL hL hw9) a1 G2) rfl (fun k5 y4 K1 ⟨q4,s4,hu_,s2,t2⟩=>?_)
 subst hu_
 obtain ⟨Y0,c1⟩:=X0.agr K1
 obtain ⟨p0,H2,h⟩:=bi h
 have b2:=Ap p2 c1
 have c2:=Ap q2 c1
 refine Bi 5 63 d0 rfl .plain body126 rfl (e2 rfl rfl) (fun w9 hw9=>share_Ratio_Over_c n _ w9 (Y0.hL hL hw9) Q2 (Am b2 hw9) (Am c2 hw9) R2 (Am s2 hw9) (Am t2 hw9) H2) rfl (fun p5 z4 M1 ⟨H0,I0,hu_,q1,s1⟩=>?_)
 subst hu_
 obtain ⟨F1,Y3⟩:=Y0.agr M1
 refine Bt 6 127 d0 rfl rfl .plain (Ay (news:=[.bool p0.fLong.fBelow,H0,.bool p0.fUnder.fBelow,I0]) F1 (.tl .hd) rfl rfl rfl rfl rfl rfl (o4 rfl (AI q1) rfl (AI s1))) (fun q5 s0 d1=>?_)
 refine Bs (i:=7) (readyD_ok d0 (by kernel_rfl)) (RO.val (m' :=255) (stepC_ok d0 (by kernel_rfl)) rfl .plain rfl (AJ rfl) ?_)
 refine AE (doneD_ok d0 (by kernel_rfl))<|Al rfl<|Ao (u:=.tuple #[.agg #[.bool p0.fLong.fBelow,H0,.bool p0.fUnder.fBelow,I0],vI 0]) j1 Tryz.func80 rfl (.cons (.many (cs:=[.bool p0.fLong.fBelow,H0,.bool p0.fUnder.fBelow,I0]) (by kernel_rfl) rfl (s0.memA (.tl .hd))) (.cons (.tmp rfl) .nil)) rfl<|Ab (Af rfl rfl)<|Ab (Af rfl rfl) ?_
 obtain ⟨t0,u2,h⟩:=bi h
 have U1:=Ap q1 d1
 have V1:=Ap s1 d1
 refine Bf (.tuple #[.agg ((cs_TShare t0.1)).toArray,vI t0.2]) body79 rfl (e2 rfl rfl) (fun w9 hw9=>share_told_c n _ w9 (s0.hL0 hL hw9) p0 (s0.kd U1 hw9) (s0.kd V1 hw9) (0:Int) u2) rfl<|Ab (Af rfl rfl)<|Ab (Af rfl rfl)<|AL (cs_TShare t0.1) s0 (.tl (.tl (.tl (.tl (.tl .hd))))) (onesB rfl) (fun A4 J0 u3=>?_)
 refine Ag rfl<|Aa<|Al rfl<|Ao hb0 Tryz.func77 rfl (.cons (.many (cs:=(cs_TShare t0.1)) (by kernel_rfl) rfl (J0.memA (.tl (.tl (.tl (.tl (.tl .hd))))))) (.cons (.tmp rfl) .nil)) rfl ?_
 cases h
 exact J0.gv
 refine Ac<|Aj .plain rfl (Av [.bool false,vN,.bool false,vN] j0) (fun B4 U2 K0 v3=>?_)
 refine Aa<|Ac<|Ab (AB rfl (K0.memA .hd))<|AL [.bool false,vN,.bool false,vN] K0 (.tl (.tl .hd)) (onesB rfl) (fun D4 y0 x3=>?_)
 refine Ag rfl<|Aa<|Al rfl<|Ao (u:=.tuple #[.agg #[.bool false,vN,.bool false,vN],vI 20]) j1 Tryz.func80 rfl (.cons (.many (cs:=[.bool false,vN,.bool false,vN]) (by kernel_rfl) rfl (y0.memA (.tl (.tl .hd)))) (.cons (.tmp rfl) .nil)) rfl<|Ab (Af rfl rfl)<|Ab (Af rfl rfl) ?_
 obtain ⟨u0,v2,h⟩:=bi h
 refine Bf (.tuple #[.agg ((cs_TShare u0.1)).toArray,vI u0.2]) body79 rfl (e2 rfl rfl) (fun w9 hw9=>share_told_c n _ w9 (y0.hL0 hL hw9) (⟨(⟨false,([]:List UInt64)⟩:TLong),(⟨false,([]:List UInt64)⟩:TLong)⟩:TRatio) (Am (Rep.nilSlice _ _) hw9) (Am (Rep.nilSlice _ _) hw9) (20:Int) v2) rfl<|Ab (Af rfl rfl)<|Ab (Af rfl rfl)<|AL (cs_TShare u0.1) y0 (.tl (.tl (.tl (.tl (.tl (.tl .hd)))))) (onesB rfl) (fun E4 M0 y3=>?_)
 refine Ag rfl<|Aa<|Al rfl<|Ao hb0 Tryz.func77 rfl (.cons (.many (cs:=(cs_TShare u0.1)) (by kernel_rfl) rfl (M0.memA (.tl (.tl (.tl (.tl (.tl (.tl .hd)))))))) (.cons (.tmp rfl) .nil)) rfl ?_
 cases h
 exact M0.gv
 refine AR<|AR<|AR<|AR<|RG.pf rfl rfl<|Aa<|Bv rfl<|Aq<|Ac<|Ab (AB rfl (b0.memA (.tl (.tl (.tl .hd)))))<|Ab (AB rfl (b0.memA (.tl (.tl .hd))))<|Bw (fst:=[]) (cap:=[]) (vs:=[.agg ((cs_TShare a0)).toArray,.agg ((cs_TShare a1)).toArray,.func (.func 126) #[] #[]]) .plain body80 Tryz.func80 rfl rfl rfl rfl (e3 rfl rfl rfl) rfl (fun s3 g1 Z3=>?_)
 refine Ac<|Aj .plain rfl (Aw b0 rfl rfl) (fun F4 V2 z1 z3=>?_)
 refine Aj .plain rfl (Aw z1 rfl rfl) (fun G4 W2 A1 A3=>?_)
 refine Aj .plain rfl (Av [.bool false,vN,.bool false,vN] A1) (fun H4 X2 z0 C3=>?_)
 refine Ag rfl<|Aa<|Ak<|Ac<|Ab (AB rfl (z0.memA (.tl (.tl .hd))))<|Ab (AB rfl (z0.memA (.tl .hd)))<|Aj .plain rfl (AW (α:=TShare) (xs:=([a0,a1]:List TShare)) (vs:=[.agg ((cs_TShare a0)).toArray,.agg ((cs_TShare a1)).toArray]) (ds' :=(cs_TShare a0 ++ cs_TShare a1)) rfl z0 el68 rfl (e2 rfl rfl) (by kernel_rfl) rfl) (fun I4 Z2 g0 D3=>?_)
 have P1:=AG (cs:=(cs_TShare a0 ++ cs_TShare a1)) (xs:=(([a0,a1]:List TShare):List TShare)) g0 L (Au (cs:=(cs_TShare a0)) (ds:=(cs_TShare a1)) (mk_TShare a0.fN a0.fD) (Au (cs:=(cs_TShare a1)) (ds:=[]) (mk_TShare a1.fN a1.fD) (AO _ _)))
 obtain ⟨I2,x2,h⟩:=bi h
 refine Bf (.bool I2) body125 rfl (e1 rfl) (fun w9 hw9=>share_valid_c n _ w9 (g0.hL0 hL hw9) ([a0,a1]:List TShare) (Am (St.lend (α:=TShare) (L:=L) g0 .hd P1 hL) hw9) x2) rfl<|Ab (Bz rfl)<|Aa<|MX.ifnb rfl h (fun t1 h=>?_) (fun t1 h=>?_)
 refine Aq<|Ak<|AF 6 tb80_4 (by kernel_rfl) (by kernel_rfl) (by kernel_rfl) (fun c0 D0=>?_)
 refine Ah 0 1 c0 rfl D0 (fun _=>Ai rfl) rfl<|AD 1 3 244 c0 rfl D0 (AB rfl (g0.memA (.tl (.tl (.tl .hd))))) rfl<|AD 3 11 240 c0 rfl D0 (AB rfl (g0.memA (.tl (.tl .hd)))) rfl ?_
 obtain ⟨J2,y2,h⟩:=bi h
 refine Bi 2 15 c0 rfl .plain body130 rfl (e1 rfl) (fun w9 hw9=>share_Read_c n _ w9 (g0.hL hL hw9) a0 y2) rfl (fun J4 t4 G1 ⟨c4,d4,hu_,d2,g2⟩=>?_)
 subst hu_
 obtain ⟨P0,E3⟩:=g0.agr G1
 obtain ⟨K2,z2,h⟩:=bi h
 refine Bi 4 31 c0 rfl .plain body130 rfl (e1 rfl) (fun w9 hw9=>share_Read_c n _ w9 (P0.hL hL hw9) a1 z2) rfl (fun K4 u4 H1 ⟨g4,j4,hu_,j2,k2⟩=>?_)
 subst hu_
 obtain ⟨Q0,Z0⟩:=P0.agr H1
 obtain ⟨k0,A2,h⟩:=bi h
 have W1:=Ap d2 Z0
 have X1:=Ap g2 Z0
 refine Bi 5 63 c0 rfl .plain body126 rfl (e2 rfl rfl) (fun w9 hw9=>share_Ratio_Over_c n _ w9 (Q0.hL hL hw9) J2 (Am W1 hw9) (Am X1 hw9) K2 (Am j2 hw9) (Am k2 hw9) A2) rfl (fun P4 v4 I1 ⟨F0,G0,hu_,k1,p1⟩=>?_)
 subst hu_
 obtain ⟨C1,F3⟩:=Q0.agr I1
 refine Bt 6 127 c0 rfl rfl .plain (Ay (news:=[.bool k0.fLong.fBelow,F0,.bool k0.fUnder.fBelow,G0]) C1 (.tl .hd) rfl rfl rfl rfl rfl rfl (o4 rfl (AI k1) rfl (AI p1))) (fun Q4 q0 b1=>?_)
 refine Bs (i:=7) (readyD_ok c0 (by kernel_rfl)) (RO.val (m' :=255) (stepC_ok c0 (by kernel_rfl)) rfl .plain rfl (AJ rfl) ?_)
 refine AE (doneD_ok c0 (by kernel_rfl))<|Al rfl<|Ao (u:=.tuple #[.agg #[.bool k0.fLong.fBelow,F0,.bool k0.fUnder.fBelow,G0],vI 0]) g1 Tryz.func80 rfl (.cons (.many (cs:=[.bool k0.fLong.fBelow,F0,.bool k0.fUnder.fBelow,G0]) (by kernel_rfl) rfl (q0.memA (.tl .hd))) (.cons (.tmp rfl) .nil)) rfl<|Ab (Af rfl rfl)<|Ab (Af rfl rfl) ?_
 obtain ⟨v0,B2,h⟩:=bi h
 have Y1:=Ap k1 b1
 have Z1:=Ap p1 b1
 refine Bf (.tuple #[.agg ((cs_TShare v0.1)).toArray,vI v0.2]) body79 rfl (e2 rfl rfl) (fun w9 hw9=>share_told_c n _ w9 (q0.hL0 hL hw9) k0 (q0.kd Y1 hw9) (q0.kd Z1 hw9) (0:Int) B2) rfl<|Ab (Af rfl rfl)<|Ab (Af rfl rfl)<|AL (cs_TShare v0.1) q0 (.tl (.tl (.tl (.tl (.tl .hd))))) (onesB rfl) (fun R4 R0 H3=>?_)
 refine Ag rfl<|Aa<|Al rfl<|Ao hb0 Tryz.func77 rfl (.cons (.many (cs:=(cs_TShare v0.1)) (by kernel_rfl) rfl (R0.memA (.tl (.tl (.tl (.tl (.tl .hd))))))) (.cons (.tmp rfl) .nil)) rfl ?_
 cases h
 exact R0.gv
 refine Ac<|Aj .plain rfl (Av [.bool false,vN,.bool false,vN] g0) (fun U4 c3 U0 I3=>?_)
 refine Aa<|Ac<|Ab (AB rfl (U0.memA .hd))<|AL [.bool false,vN,.bool false,vN] U0 (.tl (.tl .hd)) (onesB rfl) (fun V4 A0 J3=>?_)
 refine Ag rfl<|Aa<|Al rfl<|Ao (u:=.tuple #[.agg #[.bool false,vN,.bool false,vN],vI 20]) g1 Tryz.func80 rfl (.cons (.many (cs:=[.bool false,vN,.bool false,vN]) (by kernel_rfl) rfl (A0.memA (.tl (.tl .hd)))) (.cons (.tmp rfl) .nil)) rfl<|Ab (Af rfl rfl)<|Ab (Af rfl rfl) ?_
 obtain ⟨x0,C2,h⟩:=bi h
 refine Bf (.tuple #[.agg ((cs_TShare x0.1)).toArray,vI x0.2]) body79 rfl (e2 rfl rfl) (fun w9 hw9=>share_told_c n _ w9 (A0.hL0 hL hw9) (⟨(⟨false,([]:List UInt64)⟩:TLong),(⟨false,([]:List UInt64)⟩:TLong)⟩:TRatio) (Am (Rep.nilSlice _ _) hw9) (Am (Rep.nilSlice _ _) hw9) (20:Int) C2) rfl<|Ab (Af rfl rfl)<|Ab (Af rfl rfl)<|AL (cs_TShare x0.1) A0 (.tl (.tl (.tl (.tl (.tl (.tl .hd)))))) (onesB rfl) (fun W4 V0 K3=>?_)
 refine Ag rfl<|Aa<|Al rfl<|Ao hb0 Tryz.func77 rfl (.cons (.many (cs:=(cs_TShare x0.1)) (by kernel_rfl) rfl (V0.memA (.tl (.tl (.tl (.tl (.tl (.tl .hd)))))))) (.cons (.tmp rfl) .nil)) rfl ?_
 cases h
 exact V0.gv
def tb74_2:List (Nat × Nat × Nat):=[(0,8192,16),(0,16384,4),(3,32768,24576),(0,65536,16),(12,131072,65536),(23,32,32768),(63,64,131072)]
def tb74_8:List (Nat × Nat × Nat):=[(0,1073741824,8),(0,2147483648,512),(2,4294967296,2147483648),(0,8589934592,128),(12,17179869184,12884901888),(16,34359738368,17179869184),(16,68719476736,17179869184),(112,137438953472,103079215104),(0,274877906944,128),(384,549755813888,412316860416),(512,1099511627776,549755813888),(512,2199023255552,549755813888),(3584,4398046511104,3298534883328),(4096,8796093022208,4398046511104),(12289,17592186044416,8797166764032),(32767,8,17592186044416)]
theorem body77:bodyB Tryz.prog 77 = true:=by kernel_rfl
def balance_Off_1_l1 (n:Nat) (j0:List Int) (k0:TShare) (p0:Nat × (List TShare) → Option ((Except Tbroken (List TShare)) ⊕ (List TShare))):Nat × (List TShare) → Option ((Except Tbroken (List TShare)) ⊕ (List TShare))
  | (b0,c0)=>(if b0 < j0.length then (j0[b0]?).bind fun u0=>(balance_of_p n u0 (1:Int)).bind fun x0=>exc x0 (fun y0=>(share_Sub_p n y0 k0).bind fun d0=>(balance_must_api_Share_p n d0.1 d0.2).bind fun z0=>exc z0 (fun A0=>(share_Div_p n A0 k0).bind fun g0=>(balance_must_api_Share_p n g0.1 g0.2).bind fun B0=>exc B0 (fun C0=>(app c0 ([C0]:List TShare)).bind fun v0=>p0 (b0 + 1,v0)) (fun t0=>some (.inl (.error t0)))) (fun s0=>some (.inl (.error s0)))) (fun q0=>some (.inl (.error q0))) else some (.inr c0))
def balance_Off_1_p (n:Nat) (a0:TRoll) (a1:Int) (a2:List Int):Option (Except Tbroken (List TShare)):=
  (balance_counted_p n a0 a1).bind fun y1=>exc y1 (fun b0=>(balance_count_totals_p n b0 a2).bind fun q0=>exc q0 (fun s0=>(balance_count_people_p n b0).bind fun c0=>(balance_fail_p n (decide (c0 = 0)) (7:Int)).bind fun t0=>exc t0 (fun x0=>(balance_of_p n c0 a1).bind fun u0=>exc u0 (fun v0=>thn (loopF (balance_Off_1_l1 n s0 v0) n (0,([]:List TShare))) (fun p0=>some (.ok p0))) (fun k0=>some (.error k0))) (fun j0=>some (.error j0))) (fun g0=>some (.error g0))) (fun d0=>some (.error d0))
theorem balance_Off_1_c (n:Nat) (L:List Nat) (w:World) (hL:∀ b ∈ L,b < w.heap.size) (a0:TRoll) {v0_3:Value} (h0_3:Rep.R w L [v0_3] a0.fUnits) {p0:Nat} (m0:∀ j9 v9,([vI a0.fGroups,vI a0.fParties,vI a0.fLevels,v0_3]:List Value)[j9]? = some v9 → w.cell? ((⟨p0,0,none⟩:Addr).add j9) = some v9) (a1:Int) {p1:Nat} (m1:∀ j9 v9,([vI a1]:List Value)[j9]? = some v9 → w.cell? ((⟨p1,0,none⟩:Addr).add j9) = some v9) (a2:List Int) {v2_0:Value} (h2_0:Rep.R w L [v2_0] a2) {p2:Nat} (m2:∀ j9 v9,([v2_0]:List Value)[j9]? = some v9 → w.cell? ((⟨p2,0,none⟩:Addr).add j9) = some v9)  {r:Except Tbroken (List TShare)} (h:balance_Off_1_p n a0 a1 a2 = some r) :
    Calls Tryz.prog 74 #[.pointer (some ⟨p0,0,none⟩),.pointer (some ⟨p1,0,none⟩),.pointer (some ⟨p2,0,none⟩)] w (PGives w (fun (y:List TShare) w' u=>∃ v0_0:Value,u = v0_0∧Rep.R w' L [v0_0] y) (fun e=>.iface 140 (.agg #[vI e.fErrno])) r):=by
 unfold balance_Off_1_p at h
 have hS0:=Ax w
 refine MX.startP Tryz.func74 rfl rfl rfl (fun _ cs0 hb0 hp0=>?_)
 refine Ac<|Ag rfl<|Aa<|Ac<|Ab (AB rfl (fun j9 v9 h9=>hS0.ag.cell0 (m0 j9 v9 h9)))<|Bd rfl ((fun j9 v9 h9=>hS0.ag.cell0 (m1 j9 v9 h9)) 0 _ rfl) ?_
 obtain ⟨y1,hy1,h⟩:=bi h
 rcases y1 with A3 | z0
 have h:=exc_e h
 try dsimp only at h
 refine Bu (fst:=[]) (cap:=[]) .plain body50 rfl (e2 rfl rfl) (fun w9 hw9=>balance_counted_c n _ w9 (hS0.hL hL hw9) a0 (Am h0_3 hw9) a1 hy1) (fun Z3 Y1=>?_)
 obtain ⟨D1,H3⟩:=hS0.agr Y1
 cases h
 exact Ba hp0 Tryz.func74 ⟨D1.ag,rfl⟩
 have h:=exc_o h
 try dsimp only at h
 refine AX (fst:=[]) (cap:=[]) .plain body50 rfl (e2 rfl rfl) (fun w9 hw9=>AU (balance_counted_c n _ w9 (hS0.hL hL hw9) a0 (Am h0_3 hw9) a1 hy1)) rfl (fun b4 Y3 Z1 ⟨Z2,hu_,G0⟩=>?_)
 subst hu_
 obtain ⟨F1,I3⟩:=hS0.agr Z1
 refine Aj .plain rfl (Av [vI 0,vI 0,vI 0,vN,vI 0] F1) (fun p4 y3 M1 E0=>?_)
 have E2:=Ap G0 E0
 refine AL [vI z0.fRoll.fGroups,vI z0.fRoll.fParties,vI z0.fRoll.fLevels,Z2,vI z0.fk] M1 .hd (o5 rfl rfl rfl (AI E2) rfl) (fun q4 g0 M0=>?_)
 refine Aa<|Ak<|AF 7 tb74_2 (by kernel_rfl) (by kernel_rfl) (by kernel_rfl) (fun k0 y0=>?_)
 refine AD 0 1 116 k0 rfl y0 (AB rfl (g0.memA .hd)) rfl<|AD 1 3 116 k0 rfl y0 (AK rfl ((fun j9 v9 h9=>g0.ag.cell0 (m2 j9 v9 h9)) 0 _ rfl)) rfl ?_
 obtain ⟨q3,q1,h⟩:=bi h
 rcases q3 with E3 | I0
 have h:=exc_e h
 try dsimp only at h
 refine AD 3 11 112 k0 rfl y0 (AB rfl (g0.memA .hd)) rfl ?_
 have F2:=Ap G0 (Tt E0 M0)
 refine Bs (i:=2) (readyD_ok k0 (by kernel_rfl)) (RO.callE (fst:=[]) (cap:=[]) rfl .plain body58 rfl (e2 rfl rfl) (fun w9 hw9=>balance_count_totals_c n _ w9 (g0.hL hL hw9) z0 (Am F2 hw9) a2 (g0.km h2_0 hw9) q1) (fun s4 g2=>?_))
 obtain ⟨P1,Q3⟩:=g0.agr g2
 cases h
 exact Ba hp0 Tryz.func74 ⟨P1.ag,rfl⟩
 have h:=exc_o h
 try dsimp only at h
 refine AD 3 11 112 k0 rfl y0 (AB rfl (g0.memA .hd)) rfl ?_
 have G2:=Ap G0 (Tt E0 M0)
 refine Bi 2 15 k0 rfl .plain body58 rfl (e2 rfl rfl) (fun w9 hw9=>AU (balance_count_totals_c n _ w9 (g0.hL hL hw9) z0 (Am G2 hw9) a2 (g0.km h2_0 hw9) q1)) rfl (fun t4 c3 j2 ⟨X3,hu_,d1⟩=>?_)
 subst hu_
 obtain ⟨j0,W1⟩:=g0.agr j2
 obtain ⟨C0,Y2,h⟩:=bi h
 have M2:=Tt E0 (Tt M0 W1)
 have H2:=Ap G0 M2
 refine BI 4 31 96 (vI C0) k0 rfl y0 body71 rfl (e1 rfl) (fun w9 hw9=>balance_count_people_c n _ w9 (j0.hL0 hL hw9) z0 (j0.kd H2 hw9) Y2) rfl<|Ah 5 63 k0 rfl y0 (fun _=>AJ rfl) rfl<|Ah 6 127 k0 rfl y0 (fun _=>AJ rfl) rfl<|AE (doneD_ok k0 (by kernel_rfl))<|Ac<|Ae rfl<|Ab (FV.eql (i:=C0) (j:=0) rfl rfl) ?_
 obtain ⟨s3,s1,h⟩:=bi h
 rcases s3 with F3 | y4
 have h:=exc_e h
 try dsimp only at h
 refine Bu (fst:=[]) (cap:=[]) .plain body75 rfl (e2 rfl rfl) (fun w9 hw9=>balance_fail_c n _ w9 (j0.hL0 hL hw9) (decide (C0 = 0)) (7:Int) s1) (fun u4 k2=>?_)
 obtain ⟨Q1,R3⟩:=j0.agr k2
 cases h
 exact Ba hp0 Tryz.func74 ⟨Q1.ag,rfl⟩
 have h:=exc_o h
 try dsimp only at h
 refine Bf (.tuple #[]) body75 rfl (e2 rfl rfl) (fun w9 hw9=>AU (balance_fail_c n _ w9 (j0.hL0 hL hw9) (decide (C0 = 0)) (7:Int) s1)) rfl<|Aa<|Ac<|Ae rfl<|Bd rfl ((fun j9 v9 h9=>j0.ag.cell0 (m1 j9 v9 h9)) 0 _ rfl) ?_
 obtain ⟨t3,u1,h⟩:=bi h
 rcases t3 with G3 | v0
 have h:=exc_e h
 try dsimp only at h
 refine Bu (fst:=[]) (cap:=[]) .plain body70 rfl (e2 rfl rfl) (fun w9 hw9=>balance_of_c n _ w9 (j0.hL0 hL hw9) C0 a1 u1) (fun v4 q2=>?_)
 obtain ⟨R1,U3⟩:=j0.agr q2
 cases h
 exact Ba hp0 Tryz.func74 ⟨R1.ag,rfl⟩
 have h:=exc_o h
 try dsimp only at h
 refine Bf (.agg ((cs_TShare v0)).toArray) body70 rfl (e2 rfl rfl) (fun w9 hw9=>AU (balance_of_c n _ w9 (j0.hL0 hL hw9) C0 a1 u1)) rfl<|Aj .plain rfl (Av zL j0) (fun x4 D0 U1 Y0=>?_)
 refine AL (cs_TShare v0) U1 .hd (onesB rfl) (fun d3 Q0 Z0=>?_)
 refine Aa<|Ak<|Ac<|Ae rfl ?_
 have c1:=Ap d1 (Tt Y0 Z0)
 have V3:I0.length ≤ 281474976710656:=AT c1
 refine Ab (Bb (xs:=I0) Tryz.underlying45 rfl c1)<|Ae rfl<|Aa<|Az ?_
 have R0:=Q0.nilRow 37 (Rep.size TShare)
 have X1:=St.nilRowT Q0 37 (Rep.size TShare)
 have u2:=AG (cs:=[]) (xs:=([]:List TShare)) R0 L (AO _ _)
 obtain ⟨E1,U0⟩:=AH R0 (.one .hd (.one .hd .done))
 have z2:=AN u2 U0
 obtain ⟨W3,I2,F0⟩:=thn_in h
 refine Bj (α:=Nat × (List TShare) × Value × (List Value)) (fun ⟨s0,u0,t0,x0⟩=>[(3,t0),(7,vP D0),(24,c3),(25,vI ((I0.length:Nat):Int)),(26,vI ((s0:Nat):Int))]) (fun ⟨s0,u0,t0,x0⟩ H0=>St w H0 [.row w.heap.size 37 (Rep.size TShare) t0 u0.length x0,.cells D0 (cs_TShare v0) 37]∧Tr d3 [.row w.heap.size 37 (Rep.size TShare) vN (([]:List TShare).length) [],.cells D0 (cs_TShare v0) 37] H0 [.row w.heap.size 37 (Rep.size TShare) t0 u0.length x0,.cells D0 (cs_TShare v0) 37]∧Cells H0 (bl [.row w.heap.size 37 (Rep.size TShare) t0 u0.length x0,.cells D0 (cs_TShare v0) 37] ++ L) x0 u0) (fun ⟨s0,u0,t0,x0⟩=>(s0,u0)) (0,([]:List TShare),vN,[]) I2 ⟨rfl,rfl,rfl,rfl,rfl,trivial⟩ ⟨E1,AP _ _,z2⟩ ?_
 rintro v3 ⟨s0,u0,t0,x0⟩ H0 C1 ⟨c0,V0,b1⟩ h
 unfold balance_Off_1_l1 at h
 try dsimp only at h
 refine Ac<|Ab (Bn (i:=s0) (j:=I0.length) rfl rfl)<|Aa<|Ak<|AQ rfl h (fun z1 h=>?_) (fun z1 h=>?_)
 refine Aq<|Ak<|Az<|Ac ?_
 obtain ⟨P0,U2,h⟩:=bi h
 have J2:=Tt Y0 (Tt Z0 (Tt X1 (Tt U0 V0)))
 have B2:=Ap d1 J2
 obtain ⟨u3,z3,v2,y2,A1,P2,A2⟩:=Bm B2 U2
 have x2:A1 = [vI P0]:=P2; subst x2
 refine Ab (Bo 1 s0 rfl v2 rfl rfl y2)<|Bd rfl (A2 0 _ rfl)<|Ag rfl<|Aa<|AF 14 tb74_8 (by kernel_rfl) (by kernel_rfl) (by kernel_rfl) (fun b0 d0=>?_)
 refine Ah 0 1 b0 rfl d0 (fun _=>Ai rfl) rfl<|Ah 1 3 b0 rfl d0 (fun _=>Ai rfl) rfl ?_
 obtain ⟨j3,g1,h⟩:=bi h
 rcases j3 with B3 | v1
 have h:=exc_e h
 try dsimp only at h
 refine AD 3 11 65264 b0 rfl d0 (AB rfl (c0.memA (.tl .hd))) rfl<|AD 8 267 65024 b0 rfl d0 (AB rfl (c0.memA (.tl .hd))) rfl ?_
 have h:=thn_inl h F0
 refine Bs (i:=2) (readyD_ok b0 (by kernel_rfl)) (RO.callE (fst:=[]) (cap:=[]) rfl .plain body70 rfl (e2 rfl rfl) (fun w9 hw9=>balance_of_c n _ w9 (c0.hL0 hL hw9) P0 (1:Int) g1) (fun c4 b2=>?_))
 obtain ⟨G1,J3⟩:=c0.agr b2
 cases h
 exact Ba hp0 Tryz.func74 ⟨G1.ag,rfl⟩
 have h:=exc_o h
 try dsimp only at h
 refine BI 2 7 65264 (.agg ((cs_TShare v1)).toArray) b0 rfl d0 body70 rfl (e2 rfl rfl) (fun w9 hw9=>AU (balance_of_c n _ w9 (c0.hL0 hL hw9) P0 (1:Int) g1)) rfl<|AD 3 15 65264 b0 rfl d0 (AB rfl (c0.memA (.tl .hd))) rfl ?_
 obtain ⟨A0,W2,h⟩:=bi h
 refine BI 4 31 65248 (.tuple #[.agg ((cs_TShare A0.1)).toArray,vI A0.2]) b0 rfl d0 body24 rfl (e2 rfl rfl) (fun w9 hw9=>share_Sub_c n _ w9 (c0.hL0 hL hw9) v1 v0 W2) rfl<|Ah 5 63 b0 rfl d0 (fun _=>Af rfl rfl) rfl<|Ah 6 127 b0 rfl d0 (fun _=>Af rfl rfl) rfl ?_
 obtain ⟨k3,j1,h⟩:=bi h
 rcases k3 with C3 | x1
 have h:=exc_e h
 try dsimp only at h
 refine AD 8 383 65024 b0 rfl d0 (AB rfl (c0.memA (.tl .hd))) rfl ?_
 have h:=thn_inl h F0
 refine Bs (i:=7) (readyD_ok b0 (by kernel_rfl)) (RO.callE (fst:=[]) (cap:=[]) rfl .plain body76 rfl (e2 rfl rfl) (fun w9 hw9=>balance_must_api_Share_c n _ w9 (c0.hL0 hL hw9) A0.1 A0.2 j1) (fun d4 c2=>?_))
 obtain ⟨H1,K3⟩:=c0.agr c2
 cases h
 exact Ba hp0 Tryz.func74 ⟨H1.ag,rfl⟩
 have h:=exc_o h
 try dsimp only at h
 refine BI 7 255 65024 (.agg ((cs_TShare x1)).toArray) b0 rfl d0 body76 rfl (e2 rfl rfl) (fun w9 hw9=>AU (balance_must_api_Share_c n _ w9 (c0.hL0 hL hw9) A0.1 A0.2 j1)) rfl<|AD 8 511 65024 b0 rfl d0 (AB rfl (c0.memA (.tl .hd))) rfl ?_
 obtain ⟨B0,X2,h⟩:=bi h
 refine BI 9 1023 64512 (.tuple #[.agg ((cs_TShare B0.1)).toArray,vI B0.2]) b0 rfl d0 body77 rfl (e2 rfl rfl) (fun w9 hw9=>share_Div_c n _ w9 (c0.hL0 hL hw9) x1 v0 X2) rfl<|Ah 10 2047 b0 rfl d0 (fun _=>Af rfl rfl) rfl<|Ah 11 4095 b0 rfl d0 (fun _=>Af rfl rfl) rfl ?_
 obtain ⟨p3,k1,h⟩:=bi h
 rcases p3 with D3 | q0
 have h:=exc_e h
 try dsimp only at h
 have h:=thn_inl h F0
 refine Bs (i:=12) (readyD_ok b0 (by kernel_rfl)) (RO.callE (fst:=[]) (cap:=[]) rfl .plain body76 rfl (e2 rfl rfl) (fun w9 hw9=>balance_must_api_Share_c n _ w9 (c0.hL0 hL hw9) B0.1 B0.2 k1) (fun g4 d2=>?_))
 obtain ⟨I1,M3⟩:=c0.agr d2
 cases h
 exact Ba hp0 Tryz.func74 ⟨I1.ag,rfl⟩
 have h:=exc_o h
 try dsimp only at h
 refine BI 12 8191 57344 (.agg ((cs_TShare q0)).toArray) b0 rfl d0 body76 rfl (e2 rfl rfl) (fun w9 hw9=>AU (balance_must_api_Share_c n _ w9 (c0.hL0 hL hw9) B0.1 B0.2 k1)) rfl<|RD.nu 13 16383 b0 rfl .plain rfl (AW (α:=TShare) (xs:=([q0]:List TShare)) (vs:=[.agg ((cs_TShare q0)).toArray]) (ds' :=(cs_TShare q0)) rfl c0 el68 rfl (e1 rfl) (by kernel_rfl) rfl) (fun j4 x3 J0 W0=>?_)
 have s2:=AG (cs:=(cs_TShare q0)) (xs:=(([q0]:List TShare):List TShare)) J0 L (Au (cs:=(cs_TShare q0)) (ds:=[]) (mk_TShare q0.fN q0.fD) (AO _ _))
 obtain ⟨g3,V2,h⟩:=bi h
 have C2:=AN b1 W0
 refine Bs (i:=14) (readyD_ok b0 (by kernel_rfl)) (RO.doesL (m' :=32767) (stepC_ok b0 (by kernel_rfl)) rfl rfl .plain rfl (BJ (α:=TShare) (ys:=([q0]:List TShare)) V2 J0 (fun _ _=>(.tl .hd)) el68 rfl rfl C2 (Src.row (α:=TShare) J0 .hd s2)) (fun b3 k4 ⟨B1,J1,V1,t2⟩=>?_))
 refine Bs (i:=15) (readyD_ok b0 (by kernel_rfl)) (RO.val (m' :=65535) (stepC_ok b0 (by kernel_rfl)) rfl .plain rfl (AJ rfl) ?_)
 refine AE (doneD_ok b0 (by kernel_rfl))<|AC<|Ar<|Ab (Br (i:=s0) (j:=1) rfl rfl (by omega))<|Ae rfl<|Aa ?_
 obtain ⟨K1,X0⟩:=AH J1 (.one (.tl .hd) (.one (.tl .hd) .done))
 have D2:=AN t2 X0
 have K2:=Tt W0 (Tt V1 X0)
 exact C1 (s0 + 1,g3,b3,B1) _ _ ⟨rfl,rfl,rfl,rfl,rfl,trivial⟩ ⟨K1,(Tt V0 K2),D2⟩ h
 refine Be rfl ?_
 have h:=thn_inr h F0
 try dsimp only at h
 refine Ac<|Ae rfl<|Ag rfl<|Aa<|Al rfl ?_
 have Q2:=Bq (α:=TShare) c0 .hd b1 hL
 have K0:=BD c0 .hd
 have P3:=BE c0 .hd
 have R2:=BF (α:=TShare) (v:=t0) (xs:=u0) K0 L Q2
 refine Bc hb0 Tryz.func74 rfl rfl ?_
 cases h
 exact ⟨K0.ag,fun w9 hw9=>okOf_in ⟨t0,rfl,K0.kd R2 hw9⟩⟩
def tb124_6:List (Nat × Nat × Nat):=[(0,131072,32),(0,262144,8),(2,524288,262144),(1,0,131073),(15,0,524290)]
theorem body73:bodyB Tryz.prog 73 = true:=by kernel_rfl
theorem body74:bodyB Tryz.prog 74 = true:=by kernel_rfl
theorem body124:bodyB Tryz.prog 124 = true:=by kernel_rfl
def balance_Off_p (n:Nat) (a0:TRoll) (a1:List Int) (a2:Int):Option ((List TShare) × Int):=
  (balance_Off_1_p n a0 a2 a1).bind fun c0=>exc c0 (fun d0=>some (d0,(0:Int))) (fun b0=>some (([]:List TShare),b0.fErrno))
theorem balance_Off_c (n:Nat) (L:List Nat) (w:World) (hL:∀ b ∈ L,b < w.heap.size) (a0:TRoll) {v0_3:Value} (h0_3:Rep.R w L [v0_3] a0.fUnits) (a1:List Int) {v1_0:Value} (h1_0:Rep.R w L [v1_0] a1) (a2:Int)  {r:(List TShare) × Int} (h:balance_Off_p n a0 a1 a2 = some r) :
    Calls Tryz.prog 22 #[.agg #[vI a0.fGroups,vI a0.fParties,vI a0.fLevels,v0_3],v1_0,vI a2] w (Gives w fun w' u=>∃ v0_0:Value,u = .tuple #[v0_0,vI r.2]∧Rep.R w' L [v0_0] r.1):=by
 unfold balance_Off_p at h
 have hS0:=Ax w
 refine AA Tryz.func22 rfl rfl rfl (fun _ cs0 hb0=>?_)
 refine Ac<|Aj .plain rfl (Aw hS0 rfl rfl) (fun R1 g0 D0 E1=>?_)
 have s1:=AM h1_0 D0
 refine Aj .plain rfl (Aw D0 rfl (Rep.c1 s1)) (fun Y1 j0 Q0 F1=>?_)
 refine Aj .plain rfl (Aw Q0 rfl rfl) (fun Z1 k0 R0 G1=>?_)
 refine Ag rfl<|Ag rfl<|Aa<|Ac<|Ab (BG (vs:=[]) (us:=[vP g0,vP k0,vP j0]) evs_nil (e3 rfl rfl rfl))<|Bw (fst:=[]) (cap:=[]) (vs:=[.func (.func 74) #[] #[vP g0,vP k0,vP j0]]) .plain body73 Tryz.func73 rfl rfl rfl rfl (e1 rfl) rfl (fun A1 E0 P1=>?_)
 refine Ac<|Aj .plain rfl (Av [vN] R0) (fun b2 p0 U0 H1=>?_)
 refine Aj .plain rfl (Av [vI 0] U0) (fun c2 d0 b0 I1=>?_)
 refine Aa<|Ac<|Ab (BG (vs:=[]) (us:=[vP p0,vP d0]) evs_nil (e2 rfl rfl))<|RG.defer (fst:=[]) (cap:=[vP p0,vP d0]) (vs:=[]) rfl .plain rfl evs_nil<|Aa<|Ac<|Ae rfl ?_
 obtain ⟨x1,G0,h⟩:=bi h
 rcases x1 with q0 | j2
 have h:=exc_e h
 try dsimp only at h
 refine Bu (fst:=[]) (cap:=[vP g0,vP k0,vP j0]) .plain body74 rfl evs_nil (fun w9 hw9=>balance_Off_1_c n _ w9 (b0.hL hL hw9) a0 (b0.km h0_3 hw9) (fun j9 v9 h9=>hw9.cell0 ((b0.memA (.tl (.tl (.tl (.tl .hd))))) j9 v9 h9)) a2 (fun j9 v9 h9=>hw9.cell0 ((b0.memA (.tl (.tl .hd))) j9 v9 h9)) a1 (b0.km h1_0 hw9) (fun j9 v9 h9=>hw9.cell0 ((b0.memA (.tl (.tl (.tl .hd)))) j9 v9 h9)) G0) (fun d2 g1=>?_)
 obtain ⟨V0,J1⟩:=b0.agr g1
 refine PN.callD (vs:=[]) (cap:=[vP p0,vP d0]) body124 Tryz.func124 rfl rfl rfl (fun z1 j1 p1=>?_)
 refine Ac<|RG.recover1 .plain j1 rfl<|Ag rfl<|Aa<|Ac<|Ae rfl<|Ab (FV.neqI Tryz.underlying20 rfl rfl)<|Aa<|Bp rfl<|Ac<|Ae rfl<|Ab (FV.assertT (by kernel_rfl) rfl)<|Ae rfl<|Ab (Af rfl rfl)<|Ab (Af rfl rfl)<|Aj .plain rfl (Av [vI 0] V0) (fun g2 H0 W0 K1=>?_)
 refine AL [vI q0.fErrno] W0 .hd (o1 rfl) (fun u1 v0 M1=>?_)
 refine Ag rfl<|Aa<|Ak<|Ac<|Ae rfl<|Ab (Bz rfl)<|Aa<|Bv rfl<|Aq<|Ac<|Ag rfl<|Aa<|AF 3 tb124_6 (by kernel_rfl) (by kernel_rfl) (by kernel_rfl) (fun c0 z0=>?_)
 refine Ah 0 1 c0 rfl z0 (fun _=>Ai rfl) rfl<|Ah 1 3 c0 rfl z0 (fun _=>Bh 0 rfl) rfl<|RD.meet (α:=Unit) (fun ()=>[(1,vP d0),(19,vI q0.fErrno)]) (fun () B0=>St w B0 [.cells d0 [vI 0] 51,.cells p0 [vN] 68,.cells k0 [vI a2] 3,.cells j0 [v1_0] 46,.cells g0 [vI a0.fGroups,vI a0.fParties,vI a0.fLevels,v0_3] 44]∧Tr u1 [.cells H0 [vI q0.fErrno] 140,.cells d0 [vI 0] 51,.cells p0 [vN] 68,.cells k0 [vI a2] 3,.cells j0 [v1_0] 46,.cells g0 [vI a0.fGroups,vI a0.fParties,vI a0.fLevels,v0_3] 44] B0 [.cells d0 [vI 0] 51,.cells p0 [vN] 68,.cells k0 [vI a2] 3,.cells j0 [v1_0] 46,.cells g0 [vI a0.fGroups,vI a0.fParties,vI a0.fLevels,v0_3] 44]) 1 15 ?_ ?_
 rintro ⟨⟩ B0 ⟨I0,B1⟩
 try dsimp only
 refine Bt 4 31 c0 rfl rfl .plain (Ay (news:=[vI q0.fErrno]) I0 .hd rfl rfl rfl rfl rfl rfl (o1 rfl)) (fun U1 s0 C1=>?_)
 refine AE (doneD_ok c0 (by kernel_rfl))<|MX.fin rfl<|RT.leaveD1 p1 Tryz.func124 rfl .nil<|Ao (u:=.tuple #[vN,vI q0.fErrno]) E0 Tryz.func73 rfl (.cons (.one (by kernel_rfl) rfl ((s0.memA (.tl .hd)) 0 _ rfl)) (.cons (.one (by kernel_rfl) rfl ((s0.memA .hd) 0 _ rfl)) .nil)) rfl<|Ab (Af rfl rfl)<|Ab (Af rfl rfl)<|Ag rfl<|Ag rfl<|Aa<|Al rfl ?_
 have t1:=Rep.nilAt (α:=TShare) s0 L
 refine Ao hb0 Tryz.func22 rfl (.cons (.tmp rfl) (.cons (.tmp rfl) .nil)) rfl ?_
 cases h
 exact ⟨s0.ag,fun w9 hw9=>⟨vN,rfl,s0.kd t1 hw9⟩⟩
 intro C0
 refine RD.each [2,3] (readyD_ok c0 (by kernel_rfl)) ⟨?_,?_,trivial⟩
 refine RO.val (m' :=7) (stepC_ok c0 (by kernel_rfl)) rfl .plain rfl (AK rfl ((v0.memA .hd) 0 _ rfl))<|Bt 3 15 c0 rfl rfl .plain (Ay (news:=[vN]) v0 (.tl (.tl .hd)) rfl rfl rfl rfl rfl rfl (o1 rfl)) (fun v1 u0 x0=>?_)
 obtain ⟨J0,X0⟩:=AH u0 (.one (.tl .hd) (.one (.tl .hd) (.one (.tl .hd) (.one (.tl .hd) (.one (.tl .hd) .done)))))
 exact C0 () _ _ ⟨rfl,rfl,trivial⟩ ⟨J0,(Tt x0 X0)⟩
 refine RO.now (m' :=11) (stepC_ok c0 (by kernel_rfl)) rfl rfl .plain (Ay (news:=[vN]) v0 (.tl (.tl .hd)) rfl rfl rfl rfl rfl rfl (o1 rfl)) (fun v1 u0 x0=>?_)
 refine AD 2 15 16 c0 rfl z0 (AK rfl ((u0.memA .hd) 0 _ rfl)) rfl ?_
 obtain ⟨K0,Y0⟩:=AH u0 (.one (.tl .hd) (.one (.tl .hd) (.one (.tl .hd) (.one (.tl .hd) (.one (.tl .hd) .done)))))
 exact C0 () _ _ ⟨rfl,rfl,trivial⟩ ⟨K0,(Tt x0 Y0)⟩
 have h:=exc_o h
 try dsimp only at h
 refine AX (fst:=[]) (cap:=[vP g0,vP k0,vP j0]) .plain body74 rfl evs_nil (fun w9 hw9=>AU (balance_Off_1_c n _ w9 (b0.hL hL hw9) a0 (b0.km h0_3 hw9) (fun j9 v9 h9=>hw9.cell0 ((b0.memA (.tl (.tl (.tl (.tl .hd))))) j9 v9 h9)) a2 (fun j9 v9 h9=>hw9.cell0 ((b0.memA (.tl (.tl .hd))) j9 v9 h9)) a1 (b0.km h1_0 hw9) (fun j9 v9 h9=>hw9.cell0 ((b0.memA (.tl (.tl (.tl .hd)))) j9 v9 h9)) G0)) rfl (fun V1 A0 d1 ⟨Q1,hu_,y0⟩=>?_)
 subst hu_
 obtain ⟨M0,D1⟩:=b0.agr d1
 refine RG.now .plain (Ay (news:=[A0]) M0 (.tl .hd) rfl rfl rfl (Rep.c1 y0) rfl rfl (o1 (AI y0))) (fun W1 P0 Z0=>?_)
 refine AL [vI 0] P0 .hd (o1 rfl) (fun X1 t0 b1=>?_)
 refine Aa<|Al rfl<|RT.callD (vs:=[]) (cap:=[vP p0,vP d0]) body124 Tryz.func124 rfl rfl rfl (fun y1 F0 k1=>?_)
 refine Ac<|RG.recover0 .plain F0 rfl<|Ag rfl<|Aa<|Ac<|Ae rfl<|Ab (FV.neqI0 Tryz.underlying20 rfl rfl)<|Aa<|Bv rfl<|Aq<|MX.fin rfl<|RT.leaveD0 F0 k1 Tryz.func124 rfl .nil<|Ao (u:=.tuple #[A0,vI 0]) E0 Tryz.func73 rfl (.cons (.one (by kernel_rfl) rfl ((t0.memA (.tl .hd)) 0 _ rfl)) (.cons (.one (by kernel_rfl) rfl ((t0.memA .hd) 0 _ rfl)) .nil)) rfl<|Ab (Af rfl rfl)<|Ab (Af rfl rfl)<|Ag rfl<|Ag rfl<|Aa<|Al rfl<|Ao hb0 Tryz.func22 rfl (.cons (.tmp rfl) (.cons (.tmp rfl) .nil)) rfl ?_
 cases h
 have q1:=Ap y0 (Tt Z0 b1)
 exact ⟨t0.ag,fun w9 hw9=>⟨A0,rfl,t0.kd q1 hw9⟩⟩
def tb90_2:List (Nat × Nat × Nat):=[(0,1024,16),(0,2048,4),(3,4096,3072),(0,8192,16),(12,16384,8192),(23,32,4096),(63,64,16384)]
def tb90_4:List (Nat × Nat × Nat):=[(0,262144,32),(1,524288,262144),(2,1048576,524288),(0,2097152,32),(12,4194304,3145728),(0,8388608,32),(32,16777216,8388608),(64,33554432,16777216),(0,67108864,32),(400,134217728,100663296),(528,268435456,138412032),(1536,536870912,268435456),(0,1073741824,64),(0,2147483648,2),(14336,4294967296,3221225472),(18432,8589934592,4831838208),(32768,17179869184,8589934592),(32768,34359738368,8589934592),(229376,68719476736,51539607552),(524287,0,68719476744)]
def balance_Spread_1_p (n:Nat) (a0:TRoll) (a1:Int) (a2:List Int):Option (Except Tbroken TShare):=
  (balance_counted_p n a0 a1).bind fun z0=>exc z0 (fun d0=>(balance_count_totals_p n d0 a2).bind fun A0=>exc A0 (fun b0=>(balance_count_people_p n d0).bind fun g0=>(balance_fail_p n (decide (g0 = 0)) (7:Int)).bind fun B0=>exc B0 (fun I0=>(b0[0]?).bind fun c0=>(balance_greatest_p n c0 b0).bind fun C0=>(balance_least_p n c0 b0).bind fun D0=>(chk (C0 - D0)).bind fun v0=>(balance_of_p n v0 (1:Int)).bind fun E0=>exc E0 (fun F0=>(balance_of_p n g0 a1).bind fun G0=>exc G0 (fun H0=>(share_Div_p n F0 H0).bind fun j0=>(balance_must_api_Share_p n j0.1 j0.2).bind fun x0=>exc x0 (fun y0=>some (.ok y0)) (fun k0=>some (.error k0))) (fun u0=>some (.error u0))) (fun t0=>some (.error t0))) (fun s0=>some (.error s0))) (fun q0=>some (.error q0))) (fun p0=>some (.error p0))
theorem balance_Spread_1_c (n:Nat) (L:List Nat) (w:World) (hL:∀ b ∈ L,b < w.heap.size) (a0:TRoll) {v0_3:Value} (h0_3:Rep.R w L [v0_3] a0.fUnits) {p0:Nat} (m0:∀ j9 v9,([vI a0.fGroups,vI a0.fParties,vI a0.fLevels,v0_3]:List Value)[j9]? = some v9 → w.cell? ((⟨p0,0,none⟩:Addr).add j9) = some v9) (a1:Int) {p1:Nat} (m1:∀ j9 v9,([vI a1]:List Value)[j9]? = some v9 → w.cell? ((⟨p1,0,none⟩:Addr).add j9) = some v9) (a2:List Int) {v2_0:Value} (h2_0:Rep.R w L [v2_0] a2) {p2:Nat} (m2:∀ j9 v9,([v2_0]:List Value)[j9]? = some v9 → w.cell? ((⟨p2,0,none⟩:Addr).add j9) = some v9)  {r:Except Tbroken TShare} (h:balance_Spread_1_p n a0 a1 a2 = some r) :
    Calls Tryz.prog 90 #[.pointer (some ⟨p0,0,none⟩),.pointer (some ⟨p1,0,none⟩),.pointer (some ⟨p2,0,none⟩)] w (PGives w (fun (y:TShare) _ u=>u = .agg ((cs_TShare y)).toArray) (fun e=>.iface 140 (.agg #[vI e.fErrno])) r):=by
 unfold balance_Spread_1_p at h
 have hS0:=Ax w
 refine MX.startP Tryz.func90 rfl rfl rfl (fun _ cs0 hb0 hp0=>?_)
 refine Ac<|Aj .plain rfl (Av zL hS0) (fun K2 c2 k0 y2=>?_)
 refine Aa<|Ac<|Ab (AB rfl (fun j9 v9 h9=>k0.ag.cell0 (m0 j9 v9 h9)))<|Bd rfl ((fun j9 v9 h9=>k0.ag.cell0 (m1 j9 v9 h9)) 0 _ rfl) ?_
 obtain ⟨V1,H0,h⟩:=bi h
 rcases V1 with k2 | s0
 have h:=exc_e h
 try dsimp only at h
 refine Bu (fst:=[]) (cap:=[]) .plain body50 rfl (e2 rfl rfl) (fun w9 hw9=>balance_counted_c n _ w9 (k0.hL hL hw9) a0 (k0.km h0_3 hw9) a1 H0) (fun M2 t1=>?_)
 obtain ⟨Z0,z2⟩:=k0.agr t1
 cases h
 exact Ba hp0 Tryz.func90 ⟨Z0.ag,rfl⟩
 have h:=exc_o h
 try dsimp only at h
 refine AX (fst:=[]) (cap:=[]) .plain body50 rfl (e2 rfl rfl) (fun w9 hw9=>AU (balance_counted_c n _ w9 (k0.hL hL hw9) a0 (k0.km h0_3 hw9) a1 H0)) rfl (fun P2 G2 u1 ⟨R1,hu_,x0⟩=>?_)
 subst hu_
 obtain ⟨b1,A2⟩:=k0.agr u1
 refine Aj .plain rfl (Av [vI 0,vI 0,vI 0,vN,vI 0] b1) (fun Q2 d2 c1 v0=>?_)
 have C1:=Ap x0 v0
 refine AL [vI s0.fRoll.fGroups,vI s0.fRoll.fParties,vI s0.fRoll.fLevels,R1,vI s0.fk] c1 .hd (o5 rfl rfl rfl (AI C1) rfl) (fun R2 g0 y0=>?_)
 refine Aa<|Ak<|AF 7 tb90_2 (by kernel_rfl) (by kernel_rfl) (by kernel_rfl) (fun j0 q0=>?_)
 refine AD 0 1 116 j0 rfl q0 (AB rfl (g0.memA .hd)) rfl<|AD 1 3 116 j0 rfl q0 (AK rfl ((fun j9 v9 h9=>g0.ag.cell0 (m2 j9 v9 h9)) 0 _ rfl)) rfl ?_
 obtain ⟨W1,I0,h⟩:=bi h
 rcases W1 with q2 | Q0
 have h:=exc_e h
 try dsimp only at h
 refine AD 3 11 112 j0 rfl q0 (AB rfl (g0.memA .hd)) rfl ?_
 have D1:=Ap x0 (Tt v0 y0)
 refine Bs (i:=2) (readyD_ok j0 (by kernel_rfl)) (RO.callE (fst:=[]) (cap:=[]) rfl .plain body58 rfl (e2 rfl rfl) (fun w9 hw9=>balance_count_totals_c n _ w9 (g0.hL hL hw9) s0 (Am D1 hw9) a2 (g0.km h2_0 hw9) I0) (fun U2 v1=>?_))
 obtain ⟨d1,B2⟩:=g0.agr v1
 cases h
 exact Ba hp0 Tryz.func90 ⟨d1.ag,rfl⟩
 have h:=exc_o h
 try dsimp only at h
 refine AD 3 11 112 j0 rfl q0 (AB rfl (g0.memA .hd)) rfl ?_
 have E1:=Ap x0 (Tt v0 y0)
 refine Bi 2 15 j0 rfl .plain body58 rfl (e2 rfl rfl) (fun w9 hw9=>AU (balance_count_totals_c n _ w9 (g0.hL hL hw9) s0 (Am E1 hw9) a2 (g0.km h2_0 hw9) I0)) rfl (fun V2 H2 x1 ⟨F2,hu_,z0⟩=>?_)
 subst hu_
 obtain ⟨c0,q1⟩:=g0.agr x1
 obtain ⟨t0,K1,h⟩:=bi h
 have G1:=Tt v0 (Tt y0 q1)
 have F1:=Ap x0 G1
 refine BI 4 31 96 (vI t0) j0 rfl q0 body71 rfl (e1 rfl) (fun w9 hw9=>balance_count_people_c n _ w9 (c0.hL0 hL hw9) s0 (c0.kd F1 hw9) K1) rfl<|Ah 5 63 j0 rfl q0 (fun _=>AJ rfl) rfl<|Ah 6 127 j0 rfl q0 (fun _=>AJ rfl) rfl<|AE (doneD_ok j0 (by kernel_rfl))<|Ac<|Ae rfl<|Ab (FV.eql (i:=t0) (j:=0) rfl rfl) ?_
 obtain ⟨X1,J0,h⟩:=bi h
 rcases X1 with s2 | Z2
 have h:=exc_e h
 try dsimp only at h
 refine Bu (fst:=[]) (cap:=[]) .plain body75 rfl (e2 rfl rfl) (fun w9 hw9=>balance_fail_c n _ w9 (c0.hL0 hL hw9) (decide (t0 = 0)) (7:Int) J0) (fun W2 y1=>?_)
 obtain ⟨g1,C2⟩:=c0.agr y1
 cases h
 exact Ba hp0 Tryz.func90 ⟨g1.ag,rfl⟩
 have h:=exc_o h
 try dsimp only at h
 refine Bf (.tuple #[]) body75 rfl (e2 rfl rfl) (fun w9 hw9=>AU (balance_fail_c n _ w9 (c0.hL0 hL hw9) (decide (t0 = 0)) (7:Int) J0)) rfl<|Aa<|Ak<|AF 19 tb90_4 (by kernel_rfl) (by kernel_rfl) (by kernel_rfl) (fun b0 d0=>?_)
 refine Ah 0 1 b0 rfl d0 (fun _=>Ai rfl) rfl ?_
 obtain ⟨A0,J1,h⟩:=bi h
 obtain ⟨b2,g2,D0,E0,X0,H1,F0⟩:=Bm z0 J1
 have B1:X0 = [vI A0]:=H1; subst B1
 refine Ah 1 3 b0 rfl d0 (fun _=>Bo 1 0 rfl D0 rfl rfl E0) rfl<|AD 2 7 1035792 b0 rfl d0 (AK rfl (F0 0 _ rfl)) rfl<|Ah 3 15 b0 rfl d0 (fun _=>Ai rfl) rfl ?_
 obtain ⟨R0,M1,h⟩:=bi h
 refine BI 4 31 1035776 (vI R0) b0 rfl d0 body60 rfl (e2 rfl rfl) (fun w9 hw9=>balance_greatest_c n _ w9 (c0.hL0 hL hw9) A0 Q0 (c0.kd z0 hw9) M1) rfl<|Ah 5 63 b0 rfl d0 (fun _=>Ai rfl) rfl<|Ah 6 127 b0 rfl d0 (fun _=>Bo 1 0 rfl D0 rfl rfl E0) rfl<|AD 7 255 1035776 b0 rfl d0 (AK rfl (F0 0 _ rfl)) rfl<|Ah 8 511 b0 rfl d0 (fun _=>Ai rfl) rfl ?_
 obtain ⟨U0,P1,h⟩:=bi h
 refine BI 9 1023 1035264 (vI U0) b0 rfl d0 body59 rfl (e2 rfl rfl) (fun w9 hw9=>balance_least_c n _ w9 (c0.hL0 hL hw9) A0 Q0 (c0.kd z0 hw9) P1) rfl ?_
 obtain ⟨P0,I1,h⟩:=bi h
 refine Ah 10 2047 b0 rfl d0 (fun _=>FV.subc (i:=R0) (j:=U0) rfl rfl I1) rfl ?_
 obtain ⟨Y1,K0,h⟩:=bi h
 rcases Y1 with t2 | V0
 have h:=exc_e h
 try dsimp only at h
 refine Ah 12 6143 b0 rfl d0 (fun _=>Ai rfl) rfl<|AD 13 14335 1032192 b0 rfl d0 (AK rfl ((fun j9 v9 h9=>c0.ag.cell0 (m1 j9 v9 h9)) 0 _ rfl)) rfl<|Bs (i:=11) (readyD_ok b0 (by kernel_rfl)) (RO.callE (fst:=[]) (cap:=[]) rfl .plain body70 rfl (e2 rfl rfl) (fun w9 hw9=>balance_of_c n _ w9 (c0.hL0 hL hw9) P0 (1:Int) K0) (fun X2 z1=>?_))
 obtain ⟨j1,D2⟩:=c0.agr z1
 cases h
 exact Ba hp0 Tryz.func90 ⟨j1.ag,rfl⟩
 have h:=exc_o h
 try dsimp only at h
 refine BI 11 4095 1032192 (.agg ((cs_TShare V0)).toArray) b0 rfl d0 body70 rfl (e2 rfl rfl) (fun w9 hw9=>AU (balance_of_c n _ w9 (c0.hL0 hL hw9) P0 (1:Int) K0)) rfl<|Ah 12 8191 b0 rfl d0 (fun _=>Ai rfl) rfl<|AD 13 16383 1032192 b0 rfl d0 (AK rfl ((fun j9 v9 h9=>c0.ag.cell0 (m1 j9 v9 h9)) 0 _ rfl)) rfl ?_
 obtain ⟨Z1,M0,h⟩:=bi h
 rcases Z1 with u2 | W0
 have h:=exc_e h
 try dsimp only at h
 refine Bs (i:=14) (readyD_ok b0 (by kernel_rfl)) (RO.callE (fst:=[]) (cap:=[]) rfl .plain body70 rfl (e2 rfl rfl) (fun w9 hw9=>balance_of_c n _ w9 (c0.hL0 hL hw9) t0 a1 M0) (fun Y2 A1=>?_))
 obtain ⟨k1,E2⟩:=c0.agr A1
 cases h
 exact Ba hp0 Tryz.func90 ⟨k1.ag,rfl⟩
 have h:=exc_o h
 try dsimp only at h
 refine BI 14 32767 1015808 (.agg ((cs_TShare W0)).toArray) b0 rfl d0 body70 rfl (e2 rfl rfl) (fun w9 hw9=>AU (balance_of_c n _ w9 (c0.hL0 hL hw9) t0 a1 M0)) rfl ?_
 obtain ⟨u0,Q1,h⟩:=bi h
 refine BI 15 65535 983040 (.tuple #[.agg ((cs_TShare u0.1)).toArray,vI u0.2]) b0 rfl d0 body77 rfl (e2 rfl rfl) (fun w9 hw9=>share_Div_c n _ w9 (c0.hL0 hL hw9) V0 W0 Q1) rfl<|Ah 16 131071 b0 rfl d0 (fun _=>Af rfl rfl) rfl<|Ah 17 262143 b0 rfl d0 (fun _=>Af rfl rfl) rfl ?_
 obtain ⟨U1,G0,h⟩:=bi h
 rcases U1 with j2 | B0
 have h:=exc_e h
 try dsimp only at h
 refine Bs (i:=18) (readyD_ok b0 (by kernel_rfl)) (RO.callE (fst:=[]) (cap:=[]) rfl .plain body76 rfl (e2 rfl rfl) (fun w9 hw9=>balance_must_api_Share_c n _ w9 (c0.hL0 hL hw9) u0.1 u0.2 G0) (fun I2 s1=>?_))
 obtain ⟨Y0,v2⟩:=c0.agr s1
 cases h
 exact Ba hp0 Tryz.func90 ⟨Y0.ag,rfl⟩
 have h:=exc_o h
 try dsimp only at h
 refine BI 18 524287 524288 (.agg ((cs_TShare B0)).toArray) b0 rfl d0 body76 rfl (e2 rfl rfl) (fun w9 hw9=>AU (balance_must_api_Share_c n _ w9 (c0.hL0 hL hw9) u0.1 u0.2 G0)) rfl<|Bt 19 1048575 b0 rfl rfl .plain (Ay (news:=(cs_TShare B0)) c0 (.tl .hd) rfl rfl rfl rfl rfl rfl (onesB rfl)) (fun J2 C0 x2=>?_)
 refine AE (doneD_ok b0 (by kernel_rfl))<|Al rfl<|Ao hb0 Tryz.func90 rfl (.cons (.many (cs:=(cs_TShare B0)) (by kernel_rfl) rfl (C0.memA (.tl .hd))) .nil) rfl ?_
 cases h
 exact ⟨C0.ag,fun w9 hw9=>okOf_in rfl⟩
theorem body90:bodyB Tryz.prog 90 = true:=by kernel_rfl
def balance_Spread_p (n:Nat) (a0:TRoll) (a1:List Int) (a2:Int):Option (TShare × Int):=
  (balance_Spread_1_p n a0 a2 a1).bind fun c0=>exc c0 (fun d0=>some (d0,(0:Int))) (fun b0=>some ((⟨((0:UInt64),(0:UInt64),(0:UInt64),(0:UInt64),(0:UInt64),(0:UInt64),(0:UInt64),(0:UInt64)),((0:UInt64),(0:UInt64),(0:UInt64),(0:UInt64),(0:UInt64),(0:UInt64),(0:UInt64),(0:UInt64))⟩:TShare),b0.fErrno))
theorem balance_Spread_c (n:Nat) (L:List Nat) (w:World) (hL:∀ b ∈ L,b < w.heap.size) (a0:TRoll) {v0_3:Value} (h0_3:Rep.R w L [v0_3] a0.fUnits) (a1:List Int) {v1_0:Value} (h1_0:Rep.R w L [v1_0] a1) (a2:Int)  {r:TShare × Int} (h:balance_Spread_p n a0 a1 a2 = some r) :
    Calls Tryz.prog 33 #[.agg #[vI a0.fGroups,vI a0.fParties,vI a0.fLevels,v0_3],v1_0,vI a2] w (Gives w fun _ u=>u = .tuple #[.agg ((cs_TShare r.1)).toArray,vI r.2]):=by
 unfold balance_Spread_p at h
 have hS0:=Ax w
 refine AA Tryz.func33 rfl rfl rfl (fun _ cs0 hb0=>?_)
 refine Ac<|Aj .plain rfl (Aw hS0 rfl rfl) (fun X1 g0 E0 H1=>?_)
 have t1:=AM h1_0 E0
 refine Aj .plain rfl (Aw E0 rfl (Rep.c1 t1)) (fun g2 j0 V0 I1=>?_)
 refine Aj .plain rfl (Aw V0 rfl rfl) (fun j2 p0 W0 J1=>?_)
 refine Aj .plain rfl (Av zL W0) (fun k2 x0 X0 K1=>?_)
 refine Ag rfl<|Aa<|Ac<|Ab (BG (vs:=[]) (us:=[vP g0,vP p0,vP j0]) evs_nil (e3 rfl rfl rfl))<|Bw (fst:=[]) (cap:=[]) (vs:=[.func (.func 90) #[] #[vP g0,vP p0,vP j0]]) .plain body68 Tryz.func68 rfl rfl rfl rfl (e1 rfl) rfl (fun A1 H0 W1=>?_)
 refine Ac<|Aj .plain rfl (Av zL X0) (fun p2 q0 Y0 M1=>?_)
 refine Aj .plain rfl (Av [vI 0] Y0) (fun q2 d0 b0 P1=>?_)
 refine Aa<|Ac<|Ab (BG (vs:=[]) (us:=[vP q0,vP d0]) evs_nil (e2 rfl rfl))<|RG.defer (fst:=[]) (cap:=[vP q0,vP d0]) (vs:=[]) rfl .plain rfl evs_nil<|Aa<|Ac<|Ae rfl ?_
 obtain ⟨x1,J0,h⟩:=bi h
 rcases x1 with t0 | s0
 have h:=exc_e h
 try dsimp only at h
 refine Bu (fst:=[]) (cap:=[vP g0,vP p0,vP j0]) .plain body90 rfl evs_nil (fun w9 hw9=>balance_Spread_1_c n _ w9 (b0.hL0 hL hw9) a0 (b0.k0 h0_3 hw9) (fun j9 v9 h9=>hw9.cell0 ((b0.memA (.tl (.tl (.tl (.tl (.tl .hd)))))) j9 v9 h9)) a2 (fun j9 v9 h9=>hw9.cell0 ((b0.memA (.tl (.tl (.tl .hd)))) j9 v9 h9)) a1 (b0.k0 h1_0 hw9) (fun j9 v9 h9=>hw9.cell0 ((b0.memA (.tl (.tl (.tl (.tl .hd))))) j9 v9 h9)) J0) (fun s2 k1=>?_)
 obtain ⟨Z0,Q1⟩:=b0.agr k1
 refine PN.callD (vs:=[]) (cap:=[vP q0,vP d0]) body123 Tryz.func123 rfl rfl rfl (fun z1 p1 s1=>?_)
 refine Ac<|RG.recover1 .plain p1 rfl<|Ag rfl<|Aa<|Ac<|Ae rfl<|Ab (FV.neqI Tryz.underlying20 rfl rfl)<|Aa<|Bp rfl<|Ac<|Ae rfl<|Ab (FV.assertT (by kernel_rfl) rfl)<|Ae rfl<|Ab (Af rfl rfl)<|Ab (Af rfl rfl)<|Aj .plain rfl (Av [vI 0] Z0) (fun t2 K0 b1 R1=>?_)
 refine AL [vI t0.fErrno] b1 .hd (o1 rfl) (fun u2 d1 U1=>?_)
 refine Ag rfl<|Aa<|Ak<|Ac<|Ae rfl<|Ab (Bz rfl)<|Aa<|Bv rfl<|Aq<|Ac<|Aj .plain rfl (Av zL d1) (fun u1 M0 u0 V1=>?_)
 refine Aa<|AF 3 tb123_6 (by kernel_rfl) (by kernel_rfl) (by kernel_rfl) (fun c0 B0=>?_)
 refine AD 0 1 24 c0 rfl B0 (AB rfl (u0.memA .hd)) rfl<|Ah 1 3 c0 rfl B0 (fun _=>Bh 0 rfl) rfl<|RD.meet (α:=Unit) (fun ()=>[(1,vP d0),(19,vI t0.fErrno)]) (fun () C0=>St w C0 [.cells d0 [vI 0] 51,.cells q0 zL 37,.cells x0 zL 37,.cells p0 [vI a2] 3,.cells j0 [v1_0] 46,.cells g0 [vI a0.fGroups,vI a0.fParties,vI a0.fLevels,v0_3] 44]∧Tr u1 [.cells M0 zL 37,.cells K0 [vI t0.fErrno] 140,.cells d0 [vI 0] 51,.cells q0 zL 37,.cells x0 zL 37,.cells p0 [vI a2] 3,.cells j0 [v1_0] 46,.cells g0 [vI a0.fGroups,vI a0.fParties,vI a0.fLevels,v0_3] 44] C0 [.cells d0 [vI 0] 51,.cells q0 zL 37,.cells x0 zL 37,.cells p0 [vI a2] 3,.cells j0 [v1_0] 46,.cells g0 [vI a0.fGroups,vI a0.fParties,vI a0.fLevels,v0_3] 44]) 1 15 ?_ ?_
 rintro ⟨⟩ C0 ⟨P0,B1⟩
 try dsimp only
 refine Bt 4 31 c0 rfl rfl .plain (Ay (news:=[vI t0.fErrno]) P0 .hd rfl rfl rfl rfl rfl rfl (o1 rfl)) (fun Y1 y0 C1=>?_)
 refine AE (doneD_ok c0 (by kernel_rfl))<|MX.fin rfl<|RT.leaveD1 s1 Tryz.func123 rfl .nil<|Ao (u:=.tuple #[.agg zM,vI t0.fErrno]) H0 Tryz.func68 rfl (.cons (.many (cs:=zL) (by kernel_rfl) rfl (y0.memA (.tl .hd))) (.cons (.one (by kernel_rfl) rfl ((y0.memA .hd) 0 _ rfl)) .nil)) rfl<|Ab (Af rfl rfl)<|Ab (Af rfl rfl)<|AL zL y0 (.tl (.tl .hd)) (onesB rfl) (fun Z1 F0 D1=>?_)
 refine Ag rfl<|Aa<|Al rfl<|Ao hb0 Tryz.func33 rfl (.cons (.many (cs:=zL) (by kernel_rfl) rfl (F0.memA (.tl (.tl .hd)))) (.cons (.tmp rfl) .nil)) rfl ?_
 cases h
 exact F0.gv
 intro D0
 refine RD.each [2,3] (readyD_ok c0 (by kernel_rfl)) ⟨?_,?_,trivial⟩
 refine RO.val (m' :=7) (stepC_ok c0 (by kernel_rfl)) rfl .plain rfl (AK rfl ((u0.memA (.tl .hd)) 0 _ rfl))<|Bt 3 15 c0 rfl rfl .plain (Ay (news:=zL) u0 (.tl (.tl (.tl .hd))) rfl rfl rfl rfl rfl rfl (onesB rfl)) (fun v1 v0 A0=>?_)
 obtain ⟨Q0,g1⟩:=AH v0 (.one (.tl (.tl .hd)) (.one (.tl (.tl .hd)) (.one (.tl (.tl .hd)) (.one (.tl (.tl .hd)) (.one (.tl (.tl .hd)) (.one (.tl (.tl .hd)) .done))))))
 exact D0 () _ _ ⟨rfl,rfl,trivial⟩ ⟨Q0,(Tt A0 g1)⟩
 refine RO.now (m' :=11) (stepC_ok c0 (by kernel_rfl)) rfl rfl .plain (Ay (news:=zL) u0 (.tl (.tl (.tl .hd))) rfl rfl rfl rfl rfl rfl (onesB rfl)) (fun v1 v0 A0=>?_)
 refine AD 2 15 16 c0 rfl B0 (AK rfl ((v0.memA (.tl .hd)) 0 _ rfl)) rfl ?_
 obtain ⟨R0,j1⟩:=AH v0 (.one (.tl (.tl .hd)) (.one (.tl (.tl .hd)) (.one (.tl (.tl .hd)) (.one (.tl (.tl .hd)) (.one (.tl (.tl .hd)) (.one (.tl (.tl .hd)) .done))))))
 exact D0 () _ _ ⟨rfl,rfl,trivial⟩ ⟨R0,(Tt A0 j1)⟩
 have h:=exc_o h
 try dsimp only at h
 refine RG.callq' (v:=.agg ((cs_TShare s0)).toArray) (fst:=[]) (cap:=[vP g0,vP p0,vP j0]) .plain body90 rfl evs_nil (fun w9 hw9=>AU (balance_Spread_1_c n _ w9 (b0.hL0 hL hw9) a0 (b0.k0 h0_3 hw9) (fun j9 v9 h9=>hw9.cell0 ((b0.memA (.tl (.tl (.tl (.tl (.tl .hd)))))) j9 v9 h9)) a2 (fun j9 v9 h9=>hw9.cell0 ((b0.memA (.tl (.tl (.tl .hd)))) j9 v9 h9)) a1 (b0.k0 h1_0 hw9) (fun j9 v9 h9=>hw9.cell0 ((b0.memA (.tl (.tl (.tl (.tl .hd))))) j9 v9 h9)) J0)) rfl<|AL (cs_TShare s0) b0 (.tl .hd) (onesB rfl) (fun b2 U0 E1=>?_)
 refine AL [vI 0] U0 .hd (o1 rfl) (fun c2 z0 F1=>?_)
 refine Aa<|Al rfl<|RT.callD (vs:=[]) (cap:=[vP q0,vP d0]) body123 Tryz.func123 rfl rfl rfl (fun y1 I0 q1=>?_)
 refine Ac<|RG.recover0 .plain I0 rfl<|Ag rfl<|Aa<|Ac<|Ae rfl<|Ab (FV.neqI0 Tryz.underlying20 rfl rfl)<|Aa<|Bv rfl<|Aq<|MX.fin rfl<|RT.leaveD0 I0 q1 Tryz.func123 rfl .nil<|Ao (u:=.tuple #[.agg ((cs_TShare s0)).toArray,vI 0]) H0 Tryz.func68 rfl (.cons (.many (cs:=(cs_TShare s0)) (by kernel_rfl) rfl (z0.memA (.tl .hd))) (.cons (.one (by kernel_rfl) rfl ((z0.memA .hd) 0 _ rfl)) .nil)) rfl<|Ab (Af rfl rfl)<|Ab (Af rfl rfl)<|AL (cs_TShare s0) z0 (.tl (.tl .hd)) (onesB rfl) (fun d2 G0 G1=>?_)
 refine Ag rfl<|Aa<|Al rfl<|Ao hb0 Tryz.func33 rfl (.cons (.many (cs:=(cs_TShare s0)) (by kernel_rfl) rfl (G0.memA (.tl (.tl .hd)))) (.cons (.tmp rfl) .nil)) rfl ?_
 cases h
 exact G0.gv
theorem el42:ElT Tryz.prog 42 65 (Rep.size TUnit) 104 (.agg #[.string ⟨#[]⟩,vI 0,vN,vN,vN,.bool false]) [.string ⟨#[]⟩,vI 0,vN,vN,vN,.bool false]:=⟨Tryz.underlying42,by kernel_rfl,rfl,rfl,rfl,rfl⟩
def wardmotelaw22_four_p (_n:Nat):Option TRoll:=
  (app ([]:List TUnit) ([(⟨⟨#[97]⟩,(10:Int),([]:List Int),([]:List Int),([]:List Int),false⟩:TUnit)]:List TUnit)).bind fun c0=>(app c0 ([(⟨⟨#[98]⟩,(20:Int),([]:List Int),([]:List Int),([]:List Int),false⟩:TUnit)]:List TUnit)).bind fun d0=>(app d0 ([(⟨⟨#[99]⟩,(30:Int),([]:List Int),([]:List Int),([]:List Int),false⟩:TUnit)]:List TUnit)).bind fun g0=>(app g0 ([(⟨⟨#[100]⟩,(40:Int),([]:List Int),([]:List Int),([]:List Int),false⟩:TUnit)]:List TUnit)).bind fun b0=>some (⟨(0:Int),(0:Int),(0:Int),b0⟩:TRoll)
theorem wardmotelaw22_four_c (n:Nat) (L:List Nat) (w:World) (_hL:∀ b ∈ L,b < w.heap.size)  {r:TRoll} (h:wardmotelaw22_four_p n = some r) :
    Calls Tryz.prog 36 #[] w (Gives w fun w' u=>∃ (v0_3:Value) (cs0_3:List Value),u = .agg #[vI r.fGroups,vI r.fParties,vI r.fLevels,v0_3]∧St w w' (rowsOf w.heap.size [(65,Rep.size TUnit,v0_3,r.fUnits.length,cs0_3)])∧Cells w' (bl (rowsOf w.heap.size [(65,Rep.size TUnit,v0_3,r.fUnits.length,cs0_3)]) ++ L) cs0_3 (r.fUnits:List TUnit)):=by
 unfold wardmotelaw22_four_p at h
 have hS0:=Ax w
 refine AA Tryz.func36 rfl rfl rfl (fun _ cs0 hb0=>?_)
 refine Ac<|Aj .plain rfl (Av [vI 0,vI 0,vI 0,vN] hS0) (fun B2 V1 M0 k2=>?_)
 refine Aa<|Ac<|Aj .plain rfl (Av [vI 0,vI 0,vI 0,vN] M0) (fun E2 W1 q0 p2=>?_)
 refine Aa<|Ak<|Ac<|Ab (AS (vs:=[.string ⟨#[97]⟩,.string ⟨#[98]⟩,.string ⟨#[99]⟩,.string ⟨#[100]⟩]) (u:=.agg #[.string ⟨#[97]⟩,.string ⟨#[98]⟩,.string ⟨#[99]⟩,.string ⟨#[100]⟩]) (e4 rfl rfl rfl rfl) (fun w9=>by kernel_rfl))<|Ae rfl<|Aa<|Az<|MX.loop1<|Ac<|Ab (Bn (i:=0) (j:=4) rfl rfl)<|Aa<|Ak<|Bp rfl<|Aq<|Ak<|Az<|Ac<|Ae rfl<|Ab (FV.idx1 (cs:=[.string ⟨#[97]⟩,.string ⟨#[98]⟩,.string ⟨#[99]⟩,.string ⟨#[100]⟩]) (k:=0) (m:=1) (len:=4) (by kernel_rfl) (by kernel_rfl) rfl rfl rfl (by omega) rfl)<|Ag rfl<|Ag rfl<|Aa<|Ar<|Bg 3 rfl ?_
 refine Bd rfl ((q0.memA .hd) 3 _ rfl)<|Ae rfl<|Ae rfl<|Ab (FV.add (i:=0) (j:=1) (r:=1) rfl rfl (by decide))<|Ab (FV.mul (i:=10) (j:=1) (r:=10) rfl rfl (by decide))<|Ab (AS (vs:=[.string ⟨#[97]⟩,vI 10]) (u:=.agg #[.string ⟨#[97]⟩,vI 10,vN,vN,vN,.bool false]) (e2 rfl rfl) (fun w9=>by kernel_rfl)) ?_
 have v2:=Rep.nilAt (α:=Int) q0 L
 refine Aj .plain rfl (AW (α:=TUnit) (xs:=([(⟨⟨#[97]⟩,(10:Int),([]:List Int),([]:List Int),([]:List Int),false⟩:TUnit)]:List TUnit)) (vs:=[.agg #[.string ⟨#[97]⟩,vI 10,vN,vN,vN,.bool false]]) (ds' :=[.string ⟨#[97]⟩,vI 10,vN,vN,vN,.bool false]) rfl q0 el42 rfl (e1 rfl) (by kernel_rfl) rfl) (fun F2 X1 c0 q2=>?_)
 have A0:=Rep.nilAt (α:=Int) c0 L
 have u1:=AG (cs:=[.string ⟨#[97]⟩,vI 10,vN,vN,vN,.bool false]) (xs:=(([(⟨⟨#[97]⟩,(10:Int),([]:List Int),([]:List Int),([]:List Int),false⟩:TUnit)]:List TUnit):List TUnit)) c0 L (Au (cs:=[.string ⟨#[97]⟩,vI 10,vN,vN,vN,.bool false]) (ds:=[]) (mk_TUnit ⟨#[97]⟩ (10:Int) ([]:List Int) A0 ([]:List Int) A0 ([]:List Int) A0 false) (AO _ _))
 have s0:=c0.nilRow 65 (Rep.size TUnit)
 have Y0:=St.nilRowT c0 65 (Rep.size TUnit)
 have v1:=AG (cs:=[]) (xs:=([]:List TUnit)) s0 L (AO _ _)
 obtain ⟨V2,Q1,h⟩:=bi h
 have F1:=AN u1 Y0
 refine RG.doesL .plain rfl (BJ (α:=TUnit) (ys:=([(⟨⟨#[97]⟩,(10:Int),([]:List Int),([]:List Int),([]:List Int),false⟩:TUnit)]:List TUnit)) Q1 s0 (fun _ _=>.hd) el42 rfl rfl v1 (Src.row (α:=TUnit) s0 (.tl .hd) F1)) (fun E0 G2 ⟨c2,t0,s2,x1⟩=>?_)
 refine Bg 3 rfl<|RG.now .plain (BH (j:=3) (old:=[vI 0,vI 0,vI 0,vN]) (news:=[E0]) (new' :=[vI 0,vI 0,vI 0,E0]) t0 (.tl (.tl .hd)) rfl rfl rfl (St.c1 (α:=TUnit) t0 .hd) rfl rfl (o1 (St.o1 (α:=TUnit) t0 .hd)) rfl) (fun H2 P0 Z0=>?_)
 refine Aa<|AC<|Ar<|Ab (FV.add (i:=0) (j:=1) (r:=1) rfl rfl (by decide))<|Ae rfl<|Aa<|MX.again1 ?_
 obtain ⟨u0,b1⟩:=AH P0 (.one .hd (.one (.tl .hd) (.one (.tl .hd) .done)))
 refine Ac<|Ab (Bn (i:=1) (j:=4) rfl rfl)<|Aa<|Ak<|Bp rfl<|Aq<|Ak<|Az<|Ac<|Ae rfl<|Ab (FV.idx1 (cs:=[.string ⟨#[97]⟩,.string ⟨#[98]⟩,.string ⟨#[99]⟩,.string ⟨#[100]⟩]) (k:=1) (m:=1) (len:=4) (by kernel_rfl) (by kernel_rfl) rfl rfl rfl (by omega) rfl)<|Ag rfl<|Ag rfl<|Aa<|Ar<|Bg 3 rfl<|Bd rfl ((u0.memA (.tl .hd)) 3 _ rfl)<|Ae rfl<|Ae rfl<|Ab (FV.add (i:=1) (j:=1) (r:=2) rfl rfl (by decide))<|Ab (FV.mul (i:=10) (j:=2) (r:=20) rfl rfl (by decide))<|Ab (AS (vs:=[.string ⟨#[98]⟩,vI 20]) (u:=.agg #[.string ⟨#[98]⟩,vI 20,vN,vN,vN,.bool false]) (e2 rfl rfl) (fun w9=>by kernel_rfl)) ?_
 have x2:=Rep.nilAt (α:=Int) u0 L
 refine Aj .plain rfl (AW (α:=TUnit) (xs:=([(⟨⟨#[98]⟩,(20:Int),([]:List Int),([]:List Int),([]:List Int),false⟩:TUnit)]:List TUnit)) (vs:=[.agg #[.string ⟨#[98]⟩,vI 20,vN,vN,vN,.bool false]]) (ds' :=[.string ⟨#[98]⟩,vI 20,vN,vN,vN,.bool false]) rfl u0 el42 rfl (e1 rfl) (by kernel_rfl) rfl) (fun I2 Y1 d0 d1=>?_)
 have B0:=Rep.nilAt (α:=Int) d0 L
 have y1:=AG (cs:=[.string ⟨#[98]⟩,vI 20,vN,vN,vN,.bool false]) (xs:=(([(⟨⟨#[98]⟩,(20:Int),([]:List Int),([]:List Int),([]:List Int),false⟩:TUnit)]:List TUnit):List TUnit)) d0 L (Au (cs:=[.string ⟨#[98]⟩,vI 20,vN,vN,vN,.bool false]) (ds:=[]) (mk_TUnit ⟨#[98]⟩ (20:Int) ([]:List Int) B0 ([]:List Int) B0 ([]:List Int) B0 false) (AO _ _))
 obtain ⟨W2,R1,h⟩:=bi h
 have K1:=Tt Z0 (Tt b1 d1)
 have G1:=AN x1 K1
 refine RG.doesL .plain rfl (BJ (α:=TUnit) (ys:=([(⟨⟨#[98]⟩,(20:Int),([]:List Int),([]:List Int),([]:List Int),false⟩:TUnit)]:List TUnit)) R1 d0 (fun _ _=>(.tl .hd)) el42 rfl rfl G1 (Src.row (α:=TUnit) d0 .hd y1)) (fun F0 J2 ⟨d2,v0,t2,z1⟩=>?_)
 refine Bg 3 rfl<|RG.now .plain (BH (j:=3) (old:=[vI 0,vI 0,vI 0,E0]) (news:=[F0]) (new' :=[vI 0,vI 0,vI 0,F0]) v0 (.tl (.tl .hd)) rfl rfl rfl (St.c1 (α:=TUnit) v0 (.tl .hd)) rfl rfl (o1 (St.o1 (α:=TUnit) v0 (.tl .hd))) rfl) (fun K2 Q0 g1=>?_)
 refine Aa<|AC<|Ar<|Ab (FV.add (i:=1) (j:=1) (r:=2) rfl rfl (by decide))<|Ae rfl<|Aa<|MX.again1 ?_
 obtain ⟨x0,j1⟩:=AH Q0 (.one (.tl .hd) (.one (.tl .hd) (.one (.tl .hd) .done)))
 refine Ac<|Ab (Bn (i:=2) (j:=4) rfl rfl)<|Aa<|Ak<|Bp rfl<|Aq<|Ak<|Az<|Ac<|Ae rfl<|Ab (FV.idx1 (cs:=[.string ⟨#[97]⟩,.string ⟨#[98]⟩,.string ⟨#[99]⟩,.string ⟨#[100]⟩]) (k:=2) (m:=1) (len:=4) (by kernel_rfl) (by kernel_rfl) rfl rfl rfl (by omega) rfl)<|Ag rfl<|Ag rfl<|Aa<|Ar<|Bg 3 rfl<|Bd rfl ((x0.memA (.tl .hd)) 3 _ rfl)<|Ae rfl<|Ae rfl<|Ab (FV.add (i:=2) (j:=1) (r:=3) rfl rfl (by decide))<|Ab (FV.mul (i:=10) (j:=3) (r:=30) rfl rfl (by decide))<|Ab (AS (vs:=[.string ⟨#[99]⟩,vI 30]) (u:=.agg #[.string ⟨#[99]⟩,vI 30,vN,vN,vN,.bool false]) (e2 rfl rfl) (fun w9=>by kernel_rfl)) ?_
 have y2:=Rep.nilAt (α:=Int) x0 L
 refine Aj .plain rfl (AW (α:=TUnit) (xs:=([(⟨⟨#[99]⟩,(30:Int),([]:List Int),([]:List Int),([]:List Int),false⟩:TUnit)]:List TUnit)) (vs:=[.agg #[.string ⟨#[99]⟩,vI 30,vN,vN,vN,.bool false]]) (ds' :=[.string ⟨#[99]⟩,vI 30,vN,vN,vN,.bool false]) rfl x0 el42 rfl (e1 rfl) (by kernel_rfl) rfl) (fun M2 Z1 g0 k1=>?_)
 have C0:=Rep.nilAt (α:=Int) g0 L
 have A1:=AG (cs:=[.string ⟨#[99]⟩,vI 30,vN,vN,vN,.bool false]) (xs:=(([(⟨⟨#[99]⟩,(30:Int),([]:List Int),([]:List Int),([]:List Int),false⟩:TUnit)]:List TUnit):List TUnit)) g0 L (Au (cs:=[.string ⟨#[99]⟩,vI 30,vN,vN,vN,.bool false]) (ds:=[]) (mk_TUnit ⟨#[99]⟩ (30:Int) ([]:List Int) C0 ([]:List Int) C0 ([]:List Int) C0 false) (AO _ _))
 obtain ⟨X2,U1,h⟩:=bi h
 have M1:=Tt g1 (Tt j1 k1)
 have H1:=AN z1 M1
 refine RG.doesL .plain rfl (BJ (α:=TUnit) (ys:=([(⟨⟨#[99]⟩,(30:Int),([]:List Int),([]:List Int),([]:List Int),false⟩:TUnit)]:List TUnit)) U1 g0 (fun _ _=>(.tl .hd)) el42 rfl rfl H1 (Src.row (α:=TUnit) g0 .hd A1)) (fun G0 P2 ⟨g2,y0,u2,B1⟩=>?_)
 refine Bg 3 rfl<|RG.now .plain (BH (j:=3) (old:=[vI 0,vI 0,vI 0,F0]) (news:=[G0]) (new' :=[vI 0,vI 0,vI 0,G0]) y0 (.tl (.tl .hd)) rfl rfl rfl (St.c1 (α:=TUnit) y0 (.tl .hd)) rfl rfl (o1 (St.o1 (α:=TUnit) y0 (.tl .hd))) rfl) (fun Q2 R0 p1=>?_)
 refine Aa<|AC<|Ar<|Ab (FV.add (i:=2) (j:=1) (r:=3) rfl rfl (by decide))<|Ae rfl<|Aa<|MX.again1 ?_
 obtain ⟨z0,q1⟩:=AH R0 (.one (.tl .hd) (.one (.tl .hd) (.one (.tl .hd) .done)))
 refine Ac<|Ab (Bn (i:=3) (j:=4) rfl rfl)<|Aa<|Ak<|Bp rfl<|Aq<|Ak<|Az<|Ac<|Ae rfl<|Ab (FV.idx1 (cs:=[.string ⟨#[97]⟩,.string ⟨#[98]⟩,.string ⟨#[99]⟩,.string ⟨#[100]⟩]) (k:=3) (m:=1) (len:=4) (by kernel_rfl) (by kernel_rfl) rfl rfl rfl (by omega) rfl)<|Ag rfl<|Ag rfl<|Aa<|Ar<|Bg 3 rfl<|Bd rfl ((z0.memA (.tl .hd)) 3 _ rfl)<|Ae rfl<|Ae rfl<|Ab (FV.add (i:=3) (j:=1) (r:=4) rfl rfl (by decide))<|Ab (FV.mul (i:=10) (j:=4) (r:=40) rfl rfl (by decide))<|Ab (AS (vs:=[.string ⟨#[100]⟩,vI 40]) (u:=.agg #[.string ⟨#[100]⟩,vI 40,vN,vN,vN,.bool false]) (e2 rfl rfl) (fun w9=>by kernel_rfl)) ?_
 have z2:=Rep.nilAt (α:=Int) z0 L
 refine Aj .plain rfl (AW (α:=TUnit) (xs:=([(⟨⟨#[100]⟩,(40:Int),([]:List Int),([]:List Int),([]:List Int),false⟩:TUnit)]:List TUnit)) (vs:=[.agg #[.string ⟨#[100]⟩,vI 40,vN,vN,vN,.bool false]]) (ds' :=[.string ⟨#[100]⟩,vI 40,vN,vN,vN,.bool false]) rfl z0 el42 rfl (e1 rfl) (by kernel_rfl) rfl) (fun R2 b2 j0 s1=>?_)
 have D0:=Rep.nilAt (α:=Int) j0 L
 have C1:=AG (cs:=[.string ⟨#[100]⟩,vI 40,vN,vN,vN,.bool false]) (xs:=(([(⟨⟨#[100]⟩,(40:Int),([]:List Int),([]:List Int),([]:List Int),false⟩:TUnit)]:List TUnit):List TUnit)) j0 L (Au (cs:=[.string ⟨#[100]⟩,vI 40,vN,vN,vN,.bool false]) (ds:=[]) (mk_TUnit ⟨#[100]⟩ (40:Int) ([]:List Int) D0 ([]:List Int) D0 ([]:List Int) D0 false) (AO _ _))
 obtain ⟨U2,P1,h⟩:=bi h
 have I1:=Tt p1 (Tt q1 s1)
 have D1:=AN B1 I1
 refine RG.doesL .plain rfl (BJ (α:=TUnit) (ys:=([(⟨⟨#[100]⟩,(40:Int),([]:List Int),([]:List Int),([]:List Int),false⟩:TUnit)]:List TUnit)) P1 j0 (fun _ _=>(.tl .hd)) el42 rfl rfl D1 (Src.row (α:=TUnit) j0 .hd C1)) (fun b0 A2 ⟨J0,k0,j2,t1⟩=>?_)
 refine Bg 3 rfl<|RG.now .plain (BH (j:=3) (old:=[vI 0,vI 0,vI 0,G0]) (news:=[b0]) (new' :=[vI 0,vI 0,vI 0,b0]) k0 (.tl (.tl .hd)) rfl rfl rfl (St.c1 (α:=TUnit) k0 (.tl .hd)) rfl rfl (o1 (St.o1 (α:=TUnit) k0 (.tl .hd))) rfl) (fun C2 K0 U0=>?_)
 refine Aa<|AC<|Ar<|Ab (FV.add (i:=3) (j:=1) (r:=4) rfl rfl (by decide))<|Ae rfl<|Aa<|MX.again1 ?_
 obtain ⟨p0,V0⟩:=AH K0 (.one (.tl .hd) (.one (.tl .hd) (.one (.tl .hd) .done)))
 refine Ac<|Ab (Bn (i:=4) (j:=4) rfl rfl)<|Aa<|Ak<|Bv rfl<|Be rfl<|Ac<|Ab (AB rfl (p0.memA (.tl .hd)))<|AL [vI 0,vI 0,vI 0,b0] p0 (.tl (.tl .hd)) (o4 rfl rfl rfl (St.o1 (α:=TUnit) p0 .hd)) (fun D2 H0 W0=>?_)
 refine Aa<|Al rfl<|Ao (u:=.agg #[vI 0,vI 0,vI 0,b0]) hb0 Tryz.func36 rfl (.cons (.many (cs:=[vI 0,vI 0,vI 0,b0]) (by kernel_rfl) rfl (H0.memA (.tl (.tl .hd)))) .nil) rfl ?_
 obtain ⟨I0,X0⟩:=AH H0 (.one .hd .done)
 cases h
 have J1:=Tt U0 (Tt V0 (Tt W0 X0))
 have E1:=AN t1 J1
 exact ⟨I0.ag,fun w9 hw9=>⟨b0,J0,rfl,I0.agree hw9,Cells.keep0 E1 hw9⟩⟩
def tb31_6:List (Nat × Nat × Nat):=[(0,65536,1),(0,131072,32),(3,262144,196608),(4,524288,262144),(0,1048576,2),(0,2097152,32),(48,4194304,3145728),(64,8388608,4194304),(136,16777216,8912896)]
def slices_Equal_int_int_l1 (_n:Nat) (a0:List Int) (a1:List Int) (b0:Nat → Option (Bool ⊕ Unit)):Nat → Option (Bool ⊕ Unit)
  | i32=>(if i32 < a0.length then (a0[i32]?).bind fun c0=>(a1[i32]?).bind fun d0=>(if c0 = d0 then b0 (i32 + 1) else some (.inl false)) else some (.inr ()))
def slices_Equal_int_int_p (n:Nat) (a0:List Int) (a1:List Int):Option Bool:=
  (if a0.length = a1.length then thn (loopF (slices_Equal_int_int_l1 n a0 a1) n 0) (fun _=>some true) else some false)
theorem slices_Equal_int_int_c (n:Nat) (L:List Nat) (w:World) (_hL:∀ b ∈ L,b < w.heap.size) (a0:List Int) {v0_0:Value} (h0_0:Rep.R w L [v0_0] a0) (a1:List Int) {v1_0:Value} (h1_0:Rep.R w L [v1_0] a1)  {r:Bool} (h:slices_Equal_int_int_p n a0 a1 = some r) :
    Calls Tryz.prog 31 #[v0_0,v1_0] w (Gives w fun _ u=>u = .bool r):=by
 unfold slices_Equal_int_int_p at h
 have hS0:=Ax w
 refine AA Tryz.func31 rfl rfl rfl (fun _ cs0 hb0=>?_)
 refine Ac<|Ag rfl<|Aa<|Ak<|Ac<|Ae rfl ?_
 have hl1:a0.length ≤ 281474976710656:=AT h0_0
 refine Ab (Bb (xs:=a0) Tryz.underlying45 rfl h0_0)<|Ae rfl ?_
 have hl2:a1.length ≤ 281474976710656:=AT h1_0
 refine Ab (Bb (xs:=a1) Tryz.underlying45 rfl h1_0)<|Ab (FV.neqN (i:=a0.length) (j:=a1.length) rfl rfl)<|Aa<|MX.ifn rfl h (fun c3 h=>?_) (fun c3 h=>?_)
 refine Aq<|Ak<|Ac<|Ae rfl<|Ab (Bb (xs:=a0) Tryz.underlying45 rfl h0_0)<|Ae rfl<|Aa<|Az ?_
 obtain ⟨X0,I0,j0⟩:=thn_in h
 refine Bj (α:=Nat) (fun i32=>[(0,v0_0),(1,v1_0),(12,vI ((a0.length:Nat):Int)),(13,vI ((i32:Nat):Int))]) (fun i32 g0=>St w g0 []∧Tr w [] g0 []) (fun i32=>i32) 0 I0 ⟨rfl,rfl,rfl,rfl,trivial⟩ ⟨hS0,AP _ _⟩ ?_
 rintro U0 i32 g0 v0 ⟨d0,x0⟩ h
 unfold slices_Equal_int_int_l1 at h
 try dsimp only at h
 refine Ac<|Ab (Bn (i:=i32) (j:=a0.length) rfl rfl)<|Aa<|Ak<|AQ rfl h (fun q0 h=>?_) (fun q0 h=>?_)
 refine Aq<|Ak<|Az<|Ac<|Ae rfl<|Ag rfl<|Aa<|Ak<|AF 9 tb31_6 (by kernel_rfl) (by kernel_rfl) (by kernel_rfl) (fun b0 c0=>?_)
 refine Ah 0 1 b0 rfl c0 (fun _=>Ai rfl) rfl<|Ah 1 3 b0 rfl c0 (fun _=>Ai rfl) rfl ?_
 obtain ⟨k0,M0,h⟩:=bi h
 have F0:=AM h0_0 d0
 obtain ⟨Q0,V0,y0,C0,t0,J0,E0⟩:=Bm F0 M0
 have z0:t0 = [vI k0]:=J0; subst z0
 refine Ah 2 7 b0 rfl c0 (fun _=>Bo 1 i32 rfl y0 rfl rfl C0) rfl<|AD 3 15 256 b0 rfl c0 (AK rfl (E0 0 _ rfl)) rfl<|Ah 4 31 b0 rfl c0 (fun _=>Ai rfl) rfl<|Ah 5 63 b0 rfl c0 (fun _=>Ai rfl) rfl ?_
 obtain ⟨p0,P0,h⟩:=bi h
 have H0:=AM h1_0 d0
 obtain ⟨R0,W0,A0,D0,u0,K0,G0⟩:=Bm H0 P0
 have B0:u0 = [vI p0]:=K0; subst B0
 refine Ah 6 127 b0 rfl c0 (fun _=>Bo 1 i32 rfl A0 rfl rfl D0) rfl<|AD 7 255 256 b0 rfl c0 (AK rfl (G0 0 _ rfl)) rfl<|Ah 8 511 b0 rfl c0 (fun _=>FV.neq (i:=k0) (j:=p0) rfl rfl) rfl<|AE (doneD_ok b0 (by kernel_rfl))<|MX.ifn rfl h (fun s0 h=>?_) (fun s0 h=>?_)
 refine Aq<|AC<|Ar<|Ab (Br (i:=i32) (j:=1) rfl rfl (by omega))<|Ae rfl<|Aa ?_
 exact v0 (i32 + 1) _ _ ⟨rfl,rfl,rfl,rfl,trivial⟩ ⟨d0,x0⟩ h
 refine Ac<|Ag rfl<|Aa ?_
 have h:=thn_inl h j0
 refine Al rfl<|Bc hb0 Tryz.func31 rfl rfl ?_
 cases h
 exact d0.gv
 refine Be rfl ?_
 have h:=thn_inr h j0
 try dsimp only at h
 refine Ac<|Ag rfl<|Aa<|Al rfl<|Bc hb0 Tryz.func31 rfl rfl ?_
 cases h
 exact d0.gv
 refine Ac<|Ag rfl<|Aa<|Al rfl<|Bc hb0 Tryz.func31 rfl rfl ?_
 cases h
 exact hS0.gv
theorem body31:bodyB Tryz.prog 31 = true:=by kernel_rfl
def wardmotelaw22_is_1_p (n:Nat) (a0:List Int) (a1:Int) (a2:List Int):Option Bool:=
  (slices_Equal_int_int_p n a0 a2).bind fun y1=>(if y1 = true then some (decide (a1 = 0)) else some false)
theorem wardmotelaw22_is_1_c (n:Nat) (L:List Nat) (w:World) (hL:∀ b ∈ L,b < w.heap.size) (a0:List Int) {v0_0:Value} (h0_0:Rep.R w L [v0_0] a0) (a1:Int) (a2:List Int) {v2_0:Value} (h2_0:Rep.R w L [v2_0] a2) {p2:Nat} (m2:∀ j9 v9,([v2_0]:List Value)[j9]? = some v9 → w.cell? ((⟨p2,0,none⟩:Addr).add j9) = some v9)  {r:Bool} (h:wardmotelaw22_is_1_p n a0 a1 a2 = some r) :
    Calls Tryz.prog 91 #[v0_0,vI a1,.pointer (some ⟨p2,0,none⟩)] w (Gives w fun _ u=>u = .bool r):=by
 unfold wardmotelaw22_is_1_p at h
 have hS0:=Ax w
 refine AA Tryz.func91 rfl rfl rfl (fun _ cs0 hb0=>?_)
 refine Ac<|Ag rfl<|Aa<|Ac<|Ae rfl<|Bd rfl ((fun j9 v9 h9=>hS0.ag.cell0 (m2 j9 v9 h9)) 0 _ rfl) ?_
 obtain ⟨y1,hy1,h⟩:=bi h
 refine Bf (.bool y1) body31 rfl (e2 rfl rfl) (fun w9 hw9=>slices_Equal_int_int_c n _ w9 (hS0.hL0 hL hw9) a0 (hS0.kd h0_0 hw9) a2 (hS0.kd h2_0 hw9) hy1) rfl<|Ae rfl<|RG.ifb (s:=9) rfl h (fun c2 h=>?_) (fun c2 h=>?_)
 refine AY (Ai rfl)<|AY (FV.eql (i:=a1) (j:=0) rfl rfl)<|RG.pt rfl rfl<|Ag rfl<|Aa<|Al rfl<|Bc hb0 Tryz.func91 rfl rfl ?_
 cases h
 exact hS0.gv
 refine AR<|AR<|RG.pf rfl rfl<|Ag rfl<|Aa<|Al rfl<|Bc hb0 Tryz.func91 rfl rfl ?_
 cases h
 exact hS0.gv
theorem wardmotelaw22_is_c (n:Nat) (L:List Nat) (w:World) (_hL:∀ b ∈ L,b < w.heap.size) (a0:List Int) {v0_0:Value} (h0_0:Rep.R w L [v0_0] a0)  :
    Calls Tryz.prog 37 #[v0_0] w (Gives w fun w' u=>∃ b0:Nat,u = .func (.func 91) #[] #[vP b0]∧St w w' [.cells b0 [v0_0] 45]):=by
 have hS0:=Ax w
 refine AA Tryz.func37 rfl rfl rfl (fun _ cs0 hb0=>?_)
 refine Ac<|Aj .plain rfl (Aw hS0 rfl (Rep.c1 h0_0)) (fun g0 b0 c0 d0=>?_)
 refine Ag rfl<|Aa<|Ac<|Ab (BG (vs:=[]) (us:=[vP b0]) evs_nil (e1 rfl))<|Ag rfl<|Aa<|Al rfl<|Ao (u:=.func (.func 91) #[] #[vP b0]) hb0 Tryz.func37 rfl (.cons (.tmp rfl) .nil) rfl ?_
 exact ⟨c0.ag,fun w9 hw9=>⟨b0,rfl,c0.agree hw9⟩⟩
def wardmotelaw22_truth_1_p (_n:Nat) (a0:Bool) (a1:Int) (a2:Bool):Option Bool:=
  (if (a0 == a2) = true then some (decide (a1 = 0)) else some false)
theorem wardmotelaw22_truth_1_c (n:Nat) (L:List Nat) (w:World) (_hL:∀ b ∈ L,b < w.heap.size) (a0:Bool) (a1:Int) (a2:Bool) {p2:Nat} (m2:∀ j9 v9,([.bool a2]:List Value)[j9]? = some v9 → w.cell? ((⟨p2,0,none⟩:Addr).add j9) = some v9)  {r:Bool} (h:wardmotelaw22_truth_1_p n a0 a1 a2 = some r) :
    Calls Tryz.prog 92 #[.bool a0,vI a1,.pointer (some ⟨p2,0,none⟩)] w (Gives w fun _ u=>u = .bool r):=by
 unfold wardmotelaw22_truth_1_p at h
 have hS0:=Ax w
 refine AA Tryz.func92 rfl rfl rfl (fun _ cs0 hb0=>?_)
 refine Ac<|Ag rfl<|Aa<|Ac<|Ae rfl<|Bd rfl ((fun j9 v9 h9=>hS0.ag.cell0 (m2 j9 v9 h9)) 0 _ rfl)<|Ab (FV.eqlB (a:=a0) (b:=a2) Tryz.underlying4 rfl rfl)<|Ae rfl<|RG.ifb (s:=9) rfl h (fun c1 h=>?_) (fun c1 h=>?_)
 refine AY (Ai rfl)<|AY (FV.eql (i:=a1) (j:=0) rfl rfl)<|RG.pt rfl rfl<|Ag rfl<|Aa<|Al rfl<|Bc hb0 Tryz.func92 rfl rfl ?_
 cases h
 exact hS0.gv
 refine AR<|AR<|RG.pf rfl rfl<|Ag rfl<|Aa<|Al rfl<|Bc hb0 Tryz.func92 rfl rfl ?_
 cases h
 exact hS0.gv
theorem wardmotelaw22_truth_c (n:Nat) (L:List Nat) (w:World) (_hL:∀ b ∈ L,b < w.heap.size) (a0:Bool)  :
    Calls Tryz.prog 38 #[.bool a0] w (Gives w fun w' u=>∃ b0:Nat,u = .func (.func 92) #[] #[vP b0]∧St w w' [.cells b0 [.bool a0] 4]):=by
 have hS0:=Ax w
 refine AA Tryz.func38 rfl rfl rfl (fun _ cs0 hb0=>?_)
 refine Ac<|Aj .plain rfl (Aw hS0 rfl rfl) (fun g0 b0 c0 d0=>?_)
 refine Ag rfl<|Aa<|Ac<|Ab (BG (vs:=[]) (us:=[vP b0]) evs_nil (e1 rfl))<|Ag rfl<|Aa<|Al rfl<|Ao (u:=.func (.func 92) #[] #[vP b0]) hb0 Tryz.func38 rfl (.cons (.tmp rfl) .nil) rfl ?_
 exact ⟨c0.ag,fun w9 hw9=>⟨b0,rfl,c0.agree hw9⟩⟩
def tb44_6:List (Nat × Nat × Nat):=[(0,65536,1),(0,131072,32),(3,262144,196608),(4,524288,262144),(0,1048576,2),(0,2097152,32),(48,4194304,3145728),(64,8388608,4194304),(136,16777216,8912896)]
def slices_Equal_api_Share_api_Share_l1 (_n:Nat) (a0:List TShare) (a1:List TShare) (c0:Nat → Option (Bool ⊕ Unit)):Nat → Option (Bool ⊕ Unit)
  | b0=>(if b0 < a0.length then (a0[b0]?).bind fun d0=>(a1[b0]?).bind fun g0=>(if d0 = g0 then c0 (b0 + 1) else some (.inl false)) else some (.inr ()))
def slices_Equal_api_Share_api_Share_p (n:Nat) (a0:List TShare) (a1:List TShare):Option Bool:=
  (if a0.length = a1.length then thn (loopF (slices_Equal_api_Share_api_Share_l1 n a0 a1) n 0) (fun _=>some true) else some false)
theorem slices_Equal_api_Share_api_Share_c (n:Nat) (L:List Nat) (w:World) (_hL:∀ b ∈ L,b < w.heap.size) (a0:List TShare) {v0_0:Value} (h0_0:Rep.R w L [v0_0] a0) (a1:List TShare) {v1_0:Value} (h1_0:Rep.R w L [v1_0] a1)  {r:Bool} (h:slices_Equal_api_Share_api_Share_p n a0 a1 = some r) :
    Calls Tryz.prog 44 #[v0_0,v1_0] w (Gives w fun _ u=>u = .bool r):=by
 unfold slices_Equal_api_Share_api_Share_p at h
 have hS0:=Ax w
 refine AA Tryz.func44 rfl rfl rfl (fun _ cs0 hb0=>?_)
 refine Ac<|Ag rfl<|Aa<|Ak<|Ac<|Ae rfl ?_
 have hl1:a0.length ≤ 281474976710656:=AT h0_0
 refine Ab (Bb (xs:=a0) Tryz.underlying68 rfl h0_0)<|Ae rfl ?_
 have hl2:a1.length ≤ 281474976710656:=AT h1_0
 refine Ab (Bb (xs:=a1) Tryz.underlying68 rfl h1_0)<|Ab (FV.neqN (i:=a0.length) (j:=a1.length) rfl rfl)<|Aa<|MX.ifn rfl h (fun c3 h=>?_) (fun c3 h=>?_)
 refine Aq<|Ak<|Ac<|Ae rfl<|Ab (Bb (xs:=a0) Tryz.underlying68 rfl h0_0)<|Ae rfl<|Aa<|Az ?_
 obtain ⟨W0,F0,k0⟩:=thn_in h
 refine Bj (α:=Nat) (fun b0=>[(0,v0_0),(1,v1_0),(12,vI ((a0.length:Nat):Int)),(13,vI ((b0:Nat):Int))]) (fun b0 j0=>St w j0 []∧Tr w [] j0 []) (fun b0=>b0) 0 F0 ⟨rfl,rfl,rfl,rfl,trivial⟩ ⟨hS0,AP _ _⟩ ?_
 rintro P0 b0 j0 u0 ⟨g0,v0⟩ h
 unfold slices_Equal_api_Share_api_Share_l1 at h
 try dsimp only at h
 refine Ac<|Ab (Bn (i:=b0) (j:=a0.length) rfl rfl)<|Aa<|Ak<|AQ rfl h (fun s0 h=>?_) (fun s0 h=>?_)
 refine Aq<|Ak<|Az<|Ac<|Ae rfl<|Ag rfl<|Aa<|Ak<|AF 9 tb44_6 (by kernel_rfl) (by kernel_rfl) (by kernel_rfl) (fun c0 d0=>?_)
 refine Ah 0 1 c0 rfl d0 (fun _=>Ai rfl) rfl<|Ah 1 3 c0 rfl d0 (fun _=>Ai rfl) rfl ?_
 obtain ⟨p0,I0,h⟩:=bi h
 have C0:=AM h0_0 g0
 obtain ⟨K0,Q0,x0,z0,U0,G0,B0⟩:=Bm C0 I0
 obtain rfl:=op_TShare G0
 refine Ah 2 7 c0 rfl d0 (fun _=>Bo 16 b0 rfl x0 rfl rfl z0) rfl<|AD 3 15 256 c0 rfl d0 (AB rfl B0) rfl<|Ah 4 31 c0 rfl d0 (fun _=>Ai rfl) rfl<|Ah 5 63 c0 rfl d0 (fun _=>Ai rfl) rfl ?_
 obtain ⟨q0,J0,h⟩:=bi h
 have E0:=AM h1_0 g0
 obtain ⟨M0,R0,y0,A0,V0,H0,D0⟩:=Bm E0 J0
 obtain rfl:=op_TShare H0
 refine Ah 6 127 c0 rfl d0 (fun _=>Bo 16 b0 rfl y0 rfl rfl A0) rfl<|AD 7 255 256 c0 rfl d0 (AB rfl D0) rfl<|Ah 8 511 c0 rfl d0 (fun _=>FV.neqV (xs:=((cs_TShare p0)).toArray) (ys:=((cs_TShare q0)).toArray) rfl rfl (by kernel_rfl) (eqlD_37 p0 q0)) rfl<|AE (doneD_ok c0 (by kernel_rfl))<|MX.ifn rfl h (fun t0 h=>?_) (fun t0 h=>?_)
 refine Aq<|AC<|Ar<|Ab (Br (i:=b0) (j:=1) rfl rfl (by omega))<|Ae rfl<|Aa ?_
 exact u0 (b0 + 1) _ _ ⟨rfl,rfl,rfl,rfl,trivial⟩ ⟨g0,v0⟩ h
 refine Ac<|Ag rfl<|Aa ?_
 have h:=thn_inl h k0
 refine Al rfl<|Bc hb0 Tryz.func44 rfl rfl ?_
 cases h
 exact g0.gv
 refine Be rfl ?_
 have h:=thn_inr h k0
 try dsimp only at h
 refine Ac<|Ag rfl<|Aa<|Al rfl<|Bc hb0 Tryz.func44 rfl rfl ?_
 cases h
 exact g0.gv
 refine Ac<|Ag rfl<|Aa<|Al rfl<|Bc hb0 Tryz.func44 rfl rfl ?_
 cases h
 exact hS0.gv
def tb9_3:List (Nat × Nat × Nat):=[(0,1048576,2),(0,2097152,0),(3,4194304,3145728),(4,524288,4194304),(8,8388608,524288),(8,16777216,524288),(8,33554432,524288),(31,32,8388608),(191,64,16777216),(511,128,33554432)]
def tb9_5:List (Nat × Nat × Nat):=[(0,4294967296,0),(1,8589934592,4294967296),(0,17179869184,2),(0,34359738368,4),(14,68719476736,51539607552),(16,137438953472,68719476736),(16,274877906944,68719476736),(114,549755813888,420906795008),(128,1099511627776,549755813888),(256,2199023255552,1099511627776),(256,4398046511104,1099511627778),(1792,8796093022208,5497558138880),(2304,17592186044416,9895604649984),(2304,35184372088832,9895604649984),(15104,70368744177664,56075093016576),(16640,140737488355328,71468255805440),(49152,281474976710656,140737488355328),(65536,562949953421312,281474976710664),(65536,1125899906842624,281474976710656),(327680,2251799813685248,281474976710656),(851968,4503599627370496,3659174697238528),(1769472,9007199254740992,5348024557502464),(2162688,18014398509481984,9288674231451648),(6291456,36028797018963968,18014398509481984),(8388608,72057594037927936,36028797018963984),(25165824,144115188075855872,108086391056891904),(41943040,288230376151711744,180143985094819840),(75497472,576460752303423488,288230376151711744),(134217728,1152921504606846976,576460752303423488),(134217728,2305843009213693952,576460752303423490),(134217728,4611686018427387904,576460752303423492),(2013265920,9223372036854775808,7493989779944505344),(2281701376,18446744073709551616,9799832789158199296),(2281701376,36893488147419103232,9799832789158199296),(15435038720,73786976294838206464,57069614478038925312),(17314086912,147573952589676412928,74363437047141629952),(68719476735,1024,147573952589676412928)]
def tb9_6:List (Nat × Nat × Nat):=[(0,295147905179352825856,1024),(1,590295810358705651712,295147905179352825856),(2,1180591620717411303424,590295810358705651744),(6,2361183241434822606848,1770887431076116955136),(10,4722366482869645213696,2951479051793528258560),(18,9444732965739290427392,4722366482869645213696),(32,18889465931478580854784,9444732965739290427456),(96,37778931862957161709568,28334198897217871282176),(160,75557863725914323419136,47223664828696452136960),(288,151115727451828646838272,75557863725914323419136),(512,302231454903657293676544,151115727451828646838400),(1536,604462909807314587353088,453347182355485940514816),(2560,1208925819614629174706176,755578637259143234191360),(4608,2417851639229258349412352,1208925819614629174706176),(8192,4835703278458516698824704,2417851639229258349412352),(8192,9671406556917033397649408,2417851639229258349412354),(8192,19342813113834066795298816,2417851639229258349412356),(24576,38685626227668133590597632,2417851639229258349412352),(237568,77371252455336267181195264,70117697537648492132958208),(270336,154742504910672534362390528,79789104094565525530607616),(270336,309485009821345068724781056,79789104094565525530607616),(1859584,618970019642690137449562112,471481069649705378135408640),(2105344,1237940039285380274899124224,621387871281919395798974464),(6291456,2475880078570760549798248448,1237940039285380274899124224),(8388608,4951760157141521099596496896,2475880078570760549798248448),(8388608,9903520314283042199192993792,2475880078570760549798248450),(8388608,19807040628566084398385987584,2475880078570760549798248452),(25165824,39614081257132168796771975168,2475880078570760549798248448),(243269632,79228162514264337593543950336,71800522278552055944149204992),(276824064,158456325028528675187087900672,81704042592835098143342198784),(276824064,316912650057057350374175801344,81704042592835098143342198784),(1904214016,633825300114114700748351602688,482796615321298307210658447360),(2155872256,1267650600228229401496703205376,636301180192685461298149851136),(6442450944,2535301200456458802993406410752,1267650600228229401496703205376),(8589934592,5070602400912917605986812821504,2535301200456458802993406411264),(25769803776,10141204801825835211973625643008,7605903601369376408980219232256),(42949672960,20282409603651670423947251286016,12676506002282294014967032053760),(137438953471,1,20282409603651670423947251286016)]
theorem el46:ElT Tryz.prog 46 3 (Rep.size Int) 8 (vI 0) [vI 0]:=⟨Tryz.underlying46,by kernel_rfl,rfl,rfl,rfl,rfl⟩
theorem body13:bodyB Tryz.prog 13 = true:=by kernel_rfl
theorem body15:bodyB Tryz.prog 15 = true:=by kernel_rfl
theorem body19:bodyB Tryz.prog 19 = true:=by kernel_rfl
theorem body20:bodyB Tryz.prog 20 = true:=by kernel_rfl
theorem body21:bodyB Tryz.prog 21 = true:=by kernel_rfl
theorem body22:bodyB Tryz.prog 22 = true:=by kernel_rfl
theorem body33:bodyB Tryz.prog 33 = true:=by kernel_rfl
theorem body36:bodyB Tryz.prog 36 = true:=by kernel_rfl
theorem body37:bodyB Tryz.prog 37 = true:=by kernel_rfl
theorem body38:bodyB Tryz.prog 38 = true:=by kernel_rfl
theorem body44:bodyB Tryz.prog 44 = true:=by kernel_rfl
theorem body72:bodyB Tryz.prog 72 = true:=by kernel_rfl
theorem body91:bodyB Tryz.prog 91 = true:=by kernel_rfl
theorem body92:bodyB Tryz.prog 92 = true:=by kernel_rfl
def wardmotelaw22_works_p (n:Nat):Option Bool:=
  (wardmotelaw22_four_p n).bind fun y1=>(balance_Off_p n y1 ([(0:Int),(0:Int),(0:Int),(1:Int)]:List Int) (2:Int)).bind fun q0=>(wardmotelaw22_of_p n (1:Int) (10:Int)).bind fun E0=>(balance_Bounds_p n y1 (3:Int) E0).bind fun c0=>(balance_Totals_p n y1 ([(0:Int),(0:Int),(0:Int),(0:Int)]:List Int) (2:Int)).bind fun F0=>jn (fun s0=>(if s0 = true then (if c0.1 = 30 then (if c0.2.1 = 36 then (if c0.2.2 = 0 then (wardmotelaw22_of_p n (1:Int) (5:Int)).bind fun t0=>(balance_Within_p n y1 ([(0:Int),(0:Int),(0:Int),(1:Int)]:List Int) (2:Int) t0).bind fun d0=>(wardmotelaw22_truth_1_p n d0.1 d0.2 true).bind fun u0=>(if u0 = true then (wardmotelaw22_of_p n (1:Int) (6:Int)).bind fun v0=>(balance_Within_p n y1 ([(0:Int),(0:Int),(0:Int),(1:Int)]:List Int) (2:Int) v0).bind fun g0=>(wardmotelaw22_truth_1_p n g0.1 g0.2 false).bind fun x0=>(if x0 = true then some (decide (F0.2 = 220)) else some false) else some false) else some false) else some false) else some false) else some false)) (fun b0=>(balance_Totals_p n y1 ([(0:Int),(0:Int),(0:Int),(1:Int)]:List Int) (2:Int)).bind fun j0=>(wardmotelaw22_is_1_p n j0.1 j0.2 ([(60:Int),(40:Int)]:List Int)).bind fun y0=>(if y0 = true then (balance_Ideal_p n y1 (2:Int)).bind fun k0=>(wardmotelaw22_part_1_p n k0.1 k0.2 (50:Int) (1:Int)).bind fun z0=>(if z0 = true then (wardmotelaw22_of_p n (1:Int) (5:Int)).bind fun A0=>(wardmotelaw22_of_p n (-1:Int) (5:Int)).bind fun B0=>(slices_Equal_api_Share_api_Share_p n q0.1 ([A0,B0]:List TShare)).bind fun C0=>(if C0 = true then (if q0.2 = 0 then (balance_Spread_p n y1 ([(0:Int),(0:Int),(0:Int),(1:Int)]:List Int) (2:Int)).bind fun p0=>(wardmotelaw22_part_1_p n p0.1 p0.2 (2:Int) (5:Int)).bind fun D0=>b0 D0 else b0 false) else b0 false) else b0 false) else b0 false))
theorem wardmotelaw22_works_c (n:Nat) (L:List Nat) (w:World) (hL:∀ b ∈ L,b < w.heap.size)  {r:Bool} (h:wardmotelaw22_works_p n = some r) :
    Calls Tryz.prog 9 #[] w (Gives w fun _ u=>u = .bool r):=by
 unfold wardmotelaw22_works_p at h
 have hS0:=Ax w
 refine AA Tryz.func9 rfl rfl rfl (fun _ cs0 hb0=>?_)
 refine Ac<|Ag rfl<|Aa<|Ac ?_
 obtain ⟨y1,hy1,h⟩:=bi h
 refine AX (fst:=[]) (cap:=[]) .plain body36 rfl evs_nil (fun w9 hw9=>own_gives (b0:=w.heap.size) (wardmotelaw22_four_c n _ w9 (hS0.hL hL hw9)  hy1) hw9 (Nat.le_trans hS0.ag.size hw9.size)) rfl (fun w2 vu3 hag4 ⟨v9,K2,hu6,s5,k3⟩=>?_)
 subst hu6
 have hS7:=own_push hS0 s5
 have hT8:=own_tr hS0 s5
 have p3:=AG (cs:=K2) (xs:=(y1.fUnits:List TUnit)) hS7 L (own_cells k3)
 refine Aj .plain rfl (AW (α:=Int) (xs:=([(0:Int),(0:Int),(0:Int),(1:Int)]:List Int)) (vs:=[vI 0,vI 0,vI 0,vI 1]) (ds' :=[vI 0,vI 0,vI 0,vI 1]) rfl hS7 el46 rfl (e4 rfl rfl rfl rfl) (by kernel_rfl) rfl) (fun M5 G1 I1 V2=>?_)
 have q3:=AG (cs:=[vI 0,vI 0,vI 0,vI 1]) (xs:=(([(0:Int),(0:Int),(0:Int),(1:Int)]:List Int):List Int)) I1 L (Au (cs:=[vI 0]) (ds:=[vI 0,vI 0,vI 1]) rfl (Au (cs:=[vI 0]) (ds:=[vI 0,vI 1]) rfl (Au (cs:=[vI 0]) (ds:=[vI 1]) rfl (Au (cs:=[vI 1]) (ds:=[]) rfl (AO _ _)))))
 refine Aj .plain rfl (Av [vI 0,vI 0,vI 0,vN] I1) (fun Q5 Y0 K1 U1=>?_)
 refine AL [vI y1.fGroups,vI y1.fParties,vI y1.fLevels,v9] K1 .hd (o4 rfl rfl rfl (St.o1 (α:=TUnit) K1 (.tl (.tl .hd)))) (fun V5 g1 V1=>?_)
 refine Ag rfl<|Aa<|Ac<|Ab (AB rfl (g1.memA .hd))<|Ae rfl ?_
 have Z3:=Tt V2 (Tt U1 V1)
 have H3:=AN p3 Z3
 have g4:=Bq (α:=TUnit) g1 (.tl (.tl .hd)) H3 hL
 have j1:=BD g1 (.tl (.tl .hd))
 have c3:=BE g1 (.tl (.tl .hd))
 have F0:=BF (α:=TUnit) (v:=v9) (xs:=y1.fUnits) j1 L g4
 have b4:=Tt U1 (Tt V1 c3)
 have I3:=AN q3 b4
 have j4:=Bq (α:=Int) j1 (.tl .hd) I3 hL
 have B1:=BD j1 (.tl .hd)
 have E1:=BE j1 (.tl .hd)
 have P0:=BF (α:=Int) (v:=(vS G1 4)) (xs:=([(0:Int),(0:Int),(0:Int),(1:Int)]:List Int)) B1 L j4
 obtain ⟨u2,P4,h⟩:=bi h
 have J3:=Ap F0 E1
 refine AX (fst:=[]) (cap:=[]) .plain body22 rfl (e3 rfl rfl rfl) (fun w9 hw9=>balance_Off_c n _ w9 (B1.hL hL hw9) y1 (Am J3 hw9) ([(0:Int),(0:Int),(0:Int),(1:Int)]:List Int) (Am P0 hw9) (2:Int) P4) rfl (fun X5 J5 g3 ⟨B5,hu_,k4⟩=>?_)
 subst hu_
 obtain ⟨I0,p1⟩:=B1.agr g3
 refine Ae rfl<|Ab (Af rfl rfl)<|Ab (Af rfl rfl)<|Ag rfl<|Ag rfl<|Aa<|Ak<|AF 10 tb9_3 (by kernel_rfl) (by kernel_rfl) (by kernel_rfl) (fun p0 t0=>?_)
 refine AD 0 1 1020 p0 rfl t0 (AB rfl (I0.memA .hd)) rfl ?_
 obtain ⟨x2,R4,h⟩:=bi h
 refine BI 1 3 1020 (.agg ((cs_TShare x2)).toArray) p0 rfl t0 body23 rfl (e2 rfl rfl) (fun w9 hw9=>wardmotelaw22_of_c n _ w9 (I0.hL0 hL hw9) (1:Int) (10:Int) R4) rfl ?_
 obtain ⟨A0,U4,h⟩:=bi h
 have K3:=Ap F0 (Tt E1 p1)
 refine BI 2 7 1016 (.tuple #[vI A0.1,vI A0.2.1,vI A0.2.2]) p0 rfl t0 body13 rfl (e3 rfl rfl rfl) (fun w9 hw9=>balance_Bounds_c n _ w9 (I0.hL0 hL hw9) y1 (I0.kd K3 hw9) (3:Int) x2 U4) rfl<|Ah 3 15 p0 rfl t0 (fun _=>Ai rfl) rfl<|Ah 4 31 p0 rfl t0 (fun _=>Af rfl rfl) rfl<|Ah 5 63 p0 rfl t0 (fun _=>Af rfl rfl) rfl<|Ah 6 127 p0 rfl t0 (fun _=>Af rfl rfl) rfl<|Ah 7 255 p0 rfl t0 (fun _=>AJ rfl) rfl<|Ah 8 511 p0 rfl t0 (fun _=>AJ rfl) rfl<|Ah 9 1023 p0 rfl t0 (fun _=>AJ rfl) rfl<|AE (doneD_ok p0 (by kernel_rfl))<|Ac<|Ab (AB rfl (I0.memA .hd))<|Aj .plain rfl (AW (α:=Int) (xs:=([(0:Int),(0:Int),(0:Int),(0:Int)]:List Int)) (vs:=[vI 0,vI 0,vI 0,vI 0]) (ds' :=[vI 0,vI 0,vI 0,vI 0]) rfl I0 el46 rfl (e4 rfl rfl rfl rfl) (by kernel_rfl) rfl) (fun Y5 z2 k1 q1=>?_)
 have u3:=AG (cs:=[vI 0,vI 0,vI 0,vI 0]) (xs:=(([(0:Int),(0:Int),(0:Int),(0:Int)]:List Int):List Int)) k1 L (Au (cs:=[vI 0]) (ds:=[vI 0,vI 0,vI 0]) rfl (Au (cs:=[vI 0]) (ds:=[vI 0,vI 0]) rfl (Au (cs:=[vI 0]) (ds:=[vI 0]) rfl (Au (cs:=[vI 0]) (ds:=[]) rfl (AO _ _)))))
 have p4:=Bq (α:=Int) k1 .hd u3 hL
 have C1:=BD k1 .hd
 have s1:=BE k1 .hd
 have q4:=BF (α:=Int) (v:=(vS z2 4)) (xs:=([(0:Int),(0:Int),(0:Int),(0:Int)]:List Int)) C1 L p4
 obtain ⟨y2,V4,h⟩:=bi h
 have F1:=Tt E1 (Tt p1 (Tt q1 s1))
 have M3:=Ap F0 F1
 refine AX (fst:=[]) (cap:=[]) .plain body19 rfl (e3 rfl rfl rfl) (fun w9 hw9=>balance_Totals_c n _ w9 (C1.hL hL hw9) y1 (Am M3 hw9) ([(0:Int),(0:Int),(0:Int),(0:Int)]:List Int) (Am q4 hw9) (2:Int) V4) rfl (fun b5 K5 j3 ⟨C5,hu_,z5⟩=>?_)
 subst hu_
 obtain ⟨M1,M0⟩:=C1.agr j3
 refine Ae rfl<|Ab (Af rfl rfl)<|Ab (Af rfl rfl)<|Ag rfl<|Ag rfl<|Aa<|Ak<|MX.join (α:=Bool) (fun Q0=>[(1,vP Y0),(2,(vS G1 4)),(5,vI A0.1),(6,vI A0.2.1),(7,vI A0.2.2),(9,vI y2.2),(10,.bool Q0)]) (fun Q0 u1=>St w u1 [.cells Y0 [vI y1.fGroups,vI y1.fParties,vI y1.fLevels,v9] 44]∧Tr b5 [.cells Y0 [vI y1.fGroups,vI y1.fParties,vI y1.fLevels,v9] 44] u1 [.cells Y0 [vI y1.fGroups,vI y1.fParties,vI y1.fLevels,v9] 44]) (fun Q0=>Q0) h ?_ ?_
 rintro Q0 u1 ⟨B0,P1⟩ h
 try dsimp only at h
 refine Ak<|AF 38 tb9_6 (by kernel_rfl) (by kernel_rfl) (by kernel_rfl) (fun c0 d0=>?_)
 refine Ah 0 1 c0 rfl d0 (fun _=>Ai rfl) rfl<|Ah 1 3 c0 rfl d0 (fun _=>Ai rfl) rfl<|RD.ifb (s:=69) rfl h (fun A2 h=>?_) (fun A2 h=>?_)
 refine BA 2 7 c0 rfl d0 (.yes rfl rfl) (fun _=>Ai rfl) rfl<|BA 3 15 c0 rfl d0 (.yes rfl rfl) (fun _=>FV.eql (i:=A0.1) (j:=30) rfl rfl) rfl<|Ah 4 31 c0 rfl d0 (fun _=>BB rfl rfl) rfl<|Ah 5 63 c0 rfl d0 (fun _=>Ai rfl) rfl<|RD.ifd (s:=73) rfl h (fun B2 h=>?_) (fun B2 h=>?_)
 refine BA 6 127 c0 rfl d0 (.yes rfl rfl) (fun _=>Ai rfl) rfl<|BA 7 255 c0 rfl d0 (.yes rfl rfl) (fun _=>FV.eql (i:=A0.2.1) (j:=36) rfl rfl) rfl<|Ah 8 511 c0 rfl d0 (fun _=>BB rfl rfl) rfl<|Ah 9 1023 c0 rfl d0 (fun _=>Ai rfl) rfl<|RD.ifd (s:=77) rfl h (fun C2 h=>?_) (fun C2 h=>?_)
 refine BA 10 2047 c0 rfl d0 (.yes rfl rfl) (fun _=>Ai rfl) rfl<|BA 11 4095 c0 rfl d0 (.yes rfl rfl) (fun _=>FV.eql (i:=A0.2.2) (j:=0) rfl rfl) rfl<|Ah 12 8191 c0 rfl d0 (fun _=>BB rfl rfl) rfl<|Ah 13 16383 c0 rfl d0 (fun _=>Ai rfl) rfl<|RD.ifd (s:=81) rfl h (fun D2 h=>?_) (fun D2 h=>?_)
 refine RD.val (i:=15) (m' :=49151) (W:=274877644800) (takeC_ok c0 (by kernel_rfl)) rfl d0 (.yes rfl rfl) (AB rfl (B0.memA .hd)) rfl<|BA 16 114687 c0 rfl d0 (.yes rfl rfl) (fun _=>Ai rfl) rfl<|Bi 14 131071 c0 rfl (.yes rfl rfl) body38 rfl (e1 rfl) (fun w9 hw9=>Calls.gives (wardmotelaw22_truth_c n _ w9 (B0.hL hL hw9) true) fun (w8:World) (u8:Value) ⟨b0_,hu_,s_⟩=>(⟨b0_,hu_,s_.from hw9⟩:∃ R0:Nat,u8 = Value.func (.func 92) #[] #[vP R0]∧St u1 w8 [.cells R0 [.bool true] 4])) rfl (fun W4 D5 t5 ⟨R0,s4,d2⟩=>?_)
 subst s4
 have k0:=mk_push1 B0 d2
 have Q1:=mk_tr1 B0 d2
 obtain ⟨q2,y4,h⟩:=bi h
 refine Bx (i:=17) (m' :=262143) (W:=274877644800) (takeC_ok c0 (by kernel_rfl)) rfl d0 (v:=.agg ((cs_TShare q2)).toArray) (fst:=[]) (cap:=[]) (.yes rfl rfl) body23 rfl (e2 rfl rfl) (fun w9 hw9=>wardmotelaw22_of_c n _ w9 (k0.hL0 hL hw9) (1:Int) (5:Int) y4) rfl ?_
 obtain ⟨v1,z4,h⟩:=bi h
 have W1:=Tt F1 (Tt M0 (Tt P1 Q1))
 have v3:=Ap F0 W1
 have X1:=Tt p1 (Tt q1 (Tt s1 (Tt M0 (Tt P1 Q1))))
 have x3:=Ap P0 X1
 refine Bx (i:=18) (m' :=524287) (W:=274877382656) (takeC_ok c0 (by kernel_rfl)) rfl d0 (v:=.tuple #[.bool v1.1,vI v1.2]) (fst:=[]) (cap:=[]) (.yes rfl rfl) body15 rfl (e4 rfl rfl rfl rfl) (fun w9 hw9=>balance_Within_c n _ w9 (k0.hL0 hL hw9) y1 (k0.kd v3 hw9) ([(0:Int),(0:Int),(0:Int),(1:Int)]:List Int) (k0.kd x3 hw9) (2:Int) q2 z4) rfl<|BA 19 1048575 c0 rfl d0 (.yes rfl rfl) (fun _=>Af rfl rfl) rfl<|BA 20 2097151 c0 rfl d0 (.yes rfl rfl) (fun _=>Af rfl rfl) rfl ?_
 obtain ⟨c5,A4,h⟩:=bi h
 refine Bx (i:=21) (m' :=4194303) (W:=274873712640) (takeC_ok c0 (by kernel_rfl)) rfl d0 (v:=.bool c5) (fst:=[]) (cap:=[vP R0]) (.yes rfl rfl) body92 rfl (e2 rfl rfl) (fun w9 hw9=>wardmotelaw22_truth_1_c n _ w9 (k0.hL0 hL hw9) v1.1 v1.2 true (fun j9 v9 h9=>hw9.cell0 ((k0.memA .hd) j9 v9 h9)) A4) rfl<|Ah 22 8388607 c0 rfl d0 (fun _=>BB rfl rfl) rfl<|Ah 23 16777215 c0 rfl d0 (fun _=>Ai rfl) rfl<|RD.ifb (s:=91) rfl h (fun E2 h=>?_) (fun E2 h=>?_)
 refine RD.val (i:=25) (m' :=50331647) (W:=274609471488) (takeC_ok c0 (by kernel_rfl)) rfl d0 (.yes rfl rfl) (AB rfl (k0.memA (.tl .hd))) rfl<|BA 26 117440511 c0 rfl d0 (.yes rfl rfl) (fun _=>Ai rfl) rfl<|Bi 24 134217727 c0 rfl (.yes rfl rfl) body38 rfl (e1 rfl) (fun w9 hw9=>Calls.gives (wardmotelaw22_truth_c n _ w9 (k0.hL hL hw9) false) fun (w8:World) (u8:Value) ⟨b0_,hu_,s_⟩=>(⟨b0_,hu_,s_.from hw9⟩:∃ U0:Nat,u8 = Value.func (.func 92) #[] #[vP U0]∧St W4 w8 [.cells U0 [.bool false] 4])) rfl (fun P5 E5 u5 ⟨U0,t4,g2⟩=>?_)
 subst t4
 have C0:=mk_push1 k0 g2
 have R1:=mk_tr1 k0 g2
 obtain ⟨s2,B4,h⟩:=bi h
 refine Bx (i:=27) (m' :=268435455) (W:=274609471488) (takeC_ok c0 (by kernel_rfl)) rfl d0 (v:=.agg ((cs_TShare s2)).toArray) (fst:=[]) (cap:=[]) (.yes rfl rfl) body23 rfl (e2 rfl rfl) (fun w9 hw9=>wardmotelaw22_of_c n _ w9 (C0.hL0 hL hw9) (1:Int) (6:Int) B4) rfl ?_
 obtain ⟨x1,C4,h⟩:=bi h
 have y3:=Ap F0 (Tt W1 R1)
 have z3:=Ap P0 (Tt X1 R1)
 refine Bx (i:=28) (m' :=536870911) (W:=274341036032) (takeC_ok c0 (by kernel_rfl)) rfl d0 (v:=.tuple #[.bool x1.1,vI x1.2]) (fst:=[]) (cap:=[]) (.yes rfl rfl) body15 rfl (e4 rfl rfl rfl rfl) (fun w9 hw9=>balance_Within_c n _ w9 (C0.hL0 hL hw9) y1 (C0.kd y3 hw9) ([(0:Int),(0:Int),(0:Int),(1:Int)]:List Int) (C0.kd z3 hw9) (2:Int) s2 C4) rfl<|BA 29 1073741823 c0 rfl d0 (.yes rfl rfl) (fun _=>Af rfl rfl) rfl<|BA 30 2147483647 c0 rfl d0 (.yes rfl rfl) (fun _=>Af rfl rfl) rfl ?_
 obtain ⟨d5,D4,h⟩:=bi h
 refine Bx (i:=31) (m' :=4294967295) (W:=270582939648) (takeC_ok c0 (by kernel_rfl)) rfl d0 (v:=.bool d5) (fst:=[]) (cap:=[vP U0]) (.yes rfl rfl) body92 rfl (e2 rfl rfl) (fun w9 hw9=>wardmotelaw22_truth_1_c n _ w9 (C0.hL0 hL hw9) x1.1 x1.2 false (fun j9 v9 h9=>hw9.cell0 ((C0.memA .hd) j9 v9 h9)) D4) rfl<|Ah 32 8589934591 c0 rfl d0 (fun _=>BB rfl rfl) rfl<|Ah 33 17179869183 c0 rfl d0 (fun _=>Ai rfl) rfl<|RD.ifb (s:=101) rfl h (fun F2 h=>?_) (fun F2 h=>?_)
 refine BA 34 34359738367 c0 rfl d0 (.yes rfl rfl) (fun _=>Ai rfl) rfl<|BA 35 68719476735 c0 rfl d0 (.yes rfl rfl) (fun _=>FV.eql (i:=y2.2) (j:=220) rfl rfl) rfl<|Ah 36 137438953471 c0 rfl d0 (fun _=>BB rfl rfl) rfl<|Ah 37 274877906943 c0 rfl d0 (fun _=>AJ rfl) rfl<|AE (doneD_ok c0 (by kernel_rfl))<|Al rfl<|Bc hb0 Tryz.func9 rfl rfl ?_
 cases h
 exact C0.gv
 refine Bk 68719476735 2 [(34,102),(35,103)] (F:=[(101,false)]) (U:=[]) c0 d0 (.cons rfl .nil) .nil ?_
 dsimp only [offS,List.map]
 refine Ah 36 137438953471 c0 rfl d0 (fun _=>AV rfl rfl) rfl<|Ah 37 274877906943 c0 rfl d0 (fun _=>AJ rfl) rfl<|AE (doneD_ok c0 (by kernel_rfl))<|Al rfl<|Bc hb0 Tryz.func9 rfl rfl ?_
 cases h
 exact C0.gv
 refine Bk 4294967295 6 [(24,92),(25,93),(26,94),(27,95),(28,96),(29,97),(30,98),(31,99)] (F:=[(91,false)]) (U:=[]) c0 d0 (.cons rfl .nil) .nil ?_
 dsimp only [offS,List.map]
 refine Ah 32 8589934591 c0 rfl d0 (fun _=>AV rfl rfl) rfl<|Ah 33 17179869183 c0 rfl d0 (fun _=>Ai rfl) rfl<|Bk 68719476735 2 [(34,102),(35,103)] (F:=[(101,false)]) (U:=[]) c0 d0 (.cons rfl .nil) .nil ?_
 dsimp only [offS,List.map]
 refine Ah 36 137438953471 c0 rfl d0 (fun _=>AV rfl rfl) rfl<|Ah 37 274877906943 c0 rfl d0 (fun _=>AJ rfl) rfl<|AE (doneD_ok c0 (by kernel_rfl))<|Al rfl<|Bc hb0 Tryz.func9 rfl rfl ?_
 cases h
 exact k0.gv
 refine Bk 4194303 16 [(14,82),(15,83),(16,84),(17,85),(18,86),(19,87),(20,88),(21,89)] (F:=[(81,false)]) (U:=[]) c0 d0 (.cons rfl .nil) .nil ?_
 dsimp only [offS,List.map]
 refine Ah 22 8388607 c0 rfl d0 (fun _=>AV rfl rfl) rfl<|Ah 23 16777215 c0 rfl d0 (fun _=>Ai rfl) rfl<|Bk 4294967295 6 [(24,92),(25,93),(26,94),(27,95),(28,96),(29,97),(30,98),(31,99)] (F:=[(91,false)]) (U:=[]) c0 d0 (.cons rfl .nil) .nil ?_
 dsimp only [offS,List.map]
 refine Ah 32 8589934591 c0 rfl d0 (fun _=>AV rfl rfl) rfl<|Ah 33 17179869183 c0 rfl d0 (fun _=>Ai rfl) rfl<|Bk 68719476735 2 [(34,102),(35,103)] (F:=[(101,false)]) (U:=[]) c0 d0 (.cons rfl .nil) .nil ?_
 dsimp only [offS,List.map]
 refine Ah 36 137438953471 c0 rfl d0 (fun _=>AV rfl rfl) rfl<|Ah 37 274877906943 c0 rfl d0 (fun _=>AJ rfl) rfl<|AE (doneD_ok c0 (by kernel_rfl))<|Al rfl<|Bc hb0 Tryz.func9 rfl rfl ?_
 cases h
 exact B0.gv
 refine Bk 4095 26 [(10,78),(11,79)] (F:=[(77,false)]) (U:=[]) c0 d0 (.cons rfl .nil) .nil ?_
 dsimp only [offS,List.map]
 refine Ah 12 8191 c0 rfl d0 (fun _=>AV rfl rfl) rfl<|Ah 13 16383 c0 rfl d0 (fun _=>Ai rfl) rfl<|Bk 4194303 16 [(14,82),(15,83),(16,84),(17,85),(18,86),(19,87),(20,88),(21,89)] (F:=[(81,false)]) (U:=[]) c0 d0 (.cons rfl .nil) .nil ?_
 dsimp only [offS,List.map]
 refine Ah 22 8388607 c0 rfl d0 (fun _=>AV rfl rfl) rfl<|Ah 23 16777215 c0 rfl d0 (fun _=>Ai rfl) rfl<|Bk 4294967295 6 [(24,92),(25,93),(26,94),(27,95),(28,96),(29,97),(30,98),(31,99)] (F:=[(91,false)]) (U:=[]) c0 d0 (.cons rfl .nil) .nil ?_
 dsimp only [offS,List.map]
 refine Ah 32 8589934591 c0 rfl d0 (fun _=>AV rfl rfl) rfl<|Ah 33 17179869183 c0 rfl d0 (fun _=>Ai rfl) rfl<|Bk 68719476735 2 [(34,102),(35,103)] (F:=[(101,false)]) (U:=[]) c0 d0 (.cons rfl .nil) .nil ?_
 dsimp only [offS,List.map]
 refine Ah 36 137438953471 c0 rfl d0 (fun _=>AV rfl rfl) rfl<|Ah 37 274877906943 c0 rfl d0 (fun _=>AJ rfl) rfl<|AE (doneD_ok c0 (by kernel_rfl))<|Al rfl<|Bc hb0 Tryz.func9 rfl rfl ?_
 cases h
 exact B0.gv
 refine Bk 255 30 [(6,74),(7,75)] (F:=[(73,false)]) (U:=[]) c0 d0 (.cons rfl .nil) .nil ?_
 dsimp only [offS,List.map]
 refine Ah 8 511 c0 rfl d0 (fun _=>AV rfl rfl) rfl<|Ah 9 1023 c0 rfl d0 (fun _=>Ai rfl) rfl<|Bk 4095 26 [(10,78),(11,79)] (F:=[(77,false)]) (U:=[]) c0 d0 (.cons rfl .nil) .nil ?_
 dsimp only [offS,List.map]
 refine Ah 12 8191 c0 rfl d0 (fun _=>AV rfl rfl) rfl<|Ah 13 16383 c0 rfl d0 (fun _=>Ai rfl) rfl<|Bk 4194303 16 [(14,82),(15,83),(16,84),(17,85),(18,86),(19,87),(20,88),(21,89)] (F:=[(81,false)]) (U:=[]) c0 d0 (.cons rfl .nil) .nil ?_
 dsimp only [offS,List.map]
 refine Ah 22 8388607 c0 rfl d0 (fun _=>AV rfl rfl) rfl<|Ah 23 16777215 c0 rfl d0 (fun _=>Ai rfl) rfl<|Bk 4294967295 6 [(24,92),(25,93),(26,94),(27,95),(28,96),(29,97),(30,98),(31,99)] (F:=[(91,false)]) (U:=[]) c0 d0 (.cons rfl .nil) .nil ?_
 dsimp only [offS,List.map]
 refine Ah 32 8589934591 c0 rfl d0 (fun _=>AV rfl rfl) rfl<|Ah 33 17179869183 c0 rfl d0 (fun _=>Ai rfl) rfl<|Bk 68719476735 2 [(34,102),(35,103)] (F:=[(101,false)]) (U:=[]) c0 d0 (.cons rfl .nil) .nil ?_
 dsimp only [offS,List.map]
 refine Ah 36 137438953471 c0 rfl d0 (fun _=>AV rfl rfl) rfl<|Ah 37 274877906943 c0 rfl d0 (fun _=>AJ rfl) rfl<|AE (doneD_ok c0 (by kernel_rfl))<|Al rfl<|Bc hb0 Tryz.func9 rfl rfl ?_
 cases h
 exact B0.gv
 refine Bk 15 34 [(2,70),(3,71)] (F:=[(69,false)]) (U:=[]) c0 d0 (.cons rfl .nil) .nil ?_
 dsimp only [offS,List.map]
 refine Ah 4 31 c0 rfl d0 (fun _=>AV rfl rfl) rfl<|Ah 5 63 c0 rfl d0 (fun _=>Ai rfl) rfl<|Bk 255 30 [(6,74),(7,75)] (F:=[(73,false)]) (U:=[]) c0 d0 (.cons rfl .nil) .nil ?_
 dsimp only [offS,List.map]
 refine Ah 8 511 c0 rfl d0 (fun _=>AV rfl rfl) rfl<|Ah 9 1023 c0 rfl d0 (fun _=>Ai rfl) rfl<|Bk 4095 26 [(10,78),(11,79)] (F:=[(77,false)]) (U:=[]) c0 d0 (.cons rfl .nil) .nil ?_
 dsimp only [offS,List.map]
 refine Ah 12 8191 c0 rfl d0 (fun _=>AV rfl rfl) rfl<|Ah 13 16383 c0 rfl d0 (fun _=>Ai rfl) rfl<|Bk 4194303 16 [(14,82),(15,83),(16,84),(17,85),(18,86),(19,87),(20,88),(21,89)] (F:=[(81,false)]) (U:=[]) c0 d0 (.cons rfl .nil) .nil ?_
 dsimp only [offS,List.map]
 refine Ah 22 8388607 c0 rfl d0 (fun _=>AV rfl rfl) rfl<|Ah 23 16777215 c0 rfl d0 (fun _=>Ai rfl) rfl<|Bk 4294967295 6 [(24,92),(25,93),(26,94),(27,95),(28,96),(29,97),(30,98),(31,99)] (F:=[(91,false)]) (U:=[]) c0 d0 (.cons rfl .nil) .nil ?_
 dsimp only [offS,List.map]
 refine Ah 32 8589934591 c0 rfl d0 (fun _=>AV rfl rfl) rfl<|Ah 33 17179869183 c0 rfl d0 (fun _=>Ai rfl) rfl<|Bk 68719476735 2 [(34,102),(35,103)] (F:=[(101,false)]) (U:=[]) c0 d0 (.cons rfl .nil) .nil ?_
 dsimp only [offS,List.map]
 refine Ah 36 137438953471 c0 rfl d0 (fun _=>AV rfl rfl) rfl<|Ah 37 274877906943 c0 rfl d0 (fun _=>AJ rfl) rfl<|AE (doneD_ok c0 (by kernel_rfl))<|Al rfl<|Bc hb0 Tryz.func9 rfl rfl ?_
 cases h
 exact B0.gv
 intro p5 K0 h
 try dsimp only at h
 refine AF 37 tb9_5 (by kernel_rfl) (by kernel_rfl) (by kernel_rfl) (fun g0 j0=>?_)
 refine AD 2 4 137438953456 g0 rfl j0 (AB rfl (M1.memA .hd)) rfl<|Ah 3 12 g0 rfl j0 (fun _=>Ai rfl) rfl<|RD.nu 0 13 g0 rfl .plain rfl (AW (α:=Int) (xs:=([(60:Int),(40:Int)]:List Int)) (vs:=[vI 60,vI 40]) (ds' :=[vI 60,vI 40]) rfl M1 el45 rfl (e2 rfl rfl) (by kernel_rfl) rfl) (fun X4 H1 c1 D0=>?_)
 have s3:=AG (cs:=[vI 60,vI 40]) (xs:=(([(60:Int),(40:Int)]:List Int):List Int)) c1 L (Au (cs:=[vI 60]) (ds:=[vI 40]) rfl (Au (cs:=[vI 40]) (ds:=[]) rfl (AO _ _)))
 have c4:=Bq (α:=Int) c1 .hd s3 hL
 have d1:=BD c1 .hd
 have E0:=BE c1 .hd
 have c2:=BF (α:=Int) (v:=(vS H1 2)) (xs:=([(60:Int),(40:Int)]:List Int)) d1 L c4
 refine Bi 1 15 g0 rfl .plain body37 rfl (e1 rfl) (fun w9 hw9=>Calls.gives (wardmotelaw22_is_c n _ w9 (d1.hL hL hw9) ([(60:Int),(40:Int)]:List Int) (Am c2 hw9)) fun (w8:World) (u8:Value) ⟨b0_,hu_,s_⟩=>(⟨b0_,hu_,s_.from hw9⟩:∃ V0:Nat,u8 = Value.func (.func 91) #[] #[vP V0]∧St X4 w8 [.cells V0 [(vS H1 2)] 45])) rfl (fun R5 F5 v5 ⟨V0,u4,j2⟩=>?_)
 subst u4
 have J1:=mk_push1 d1 j2
 have y0:=mk_tr1 d1 j2
 obtain ⟨t2,E4,h⟩:=bi h
 have Y1:=Tt F1 (Tt M0 (Tt D0 (Tt E0 y0)))
 have A3:=Ap F0 Y1
 have Z1:=Tt p1 (Tt q1 (Tt s1 (Tt M0 (Tt D0 (Tt E0 y0)))))
 have B3:=Ap P0 Z1
 refine Bi 4 31 g0 rfl .plain body19 rfl (e3 rfl rfl rfl) (fun w9 hw9=>balance_Totals_c n _ w9 (J1.hL hL hw9) y1 (Am A3 hw9) ([(0:Int),(0:Int),(0:Int),(1:Int)]:List Int) (Am B3 hw9) (2:Int) E4) rfl (fun Y4 G5 d3 ⟨A5,hu_,d4⟩=>?_)
 subst hu_
 obtain ⟨v0,z0⟩:=J1.agr d3
 refine Ah 5 63 g0 rfl j0 (fun _=>Af rfl rfl) rfl<|Ah 6 127 g0 rfl j0 (fun _=>Af rfl rfl) rfl ?_
 obtain ⟨g5,F4,h⟩:=bi h
 have C3:=Ap c2 (Tt y0 z0)
 refine Bx (i:=7) (m' :=255) (W:=137438953216) (takeC_ok g0 (by kernel_rfl)) rfl j0 (v:=.bool g5) (fst:=[]) (cap:=[vP V0]) .plain body91 rfl (e2 rfl rfl) (fun w9 hw9=>wardmotelaw22_is_1_c n _ w9 (v0.hL0 hL hw9) t2.1 (v0.kd d4 hw9) t2.2 ([(60:Int),(40:Int)]:List Int) (v0.kd C3 hw9) (fun j9 v9 h9=>hw9.cell0 ((v0.memA .hd) j9 v9 h9)) F4) rfl<|Ah 8 511 g0 rfl j0 (fun _=>Ai rfl) rfl<|RD.ifb (s:=40) rfl h (fun G2 h=>?_) (fun G2 h=>?_)
 refine RD.val (i:=10) (m' :=1535) (W:=137438951424) (takeC_ok g0 (by kernel_rfl)) rfl j0 (.yes rfl rfl) (AB rfl (v0.memA (.tl .hd))) rfl<|Bi 9 2047 g0 rfl (.yes rfl rfl) body21 rfl (e2 rfl rfl) (fun w9 hw9=>Calls.gives (wardmotelaw22_part_c n _ w9 (v0.hL hL hw9) (50:Int) (1:Int)) fun (w8:World) (u8:Value) ⟨b0_,b1_,hu_,s_⟩=>(⟨b0_,b1_,hu_,s_.from hw9⟩:∃ W0 X0:Nat,u8 = Value.func (.func 72) #[] #[vP W0,vP X0]∧St Y4 w8 [.cells W0 [vI 50] 3,.cells X0 [vI 1] 3])) rfl (fun U5 H5 x5 ⟨W0,X0,v4,k2⟩=>?_)
 subst v4
 have x0:=mk_push2 v0 k2
 have H0:=mk_tr2 v0 k2
 obtain ⟨z1,G4,h⟩:=bi h
 have b2:=Tt Y1 (Tt z0 H0)
 have D3:=Ap F0 b2
 refine Bx (i:=11) (m' :=4095) (W:=137438949376) (takeC_ok g0 (by kernel_rfl)) rfl j0 (v:=.tuple #[.agg ((cs_TShare z1.1)).toArray,vI z1.2]) (fst:=[]) (cap:=[]) (.yes rfl rfl) body20 rfl (e2 rfl rfl) (fun w9 hw9=>balance_Ideal_c n _ w9 (x0.hL0 hL hw9) y1 (x0.kd D3 hw9) (2:Int) G4) rfl<|BA 12 8191 g0 rfl j0 (.yes rfl rfl) (fun _=>Af rfl rfl) rfl<|BA 13 16383 g0 rfl j0 (.yes rfl rfl) (fun _=>Af rfl rfl) rfl ?_
 obtain ⟨j5,H4,h⟩:=bi h
 refine Bx (i:=14) (m' :=32767) (W:=137438920704) (takeC_ok g0 (by kernel_rfl)) rfl j0 (v:=.bool j5) (fst:=[]) (cap:=[vP W0,vP X0]) (.yes rfl rfl) body72 rfl (e2 rfl rfl) (fun w9 hw9=>wardmotelaw22_part_1_c n _ w9 (x0.hL0 hL hw9) z1.1 z1.2 (50:Int) (fun j9 v9 h9=>hw9.cell0 ((x0.memA .hd) j9 v9 h9)) (1:Int) (fun j9 v9 h9=>hw9.cell0 ((x0.memA (.tl .hd)) j9 v9 h9)) H4) rfl<|Ah 15 65535 g0 rfl j0 (fun _=>BB rfl rfl) rfl<|Ah 16 131071 g0 rfl j0 (fun _=>Ai rfl) rfl<|RD.ifb (s:=48) rfl h (fun H2 h=>?_) (fun H2 h=>?_)
 refine BA 17 262143 g0 rfl j0 (.yes rfl rfl) (fun _=>Ai rfl) rfl ?_
 obtain ⟨u0,I4,h⟩:=bi h
 refine Bx (i:=18) (m' :=524287) (W:=137438429184) (takeC_ok g0 (by kernel_rfl)) rfl j0 (v:=.agg ((cs_TShare u0)).toArray) (fst:=[]) (cap:=[]) (.yes rfl rfl) body23 rfl (e2 rfl rfl) (fun w9 hw9=>wardmotelaw22_of_c n _ w9 (x0.hL0 hL hw9) (1:Int) (5:Int) I4) rfl ?_
 obtain ⟨q0,J4,h⟩:=bi h
 refine Bx (i:=19) (m' :=1048575) (W:=137437904896) (takeC_ok g0 (by kernel_rfl)) rfl j0 (v:=.agg ((cs_TShare q0)).toArray) (fst:=[]) (cap:=[]) (.yes rfl rfl) body23 rfl (e2 rfl rfl) (fun w9 hw9=>wardmotelaw22_of_c n _ w9 (x0.hL0 hL hw9) (-1:Int) (5:Int) J4) rfl<|RD.nu 20 2097151 g0 rfl (.yes rfl rfl) rfl (AW (α:=TShare) (xs:=([u0,q0]:List TShare)) (vs:=[.agg ((cs_TShare u0)).toArray,.agg ((cs_TShare q0)).toArray]) (ds' :=(cs_TShare u0 ++ cs_TShare q0)) rfl x0 el68 rfl (e2 rfl rfl) (by kernel_rfl) rfl) (fun Z4 q5 s0 J0=>?_)
 have t3:=AG (cs:=(cs_TShare u0 ++ cs_TShare q0)) (xs:=(([u0,q0]:List TShare):List TShare)) s0 L (Au (cs:=(cs_TShare u0)) (ds:=(cs_TShare q0)) (mk_TShare u0.fN u0.fD) (Au (cs:=(cs_TShare q0)) (ds:=[]) (mk_TShare q0.fN q0.fD) (AO _ _)))
 obtain ⟨k5,K4,h⟩:=bi h
 have P3:=Tt q1 (Tt s1 (Tt M0 (Tt D0 (Tt E0 (Tt y0 (Tt z0 (Tt H0 J0)))))))
 have E3:=Ap k4 P3
 refine Bx (i:=21) (m' :=4194303) (W:=137434759168) (takeC_ok g0 (by kernel_rfl)) rfl j0 (v:=.bool k5) (fst:=[]) (cap:=[]) (.yes rfl rfl) body44 rfl (e2 rfl rfl) (fun w9 hw9=>slices_Equal_api_Share_api_Share_c n _ w9 (s0.hL0 hL hw9) u2.1 (s0.kd E3 hw9) ([u0,q0]:List TShare) (Am (St.lend (α:=TShare) (L:=L) s0 .hd t3 hL) hw9) K4) rfl<|Ah 22 8388607 g0 rfl j0 (fun _=>BB rfl rfl) rfl<|Ah 23 16777215 g0 rfl j0 (fun _=>Ai rfl) rfl<|RD.ifb (s:=55) rfl h (fun I2 h=>?_) (fun I2 h=>?_)
 refine BA 24 33554431 g0 rfl j0 (.yes rfl rfl) (fun _=>Ai rfl) rfl<|BA 25 67108863 g0 rfl j0 (.yes rfl rfl) (fun _=>FV.eql (i:=u2.2) (j:=0) rfl rfl) rfl<|Ah 26 134217727 g0 rfl j0 (fun _=>BB rfl rfl) rfl<|Ah 27 268435455 g0 rfl j0 (fun _=>Ai rfl) rfl<|RD.ifd (s:=59) rfl h (fun J2 h=>?_) (fun J2 h=>?_)
 refine RD.val (i:=29) (m' :=805306367) (W:=135291469824) (takeC_ok g0 (by kernel_rfl)) rfl j0 (.yes rfl rfl) (AB rfl (s0.memA (.tl (.tl (.tl (.tl .hd)))))) rfl<|BA 30 1879048191 g0 rfl j0 (.yes rfl rfl) (fun _=>Ai rfl) rfl<|Bi 28 2147483647 g0 rfl (.yes rfl rfl) body21 rfl (e2 rfl rfl) (fun w9 hw9=>Calls.gives (wardmotelaw22_part_c n _ w9 (s0.hL hL hw9) (2:Int) (5:Int)) fun (w8:World) (u8:Value) ⟨b0_,b1_,hu_,s_⟩=>(⟨b0_,b1_,hu_,s_.from hw9⟩:∃ Z0 b1:Nat,u8 = Value.func (.func 72) #[] #[vP Z0,vP b1]∧St Z4 w8 [.cells Z0 [vI 2] 3,.cells b1 [vI 5] 3])) rfl (fun W5 I5 y5 ⟨Z0,b1,x4,p2⟩=>?_)
 subst x4
 have G0:=mk_push2 s0 p2
 have D1:=mk_tr2 s0 p2
 obtain ⟨A1,M4,h⟩:=bi h
 have Q3:=Tt b2 (Tt J0 D1)
 have F3:=Ap F0 Q3
 have R3:=Tt Z1 (Tt z0 (Tt H0 (Tt J0 D1)))
 have G3:=Ap P0 R3
 refine Bx (i:=31) (m' :=4294967295) (W:=133143986176) (takeC_ok g0 (by kernel_rfl)) rfl j0 (v:=.tuple #[.agg ((cs_TShare A1.1)).toArray,vI A1.2]) (fst:=[]) (cap:=[]) (.yes rfl rfl) body33 rfl (e3 rfl rfl rfl) (fun w9 hw9=>balance_Spread_c n _ w9 (G0.hL0 hL hw9) y1 (G0.kd F3 hw9) ([(0:Int),(0:Int),(0:Int),(1:Int)]:List Int) (G0.kd G3 hw9) (2:Int) M4) rfl<|BA 32 8589934591 g0 rfl j0 (.yes rfl rfl) (fun _=>Af rfl rfl) rfl<|BA 33 17179869183 g0 rfl j0 (.yes rfl rfl) (fun _=>Af rfl rfl) rfl ?_
 obtain ⟨v2,Q4,h⟩:=bi h
 refine Bx (i:=34) (m' :=34359738367) (W:=103079215104) (takeC_ok g0 (by kernel_rfl)) rfl j0 (v:=.bool v2) (fst:=[]) (cap:=[vP Z0,vP b1]) (.yes rfl rfl) body72 rfl (e2 rfl rfl) (fun w9 hw9=>wardmotelaw22_part_1_c n _ w9 (G0.hL0 hL hw9) A1.1 A1.2 (2:Int) (fun j9 v9 h9=>hw9.cell0 ((G0.memA .hd) j9 v9 h9)) (5:Int) (fun j9 v9 h9=>hw9.cell0 ((G0.memA (.tl .hd)) j9 v9 h9)) Q4) rfl<|Ah 35 68719476735 g0 rfl j0 (fun _=>BB rfl rfl) rfl<|Ah 36 137438953471 g0 rfl j0 (fun _=>AJ rfl) rfl<|AE (doneD_ok g0 (by kernel_rfl)) ?_
 obtain ⟨M2,W2⟩:=AH G0 (.one (.tl (.tl (.tl (.tl (.tl (.tl .hd)))))) .done)
 have U3:=Tt D0 (Tt E0 (Tt y0 (Tt z0 (Tt H0 (Tt J0 (Tt D1 W2))))))
 exact K0 v2 _ _ ⟨rfl,rfl,rfl,rfl,rfl,rfl,rfl,trivial⟩ ⟨M2,U3⟩ h
 refine Bk 34359738367 2 [(28,60),(29,61),(30,62),(31,63),(32,64),(33,65),(34,66)] (F:=[(59,false)]) (U:=[]) g0 j0 (.cons rfl .nil) .nil ?_
 dsimp only [offS,List.map]
 refine Ah 35 68719476735 g0 rfl j0 (fun _=>AV rfl rfl) rfl<|Ah 36 137438953471 g0 rfl j0 (fun _=>AJ rfl) rfl<|AE (doneD_ok g0 (by kernel_rfl)) ?_
 obtain ⟨P2,X2⟩:=AH s0 (.one (.tl (.tl (.tl (.tl .hd)))) .done)
 have V3:=Tt D0 (Tt E0 (Tt y0 (Tt z0 (Tt H0 (Tt J0 X2)))))
 exact K0 false _ _ ⟨rfl,rfl,rfl,rfl,rfl,rfl,rfl,trivial⟩ ⟨P2,V3⟩ h
 refine Bk 67108863 11 [(24,56),(25,57)] (F:=[(55,false)]) (U:=[]) g0 j0 (.cons rfl .nil) .nil ?_
 dsimp only [offS,List.map]
 refine Ah 26 134217727 g0 rfl j0 (fun _=>AV rfl rfl) rfl<|Ah 27 268435455 g0 rfl j0 (fun _=>Ai rfl) rfl<|Bk 34359738367 2 [(28,60),(29,61),(30,62),(31,63),(32,64),(33,65),(34,66)] (F:=[(59,false)]) (U:=[]) g0 j0 (.cons rfl .nil) .nil ?_
 dsimp only [offS,List.map]
 refine Ah 35 68719476735 g0 rfl j0 (fun _=>AV rfl rfl) rfl<|Ah 36 137438953471 g0 rfl j0 (fun _=>AJ rfl) rfl<|AE (doneD_ok g0 (by kernel_rfl)) ?_
 obtain ⟨Q2,Y2⟩:=AH s0 (.one (.tl (.tl (.tl (.tl .hd)))) .done)
 have W3:=Tt D0 (Tt E0 (Tt y0 (Tt z0 (Tt H0 (Tt J0 Y2)))))
 exact K0 false _ _ ⟨rfl,rfl,rfl,rfl,rfl,rfl,rfl,trivial⟩ ⟨Q2,W3⟩ h
 refine Bk 4194303 15 [(17,49),(18,50),(19,51),(20,52),(21,53)] (F:=[(48,false)]) (U:=[]) g0 j0 (.cons rfl .nil) .nil ?_
 dsimp only [offS,List.map]
 refine Ah 22 8388607 g0 rfl j0 (fun _=>AV rfl rfl) rfl<|Ah 23 16777215 g0 rfl j0 (fun _=>Ai rfl) rfl<|Bk 67108863 11 [(24,56),(25,57)] (F:=[(55,false)]) (U:=[]) g0 j0 (.cons rfl .nil) .nil ?_
 dsimp only [offS,List.map]
 refine Ah 26 134217727 g0 rfl j0 (fun _=>AV rfl rfl) rfl<|Ah 27 268435455 g0 rfl j0 (fun _=>Ai rfl) rfl<|Bk 34359738367 2 [(28,60),(29,61),(30,62),(31,63),(32,64),(33,65),(34,66)] (F:=[(59,false)]) (U:=[]) g0 j0 (.cons rfl .nil) .nil ?_
 dsimp only [offS,List.map]
 refine Ah 35 68719476735 g0 rfl j0 (fun _=>AV rfl rfl) rfl<|Ah 36 137438953471 g0 rfl j0 (fun _=>AJ rfl) rfl<|AE (doneD_ok g0 (by kernel_rfl)) ?_
 obtain ⟨R2,Z2⟩:=AH x0 (.one (.tl (.tl (.tl .hd))) .done)
 have X3:=Tt D0 (Tt E0 (Tt y0 (Tt z0 (Tt H0 Z2))))
 exact K0 false _ _ ⟨rfl,rfl,rfl,rfl,rfl,rfl,rfl,trivial⟩ ⟨R2,X3⟩ h
 refine Bk 32767 22 [(9,41),(10,42),(11,43),(12,44),(13,45),(14,46)] (F:=[(40,false)]) (U:=[]) g0 j0 (.cons rfl .nil) .nil ?_
 dsimp only [offS,List.map]
 refine Ah 15 65535 g0 rfl j0 (fun _=>AV rfl rfl) rfl<|Ah 16 131071 g0 rfl j0 (fun _=>Ai rfl) rfl<|Bk 4194303 15 [(17,49),(18,50),(19,51),(20,52),(21,53)] (F:=[(48,false)]) (U:=[]) g0 j0 (.cons rfl .nil) .nil ?_
 dsimp only [offS,List.map]
 refine Ah 22 8388607 g0 rfl j0 (fun _=>AV rfl rfl) rfl<|Ah 23 16777215 g0 rfl j0 (fun _=>Ai rfl) rfl<|Bk 67108863 11 [(24,56),(25,57)] (F:=[(55,false)]) (U:=[]) g0 j0 (.cons rfl .nil) .nil ?_
 dsimp only [offS,List.map]
 refine Ah 26 134217727 g0 rfl j0 (fun _=>AV rfl rfl) rfl<|Ah 27 268435455 g0 rfl j0 (fun _=>Ai rfl) rfl<|Bk 34359738367 2 [(28,60),(29,61),(30,62),(31,63),(32,64),(33,65),(34,66)] (F:=[(59,false)]) (U:=[]) g0 j0 (.cons rfl .nil) .nil ?_
 dsimp only [offS,List.map]
 refine Ah 35 68719476735 g0 rfl j0 (fun _=>AV rfl rfl) rfl<|Ah 36 137438953471 g0 rfl j0 (fun _=>AJ rfl) rfl<|AE (doneD_ok g0 (by kernel_rfl)) ?_
 obtain ⟨U2,b3⟩:=AH v0 (.one (.tl .hd) .done)
 have Y3:=Tt D0 (Tt E0 (Tt y0 (Tt z0 b3)))
 exact K0 false _ _ ⟨rfl,rfl,rfl,rfl,rfl,rfl,rfl,trivial⟩ ⟨U2,Y3⟩ h
def wardmoteref01_cut_l1 (_n:Nat) (a0:List Int) (c0:Int → Option Int):Int → Option Int
  | b0=>(if 0 < b0 then (chk (b0 - 1)).bind fun d0=>(idx a0 d0).bind fun j0=>(if j0 = 0 then (chk (b0 - 1)).bind fun g0=>c0 g0 else some b0) else some b0)
def wardmoteref01_cut_p (n:Nat) (a0:List Int):Option (List Int):=
  jn (fun d0=>(cut a0 0 d0).bind fun c0=>some c0) (fun b0=>Option.bind (loopF (wardmoteref01_cut_l1 n a0) n ((a0.length:Nat):Int)) (b0))
theorem wardmoteref01_cut_c (n:Nat) (L:List Nat) (w:World) (_hL:∀ b ∈ L,b < w.heap.size) (a0:List Int) {v0_0:Value} (h0_0:Rep.R w L [v0_0] a0)  {r:List Int} (h:wardmoteref01_cut_p n a0 = some r) :
    Calls Tryz.prog 184 #[v0_0] w (Gives w fun w' u=>∃ v0_0:Value,u = v0_0∧Rep.R w' L [v0_0] r):=by
 unfold wardmoteref01_cut_p at h
 have hS0:=Ax w
 refine AA Tryz.func184 rfl rfl rfl (fun _ cs0 hb0=>?_)
 refine Ac<|Ag rfl<|Aa<|Ac<|Ae rfl ?_
 have hl1:a0.length ≤ 281474976710656:=AT h0_0
 refine Ab (Bb (xs:=a0) Tryz.underlying45 rfl h0_0)<|Ag rfl<|Aa<|Ak<|Az<|MX.joinx (α:=Int) (fun c0=>[(0,v0_0),(3,vI c0)]) (fun c0 k0=>St w k0 []∧Tr w [] k0 []) (fun c0=>c0) (id:=0) rfl h ?_ ?_
 rintro c0 k0 ⟨g0,b1⟩ h
 try dsimp only at h
 refine Ac<|Ae rfl<|Ae rfl ?_
 obtain ⟨d1,Q0,h⟩:=bi h
 have D0:=AM h0_0 g0
 refine RG.valE .plain rfl (FV.cutL (α:=Int) Q0 (by kernel_rfl) rfl D0 rfl ⟨_,rfl⟩) (fun V0 H0=>?_)
 refine Ag rfl<|Aa<|Al rfl<|Bc hb0 Tryz.func184 rfl rfl ?_
 cases h
 exact ⟨g0.ag,fun w9 hw9=>⟨V0,rfl,g0.kd H0 hw9⟩⟩
 intro X0 q0 h
 try dsimp only at h
 obtain ⟨c1,G0,s0⟩:=bind_in2 h
 refine Bj (α:=Int) (fun b0=>[(0,v0_0),(3,vI b0)]) (fun b0 p0=>St w p0 []∧Tr w [] p0 []) (fun b0=>b0) ((a0.length:Nat):Int) G0 ⟨rfl,rfl,trivial⟩ ⟨hS0,AP _ _⟩ ?_
 rintro Y0 b0 p0 y0 ⟨d0,j0⟩ h
 unfold wardmoteref01_cut_l1 at h
 try dsimp only at h
 refine Ak<|Ac<|Ae rfl<|Ab (FV.gtr (i:=b0) (j:=0) rfl rfl)<|Ae rfl<|RG.ifd (s:=8) rfl h (fun u0 h=>?_) (fun u0 h=>?_)
 refine AY (Ai rfl)<|AY (Ai rfl) ?_
 obtain ⟨R0,J0,h⟩:=bi h
 refine AY (FV.subc (i:=b0) (j:=1) rfl rfl J0) ?_
 obtain ⟨t0,M0,h⟩:=bi h
 obtain ⟨B0,P0⟩:=idx_in M0
 have F0:=AM h0_0 d0
 obtain ⟨W0,Z0,z0,C0,x0,I0,E0⟩:=Bm F0 P0
 have A0:x0 = [vI t0]:=I0; subst A0
 refine AY (Bo 1 (R0.toNat) rfl z0 rfl B0 C0)<|AY (AK rfl (E0 0 _ rfl))<|AY (FV.eql (i:=t0) (j:=0) rfl rfl)<|RG.pt rfl rfl<|Aa<|AQ rfl h (fun v0 h=>?_) (fun v0 h=>?_)
 refine Aq<|Az<|Ar<|Ae rfl ?_
 obtain ⟨U0,K0,h⟩:=bi h
 refine Ab (FV.subc (i:=b0) (j:=1) rfl rfl K0)<|Ag rfl<|Aa<|AC ?_
 exact y0 U0 _ _ ⟨rfl,rfl,trivial⟩ ⟨d0,j0⟩ h
 refine Be rfl ?_
 have h:=s0 _ h
 try dsimp only at h
 exact q0 b0 _ _ ⟨rfl,rfl,trivial⟩ ⟨d0,j0⟩ h
 refine AR<|AR<|AR<|AR<|AR<|AR<|RG.pf rfl rfl<|Aa<|Bv rfl<|Be rfl ?_
 have h:=s0 _ h
 try dsimp only at h
 exact q0 b0 _ _ ⟨rfl,rfl,trivial⟩ ⟨d0,j0⟩ h
end Go.Proofs.YtmhgoecnjleagaaGreatDoor
