/- Functions of the program, and what they give: part 7. -/
import Derived.Test.YtmhgoecnjleagaaGreatDoorXW6
namespace Go.Proofs.YtmhgoecnjleagaaGreatDoor
open Go Go.RowKit
set_option maxRecDepth 4000
set_option maxHeartbeats 4000000

theorem body150:bodyB Tryz.prog 150 = true:=by kernel_rfl
theorem body188:bodyB Tryz.prog 188 = true:=by kernel_rfl
def wardmoteref02_Lowest_p (n:Nat) (a0:TLong153) (a1:TLong153):Option TRatio155:=
  (wardmoteref01_Divisor_p n a0 a1).bind fun b0=>jn (fun (d0,g0)=>(wardmoteref01_Parts_p n a0 (⟨d0,g0⟩:TLong153)).bind fun k0=>(wardmoteref01_Parts_p n a1 (⟨d0,g0⟩:TLong153)).bind fun p0=>some (⟨k0.1,p0.1⟩:TRatio155)) (fun c0=>(if a1.fBelow = true then (wardmoteref01_Turn_p n b0).bind fun j0=>c0 (j0.fBelow,j0.fD) else c0 (b0.fBelow,b0.fD)))
theorem wardmoteref02_Lowest_c (n:Nat) (L:List Nat) (w:World) (hL:∀ b ∈ L,b < w.heap.size) (a0:TLong153) {v0_1:Value} (h0_1:Rep.R w L [v0_1] a0.fD) (a1:TLong153) {v1_1:Value} (h1_1:Rep.R w L [v1_1] a1.fD)  {r:TRatio155} (h:wardmoteref02_Lowest_p n a0 a1 = some r) :
    Calls Tryz.prog 158 #[.agg #[.bool a0.fBelow,v0_1],.agg #[.bool a1.fBelow,v1_1]] w (Gives w fun w' u=>∃ v0_1 v0_3:Value,u = .agg #[.bool r.fN.fBelow,v0_1,.bool r.fD.fBelow,v0_3]∧Rep.R w' L [v0_1] r.fN.fD∧Rep.R w' L [v0_3] r.fD.fD):=by
 unfold wardmoteref02_Lowest_p at h
 have hS0:=Ax w
 refine AA Tryz.func158 rfl rfl rfl (fun _ cs0 hb0=>?_)
 refine Ac<|Aj .plain rfl (Aw hS0 rfl rfl) (fun d3 s0 y1 Q2=>?_)
 refine Aj .plain rfl (Aw y1 rfl rfl) (fun t3 t0 B1 R2=>?_)
 refine Aj .plain rfl (Av [.bool false,vN,.bool false,vN] B1) (fun u3 u0 g0 U2=>?_)
 refine Aa<|Ac<|Ab (AB rfl (g0.memA (.tl (.tl .hd))))<|Ab (AB rfl (g0.memA (.tl .hd))) ?_
 obtain ⟨A0,y2,h⟩:=bi h
 refine AX (fst:=[]) (cap:=[]) .plain body150 rfl (e2 rfl rfl) (fun w9 hw9=>wardmoteref01_Divisor_c n _ w9 (g0.hL hL hw9) a0 (g0.km h0_1 hw9) a1 (g0.km h1_1 hw9) y2) rfl (fun v3 Y2 Q1 ⟨R0,hu_,P0⟩=>?_)
 subst hu_
 obtain ⟨C1,V2⟩:=g0.agr Q1
 refine Aj .plain rfl (Av [.bool false,vN] C1) (fun x3 v0 D1 H0=>?_)
 have d2:=Ap P0 H0
 refine AL [.bool A0.fBelow,R0] D1 .hd (o2 rfl (AI d2)) (fun D2 x0 Z0=>?_)
 refine Aa<|Ak<|Ac<|Bg 0 rfl<|Bd rfl ((x0.memA (.tl (.tl .hd))) 0 _ rfl)<|Aa<|MX.join (α:=Bool × (List Int) × Value) (fun ⟨b0,d0,c0⟩=>[(2,vP s0),(3,vP t0),(4,vP u0),(5,vP v0)]) (fun ⟨b0,d0,c0⟩ C0=>St w C0 [.cells v0 [.bool b0,c0] 154,.cells u0 [.bool false,vN,.bool false,vN] 156,.cells t0 [.bool a1.fBelow,v1_1] 154,.cells s0 [.bool a0.fBelow,v0_1] 154]∧Tr D2 [.cells v0 [.bool A0.fBelow,R0] 154,.cells u0 [.bool false,vN,.bool false,vN] 156,.cells t0 [.bool a1.fBelow,v1_1] 154,.cells s0 [.bool a0.fBelow,v0_1] 154] C0 [.cells v0 [.bool b0,c0] 154,.cells u0 [.bool false,vN,.bool false,vN] 156,.cells t0 [.bool a1.fBelow,v1_1] 154,.cells s0 [.bool a0.fBelow,v0_1] 154]∧Rep.R C0 (bl [.cells v0 [.bool b0,c0] 154,.cells u0 [.bool false,vN,.bool false,vN] 156,.cells t0 [.bool a1.fBelow,v1_1] 154,.cells s0 [.bool a0.fBelow,v0_1] 154] ++ L) [c0] d0) (fun ⟨b0,d0,c0⟩=>(b0,d0)) h ?_ ?_
 rintro ⟨b0,d0,c0⟩ C0 ⟨y0,W2,q1⟩ h
 try dsimp only at h
 refine Ac<|Ab (AB rfl (y0.memA (.tl (.tl (.tl .hd)))))<|Ab (AB rfl (y0.memA .hd)) ?_
 obtain ⟨p0,z2,h⟩:=bi h
 refine AX (fst:=[]) (cap:=[]) .plain body188 rfl (e2 rfl rfl) (fun w9 hw9=>wardmoteref01_Parts_c n _ w9 (y0.hL hL hw9) a0 (y0.km h0_1 hw9) (⟨b0,d0⟩:TLong153) (Am q1 hw9) z2) rfl (fun y3 Z2 R1 ⟨k0,C2,hu_,Q0,t2⟩=>?_)
 subst hu_
 obtain ⟨E1,M1⟩:=y0.agr R1
 refine Ae rfl<|Ab (Af rfl rfl)<|Ab (Af rfl rfl)<|Aj .plain rfl (Av [.bool false,vN] E1) (fun z3 J2 F1 I0=>?_)
 refine Aj .plain rfl (Av [.bool false,vN] F1) (fun A3 K2 G1 J0=>?_)
 have g2:=Ap Q0 (Tt I0 J0)
 refine AL [.bool p0.1.fBelow,k0] G1 (.tl .hd) (o2 rfl (AI g2)) (fun B3 H1 b1=>?_)
 have k1:=Tt I0 (Tt J0 b1)
 have j2:=Ap t2 k1
 refine AL [.bool p0.2.fBelow,C2] H1 .hd (o2 rfl (AI j2)) (fun C3 z0 c1=>?_)
 refine Aa<|Ac<|Ab (AB rfl (z0.memA (.tl (.tl (.tl (.tl .hd))))))<|Ab (AB rfl (z0.memA (.tl (.tl .hd)))) ?_
 obtain ⟨q0,A2,h⟩:=bi h
 have q2:=Tt M1 (Tt I0 (Tt J0 (Tt b1 c1)))
 have k2:=Ap q1 q2
 refine AX (fst:=[]) (cap:=[]) .plain body188 rfl (e2 rfl rfl) (fun w9 hw9=>wardmoteref01_Parts_c n _ w9 (z0.hL hL hw9) a1 (z0.km h1_1 hw9) (⟨b0,d0⟩:TLong153) (Am k2 hw9) A2) rfl (fun D3 b3 U1 ⟨j0,B2,hu_,M0,s2⟩=>?_)
 subst hu_
 obtain ⟨I1,J1⟩:=z0.agr U1
 refine Ae rfl<|Ab (Af rfl rfl)<|Ab (Af rfl rfl)<|Aj .plain rfl (Av [.bool false,vN] I1) (fun c3 H2 u1 E0=>?_)
 refine Aj .plain rfl (Av [.bool false,vN] u1) (fun g3 I2 v1 F0=>?_)
 have V1:=Ap M0 (Tt E0 F0)
 refine AL [.bool q0.1.fBelow,j0] v1 (.tl .hd) (o2 rfl (AI V1)) (fun j3 x1 W0=>?_)
 have K0:=Tt E0 (Tt F0 W0)
 have W1:=Ap s2 K0
 refine AL [.bool q0.2.fBelow,B2] x1 .hd (o2 rfl (AI W1)) (fun k3 D0 G0=>?_)
 refine Aa<|Ac<|Ab (AB rfl (D0.memA (.tl (.tl (.tl .hd)))))<|Ab (AB rfl (D0.memA (.tl .hd))) ?_
 have j1:=Tt k1 (Tt c1 (Tt J1 (Tt E0 (Tt F0 (Tt W0 G0)))))
 have d1:=Ap Q0 j1
 obtain ⟨E2,M2,u2,_⟩:=Rep.sl d1
 have g1:=Ap M0 (Tt K0 G0)
 obtain ⟨F2,P2,v2,_⟩:=Rep.sl g1
 refine Ab (AS (vs:=[.agg #[.bool p0.1.fBelow,k0],.agg #[.bool q0.1.fBelow,j0]]) (u:=.agg #[.bool p0.1.fBelow,k0,.bool q0.1.fBelow,j0]) (e2 rfl rfl) (fun w9=>by rw [u2,v2]; try kernel_rfl))<|AL [.bool p0.1.fBelow,k0,.bool q0.1.fBelow,j0] D0 (.tl (.tl (.tl (.tl (.tl .hd))))) (o4 rfl (AI d1) rfl (AI g1)) (fun p3 B0 X0=>?_)
 refine Aa<|Al rfl<|Ao hb0 Tryz.func158 rfl (.cons (.many (cs:=[.bool p0.1.fBelow,k0,.bool q0.1.fBelow,j0]) (by kernel_rfl) rfl (B0.memA (.tl (.tl (.tl (.tl (.tl .hd))))))) .nil) rfl ?_
 cases h
 have X1:=Ap Q0 (Tt j1 X0)
 have p2:=Tt K0 (Tt G0 X0)
 have Y1:=Ap M0 p2
 exact ⟨B0.ag,fun w9 hw9=>⟨k0,j0,rfl,B0.kd X1 hw9,B0.kd Y1 hw9⟩⟩
 intro G2 V0 h
 try dsimp only at h
 refine MX.ifb rfl h (fun t1 h=>?_) (fun t1 h=>?_)
 refine Ar<|Ab (AB rfl (x0.memA .hd)) ?_
 obtain ⟨U0,x2,h⟩:=bi h
 have Z1:=Ap P0 (Tt H0 Z0)
 refine AX (fst:=[]) (cap:=[]) .plain body156 rfl (e1 rfl) (fun w9 hw9=>wardmoteref01_Turn_c n _ w9 (x0.hL hL hw9) A0 (Am Z1 hw9) x2) rfl (fun q3 X2 P1 ⟨s1,hu_,p1⟩=>?_)
 subst hu_
 obtain ⟨z1,K1⟩:=x0.agr P1
 refine AL [.bool U0.fBelow,s1] z1 .hd (o2 rfl (AI p1)) (fun s3 A1 Y0=>?_)
 refine Aa ?_
 have b2:=Ap p1 Y0
 exact V0 (U0.fBelow,U0.fD,s1) _ _ ⟨rfl,rfl,rfl,rfl,trivial⟩ ⟨A1,(Tt K1 Y0),b2⟩ h
 refine Aq ?_
 have c2:=Ap P0 (Tt H0 Z0)
 exact V0 (A0.fBelow,A0.fD,R0) _ _ ⟨rfl,rfl,rfl,rfl,trivial⟩ ⟨x0,AP _ _,c2⟩ h
theorem body158:bodyB Tryz.prog 158 = true:=by kernel_rfl
def wardmoteref02_Quick_p (n:Nat) (a0:Int) (a1:Int):Option TRatio155:=
  (wardmoteref01_Long1_p n a0).bind fun b0=>(wardmoteref01_Long1_p n a1).bind fun c0=>(wardmoteref02_Lowest_p n b0 c0).bind fun d0=>some d0
theorem wardmoteref02_Quick_c (n:Nat) (L:List Nat) (w:World) (hL:∀ b ∈ L,b < w.heap.size) (a0:Int) (a1:Int)  {r:TRatio155} (h:wardmoteref02_Quick_p n a0 a1 = some r) :
    Calls Tryz.prog 140 #[vI a0,vI a1] w (Gives w fun w' u=>∃ v0_1 v0_3:Value,u = .agg #[.bool r.fN.fBelow,v0_1,.bool r.fD.fBelow,v0_3]∧Rep.R w' L [v0_1] r.fN.fD∧Rep.R w' L [v0_3] r.fD.fD):=by
 unfold wardmoteref02_Quick_p at h
 have hS0:=Ax w
 refine AA Tryz.func140 rfl rfl rfl (fun _ cs0 hb0=>?_)
 refine Ac<|Aj .plain rfl (Av [.bool false,vN,.bool false,vN] hS0) (fun Y0 K0 j0 M0=>?_)
 refine Aa<|Ac<|Ae rfl ?_
 obtain ⟨I0,F0,h⟩:=bi h
 refine AX (fst:=[]) (cap:=[]) .plain body177 rfl (e1 rfl) (fun w9 hw9=>wardmoteref01_Long1_c n _ w9 (j0.hL hL hw9) a0 F0) rfl (fun Z0 V0 x0 ⟨R0,hu_,D0⟩=>?_)
 subst hu_
 obtain ⟨k0,P0⟩:=j0.agr x0
 refine Ae rfl ?_
 obtain ⟨J0,G0,h⟩:=bi h
 refine AX (fst:=[]) (cap:=[]) .plain body177 rfl (e1 rfl) (fun w9 hw9=>wardmoteref01_Long1_c n _ w9 (k0.hL hL hw9) a1 G0) rfl (fun b1 W0 y0 ⟨U0,hu_,E0⟩=>?_)
 subst hu_
 obtain ⟨p0,v0⟩:=k0.agr y0
 obtain ⟨c0,H0,h⟩:=bi h
 have A0:=Ap D0 v0
 refine AX (fst:=[]) (cap:=[]) .plain body158 rfl (e2 rfl rfl) (fun w9 hw9=>wardmoteref02_Lowest_c n _ w9 (p0.hL hL hw9) I0 (Am A0 hw9) J0 (Am E0 hw9) H0) rfl (fun c1 X0 z0 ⟨d0,g0,hu_,s0,t0⟩=>?_)
 subst hu_
 obtain ⟨u0,Q0⟩:=p0.agr z0
 refine AL [.bool c0.fN.fBelow,d0,.bool c0.fD.fBelow,g0] u0 .hd (o4 rfl (AI s0) rfl (AI t0)) (fun d1 b0 q0=>?_)
 refine Aa<|Al rfl<|Ao hb0 Tryz.func140 rfl (.cons (.many (cs:=[.bool c0.fN.fBelow,d0,.bool c0.fD.fBelow,g0]) (by kernel_rfl) rfl (b0.memA .hd)) .nil) rfl ?_
 cases h
 have B0:=Ap s0 q0
 have C0:=Ap t0 q0
 exact ⟨b0.ag,fun w9 hw9=>⟨d0,g0,rfl,b0.kd B0 hw9,b0.kd C0 hw9⟩⟩
theorem body111:bodyB Tryz.prog 111 = true:=by kernel_rfl
theorem body140:bodyB Tryz.prog 140 = true:=by kernel_rfl
def wardmoteref02_Of_p (n:Nat) (a0:Int) (a1:Int):Option (TShare × Int):=
  (if a1 = 0 then some ((⟨((0:UInt64),(0:UInt64),(0:UInt64),(0:UInt64),(0:UInt64),(0:UInt64),(0:UInt64),(0:UInt64)),((0:UInt64),(0:UInt64),(0:UInt64),(0:UInt64),(0:UInt64),(0:UInt64),(0:UInt64),(0:UInt64))⟩:TShare),(7:Int)) else (wardmoteref02_Quick_p n a0 a1).bind fun c0=>(wardmoteref02_Out_p n c0).bind fun b0=>some (b0.1,b0.2))
theorem wardmoteref02_Of_c (n:Nat) (L:List Nat) (w:World) (hL:∀ b ∈ L,b < w.heap.size) (a0:Int) (a1:Int)  {r:TShare × Int} (h:wardmoteref02_Of_p n a0 a1 = some r) :
    Calls Tryz.prog 98 #[vI a0,vI a1] w (Gives w fun _ u=>u = .tuple #[.agg ((cs_TShare r.1)).toArray,vI r.2]):=by
 unfold wardmoteref02_Of_p at h
 have hS0:=Ax w
 refine AA Tryz.func98 rfl rfl rfl (fun _ cs0 hb0=>?_)
 refine Ac<|Aj .plain rfl (Av zL hS0) (fun F0 x0 d0 y0=>?_)
 refine Ag rfl<|Aa<|Ak<|Ac<|Ae rfl<|Ab (FV.eql (i:=a1) (j:=0) rfl rfl)<|Aa<|AQ rfl h (fun k0 h=>?_) (fun k0 h=>?_)
 refine Ac<|Ab (AS (vs:=[]) (u:=.agg zM) evs_nil (fun w9=>by kernel_rfl))<|AL zL d0 .hd (onesB rfl) (fun G0 g0 z0=>?_)
 refine Ag rfl<|Aa<|Al rfl<|Ao hb0 Tryz.func98 rfl (.cons (.many (cs:=zL) (by kernel_rfl) rfl (g0.memA .hd)) (.cons (.tmp rfl) .nil)) rfl ?_
 cases h
 exact g0.gv
 refine Aq<|Ac<|Ae rfl<|Ae rfl ?_
 obtain ⟨v0,t0,h⟩:=bi h
 refine AX (fst:=[]) (cap:=[]) .plain body140 rfl (e2 rfl rfl) (fun w9 hw9=>wardmoteref02_Quick_c n _ w9 (d0.hL hL hw9) a0 a1 t0) rfl (fun H0 E0 p0 ⟨C0,D0,hu_,q0,s0⟩=>?_)
 subst hu_
 obtain ⟨b0,A0⟩:=d0.agr p0
 obtain ⟨c0,u0,h⟩:=bi h
 refine Bf (.tuple #[.agg ((cs_TShare c0.1)).toArray,vI c0.2]) body111 rfl (e1 rfl) (fun w9 hw9=>wardmoteref02_Out_c n _ w9 (b0.hL0 hL hw9) v0 (b0.kd q0 hw9) (b0.kd s0 hw9) u0) rfl<|Ab (Af rfl rfl)<|Ab (Af rfl rfl)<|AL (cs_TShare c0.1) b0 .hd (onesB rfl) (fun I0 j0 B0=>?_)
 refine Ag rfl<|Aa<|Al rfl<|Ao hb0 Tryz.func98 rfl (.cons (.many (cs:=(cs_TShare c0.1)) (by kernel_rfl) rfl (j0.memA .hd)) (.cons (.tmp rfl) .nil)) rfl ?_
 cases h
 exact j0.gv
theorem body98:bodyB Tryz.prog 98 = true:=by kernel_rfl
def wardmoteref22_Of_p (n:Nat) (a0:Int) (a1:Int):Option TShare:=
  (wardmoteref02_Of_p n a0 a1).bind fun b0=>some b0.1
theorem wardmoteref22_Of_c (n:Nat) (L:List Nat) (w:World) (hL:∀ b ∈ L,b < w.heap.size) (a0:Int) (a1:Int)  {r:TShare} (h:wardmoteref22_Of_p n a0 a1 = some r) :
    Calls Tryz.prog 47 #[vI a0,vI a1] w (Gives w fun _ u=>u = .agg ((cs_TShare r)).toArray):=by
 unfold wardmoteref22_Of_p at h
 have hS0:=Ax w
 refine AA Tryz.func47 rfl rfl rfl (fun _ cs0 hb0=>?_)
 refine Ac<|Aj .plain rfl (Av zL hS0) (fun x0 p0 c0 s0=>?_)
 refine Aa<|Ac<|Ae rfl<|Ae rfl ?_
 obtain ⟨b0,k0,h⟩:=bi h
 refine Bf (.tuple #[.agg ((cs_TShare b0.1)).toArray,vI b0.2]) body98 rfl (e2 rfl rfl) (fun w9 hw9=>wardmoteref02_Of_c n _ w9 (c0.hL0 hL hw9) a0 a1 k0) rfl<|Ae rfl<|Ab (Af rfl rfl)<|Ab (Af rfl rfl)<|Aj .plain rfl (Av zL c0) (fun y0 q0 j0 t0=>?_)
 refine AL (cs_TShare b0.1) j0 .hd (onesB rfl) (fun z0 d0 u0=>?_)
 refine Ag rfl<|Aa<|Ac<|Ab (AB rfl (d0.memA .hd))<|AL (cs_TShare b0.1) d0 (.tl .hd) (onesB rfl) (fun A0 g0 v0=>?_)
 refine Aa<|Al rfl<|Ao hb0 Tryz.func47 rfl (.cons (.many (cs:=(cs_TShare b0.1)) (by kernel_rfl) rfl (g0.memA (.tl .hd))) .nil) rfl ?_
 cases h
 exact g0.gv
structure TPart where
  fN:Int16
  fD:UInt8
  deriving DecidableEq
instance:Rep TPart:=Rep.via (β:=Int16 × UInt8) fun x=>(x.fN,x.fD)
def tb11_4:List (Nat × Nat × Nat):=[(0,2048,8),(0,4096,2),(2,8192,4096),(4,16384,8192),(8,32768,16384),(17,65536,34816),(0,131072,2),(64,262144,131072),(128,524288,262144),(256,1048576,524288),(544,2097152,1114112),(2047,0,2097156)]
theorem body47:bodyB Tryz.prog 47 = true:=by kernel_rfl
def wardmoteref22_Part_Unit_p (n:Nat) (a0:TPart):Option TShare:=
  jn (fun g0=>(remI g0 ((a0.fD.toNat + 2:Nat):Int)).bind fun c0=>(wardmoteref22_Of_p n c0 ((1 + a0.fD.toNat:Nat):Int)).bind fun d0=>some d0) (fun b0=>(if a0.fN.toInt < 0 then b0 ((-1) - a0.fN.toInt) else b0 a0.fN.toInt))
theorem wardmoteref22_Part_Unit_c (n:Nat) (L:List Nat) (w:World) (hL:∀ b ∈ L,b < w.heap.size) (a0:TPart)  {r:TShare} (h:wardmoteref22_Part_Unit_p n a0 = some r) :
    Calls Tryz.prog 11 #[.agg #[.int .i16 a0.fN.toInt,.int .u8 (a0.fD.toNat:Int)]] w (Gives w fun _ u=>u = .agg ((cs_TShare r)).toArray):=by
 unfold wardmoteref22_Part_Unit_p at h
 have hS0:=Ax w
 refine AA Tryz.func11 rfl rfl rfl (fun _ cs0 hb0=>?_)
 refine Ac<|Aj .plain rfl (Aw hS0 rfl rfl) (fun M0 g0 x0 D0=>?_)
 refine Aj .plain rfl (Av zL x0) (fun B0 j0 p0 E0=>?_)
 refine Aa<|Ac<|Bg 0 rfl<|Bd rfl ((p0.memA (.tl .hd)) 0 _ rfl) ?_
 have H0:=Int16.le_toInt a0.fN
 have I0:=Int16.toInt_lt a0.fN
 refine Ab (FV.convI16 (i:=a0.fN) Tryz.underlying30 Tryz.underlying3 rfl)<|Ag rfl<|Aa<|Ak<|Ac<|Ae rfl<|Ab (FV.lss (i:=a0.fN.toInt) (j:=0) rfl rfl)<|Aa<|MX.join (α:=Int) (fun d0=>[(1,vP g0),(2,vP j0),(3,vI d0)]) (fun d0 q0=>St w q0 [.cells j0 zL 37,.cells g0 [.int .i16 a0.fN.toInt,.int .u8 (a0.fD.toNat:Int)] 32]∧Tr B0 [.cells j0 zL 37,.cells g0 [.int .i16 a0.fN.toInt,.int .u8 (a0.fD.toNat:Int)] 32] q0 [.cells j0 zL 37,.cells g0 [.int .i16 a0.fN.toInt,.int .u8 (a0.fD.toNat:Int)] 32]) (fun d0=>d0) h ?_ ?_
 rintro d0 q0 ⟨k0,F0⟩ h
 try dsimp only at h
 refine Ak<|AF 11 tb11_4 (by kernel_rfl) (by kernel_rfl) (by kernel_rfl) (fun b0 c0=>?_)
 refine Ah 0 1 b0 rfl c0 (fun _=>Ai rfl) rfl<|Ah 1 3 b0 rfl c0 (fun _=>Bh 1 rfl) rfl<|AD 2 7 3128 b0 rfl c0 (AK rfl ((k0.memA (.tl .hd)) 1 _ rfl)) rfl ?_
 have J0:=a0.fD.toNat_lt
 refine Ah 3 15 b0 rfl c0 (fun _=>FV.convN (i:=a0.fD.toNat) Tryz.underlying5 Tryz.underlying3 rfl (by omega)) rfl<|Ah 4 31 b0 rfl c0 (fun _=>Br (i:=a0.fD.toNat) (j:=2) rfl rfl (by omega)) rfl ?_
 obtain ⟨A0,y0,h⟩:=bi h
 refine Ah 5 63 b0 rfl c0 (fun _=>FV.remc (i:=d0) (j:=((a0.fD.toNat + 2:Nat):Int)) rfl rfl y0) rfl<|Ah 6 127 b0 rfl c0 (fun _=>Bh 1 rfl) rfl<|AD 7 255 3840 b0 rfl c0 (AK rfl ((k0.memA (.tl .hd)) 1 _ rfl)) rfl ?_
 have K0:=a0.fD.toNat_lt
 refine Ah 8 511 b0 rfl c0 (fun _=>FV.convN (i:=a0.fD.toNat) Tryz.underlying5 Tryz.underlying3 rfl (by omega)) rfl<|Ah 9 1023 b0 rfl c0 (fun _=>Br (i:=1) (j:=a0.fD.toNat) rfl rfl (by omega)) rfl ?_
 obtain ⟨s0,z0,h⟩:=bi h
 refine BI 10 2047 2048 (.agg ((cs_TShare s0)).toArray) b0 rfl c0 body47 rfl (e2 rfl rfl) (fun w9 hw9=>wardmoteref22_Of_c n _ w9 (k0.hL0 hL hw9) A0 ((1 + a0.fD.toNat:Nat):Int) z0) rfl<|Bt 11 4095 b0 rfl rfl .plain (Ay (news:=(cs_TShare s0)) k0 .hd rfl rfl rfl rfl rfl rfl (onesB rfl)) (fun P0 u0 G0=>?_)
 refine AE (doneD_ok b0 (by kernel_rfl))<|Al rfl<|Ao hb0 Tryz.func11 rfl (.cons (.many (cs:=(cs_TShare s0)) (by kernel_rfl) rfl (u0.memA .hd)) .nil) rfl ?_
 cases h
 exact u0.gv
 intro C0 t0 h
 try dsimp only at h
 refine AQ rfl h (fun v0 h=>?_) (fun v0 h=>?_)
 refine Ar<|Ae rfl<|Ab (FV.subI (i:=(-1)) (j:=a0.fN.toInt) rfl rfl (by omega))<|Ag rfl<|Aa ?_
 exact t0 ((-1) - a0.fN.toInt) _ _ ⟨rfl,rfl,rfl,trivial⟩ ⟨p0,AP _ _⟩ h
 refine Aq ?_
 exact t0 a0.fN.toInt _ _ ⟨rfl,rfl,rfl,trivial⟩ ⟨p0,AP _ _⟩ h
structure TDraft where
  fN:UInt8
  fParents:List UInt8
  fMore:List (UInt8 × UInt8)
  fLabels:List UInt8
  fK:UInt8
  deriving DecidableEq
instance:Rep TDraft:=Rep.via (β:=UInt8 × (List UInt8) × (List (UInt8 × UInt8)) × (List UInt8) × UInt8) fun x=>(x.fN,x.fParents,x.fMore,x.fLabels,x.fK)
def wardmoteref21_Draft_Units_p (_n:Nat) (a0:TDraft):Option Int:=
  some ((1 + ((a0.fN % (9:UInt8)).toNat):Nat):Int)
theorem wardmoteref21_Draft_Units_c (n:Nat) (L:List Nat) (w:World) (_hL:∀ b ∈ L,b < w.heap.size) (a0:TDraft) {v0_1:Value} (h0_1:Rep.R w L [v0_1] a0.fParents) {v0_2:Value} (h0_2:Rep.R w L [v0_2] a0.fMore) {v0_3:Value} (h0_3:Rep.R w L [v0_3] a0.fLabels)  {r:Int} (h:wardmoteref21_Draft_Units_p n a0 = some r) :
    Calls Tryz.prog 61 #[.agg #[.int .u8 (a0.fN.toNat:Int),v0_1,v0_2,v0_3,.int .u8 (a0.fK.toNat:Int)]] w (Gives w fun _ u=>u = vI r):=by
 unfold wardmoteref21_Draft_Units_p at h
 have hS0:=Ax w
 refine AA Tryz.func61 rfl rfl rfl (fun _ cs0 hb0=>?_)
 refine Ac<|Aj .plain rfl (Aw hS0 rfl rfl) (fun j0 c0 b0 d0=>?_)
 refine Ag rfl<|Aa<|Ac<|Bg 0 rfl<|Bd rfl ((b0.memA .hd) 0 _ rfl)<|Ab (FV.rem8 (a:=a0.fN) (b:=(9:UInt8)) rfl rfl (by decide)) ?_
 have g0:=(a0.fN % (9:UInt8)).toNat_lt
 refine Ab (FV.convN (i:=(a0.fN % (9:UInt8)).toNat) Tryz.underlying5 Tryz.underlying3 rfl (by omega))<|Ab (Br (i:=1) (j:=(a0.fN % (9:UInt8)).toNat) rfl rfl (by omega))<|Ag rfl<|Aa<|Al rfl<|Bc hb0 Tryz.func61 rfl rfl ?_
 cases h
 exact b0.gv
def wardmoteref21_Draft_label_p (_n:Nat) (a0:TDraft) (a1:Int):Option Int:=
  (if a1 < ((a0.fLabels.length:Nat):Int) then (idx a0.fLabels a1).bind fun b0=>some ((b0.toNat:Nat):Int) else some (0:Int))
theorem wardmoteref21_Draft_label_c (n:Nat) (L:List Nat) (w:World) (_hL:∀ b ∈ L,b < w.heap.size) (a0:TDraft) {v0_1:Value} (h0_1:Rep.R w L [v0_1] a0.fParents) {v0_2:Value} (h0_2:Rep.R w L [v0_2] a0.fMore) {v0_3:Value} (h0_3:Rep.R w L [v0_3] a0.fLabels) (a1:Int)  {r:Int} (h:wardmoteref21_Draft_label_p n a0 a1 = some r) :
    Calls Tryz.prog 62 #[.agg #[.int .u8 (a0.fN.toNat:Int),v0_1,v0_2,v0_3,.int .u8 (a0.fK.toNat:Int)],vI a1] w (Gives w fun _ u=>u = vI r):=by
 unfold wardmoteref21_Draft_label_p at h
 have hS0:=Ax w
 refine AA Tryz.func62 rfl rfl rfl (fun _ cs0 hb0=>?_)
 refine Ac<|Aj .plain rfl (Aw hS0 rfl rfl) (fun E0 z0 b0 B0=>?_)
 refine Ag rfl<|Aa<|Ak<|Ac<|Ae rfl<|Bg 3 rfl<|Bd rfl ((b0.memA .hd) 3 _ rfl) ?_
 have c0:=AM h0_3 b0
 have C0:a0.fLabels.length ≤ 281474976710656:=AT c0
 refine Ab (Bb (xs:=a0.fLabels) Tryz.underlying22 rfl c0)<|Ab (FV.lss (i:=a1) (j:=((a0.fLabels.length:Nat):Int)) rfl rfl)<|Aa<|AQ rfl h (fun g0 h=>?_) (fun g0 h=>?_)
 refine Ac<|Bg 3 rfl<|Bd rfl ((b0.memA .hd) 3 _ rfl)<|Ae rfl ?_
 obtain ⟨d0,v0,h⟩:=bi h
 obtain ⟨q0,x0⟩:=idx_in v0
 obtain ⟨y0,A0,k0,s0,j0,u0,t0⟩:=Bm c0 x0
 have p0:j0 = [.int .u8 (d0.toNat:Int)]:=u0; subst p0
 refine Ab (Bo 1 (a1.toNat) rfl k0 rfl q0 s0)<|Bd rfl (t0 0 _ rfl) ?_
 have D0:=d0.toNat_lt
 refine Ab (FV.convN (i:=d0.toNat) Tryz.underlying5 Tryz.underlying3 rfl (by omega))<|Ag rfl<|Aa<|Al rfl<|Bc hb0 Tryz.func62 rfl rfl ?_
 cases h
 exact b0.gv
 refine Aq<|Ac<|Ag rfl<|Aa<|Al rfl<|Bc hb0 Tryz.func62 rfl rfl ?_
 cases h
 exact b0.gv
def wardmoteref21_Labels_l1 (_n:Nat) (a0:List Int) (a1:Int) (d0:Nat → Option (Bool ⊕ Unit)):Nat → Option (Bool ⊕ Unit)
  | b0=>(if b0 < a0.length then (a0[b0]?).bind fun c0=>(if c0 < 0 then some (.inl false) else (if a1 ≤ c0 then some (.inl false) else d0 (b0 + 1))) else some (.inr ()))
def wardmoteref21_Labels_p (n:Nat) (a0:List Int) (a1:Int):Option Bool:=
  thn (loopF (wardmoteref21_Labels_l1 n a0 a1) n 0) (fun _=>(if 1 ≤ a0.length then some (decide (a0.length ≤ 64)) else some false))
theorem wardmoteref21_Labels_c (n:Nat) (L:List Nat) (w:World) (_hL:∀ b ∈ L,b < w.heap.size) (a0:List Int) {v0_0:Value} (h0_0:Rep.R w L [v0_0] a0) (a1:Int)  {r:Bool} (h:wardmoteref21_Labels_p n a0 a1 = some r) :
    Calls Tryz.prog 121 #[v0_0,vI a1] w (Gives w fun _ u=>u = .bool r):=by
 unfold wardmoteref21_Labels_p at h
 have hS0:=Ax w
 refine AA Tryz.func121 rfl rfl rfl (fun _ cs0 hb0=>?_)
 refine Ac<|Ag rfl<|Aa<|Ak<|Ac<|Ag rfl<|Aa<|Az ?_
 obtain ⟨J0,C0,g0⟩:=thn_in h
 refine Bj (α:=Nat) (fun b0=>[(0,v0_0),(1,vI a1),(5,vI ((b0:Nat):Int))]) (fun b0 j0=>St w j0 []∧Tr w [] j0 []) (fun b0=>b0) 0 C0 ⟨rfl,rfl,rfl,trivial⟩ ⟨hS0,AP _ _⟩ ?_
 rintro G0 b0 j0 z0 ⟨c0,A0⟩ h
 unfold wardmoteref21_Labels_l1 at h
 try dsimp only at h
 refine Ak<|Ac<|Ae rfl<|Ae rfl ?_
 have d0:=AM h0_0 c0
 have I0:a0.length ≤ 281474976710656:=AT d0
 refine Ab (Bb (xs:=a0) Tryz.underlying46 rfl d0)<|Ab (Bn (i:=b0) (j:=a0.length) rfl rfl)<|Aa<|AQ rfl h (fun t0 h=>?_) (fun t0 h=>?_)
 refine Aq<|Ak<|Az<|Ac<|Ae rfl<|Ae rfl ?_
 obtain ⟨k0,E0,h⟩:=bi h
 obtain ⟨F0,H0,p0,q0,y0,D0,s0⟩:=Bm d0 E0
 have B0:y0 = [vI k0]:=D0; subst B0
 refine Ab (Bo 1 b0 rfl p0 rfl rfl q0)<|Bd rfl (s0 0 _ rfl)<|Ab (FV.lss (i:=k0) (j:=0) rfl rfl)<|Ae rfl<|RG.ifd (s:=17) rfl h (fun u0 h=>?_) (fun u0 h=>?_)
 refine AR<|AR<|AR<|AR<|AR<|AR<|RG.pt rfl rfl<|Aa<|Bp rfl<|Ac<|Ag rfl<|Aa ?_
 have h:=thn_inl h g0
 refine Al rfl<|Bc hb0 Tryz.func121 rfl rfl ?_
 cases h
 exact c0.gv
 refine AY (Ai rfl)<|AY (Ai rfl)<|AY (Bo 1 b0 rfl p0 rfl rfl q0)<|AY (AK rfl (s0 0 _ rfl))<|AY (Ai rfl)<|AY (FV.geq (i:=k0) (j:=a1) rfl rfl)<|RG.pf rfl rfl<|Aa<|AQ rfl h (fun v0 h=>?_) (fun v0 h=>?_)
 refine Ac<|Ag rfl<|Aa ?_
 have h:=thn_inl h g0
 refine Al rfl<|Bc hb0 Tryz.func121 rfl rfl ?_
 cases h
 exact c0.gv
 refine Aq<|AC<|Ar<|Ae rfl<|Ab (Br (i:=b0) (j:=1) rfl rfl (by omega))<|Ag rfl<|Aa ?_
 exact z0 (b0 + 1) _ _ ⟨rfl,rfl,rfl,trivial⟩ ⟨c0,A0⟩ h
 refine Be rfl ?_
 have h:=thn_inr h g0
 try dsimp only at h
 refine Ac<|Ae rfl<|Ab (Bb (xs:=a0) Tryz.underlying46 rfl d0)<|Ab (FV.geqN (i:=a0.length) (j:=1) rfl rfl)<|Ae rfl<|RG.ifd (s:=28) rfl h (fun x0 h=>?_) (fun x0 h=>?_)
 refine AY (Ai rfl)<|AY (Bb (xs:=a0) Tryz.underlying46 rfl d0)<|AY (FV.leqN (i:=a0.length) (j:=64) rfl rfl)<|RG.pt rfl rfl<|Ag rfl<|Aa<|Al rfl<|Bc hb0 Tryz.func121 rfl rfl ?_
 cases h
 exact c0.gv
 refine AR<|AR<|AR<|RG.pf rfl rfl<|Ag rfl<|Aa<|Al rfl<|Bc hb0 Tryz.func121 rfl rfl ?_
 cases h
 exact c0.gv
theorem body121:bodyB Tryz.prog 121 = true:=by kernel_rfl
def wardmoteref21_Canon_l1 (_n:Nat) (a0:List Int) (q0:Int × Nat × (List Int) × (List Int) → Option (List Int)):Int × Nat × (List Int) × (List Int) → Option (List Int)
  | (g0,b0,k0,d0)=>(if b0 < a0.length then (a0[b0]?).bind fun c0=>(idx d0 c0).bind fun t0=>jn (fun (y0,p0)=>(idx p0 c0).bind fun u0=>(app k0 ([u0]:List Int)).bind fun v0=>q0 (y0,b0 + 1,v0,p0)) (fun j0=>(if t0 < 0 then (put d0 ((c0.toNat:Nat):Int) g0).bind fun x0=>(chk (g0 + 1)).bind fun s0=>j0 (s0,x0) else j0 (g0,d0))) else some k0)
def wardmoteref21_Canon_p (n:Nat) (a0:List Int):Option ((List Int) × Int):=
  (wardmoteref21_Labels_p n a0 (8:Int)).bind fun y1=>(if y1 = true then Option.bind (loopF (wardmoteref21_Canon_l1 n a0) n (0,0,([]:List Int),([(-1:Int),(-1:Int),(-1:Int),(-1:Int),(-1:Int),(-1:Int),(-1:Int),(-1:Int)]:List Int))) (fun b0=>some (b0,(0:Int))) else some (([]:List Int),(210:Int)))
theorem wardmoteref21_Canon_c (n:Nat) (L:List Nat) (w:World) (hL:∀ b ∈ L,b < w.heap.size) (a0:List Int) {v0_0:Value} (h0_0:Rep.R w L [v0_0] a0)  {r:(List Int) × Int} (h:wardmoteref21_Canon_p n a0 = some r) :
    Calls Tryz.prog 63 #[v0_0] w (Gives w fun w' u=>∃ v0_0:Value,u = .tuple #[v0_0,vI r.2]∧Rep.R w' L [v0_0] r.1):=by
 unfold wardmoteref21_Canon_p at h
 have hS0:=Ax w
 refine AA Tryz.func63 rfl rfl rfl (fun _ cs0 hb0=>?_)
 refine Ac<|Ag rfl<|Ag rfl<|Aa<|Ak<|Ac<|Ae rfl ?_
 obtain ⟨y1,hy1,h⟩:=bi h
 refine Bf (.bool y1) body121 rfl (e2 rfl rfl) (fun w9 hw9=>wardmoteref21_Labels_c n _ w9 (hS0.hL0 hL hw9) a0 (hS0.kd h0_0 hw9) (8:Int) hy1) rfl<|Ab (Bz rfl)<|Aa<|MX.ifnb rfl h (fun c2 h=>?_) (fun c2 h=>?_)
 refine Aq<|Ac<|Aj .plain rfl (AW (α:=Int) (xs:=([(-1:Int),(-1:Int),(-1:Int),(-1:Int),(-1:Int),(-1:Int),(-1:Int),(-1:Int)]:List Int)) (vs:=[vI (-1),vI (-1),vI (-1),vI (-1),vI (-1),vI (-1),vI (-1),vI (-1)]) (ds' :=[vI (-1),vI (-1),vI (-1),vI (-1),vI (-1),vI (-1),vI (-1),vI (-1)]) rfl hS0 el45 rfl (e8 rfl rfl rfl rfl rfl rfl rfl rfl) (by kernel_rfl) rfl) (fun U2 j0 D0 s3=>?_)
 have M1:=AG (cs:=[vI (-1),vI (-1),vI (-1),vI (-1),vI (-1),vI (-1),vI (-1),vI (-1)]) (xs:=(([(-1:Int),(-1:Int),(-1:Int),(-1:Int),(-1:Int),(-1:Int),(-1:Int),(-1:Int)]:List Int):List Int)) D0 L (Au (cs:=[vI (-1)]) (ds:=[vI (-1),vI (-1),vI (-1),vI (-1),vI (-1),vI (-1),vI (-1)]) rfl (Au (cs:=[vI (-1)]) (ds:=[vI (-1),vI (-1),vI (-1),vI (-1),vI (-1),vI (-1)]) rfl (Au (cs:=[vI (-1)]) (ds:=[vI (-1),vI (-1),vI (-1),vI (-1),vI (-1)]) rfl (Au (cs:=[vI (-1)]) (ds:=[vI (-1),vI (-1),vI (-1),vI (-1)]) rfl (Au (cs:=[vI (-1)]) (ds:=[vI (-1),vI (-1),vI (-1)]) rfl (Au (cs:=[vI (-1)]) (ds:=[vI (-1),vI (-1)]) rfl (Au (cs:=[vI (-1)]) (ds:=[vI (-1)]) rfl (Au (cs:=[vI (-1)]) (ds:=[]) rfl (AO _ _)))))))))
 refine Ag rfl<|Aa<|Ac<|Ag rfl<|Aa<|Ac<|Ag rfl<|Aa<|Ak<|Ac<|Ag rfl<|Aa<|Az ?_
 have M0:=D0.nilRow 3 (Rep.size Int)
 have H1:=St.nilRowT D0 3 (Rep.size Int)
 have P1:=AG (cs:=[]) (xs:=([]:List Int)) M0 L (AO _ _)
 have k2:=AN M1 H1
 obtain ⟨v3,y2,d2⟩:=bind_in2 h
 refine Bj (α:=Int × Nat × (List Int) × (List Int) × Value × (List Value) × (List Value)) (fun ⟨v0,g0,c0,k0,b0,d0,p0⟩=>[(0,v0_0),(4,(vS j0 8)),(5,vI v0),(6,b0),(7,vI ((g0:Nat):Int))]) (fun ⟨v0,g0,c0,k0,b0,d0,p0⟩ x0=>St w x0 [.row w.heap.size 3 (Rep.size Int) b0 c0.length d0,.row w.heap.size 3 (Rep.size Int) (vS j0 8) k0.length p0]∧Tr U2 [.row w.heap.size 3 (Rep.size Int) vN (([]:List Int).length) [],.row w.heap.size 3 (Rep.size Int) (vS j0 8) (([(-1:Int),(-1:Int),(-1:Int),(-1:Int),(-1:Int),(-1:Int),(-1:Int),(-1:Int)]:List Int).length) [vI (-1),vI (-1),vI (-1),vI (-1),vI (-1),vI (-1),vI (-1),vI (-1)]] x0 [.row w.heap.size 3 (Rep.size Int) b0 c0.length d0,.row w.heap.size 3 (Rep.size Int) (vS j0 8) k0.length p0]∧Cells x0 (bl [.row w.heap.size 3 (Rep.size Int) b0 c0.length d0,.row w.heap.size 3 (Rep.size Int) (vS j0 8) k0.length p0] ++ L) d0 c0∧Cells x0 (bl [.row w.heap.size 3 (Rep.size Int) b0 c0.length d0,.row w.heap.size 3 (Rep.size Int) (vS j0 8) k0.length p0] ++ L) p0 k0) (fun ⟨v0,g0,c0,k0,b0,d0,p0⟩=>(v0,g0,c0,k0)) (0,0,([]:List Int),([(-1:Int),(-1:Int),(-1:Int),(-1:Int),(-1:Int),(-1:Int),(-1:Int),(-1:Int)]:List Int),vN,[],[vI (-1),vI (-1),vI (-1),vI (-1),vI (-1),vI (-1),vI (-1),vI (-1)]) y2 ⟨rfl,rfl,rfl,rfl,rfl,trivial⟩ ⟨M0,AP _ _,P1,k2⟩ ?_
 rintro Z2 ⟨v0,g0,c0,k0,b0,d0,p0⟩ x0 D1 ⟨t0,I1,U0,G0⟩ h
 unfold wardmoteref21_Canon_l1 at h
 try dsimp only at h
 refine Ak<|Ac<|Ae rfl<|Ae rfl ?_
 have J0:=AM h0_0 t0
 have u3:a0.length ≤ 281474976710656:=AT J0
 refine Ab (Bb (xs:=a0) Tryz.underlying46 rfl J0)<|Ab (Bn (i:=g0) (j:=a0.length) rfl rfl)<|Aa<|AQ rfl h (fun t1 h=>?_) (fun t1 h=>?_)
 refine Aq<|Ak<|Az<|Ak<|Ac<|Ae rfl<|Ae rfl<|Ae rfl ?_
 obtain ⟨y0,g1,h⟩:=bi h
 obtain ⟨X2,d3,W0,Z0,v1,z2,c1⟩:=Bm J0 g1
 have V1:v1 = [vI y0]:=z2; subst V1
 refine Ab (Bo 1 g0 rfl W0 rfl rfl Z0)<|Bd rfl (c1 0 _ rfl) ?_
 obtain ⟨j1,H2,h⟩:=bi h
 obtain ⟨Y0,I2⟩:=idx_in H2
 obtain ⟨k1,g3,B0,I0,x1,A2,p2⟩:=St.nth (α:=Int) t0 (.tl .hd) G0 I2
 obtain ⟨q1,j3,X0⟩:=St.nthOwn (α:=Int) t0 (.tl .hd) I0
 obtain rfl:k1 = ⟨q1,0,none⟩:=by rw [X0] at B0; cases B0; rfl
 have W1:x1 = [vI j1]:=A2; subst W1
 refine Ab (Bo 1 (y0.toNat) rfl B0 rfl Y0 I0)<|Bd rfl (p2 0 _ rfl)<|Ab (FV.lss (i:=j1) (j:=0) rfl rfl)<|Aa<|MX.join (α:=Int × (List Int) × (List Value)) (fun ⟨z0,q0,s0⟩=>[(0,v0_0),(4,(vS j0 8)),(5,vI z0),(6,b0),(7,vI ((g0:Nat):Int))]) (fun ⟨z0,q0,s0⟩ C0=>St w C0 [.row w.heap.size 3 (Rep.size Int) b0 c0.length d0,.row w.heap.size 3 (Rep.size Int) (vS j0 8) q0.length s0]∧Tr x0 [.row w.heap.size 3 (Rep.size Int) b0 c0.length d0,.row w.heap.size 3 (Rep.size Int) (vS j0 8) k0.length p0] C0 [.row w.heap.size 3 (Rep.size Int) b0 c0.length d0,.row w.heap.size 3 (Rep.size Int) (vS j0 8) q0.length s0]∧Cells C0 (bl [.row w.heap.size 3 (Rep.size Int) b0 c0.length d0,.row w.heap.size 3 (Rep.size Int) (vS j0 8) q0.length s0] ++ L) s0 q0) (fun ⟨z0,q0,s0⟩=>(z0,q0)) h ?_ ?_
 rintro ⟨z0,q0,s0⟩ C0 ⟨A0,P0,V0⟩ h
 try dsimp only at h
 refine Ar<|Ae rfl<|Ae rfl<|Ae rfl<|Ae rfl ?_
 have s2:=AM h0_0 A0
 obtain ⟨Y2,k3,X1,j2,z1,B2,q2⟩:=Bm s2 g1
 have Y1:z1 = [vI y0]:=B2; subst Y1
 refine Ab (Bo 1 g0 rfl X1 rfl rfl j2)<|Bd rfl (q2 0 _ rfl) ?_
 obtain ⟨u0,J2,h⟩:=bi h
 obtain ⟨g2,K2⟩:=idx_in J2
 obtain ⟨p1,p3,H0,b1,A1,C2,t2⟩:=St.nth (α:=Int) A0 (.tl .hd) V0 K2
 obtain ⟨s1,q3,Z1⟩:=St.nthOwn (α:=Int) A0 (.tl .hd) b1
 obtain rfl:p1 = ⟨s1,0,none⟩:=by rw [Z1] at H0; cases H0; rfl
 have b2:A1 = [vI u0]:=C2; subst b2
 refine Ab (Bo 1 (y0.toNat) rfl H0 rfl g2 b1)<|Bd rfl (t2 0 _ rfl)<|Aj .plain rfl (AW (α:=Int) (xs:=([u0]:List Int)) (vs:=[vI u0]) (ds' :=[vI u0]) rfl A0 el46 rfl (e1 rfl) (by kernel_rfl) rfl) (fun x3 c3 E0 Q0=>?_)
 have Q1:=AG (cs:=[vI u0]) (xs:=(([u0]:List Int):List Int)) E0 L (Au (cs:=[vI u0]) (ds:=[]) rfl (AO _ _))
 obtain ⟨V2,M2,h⟩:=bi h
 have u2:=AN U0 (Tt P0 Q0)
 refine RG.doesL .plain rfl (BJ (α:=Int) (ys:=([u0]:List Int)) M2 E0 (fun _ _=>(.tl .hd)) el46 rfl rfl u2 (Src.row (α:=Int) E0 .hd Q1)) (fun R2 y3 ⟨B1,E1,J1,R1⟩=>?_)
 refine Ag rfl<|Aa<|AC<|Ar<|Ae rfl<|Ab (Br (i:=g0) (j:=1) rfl rfl (by omega))<|Ag rfl<|Aa ?_
 obtain ⟨F1,R0⟩:=AH E1 (.one (.tl .hd) (.one (.tl .hd) .done))
 have v2:=AN R1 R0
 have d1:=Tt Q0 (Tt J1 R0)
 have x2:=AN V0 d1
 exact D1 (z0,g0 + 1,V2,q0,R2,B1,s0) _ _ ⟨rfl,rfl,rfl,rfl,rfl,trivial⟩ ⟨F1,(Tt I1 (Tt P0 d1)),v2,x2⟩ h
 intro b3 K0 h
 try dsimp only at h
 refine AQ rfl h (fun u1 h=>?_) (fun u1 h=>?_)
 refine Ac<|Ae rfl<|Ae rfl<|Ae rfl<|Ab (Bo 1 g0 rfl W0 rfl rfl Z0)<|Bd rfl (c1 0 _ rfl)<|Ae rfl<|Ab (Bo 1 (y0.toNat) rfl B0 rfl Y0 I0) ?_
 obtain ⟨W2,P2,h⟩:=bi h
 refine RG.acts' .plain (Acts.set (α:=Int) (i:=y0.toNat) P2 t0 X0 (fun _=>(.tl .hd)) G0 rfl rfl rfl rfl rfl (by kernel_rfl)) (fun z3 ⟨C1,G1,K1,U1⟩=>?_)
 refine Aa<|Ar<|Ae rfl ?_
 obtain ⟨Q2,G2,h⟩:=bi h
 refine Ab (BC (i:=v0) (j:=1) rfl rfl G2)<|Ag rfl<|Aa ?_
 exact K0 (Q2,W2,C1) _ _ ⟨rfl,rfl,rfl,rfl,rfl,trivial⟩ ⟨G1,K1,U1⟩ h
 refine Aq ?_
 exact K0 (v0,k0,p0) _ _ ⟨rfl,rfl,rfl,rfl,rfl,trivial⟩ ⟨t0,AP _ _,G0⟩ h
 refine Be rfl ?_
 have h:=d2 _ h
 try dsimp only at h
 refine Ac<|Ae rfl<|Ag rfl<|Ag rfl<|Aa<|Al rfl ?_
 have D2:=Bq (α:=Int) t0 .hd U0 hL
 have F0:=BD t0 .hd
 have t3:=BE t0 .hd
 have E2:=BF (α:=Int) (v:=b0) (xs:=c0) F0 L D2
 refine Ao hb0 Tryz.func63 rfl (.cons (.tmp rfl) (.cons (.tmp rfl) .nil)) rfl ?_
 cases h
 exact ⟨F0.ag,fun w9 hw9=>⟨b0,rfl,F0.kd E2 hw9⟩⟩
 refine Ac<|Ag rfl<|Ag rfl<|Aa<|Al rfl ?_
 have F2:=Rep.nilAt (α:=Int) hS0 L
 refine Ao hb0 Tryz.func63 rfl (.cons (.tmp rfl) (.cons (.tmp rfl) .nil)) rfl ?_
 cases h
 exact ⟨hS0.ag,fun w9 hw9=>⟨vN,rfl,hS0.kd F2 hw9⟩⟩
def tb17_5:List (Nat × Nat × Nat):=[(0,16384,16),(0,32768,2),(0,65536,32),(6,131072,98304),(0,262144,2),(16,524288,262144),(32,1048576,524288),(64,2097152,1048576),(128,4194304,2097152),(264,8388608,4325376),(512,16777216,8388608),(1033,33554432,16793600),(4095,16,33554432)]
theorem body61:bodyB Tryz.prog 61 = true:=by kernel_rfl
theorem body62:bodyB Tryz.prog 62 = true:=by kernel_rfl
theorem body63:bodyB Tryz.prog 63 = true:=by kernel_rfl
def wardmoteref21_Draft_Loose_l1 (_n:Nat) (c0:(List Int) × Int) (g0:Int × Nat → Option Int):Int × Nat → Option Int
  | (d0,b0)=>(if b0 < c0.1.length then (c0.1[b0]?).bind fun k0=>(chk (k0 + 1)).bind fun j0=>g0 (max d0 j0,b0 + 1) else some d0)
def wardmoteref21_Draft_Loose_l2 (n:Nat) (a0:TDraft) (d0:Int × (List Int) → Option (List Int)):Int × (List Int) → Option (List Int)
  | (b0,c0)=>(wardmoteref21_Draft_Units_p n a0).bind fun p0=>(if b0 < p0 then (wardmoteref21_Draft_label_p n a0 b0).bind fun q0=>(remI q0 ((1 + ((a0.fK % (8:UInt8)).toNat):Nat):Int)).bind fun j0=>(app c0 ([j0]:List Int)).bind fun k0=>(chk (b0 + 1)).bind fun g0=>d0 (g0,k0) else some c0)
def wardmoteref21_Draft_Loose_p (n:Nat) (a0:TDraft):Option ((List Int) × Int):=
  Option.bind (loopF (wardmoteref21_Draft_Loose_l2 n a0) n (0,([]:List Int))) (fun c0=>(wardmoteref21_Canon_p n c0).bind fun b0=>Option.bind (loopF (wardmoteref21_Draft_Loose_l1 n b0) n (0,0)) (fun d0=>some (b0.1,d0)))
theorem wardmoteref21_Draft_Loose_c (n:Nat) (L:List Nat) (w:World) (hL:∀ b ∈ L,b < w.heap.size) (a0:TDraft) {v0_1:Value} (h0_1:Rep.R w L [v0_1] a0.fParents) {v0_2:Value} (h0_2:Rep.R w L [v0_2] a0.fMore) {v0_3:Value} (h0_3:Rep.R w L [v0_3] a0.fLabels)  {r:(List Int) × Int} (h:wardmoteref21_Draft_Loose_p n a0 = some r) :
    Calls Tryz.prog 17 #[.agg #[.int .u8 (a0.fN.toNat:Int),v0_1,v0_2,v0_3,.int .u8 (a0.fK.toNat:Int)]] w (Gives w fun w' u=>∃ v0_0:Value,u = .tuple #[v0_0,vI r.2]∧Rep.R w' L [v0_0] r.1):=by
 unfold wardmoteref21_Draft_Loose_p at h
 have hS0:=Ax w
 refine AA Tryz.func17 rfl rfl rfl (fun _ cs0 hb0=>?_)
 refine Ac<|Aj .plain rfl (Aw hS0 rfl rfl) (fun b2 v0 E0 u2=>?_)
 refine Ag rfl<|Ag rfl<|Aa<|Ac<|Ag rfl<|Aa<|Ak<|Ac<|Ag rfl<|Aa<|Az ?_
 have F0:=E0.nilRow 3 (Rep.size Int)
 have v2:=St.nilRowT E0 3 (Rep.size Int)
 have u1:=AG (cs:=[]) (xs:=([]:List Int)) F0 L (AO _ _)
 obtain ⟨A2,F1,z1⟩:=bind_in2 h
 refine Bj (α:=Int × (List Int) × Value × (List Value)) (fun ⟨q0,g0,p0,s0⟩=>[(1,vP v0),(4,p0),(5,vI q0)]) (fun ⟨q0,g0,p0,s0⟩ y0=>St w y0 [.row w.heap.size 3 (Rep.size Int) p0 g0.length s0,.cells v0 [.int .u8 (a0.fN.toNat:Int),v0_1,v0_2,v0_3,.int .u8 (a0.fK.toNat:Int)] 25]∧Tr b2 [.row w.heap.size 3 (Rep.size Int) vN (([]:List Int).length) [],.cells v0 [.int .u8 (a0.fN.toNat:Int),v0_1,v0_2,v0_3,.int .u8 (a0.fK.toNat:Int)] 25] y0 [.row w.heap.size 3 (Rep.size Int) p0 g0.length s0,.cells v0 [.int .u8 (a0.fN.toNat:Int),v0_1,v0_2,v0_3,.int .u8 (a0.fK.toNat:Int)] 25]∧Cells y0 (bl [.row w.heap.size 3 (Rep.size Int) p0 g0.length s0,.cells v0 [.int .u8 (a0.fN.toNat:Int),v0_1,v0_2,v0_3,.int .u8 (a0.fK.toNat:Int)] 25] ++ L) s0 g0) (fun ⟨q0,g0,p0,s0⟩=>(q0,g0)) (0,([]:List Int),vN,[]) F1 ⟨rfl,rfl,rfl,trivial⟩ ⟨F0,AP _ _,u1⟩ ?_
 rintro k2 ⟨q0,g0,p0,s0⟩ y0 Z0 ⟨c0,p1,J0⟩ h
 unfold wardmoteref21_Draft_Loose_l2 at h
 try dsimp only at h
 refine Ak<|Ac<|Ae rfl<|Ab (AB rfl (c0.memA (.tl .hd))) ?_
 obtain ⟨Q0,W1,h⟩:=bi h
 refine Bf (vI Q0) body61 rfl (e1 rfl) (fun w9 hw9=>wardmoteref21_Draft_Units_c n _ w9 (c0.hL0 hL hw9) a0 (c0.k0 h0_1 hw9) (c0.k0 h0_2 hw9) (c0.k0 h0_3 hw9) W1) rfl<|Ab (FV.lss (i:=q0) (j:=Q0) rfl rfl)<|Aa<|AQ rfl h (fun V0 h=>?_) (fun V0 h=>?_)
 refine Aq<|Ak<|Az<|AF 11 tb17_5 (by kernel_rfl) (by kernel_rfl) (by kernel_rfl) (fun b0 d0=>?_)
 refine Ah 0 1 b0 rfl d0 (fun _=>Ai rfl) rfl<|AD 1 3 7688 b0 rfl d0 (AB rfl (c0.memA (.tl .hd))) rfl<|Ah 2 7 b0 rfl d0 (fun _=>Ai rfl) rfl ?_
 obtain ⟨R0,X1,h⟩:=bi h
 refine BI 3 15 7680 (vI R0) b0 rfl d0 body62 rfl (e2 rfl rfl) (fun w9 hw9=>wardmoteref21_Draft_label_c n _ w9 (c0.hL0 hL hw9) a0 (c0.k0 h0_1 hw9) (c0.k0 h0_2 hw9) (c0.k0 h0_3 hw9) q0 X1) rfl<|Ah 4 31 b0 rfl d0 (fun _=>Bh 4 rfl) rfl<|AD 5 63 8128 b0 rfl d0 (AK rfl ((c0.memA (.tl .hd)) 4 _ rfl)) rfl<|Ah 6 127 b0 rfl d0 (fun _=>FV.rem8 (a:=a0.fK) (b:=(8:UInt8)) rfl rfl (by decide)) rfl ?_
 have y2:=(a0.fK % (8:UInt8)).toNat_lt
 refine Ah 7 255 b0 rfl d0 (fun _=>FV.convN (i:=(a0.fK % (8:UInt8)).toNat) Tryz.underlying5 Tryz.underlying3 rfl (by omega)) rfl<|Ah 8 511 b0 rfl d0 (fun _=>Br (i:=1) (j:=(a0.fK % (8:UInt8)).toNat) rfl rfl (by omega)) rfl ?_
 obtain ⟨t0,Q1,h⟩:=bi h
 refine Ah 9 1023 b0 rfl d0 (fun _=>FV.remc (i:=R0) (j:=((1 + ((a0.fK % (8:UInt8)).toNat):Nat):Int)) rfl rfl Q1) rfl<|RD.nu 10 2047 b0 rfl .plain rfl (AW (α:=Int) (xs:=([t0]:List Int)) (vs:=[vI t0]) (ds' :=[vI t0]) rfl c0 el46 rfl (e1 rfl) (by kernel_rfl) rfl) (fun D2 p2 z0 G0=>?_)
 have s1:=AG (cs:=[vI t0]) (xs:=(([t0]:List Int):List Int)) z0 L (Au (cs:=[vI t0]) (ds:=[]) rfl (AO _ _))
 obtain ⟨d2,U1,h⟩:=bi h
 have B1:=AN J0 G0
 refine Bs (i:=11) (readyD_ok b0 (by kernel_rfl)) (RO.doesL (m' :=4095) (stepC_ok b0 (by kernel_rfl)) rfl rfl .plain rfl (BJ (α:=Int) (ys:=([t0]:List Int)) U1 z0 (fun _ _=>(.tl .hd)) el46 rfl rfl B1 (Src.row (α:=Int) z0 .hd s1)) (fun Z1 C2 ⟨W0,b1,j1,t1⟩=>?_))
 refine Bs (i:=12) (readyD_ok b0 (by kernel_rfl)) (RO.val (m' :=8191) (stepC_ok b0 (by kernel_rfl)) rfl .plain rfl (AJ rfl) ?_)
 refine AE (doneD_ok b0 (by kernel_rfl))<|AC<|Ar<|Ae rfl ?_
 obtain ⟨Y1,M1,h⟩:=bi h
 refine Ab (BC (i:=q0) (j:=1) rfl rfl M1)<|Ag rfl<|Aa ?_
 obtain ⟨c1,H0⟩:=AH b1 (.one (.tl .hd) (.one (.tl .hd) .done))
 have C1:=AN t1 H0
 have G1:=Tt G0 (Tt j1 H0)
 exact Z0 (Y1,d2,Z1,W0) _ _ ⟨rfl,rfl,rfl,trivial⟩ ⟨c1,(Tt p1 G1),C1⟩ h
 refine Be rfl ?_
 have h:=z1 _ h
 try dsimp only at h
 refine Ac<|Ae rfl ?_
 have H1:=Bq (α:=Int) c0 .hd J0 hL
 have A0:=BD c0 .hd
 have s2:=BE c0 .hd
 have I1:=BF (α:=Int) (v:=p0) (xs:=g0) A0 L H1
 obtain ⟨D0,V1,h⟩:=bi h
 refine AX (fst:=[]) (cap:=[]) .plain body63 rfl (e1 rfl) (fun w9 hw9=>wardmoteref21_Canon_c n _ w9 (A0.hL hL hw9) g0 (Am I1 hw9) V1) rfl (fun c2 B2 q1 ⟨M0,hu_,J1⟩=>?_)
 subst hu_
 obtain ⟨d1,t2⟩:=A0.agr q1
 refine Ae rfl<|Ab (Af rfl rfl)<|Ab (Af rfl rfl)<|Ag rfl<|Aa<|Ac<|Ag rfl<|Aa<|Ak<|Ac<|Ag rfl<|Aa<|Az ?_
 obtain ⟨g1,k1⟩:=AH d1 .done
 obtain ⟨z2,E1,y1⟩:=bind_in2 h
 refine Bj (α:=Int × Nat) (fun ⟨u0,j0⟩=>[(4,M0),(6,vI u0),(7,vI ((j0:Nat):Int))]) (fun ⟨u0,j0⟩ C0=>St w C0 []∧Tr c2 [] C0 []) (fun ⟨u0,j0⟩=>(u0,j0)) (0,0) E1 ⟨rfl,rfl,rfl,trivial⟩ ⟨g1,AP _ _⟩ ?_
 rintro j2 ⟨u0,j0⟩ C0 Y0 ⟨B0,I0⟩ h
 unfold wardmoteref21_Draft_Loose_l1 at h
 try dsimp only at h
 refine Ak<|Ac<|Ae rfl<|Ae rfl ?_
 have x0:=Ap J1 (Tt k1 I0)
 have x2:D0.1.length ≤ 281474976710656:=AT x0
 refine Ab (Bb (xs:=D0.1) Tryz.underlying46 rfl x0)<|Ab (Bn (i:=j0) (j:=D0.1.length) rfl rfl)<|Aa<|AQ rfl h (fun U0 h=>?_) (fun U0 h=>?_)
 refine Aq<|Ak<|Az<|Ar<|Ae rfl<|Ae rfl<|Ae rfl ?_
 obtain ⟨P0,R1,h⟩:=bi h
 obtain ⟨g2,q2,v1,A1,X0,K1,D1⟩:=Bm x0 R1
 have x1:X0 = [vI P0]:=K1; subst x1
 refine Ab (Bo 1 j0 rfl v1 rfl rfl A1)<|Bd rfl (D1 0 _ rfl) ?_
 obtain ⟨K0,P1,h⟩:=bi h
 refine Ab (BC (i:=P0) (j:=1) rfl rfl P1)<|Ab (FV.max2 (i:=u0) (j:=K0) rfl rfl)<|Ag rfl<|Aa<|AC<|Ar<|Ae rfl<|Ab (Br (i:=j0) (j:=1) rfl rfl (by omega))<|Ag rfl<|Aa ?_
 exact Y0 (max u0 K0,j0 + 1) _ _ ⟨rfl,rfl,rfl,trivial⟩ ⟨B0,I0⟩ h
 refine Be rfl ?_
 have h:=y1 _ h
 try dsimp only at h
 refine Ac<|Ae rfl<|Ae rfl<|Ag rfl<|Ag rfl<|Aa<|Al rfl<|Ao hb0 Tryz.func17 rfl (.cons (.tmp rfl) (.cons (.tmp rfl) .nil)) rfl ?_
 cases h
 exact ⟨B0.ag,fun w9 hw9=>⟨M0,rfl,B0.kd x0 hw9⟩⟩
structure TDraft26 where
  fGroups:UInt8
  fParties:UInt8
  fLevels:UInt8
  fWater:UInt8
  fNums:List UInt8
  deriving DecidableEq
instance:Rep TDraft26:=Rep.via (β:=UInt8 × UInt8 × UInt8 × UInt8 × (List UInt8)) fun x=>(x.fGroups,x.fParties,x.fLevels,x.fWater,x.fNums)
def tb64_3:List (Nat × Nat × Nat):=[(0,512,4),(1,1024,512),(0,2048,2),(0,4096,4),(8,8192,4096),(16,16384,8192),(36,32768,18432),(66,65536,33792),(128,131072,65536),(256,262144,131072),(1023,16,262144)]
def wardmoteref22_Draft_num_p (_n:Nat) (a0:TDraft26) (a1:Int):Option Int:=
  (if a0.fNums.length = 0 then some (1:Int) else (remI a1 ((a0.fNums.length:Nat):Int)).bind fun b0=>(idx a0.fNums b0).bind fun c0=>some ((c0.toNat:Nat):Int))
theorem wardmoteref22_Draft_num_c (n:Nat) (L:List Nat) (w:World) (_hL:∀ b ∈ L,b < w.heap.size) (a0:TDraft26) {v0_4:Value} (h0_4:Rep.R w L [v0_4] a0.fNums) (a1:Int)  {r:Int} (h:wardmoteref22_Draft_num_p n a0 a1 = some r) :
    Calls Tryz.prog 64 #[.agg #[.int .u8 (a0.fGroups.toNat:Int),.int .u8 (a0.fParties.toNat:Int),.int .u8 (a0.fLevels.toNat:Int),.int .u8 (a0.fWater.toNat:Int),v0_4],vI a1] w (Gives w fun _ u=>u = vI r):=by
 unfold wardmoteref22_Draft_num_p at h
 have hS0:=Ax w
 refine AA Tryz.func64 rfl rfl rfl (fun _ cs0 hb0=>?_)
 refine Ac<|Aj .plain rfl (Aw hS0 rfl rfl) (fun I0 D0 d0 F0=>?_)
 refine Ag rfl<|Aa<|Ak<|Ac<|Bg 4 rfl<|Bd rfl ((d0.memA .hd) 4 _ rfl) ?_
 have g0:=AM h0_4 d0
 have G0:a0.fNums.length ≤ 281474976710656:=AT g0
 refine Ab (Bb (xs:=a0.fNums) Tryz.underlying22 rfl g0)<|Ab (FV.eqlN (i:=a0.fNums.length) (j:=0) rfl rfl)<|Aa<|AQ rfl h (fun k0 h=>?_) (fun k0 h=>?_)
 refine Ac<|Ag rfl<|Aa<|Al rfl<|Bc hb0 Tryz.func64 rfl rfl ?_
 cases h
 exact d0.gv
 refine Aq<|Ak<|AF 11 tb64_3 (by kernel_rfl) (by kernel_rfl) (by kernel_rfl) (fun b0 c0=>?_)
 refine Ah 0 1 b0 rfl c0 (fun _=>Bh 4 rfl) rfl<|AD 1 3 1920 b0 rfl c0 (AK rfl ((d0.memA .hd) 4 _ rfl)) rfl<|Ah 2 7 b0 rfl c0 (fun _=>Ai rfl) rfl<|Ah 3 15 b0 rfl c0 (fun _=>Bh 4 rfl) rfl<|AD 4 31 2016 b0 rfl c0 (AK rfl ((d0.memA .hd) 4 _ rfl)) rfl<|AD 5 63 1984 b0 rfl c0 (Bb (xs:=a0.fNums) Tryz.underlying22 rfl g0) rfl ?_
 obtain ⟨B0,y0,h⟩:=bi h
 refine Ah 6 127 b0 rfl c0 (fun _=>FV.remc (i:=a1) (j:=((a0.fNums.length:Nat):Int)) rfl rfl y0) rfl ?_
 obtain ⟨j0,z0,h⟩:=bi h
 obtain ⟨t0,A0⟩:=idx_in z0
 obtain ⟨C0,E0,q0,u0,p0,x0,v0⟩:=Bm g0 A0
 have s0:p0 = [.int .u8 (j0.toNat:Int)]:=x0; subst s0
 refine Ah 7 255 b0 rfl c0 (fun _=>Bo 1 (B0.toNat) rfl q0 rfl t0 u0) rfl<|AD 8 511 1536 b0 rfl c0 (AK rfl (v0 0 _ rfl)) rfl ?_
 have H0:=j0.toNat_lt
 refine Ah 9 1023 b0 rfl c0 (fun _=>FV.convN (i:=j0.toNat) Tryz.underlying5 Tryz.underlying3 rfl (by omega)) rfl<|Ah 10 2047 b0 rfl c0 (fun _=>AJ rfl) rfl<|AE (doneD_ok b0 (by kernel_rfl))<|Al rfl<|Bc hb0 Tryz.func64 rfl rfl ?_
 cases h
 exact d0.gv
theorem body64:bodyB Tryz.prog 64 = true:=by kernel_rfl
def wardmoteref22_Draft_list_l1 (n:Nat) (a1:Int) (a2:Int) (a0:TDraft26) (a3:Int) (d0:Int × (List Int) → Option (List Int)):Int × (List Int) → Option (List Int)
  | (b0,c0)=>(if b0 < a1 then (chk (a2 + b0)).bind fun j0=>(wardmoteref22_Draft_num_p n a0 j0).bind fun p0=>(app c0 ([min p0 a3]:List Int)).bind fun k0=>(chk (b0 + 1)).bind fun g0=>d0 (g0,k0) else some c0)
def wardmoteref22_Draft_list_p (n:Nat) (a0:TDraft26) (a1:Int) (a2:Int) (a3:Int):Option (List Int):=
  Option.bind (loopF (wardmoteref22_Draft_list_l1 n a1 a2 a0 a3) n (0,([]:List Int))) (fun b0=>some b0)
theorem wardmoteref22_Draft_list_c (n:Nat) (L:List Nat) (w:World) (hL:∀ b ∈ L,b < w.heap.size) (a0:TDraft26) {v0_4:Value} (h0_4:Rep.R w L [v0_4] a0.fNums) (a1:Int) (a2:Int) (a3:Int)  {r:List Int} (h:wardmoteref22_Draft_list_p n a0 a1 a2 a3 = some r) :
    Calls Tryz.prog 65 #[.agg #[.int .u8 (a0.fGroups.toNat:Int),.int .u8 (a0.fParties.toNat:Int),.int .u8 (a0.fLevels.toNat:Int),.int .u8 (a0.fWater.toNat:Int),v0_4],vI a1,vI a2,vI a3] w (Gives w fun w' u=>∃ v0_0:Value,u = v0_0∧Rep.R w' L [v0_0] r):=by
 unfold wardmoteref22_Draft_list_p at h
 have hS0:=Ax w
 refine AA Tryz.func65 rfl rfl rfl (fun _ cs0 hb0=>?_)
 refine Ac<|Aj .plain rfl (Aw hS0 rfl rfl) (fun j1 q0 v0 u1=>?_)
 refine Ag rfl<|Aa<|Ac<|Ag rfl<|Aa<|Ak<|Ac<|Ag rfl<|Aa<|Az ?_
 have x0:=v0.nilRow 3 (Rep.size Int)
 have v1:=St.nilRowT v0 3 (Rep.size Int)
 have I0:=AG (cs:=[]) (xs:=([]:List Int)) x0 L (AO _ _)
 obtain ⟨x1,R0,M0⟩:=bind_in2 h
 refine Bj (α:=Int × (List Int) × Value × (List Value)) (fun ⟨g0,c0,b0,j0⟩=>[(1,vI a1),(2,vI a2),(3,vI a3),(4,vP q0),(9,b0),(10,vI g0)]) (fun ⟨g0,c0,b0,j0⟩ s0=>St w s0 [.row w.heap.size 3 (Rep.size Int) b0 c0.length j0,.cells q0 [.int .u8 (a0.fGroups.toNat:Int),.int .u8 (a0.fParties.toNat:Int),.int .u8 (a0.fLevels.toNat:Int),.int .u8 (a0.fWater.toNat:Int),v0_4] 27]∧Tr j1 [.row w.heap.size 3 (Rep.size Int) vN (([]:List Int).length) [],.cells q0 [.int .u8 (a0.fGroups.toNat:Int),.int .u8 (a0.fParties.toNat:Int),.int .u8 (a0.fLevels.toNat:Int),.int .u8 (a0.fWater.toNat:Int),v0_4] 27] s0 [.row w.heap.size 3 (Rep.size Int) b0 c0.length j0,.cells q0 [.int .u8 (a0.fGroups.toNat:Int),.int .u8 (a0.fParties.toNat:Int),.int .u8 (a0.fLevels.toNat:Int),.int .u8 (a0.fWater.toNat:Int),v0_4] 27]∧Cells s0 (bl [.row w.heap.size 3 (Rep.size Int) b0 c0.length j0,.cells q0 [.int .u8 (a0.fGroups.toNat:Int),.int .u8 (a0.fParties.toNat:Int),.int .u8 (a0.fLevels.toNat:Int),.int .u8 (a0.fWater.toNat:Int),v0_4] 27] ++ L) j0 c0) (fun ⟨g0,c0,b0,j0⟩=>(g0,c0)) (0,([]:List Int),vN,[]) R0 ⟨rfl,rfl,rfl,rfl,rfl,rfl,trivial⟩ ⟨x0,AP _ _,I0⟩ ?_
 rintro p1 ⟨g0,c0,b0,j0⟩ s0 D0 ⟨p0,G0,A0⟩ h
 unfold wardmoteref22_Draft_list_l1 at h
 try dsimp only at h
 refine Ak<|Ac<|Ae rfl<|Ae rfl<|Ab (FV.lss (i:=g0) (j:=a1) rfl rfl)<|Aa<|AQ rfl h (fun B0 h=>?_) (fun B0 h=>?_)
 refine Aq<|Ak<|Az<|Ar<|Ae rfl<|Ab (AB rfl (p0.memA (.tl .hd)))<|Ae rfl<|Ae rfl ?_
 obtain ⟨d1,Y0,h⟩:=bi h
 refine Ab (BC (i:=a2) (j:=g0) rfl rfl Y0) ?_
 obtain ⟨d0,b1,h⟩:=bi h
 refine Bf (vI d0) body64 rfl (e2 rfl rfl) (fun w9 hw9=>wardmoteref22_Draft_num_c n _ w9 (p0.hL0 hL hw9) a0 (p0.k0 h0_4 hw9) d1 b1) rfl<|Ae rfl<|Ab (FV.min2 (i:=d0) (j:=a3) rfl rfl)<|Aj .plain rfl (AW (α:=Int) (xs:=([min d0 a3]:List Int)) (vs:=[vI (min d0 a3)]) (ds' :=[vI (min d0 a3)]) rfl p0 el45 rfl (e1 rfl) (by kernel_rfl) rfl) (fun y1 q1 u0 z0=>?_)
 have J0:=AG (cs:=[vI (min d0 a3)]) (xs:=(([min d0 a3]:List Int):List Int)) u0 L (Au (cs:=[vI (min d0 a3)]) (ds:=[]) rfl (AO _ _))
 obtain ⟨k1,Z0,h⟩:=bi h
 have Q0:=AN A0 z0
 refine RG.doesL .plain rfl (BJ (α:=Int) (ys:=([min d0 a3]:List Int)) Z0 u0 (fun _ _=>(.tl .hd)) el45 rfl rfl Q0 (Src.row (α:=Int) u0 .hd J0)) (fun g1 z1 ⟨C0,F0,H0,K0⟩=>?_)
 refine Ag rfl<|Aa<|AC<|Ar<|Ae rfl ?_
 obtain ⟨c1,X0,h⟩:=bi h
 refine Ab (BC (i:=g0) (j:=1) rfl rfl X0)<|Ag rfl<|Aa ?_
 obtain ⟨E0,y0⟩:=AH F0 (.one (.tl .hd) (.one (.tl .hd) .done))
 have P0:=AN K0 y0
 have U0:=Tt z0 (Tt H0 y0)
 exact D0 (c1,k1,g1,C0) _ _ ⟨rfl,rfl,rfl,rfl,rfl,rfl,trivial⟩ ⟨E0,(Tt G0 U0),P0⟩ h
 refine Be rfl ?_
 have h:=M0 _ h
 try dsimp only at h
 refine Ac<|Ae rfl<|Ag rfl<|Aa<|Al rfl ?_
 have V0:=Bq (α:=Int) p0 .hd A0 hL
 have t0:=BD p0 .hd
 have s1:=BE p0 .hd
 have W0:=BF (α:=Int) (v:=b0) (xs:=c0) t0 L V0
 refine Bc hb0 Tryz.func65 rfl rfl ?_
 cases h
 exact ⟨t0.ag,fun w9 hw9=>⟨b0,rfl,t0.kd W0 hw9⟩⟩
def tb18_5:List (Nat × Nat × Nat):=[(0,268435456,64),(1,536870912,268435456),(2,1073741824,536870912),(4,2147483648,1073741824),(0,4294967296,64),(16,8589934592,4294967296),(32,17179869184,8589934592),(64,34359738368,17179869184),(128,68719476736,34359738368),(264,137438953472,70866960384),(512,274877906944,137438953472),(1024,549755813888,274877906944),(0,1099511627776,4),(0,2199023255552,64),(8192,4398046511104,2199023255552),(20480,8796093022208,5497558138880),(34816,17592186044416,9345848836096),(0,128,0),(262143,0,17592186044544)]
def tb18_11:List (Nat × Nat × Nat):=[(0,590295810358705651712,128),(1,1180591620717411303424,590295810358705651712),(0,2361183241434822606848,4),(0,4722366482869645213696,64),(8,9444732965739290427392,4722366482869645213696),(16,18889465931478580854784,9444732965739290427392),(0,37778931862957161709568,256),(96,75557863725914323419136,56668397794435742564352),(132,151115727451828646838272,77919046967349146025984),(256,302231454903657293676544,151115727451828646838272),(512,604462909807314587353088,302231454903657293676544),(1282,1208925819614629174706176,605643501428031998656512),(4095,2417851639229258349412352,128),(8191,0,3626777458843887524118528)]
def tb18_16:List (Nat × Nat × Nat):=[(0,79228162514264337593543950336,32),(1,158456325028528675187087900672,79228162514264337593543950336),(0,316912650057057350374175801344,32),(4,633825300114114700748351602688,316912650057057350374175801344),(8,1267650600228229401496703205376,633825300114114700748351602688),(0,2535301200456458802993406410752,32),(32,5070602400912917605986812821504,2535301200456458802993406410752),(64,10141204801825835211973625643008,5070602400912917605986812821504),(0,20282409603651670423947251286016,32),(256,40564819207303340847894502572032,20282409603651670423947251286016),(512,81129638414606681695789005144064,40564819207303340847894502572032),(1168,162259276829213363391578010288128,92538493816660746309259333992448),(2048,324518553658426726783156020576256,162259276829213363391578010288128),(4098,649037107316853453566312041152512,324677009983455255458343108476928),(16383,1298074214633706907132624082305024,32),(32767,0,1947111321950560360698936123457536)]
theorem el22:ElT Tryz.prog 22 5 (Rep.size UInt8) 1 (.int .u8 0) [.int .u8 0]:=⟨Tryz.underlying22,by kernel_rfl,rfl,rfl,rfl,rfl⟩
theorem body65:bodyB Tryz.prog 65 = true:=by kernel_rfl
def wardmoteref22_Draft_Roll_l1 (n:Nat) (a0:TDraft26) (t0:Int) (d0:Nat × (List Int) → Option (List Int)):Nat × (List Int) → Option (List Int)
  | (b0,c0)=>(if b0 < ((a0.fLevels % (3:UInt8)).toNat) then (chk (9 * t0)).bind fun g0=>(chk (g0 + 7)).bind fun j0=>(chk (j0 + ((b0:Nat):Int))).bind fun k0=>(wardmoteref22_Draft_num_p n a0 k0).bind fun s0=>(remI s0 3).bind fun p0=>(app c0 ([p0]:List Int)).bind fun q0=>d0 (b0 + 1,q0) else some c0)
def wardmoteref22_Draft_Roll_l2 (_n:Nat) (a0:TDraft26) (d0:Nat × (List TUnit) → Option (List TUnit)):Nat × (List TUnit) → Option (List TUnit)
  | (b0,c0)=>(if b0 < ((a0.fWater % (2:UInt8)).toNat) then (mk (((a0.fGroups % (3:UInt8)).toNat:Nat):Int) (0:Int)).bind fun g0=>(mk (((a0.fParties % (4:UInt8)).toNat:Nat):Int) (0:Int)).bind fun j0=>(mk (((a0.fLevels % (3:UInt8)).toNat:Nat):Int) (0:Int)).bind fun k0=>(app c0 ([(⟨⟨#[115,101,97]⟩,(0:Int),g0,j0,k0,true⟩:TUnit)]:List TUnit)).bind fun p0=>d0 (b0 + 1,p0) else some c0)
def wardmoteref22_Draft_Roll_l3 (n:Nat) (a1:Int) (a0:TDraft26) (g0:Int × (List TUnit) → Option (List TUnit)):Int × (List TUnit) → Option (List TUnit)
  | (b0,c0)=>(if b0 < a1 then (remI b0 26).bind fun j0=>(chk (97 + j0)).bind fun k0=>(quoI b0 26).bind fun p0=>(remI p0 26).bind fun q0=>(chk (97 + q0)).bind fun s0=>(chk (9 * b0)).bind fun t0=>(wardmoteref22_Draft_num_p n a0 t0).bind fun d0=>(sadd ⟨#[117]⟩ (bstr ([u8ofI k0,u8ofI s0]:List UInt8))).bind fun u0=>(chk (9 * b0)).bind fun v0=>(chk (v0 + 1)).bind fun x0=>(wardmoteref22_Draft_list_p n a0 (((a0.fGroups % (3:UInt8)).toNat:Nat):Int) x0 d0).bind fun D0=>(chk (9 * b0)).bind fun y0=>(chk (y0 + 3)).bind fun z0=>(wardmoteref22_Draft_list_p n a0 (((a0.fParties % (4:UInt8)).toNat:Nat):Int) z0 (255:Int)).bind fun E0=>Option.bind (loopF (wardmoteref22_Draft_Roll_l1 n a0 b0) n (0,([]:List Int))) (fun B0=>(app c0 ([(⟨u0,d0,D0,E0,B0,false⟩:TUnit)]:List TUnit)).bind fun C0=>(chk (b0 + 1)).bind fun A0=>g0 (A0,C0)) else some c0)
def wardmoteref22_Draft_Roll_p (n:Nat) (a0:TDraft26) (a1:Int):Option TRoll:=
  Option.bind (loopF (wardmoteref22_Draft_Roll_l3 n a1 a0) n (0,([]:List TUnit))) (fun c0=>Option.bind (loopF (wardmoteref22_Draft_Roll_l2 n a0) n (0,c0)) (fun b0=>some (⟨(((a0.fGroups % (3:UInt8)).toNat:Nat):Int),(((a0.fParties % (4:UInt8)).toNat:Nat):Int),(((a0.fLevels % (3:UInt8)).toNat:Nat):Int),b0⟩:TRoll)))
theorem wardmoteref22_Draft_Roll_c (n:Nat) (L:List Nat) (w:World) (hL:∀ b ∈ L,b < w.heap.size) (a0:TDraft26) {v0_4:Value} (h0_4:Rep.R w L [v0_4] a0.fNums) (a1:Int)  {r:TRoll} (h:wardmoteref22_Draft_Roll_p n a0 a1 = some r) :
    Calls Tryz.prog 18 #[.agg #[.int .u8 (a0.fGroups.toNat:Int),.int .u8 (a0.fParties.toNat:Int),.int .u8 (a0.fLevels.toNat:Int),.int .u8 (a0.fWater.toNat:Int),v0_4],vI a1] w (Gives w fun w' u=>∃ v0_3:Value,u = .agg #[vI r.fGroups,vI r.fParties,vI r.fLevels,v0_3]∧Rep.R w' L [v0_3] r.fUnits):=by
 unfold wardmoteref22_Draft_Roll_p at h
 have hS0:=Ax w
 refine AA Tryz.func18 rfl rfl rfl (fun _ cs0 hb0=>?_)
 refine Ac<|Aj .plain rfl (Aw hS0 rfl rfl) (fun F9 g0 C4 k9=>?_)
 refine Aj .plain rfl (Av [vI 0,vI 0,vI 0,vN] C4) (fun K9 j0 X1 p9=>?_)
 refine Aa<|Ac<|Bg 0 rfl<|Bd rfl ((X1.memA (.tl .hd)) 0 _ rfl)<|Ab (FV.rem8 (a:=a0.fGroups) (b:=(3:UInt8)) rfl rfl (by decide)) ?_
 have x9:=(a0.fGroups % (3:UInt8)).toNat_lt
 refine Ab (FV.convN (i:=(a0.fGroups % (3:UInt8)).toNat) Tryz.underlying5 Tryz.underlying3 rfl (by omega))<|Bg 1 rfl<|Bd rfl ((X1.memA (.tl .hd)) 1 _ rfl)<|Ab (FV.rem8 (a:=a0.fParties) (b:=(4:UInt8)) rfl rfl (by decide)) ?_
 have y9:=(a0.fParties % (4:UInt8)).toNat_lt
 refine Ab (FV.convN (i:=(a0.fParties % (4:UInt8)).toNat) Tryz.underlying5 Tryz.underlying3 rfl (by omega))<|Bg 2 rfl<|Bd rfl ((X1.memA (.tl .hd)) 2 _ rfl)<|Ab (FV.rem8 (a:=a0.fLevels) (b:=(3:UInt8)) rfl rfl (by decide)) ?_
 have z9:=(a0.fLevels % (3:UInt8)).toNat_lt
 refine Ab (FV.convN (i:=(a0.fLevels % (3:UInt8)).toNat) Tryz.underlying5 Tryz.underlying3 rfl (by omega))<|Ab (AS (vs:=[vI (((a0.fGroups % (3:UInt8)).toNat:Nat):Int),vI (((a0.fParties % (4:UInt8)).toNat:Nat):Int),vI (((a0.fLevels % (3:UInt8)).toNat:Nat):Int)]) (u:=.agg #[vI (((a0.fGroups % (3:UInt8)).toNat:Nat):Int),vI (((a0.fParties % (4:UInt8)).toNat:Nat):Int),vI (((a0.fLevels % (3:UInt8)).toNat:Nat):Int),vN]) (e3 rfl rfl rfl) (fun w9=>by kernel_rfl))<|Aj .plain rfl (Av [vI 0,vI 0,vI 0,vN] X1) (fun M9 p0 D4 q9=>?_)
 refine AL [vI (((a0.fGroups % (3:UInt8)).toNat:Nat):Int),vI (((a0.fParties % (4:UInt8)).toNat:Nat):Int),vI (((a0.fLevels % (3:UInt8)).toNat:Nat):Int),vN] D4 .hd (onesB rfl) (fun s8 g3 s9=>?_)
 refine Aa<|Ak<|Ac<|Ag rfl<|Aa<|Az ?_
 have y2:=g3.nilRow 65 (Rep.size TUnit)
 have t9:=St.nilRowT g3 65 (Rep.size TUnit)
 have x5:=AG (cs:=[]) (xs:=([]:List TUnit)) y2 L (AO _ _)
 have j3:=y2.nilRow 65 (Rep.size TUnit)
 have W4:=St.nilRowT y2 65 (Rep.size TUnit)
 have u9:=AG (cs:=[]) (xs:=([]:List TUnit)) j3 L (AO _ _)
 have A6:=AN x5 W4
 obtain ⟨B9,M6,H5⟩:=bind_in2 h
 refine Bj (α:=Int × (List TUnit) × Value × (List Value)) (fun ⟨P0,y0,d0,z0⟩=>[(1,vI a1),(2,vP g0),(4,vP j0),(5,vP p0),(6,vI P0)]) (fun ⟨P0,y0,d0,z0⟩ P1=>St w P1 [.row w.heap.size 65 (Rep.size TUnit) vN (([]:List TUnit).length) [],.row w.heap.size 65 (Rep.size TUnit) d0 y0.length z0,.cells p0 [vI (((a0.fGroups % (3:UInt8)).toNat:Nat):Int),vI (((a0.fParties % (4:UInt8)).toNat:Nat):Int),vI (((a0.fLevels % (3:UInt8)).toNat:Nat):Int),d0] 44,.cells j0 [vI 0,vI 0,vI 0,vN] 44,.cells g0 [.int .u8 (a0.fGroups.toNat:Int),.int .u8 (a0.fParties.toNat:Int),.int .u8 (a0.fLevels.toNat:Int),.int .u8 (a0.fWater.toNat:Int),v0_4] 27]∧Tr s8 [.row w.heap.size 65 (Rep.size TUnit) vN (([]:List TUnit).length) [],.row w.heap.size 65 (Rep.size TUnit) vN (([]:List TUnit).length) [],.cells p0 [vI (((a0.fGroups % (3:UInt8)).toNat:Nat):Int),vI (((a0.fParties % (4:UInt8)).toNat:Nat):Int),vI (((a0.fLevels % (3:UInt8)).toNat:Nat):Int),vN] 44,.cells j0 [vI 0,vI 0,vI 0,vN] 44,.cells g0 [.int .u8 (a0.fGroups.toNat:Int),.int .u8 (a0.fParties.toNat:Int),.int .u8 (a0.fLevels.toNat:Int),.int .u8 (a0.fWater.toNat:Int),v0_4] 27] P1 [.row w.heap.size 65 (Rep.size TUnit) vN (([]:List TUnit).length) [],.row w.heap.size 65 (Rep.size TUnit) d0 y0.length z0,.cells p0 [vI (((a0.fGroups % (3:UInt8)).toNat:Nat):Int),vI (((a0.fParties % (4:UInt8)).toNat:Nat):Int),vI (((a0.fLevels % (3:UInt8)).toNat:Nat):Int),d0] 44,.cells j0 [vI 0,vI 0,vI 0,vN] 44,.cells g0 [.int .u8 (a0.fGroups.toNat:Int),.int .u8 (a0.fParties.toNat:Int),.int .u8 (a0.fLevels.toNat:Int),.int .u8 (a0.fWater.toNat:Int),v0_4] 27]∧Cells P1 (bl [.row w.heap.size 65 (Rep.size TUnit) vN (([]:List TUnit).length) [],.row w.heap.size 65 (Rep.size TUnit) d0 y0.length z0,.cells p0 [vI (((a0.fGroups % (3:UInt8)).toNat:Nat):Int),vI (((a0.fParties % (4:UInt8)).toNat:Nat):Int),vI (((a0.fLevels % (3:UInt8)).toNat:Nat):Int),d0] 44,.cells j0 [vI 0,vI 0,vI 0,vN] 44,.cells g0 [.int .u8 (a0.fGroups.toNat:Int),.int .u8 (a0.fParties.toNat:Int),.int .u8 (a0.fLevels.toNat:Int),.int .u8 (a0.fWater.toNat:Int),v0_4] 27] ++ L) z0 y0) (fun ⟨P0,y0,d0,z0⟩=>(P0,y0)) (0,([]:List TUnit),vN,[]) M6 ⟨rfl,rfl,rfl,rfl,rfl,trivial⟩ ⟨j3,AP _ _,A6⟩ ?_
 rintro M8 ⟨P0,y0,d0,z0⟩ P1 s4 ⟨J1,X4,D3⟩ h
 unfold wardmoteref22_Draft_Roll_l3 at h
 try dsimp only at h
 refine Ak<|Ac<|Ae rfl<|Ae rfl<|Ab (FV.lss (i:=P0) (j:=a1) rfl rfl)<|Aa<|AQ rfl h (fun d4 h=>?_) (fun d4 h=>?_)
 refine Aq<|Ak<|Az<|Ak<|AF 18 tb18_5 (by kernel_rfl) (by kernel_rfl) (by kernel_rfl) (fun q0 u0=>?_)
 refine Ah 0 1 q0 rfl u0 (fun _=>Ai rfl) rfl ?_
 obtain ⟨W7,j7,h⟩:=bi h
 refine Ah 1 3 q0 rfl u0 (fun _=>FV.remc (i:=P0) (j:=26) rfl rfl j7) rfl ?_
 obtain ⟨G0,k7,h⟩:=bi h
 refine Ah 2 7 q0 rfl u0 (fun _=>BC (i:=97) (j:=W7) rfl rfl k7) rfl<|Ah 3 15 q0 rfl u0 (fun _=>FV.convU8 (i:=G0) Tryz.underlying3 Tryz.underlying5 rfl) rfl<|Ah 4 31 q0 rfl u0 (fun _=>Ai rfl) rfl ?_
 obtain ⟨X7,p7,h⟩:=bi h
 refine Ah 5 63 q0 rfl u0 (fun _=>FV.quoc (i:=P0) (j:=26) rfl rfl p7) rfl ?_
 obtain ⟨Y7,q7,h⟩:=bi h
 refine Ah 6 127 q0 rfl u0 (fun _=>FV.remc (i:=X7) (j:=26) rfl rfl q7) rfl ?_
 obtain ⟨x0,s7,h⟩:=bi h
 refine Ah 7 255 q0 rfl u0 (fun _=>BC (i:=97) (j:=Y7) rfl rfl s7) rfl<|Ah 8 511 q0 rfl u0 (fun _=>FV.convU8 (i:=x0) Tryz.underlying3 Tryz.underlying5 rfl) rfl<|AD 12 4607 360448 q0 rfl u0 (AB rfl (J1.memA (.tl (.tl (.tl (.tl .hd)))))) rfl<|Ah 13 12799 q0 rfl u0 (fun _=>Ai rfl) rfl ?_
 obtain ⟨Z7,t7,h⟩:=bi h
 refine Ah 14 29183 q0 rfl u0 (fun _=>FV.mulc (i:=9) (j:=P0) rfl rfl t7) rfl ?_
 obtain ⟨s0,Q7,h⟩:=bi h
 refine BI 15 61951 327680 (vI s0) q0 rfl u0 body64 rfl (e2 rfl rfl) (fun w9 hw9=>wardmoteref22_Draft_num_c n _ w9 (J1.hL0 hL hw9) a0 (J1.k0 h0_4 hw9) Z7 Q7) rfl ?_
 obtain ⟨t0,Y3,h⟩:=bi h
 refine RD.meet (α:=Nat) (fun k1=>[(1,vI a1),(2,vP g0),(4,vP j0),(5,vP p0),(6,vI P0),(44,.agg #[.string t0,vI s0,vN,vN,vN,.bool false]),(7,vP k1)]) (fun k1 b3=>St w b3 [.cells k1 [.string ⟨#[]⟩,vI 0,vN,vN,vN,.bool false] 65,.row w.heap.size 65 (Rep.size TUnit) vN (([]:List TUnit).length) [],.row w.heap.size 65 (Rep.size TUnit) d0 y0.length z0,.cells p0 [vI (((a0.fGroups % (3:UInt8)).toNat:Nat):Int),vI (((a0.fParties % (4:UInt8)).toNat:Nat):Int),vI (((a0.fLevels % (3:UInt8)).toNat:Nat):Int),d0] 44,.cells j0 [vI 0,vI 0,vI 0,vN] 44,.cells g0 [.int .u8 (a0.fGroups.toNat:Int),.int .u8 (a0.fParties.toNat:Int),.int .u8 (a0.fLevels.toNat:Int),.int .u8 (a0.fWater.toNat:Int),v0_4] 27]∧Tr P1 [.row w.heap.size 65 (Rep.size TUnit) vN (([]:List TUnit).length) [],.row w.heap.size 65 (Rep.size TUnit) d0 y0.length z0,.cells p0 [vI (((a0.fGroups % (3:UInt8)).toNat:Nat):Int),vI (((a0.fParties % (4:UInt8)).toNat:Nat):Int),vI (((a0.fLevels % (3:UInt8)).toNat:Nat):Int),d0] 44,.cells j0 [vI 0,vI 0,vI 0,vN] 44,.cells g0 [.int .u8 (a0.fGroups.toNat:Int),.int .u8 (a0.fParties.toNat:Int),.int .u8 (a0.fLevels.toNat:Int),.int .u8 (a0.fWater.toNat:Int),v0_4] 27] b3 [.cells k1 [.string ⟨#[]⟩,vI 0,vN,vN,vN,.bool false] 65,.row w.heap.size 65 (Rep.size TUnit) vN (([]:List TUnit).length) [],.row w.heap.size 65 (Rep.size TUnit) d0 y0.length z0,.cells p0 [vI (((a0.fGroups % (3:UInt8)).toNat:Nat):Int),vI (((a0.fParties % (4:UInt8)).toNat:Nat):Int),vI (((a0.fLevels % (3:UInt8)).toNat:Nat):Int),d0] 44,.cells j0 [vI 0,vI 0,vI 0,vN] 44,.cells g0 [.int .u8 (a0.fGroups.toNat:Int),.int .u8 (a0.fParties.toNat:Int),.int .u8 (a0.fLevels.toNat:Int),.int .u8 (a0.fWater.toNat:Int),v0_4] 27]) 1 262143 ?_ ?_
 rintro k1 b3 ⟨E4,Y4⟩
 try dsimp only
 refine Bt 18 524287 q0 rfl rfl .plain (Ay (news:=[.string t0,vI s0,vN,vN,vN,.bool false]) E4 .hd rfl rfl rfl rfl rfl rfl (onesB rfl)) (fun P9 K1 Z4=>?_)
 refine AE (doneD_ok q0 (by kernel_rfl))<|Ac<|Ab (AB rfl (K1.memA (.tl (.tl (.tl (.tl (.tl .hd)))))))<|Bg 0 rfl<|Ab (AK rfl ((K1.memA (.tl (.tl (.tl .hd)))) 0 _ rfl))<|Ae rfl ?_
 obtain ⟨b8,u7,h⟩:=bi h
 refine Ab (FV.mulc (i:=9) (j:=P0) rfl rfl u7) ?_
 obtain ⟨c8,v7,h⟩:=bi h
 refine Ab (BC (i:=b8) (j:=1) rfl rfl v7)<|Bg 1 rfl<|Bd rfl ((K1.memA .hd) 1 _ rfl) ?_
 obtain ⟨q2,R7,h⟩:=bi h
 refine AX (fst:=[]) (cap:=[]) .plain body65 rfl (e4 rfl rfl rfl rfl) (fun w9 hw9=>wardmoteref22_Draft_list_c n _ w9 (K1.hL hL hw9) a0 (K1.km h0_4 hw9) (((a0.fGroups % (3:UInt8)).toNat:Nat):Int) c8 s0 R7) rfl (fun Q9 Q0 k5 ⟨D9,hu_,c2⟩=>?_)
 subst hu_
 obtain ⟨F4,b5⟩:=K1.agr k5
 refine Bg 2 rfl<|RG.now .plain (BH (j:=2) (old:=[.string t0,vI s0,vN,vN,vN,.bool false]) (news:=[Q0]) (new' :=[.string t0,vI s0,Q0,vN,vN,.bool false]) F4 .hd rfl rfl rfl (Rep.c1 c2) rfl rfl (o1 (AI c2)) rfl) (fun R9 Q1 u3=>?_)
 refine Aa<|Ac<|Ab (AB rfl (Q1.memA (.tl (.tl (.tl (.tl (.tl .hd)))))))<|Bg 1 rfl<|Ab (AK rfl ((Q1.memA (.tl (.tl (.tl .hd)))) 1 _ rfl))<|Ae rfl ?_
 obtain ⟨d8,x7,h⟩:=bi h
 refine Ab (FV.mulc (i:=9) (j:=P0) rfl rfl x7) ?_
 obtain ⟨g8,y7,h⟩:=bi h
 refine Ab (BC (i:=d8) (j:=3) rfl rfl y7) ?_
 obtain ⟨s2,U7,h⟩:=bi h
 refine AX (fst:=[]) (cap:=[]) .plain body65 rfl (e4 rfl rfl rfl rfl) (fun w9 hw9=>wardmoteref22_Draft_list_c n _ w9 (Q1.hL hL hw9) a0 (Q1.km h0_4 hw9) (((a0.fParties % (4:UInt8)).toNat:Nat):Int) g8 (255:Int) U7) rfl (fun U9 Y0 p5 ⟨E9,hu_,d2⟩=>?_)
 subst hu_
 obtain ⟨G4,v3⟩:=Q1.agr p5
 refine Bg 3 rfl<|RG.now .plain (BH (j:=3) (old:=[.string t0,vI s0,Q0,vN,vN,.bool false]) (news:=[Y0]) (new' :=[.string t0,vI s0,Q0,Y0,vN,.bool false]) G4 .hd rfl rfl rfl (Rep.c1 d2) rfl rfl (o1 (AI d2)) rfl) (fun x8 k3 R2=>?_)
 refine Aa<|Ak<|Ac<|Ag rfl<|Aa<|Az ?_
 have p3:=k3.nilRow 3 (Rep.size Int)
 have U2:=St.nilRowT k3 3 (Rep.size Int)
 have y5:=AG (cs:=[]) (xs:=([]:List Int)) p3 L (AO _ _)
 obtain ⟨C9,P6,I5⟩:=bind_in2 h
 refine Bj (α:=Nat × (List Int) × Value × (List Value)) (fun ⟨z1,W0,K0,E1⟩=>[(1,vI a1),(2,vP g0),(4,vP j0),(5,vP p0),(6,vI P0),(7,vP k1),(8,vI ((z1:Nat):Int))]) (fun ⟨z1,W0,K0,E1⟩ p2=>St w p2 [.row w.heap.size 3 (Rep.size Int) K0 W0.length E1,.cells k1 [.string t0,vI s0,Q0,Y0,K0,.bool false] 65,.row w.heap.size 65 (Rep.size TUnit) vN (([]:List TUnit).length) [],.row w.heap.size 65 (Rep.size TUnit) d0 y0.length z0,.cells p0 [vI (((a0.fGroups % (3:UInt8)).toNat:Nat):Int),vI (((a0.fParties % (4:UInt8)).toNat:Nat):Int),vI (((a0.fLevels % (3:UInt8)).toNat:Nat):Int),d0] 44,.cells j0 [vI 0,vI 0,vI 0,vN] 44,.cells g0 [.int .u8 (a0.fGroups.toNat:Int),.int .u8 (a0.fParties.toNat:Int),.int .u8 (a0.fLevels.toNat:Int),.int .u8 (a0.fWater.toNat:Int),v0_4] 27]∧Tr x8 [.row w.heap.size 3 (Rep.size Int) vN (([]:List Int).length) [],.cells k1 [.string t0,vI s0,Q0,Y0,vN,.bool false] 65,.row w.heap.size 65 (Rep.size TUnit) vN (([]:List TUnit).length) [],.row w.heap.size 65 (Rep.size TUnit) d0 y0.length z0,.cells p0 [vI (((a0.fGroups % (3:UInt8)).toNat:Nat):Int),vI (((a0.fParties % (4:UInt8)).toNat:Nat):Int),vI (((a0.fLevels % (3:UInt8)).toNat:Nat):Int),d0] 44,.cells j0 [vI 0,vI 0,vI 0,vN] 44,.cells g0 [.int .u8 (a0.fGroups.toNat:Int),.int .u8 (a0.fParties.toNat:Int),.int .u8 (a0.fLevels.toNat:Int),.int .u8 (a0.fWater.toNat:Int),v0_4] 27] p2 [.row w.heap.size 3 (Rep.size Int) K0 W0.length E1,.cells k1 [.string t0,vI s0,Q0,Y0,K0,.bool false] 65,.row w.heap.size 65 (Rep.size TUnit) vN (([]:List TUnit).length) [],.row w.heap.size 65 (Rep.size TUnit) d0 y0.length z0,.cells p0 [vI (((a0.fGroups % (3:UInt8)).toNat:Nat):Int),vI (((a0.fParties % (4:UInt8)).toNat:Nat):Int),vI (((a0.fLevels % (3:UInt8)).toNat:Nat):Int),d0] 44,.cells j0 [vI 0,vI 0,vI 0,vN] 44,.cells g0 [.int .u8 (a0.fGroups.toNat:Int),.int .u8 (a0.fParties.toNat:Int),.int .u8 (a0.fLevels.toNat:Int),.int .u8 (a0.fWater.toNat:Int),v0_4] 27]∧Cells p2 (bl [.row w.heap.size 3 (Rep.size Int) K0 W0.length E1,.cells k1 [.string t0,vI s0,Q0,Y0,K0,.bool false] 65,.row w.heap.size 65 (Rep.size TUnit) vN (([]:List TUnit).length) [],.row w.heap.size 65 (Rep.size TUnit) d0 y0.length z0,.cells p0 [vI (((a0.fGroups % (3:UInt8)).toNat:Nat):Int),vI (((a0.fParties % (4:UInt8)).toNat:Nat):Int),vI (((a0.fLevels % (3:UInt8)).toNat:Nat):Int),d0] 44,.cells j0 [vI 0,vI 0,vI 0,vN] 44,.cells g0 [.int .u8 (a0.fGroups.toNat:Int),.int .u8 (a0.fParties.toNat:Int),.int .u8 (a0.fLevels.toNat:Int),.int .u8 (a0.fWater.toNat:Int),v0_4] 27] ++ L) E1 W0) (fun ⟨z1,W0,K0,E1⟩=>(z1,W0)) (0,([]:List Int),vN,[]) P6 ⟨rfl,rfl,rfl,rfl,rfl,rfl,rfl,trivial⟩ ⟨p3,AP _ _,y5⟩ ?_
 rintro P8 ⟨z1,W0,K0,E1⟩ p2 t4 ⟨b1,Z1,E3⟩ h
 unfold wardmoteref22_Draft_Roll_l1 at h
 try dsimp only at h
 refine Ak<|Ac<|Ae rfl<|Bg 2 rfl<|Ab (AK rfl ((b1.memA (.tl (.tl (.tl (.tl .hd))))) 2 _ rfl))<|Ab (Bn (i:=z1) (j:=(a0.fLevels % (3:UInt8)).toNat) rfl rfl)<|Aa<|AQ rfl h (fun g4 h=>?_) (fun g4 h=>?_)
 refine Aq<|Ak<|Az<|AF 11 tb18_11 (by kernel_rfl) (by kernel_rfl) (by kernel_rfl) (fun v0 x1=>?_)
 refine Ah 0 1 v0 rfl x1 (fun _=>Bh 4 rfl) rfl<|AD 1 3 14336 v0 rfl x1 (AK rfl ((b1.memA (.tl .hd)) 4 _ rfl)) rfl<|AD 2 7 16128 v0 rfl x1 (AB rfl (b1.memA (.tl (.tl (.tl (.tl (.tl (.tl .hd)))))))) rfl<|Ah 3 15 v0 rfl x1 (fun _=>Ai rfl) rfl ?_
 obtain ⟨j8,z7,h⟩:=bi h
 refine Ah 4 31 v0 rfl x1 (fun _=>FV.mulc (i:=9) (j:=P0) rfl rfl z7) rfl ?_
 obtain ⟨k8,A7,h⟩:=bi h
 refine Ah 5 63 v0 rfl x1 (fun _=>BC (i:=j8) (j:=7) rfl rfl A7) rfl<|Ah 6 127 v0 rfl x1 (fun _=>Ai rfl) rfl ?_
 obtain ⟨p8,B7,h⟩:=bi h
 refine Ah 7 255 v0 rfl x1 (fun _=>BC (i:=k8) (j:=((z1:Nat):Int)) rfl rfl B7) rfl ?_
 obtain ⟨Z3,V7,h⟩:=bi h
 refine BI 8 511 15872 (vI Z3) v0 rfl x1 body64 rfl (e2 rfl rfl) (fun w9 hw9=>wardmoteref22_Draft_num_c n _ w9 (b1.hL0 hL hw9) a0 (b1.k0 h0_4 hw9) p8 V7) rfl ?_
 obtain ⟨G1,C7,h⟩:=bi h
 refine Ah 9 1023 v0 rfl x1 (fun _=>FV.remc (i:=Z3) (j:=3) rfl rfl C7) rfl<|RD.nu 10 2047 v0 rfl .plain rfl (AW (α:=Int) (xs:=([G1]:List Int)) (vs:=[vI G1]) (ds' :=[vI G1]) rfl b1 el45 rfl (e1 rfl) (by kernel_rfl) rfl) (fun V9 R8 A2 x3=>?_)
 have z5:=AG (cs:=[vI G1]) (xs:=(([G1]:List Int):List Int)) A2 L (Au (cs:=[vI G1]) (ds:=[]) rfl (AO _ _))
 obtain ⟨z8,M7,h⟩:=bi h
 have B6:=AN E3 x3
 refine Bs (i:=11) (readyD_ok v0 (by kernel_rfl)) (RO.doesL (m' :=4095) (stepC_ok v0 (by kernel_rfl)) rfl rfl .plain rfl (BJ (α:=Int) (ys:=([G1]:List Int)) M7 A2 (fun _ _=>(.tl .hd)) el45 rfl rfl B6 (Src.row (α:=Int) A2 .hd z5)) (fun Y2 W9 ⟨k4,B2,c5,A5⟩=>?_))
 refine Bs (i:=12) (readyD_ok v0 (by kernel_rfl)) (RO.val (m' :=8191) (stepC_ok v0 (by kernel_rfl)) rfl .plain rfl (Bh 4 rfl) ?_)
 refine Bt 13 16383 v0 rfl rfl .plain (BH (j:=4) (old:=[.string t0,vI s0,Q0,Y0,K0,.bool false]) (news:=[Y2]) (new' :=[.string t0,vI s0,Q0,Y0,Y2,.bool false]) B2 (.tl (.tl .hd)) rfl rfl rfl (St.c1 (α:=Int) B2 (.tl .hd)) rfl rfl (o1 (St.o1 (α:=Int) B2 (.tl .hd))) rfl) (fun X9 H4 y3=>?_)
 refine AE (doneD_ok v0 (by kernel_rfl))<|AC<|Ar<|Ae rfl<|Ab (Br (i:=z1) (j:=1) rfl rfl (by omega))<|Ag rfl<|Aa ?_
 obtain ⟨I4,z3⟩:=AH H4 (.one (.tl .hd) (.one (.tl .hd) (.one (.tl .hd) (.one (.tl .hd) (.one (.tl .hd) (.one (.tl .hd) (.one (.tl .hd) .done)))))))
 have C6:=AN A5 (Tt y3 z3)
 have U6:=Tt x3 (Tt c5 (Tt y3 z3))
 exact t4 (z1 + 1,z8,Y2,k4) _ _ ⟨rfl,rfl,rfl,rfl,rfl,rfl,rfl,trivial⟩ ⟨I4,(Tt Z1 U6),C6⟩ h
 refine Be rfl ?_
 have h:=I5 _ h
 try dsimp only at h
 refine Ar<|Bg 3 rfl<|Ab (AK rfl ((b1.memA (.tl (.tl (.tl (.tl .hd))))) 3 _ rfl))<|Ab (AB rfl (b1.memA (.tl .hd))) ?_
 have g7:=Bq (α:=Int) b1 .hd E3 hL
 have q3:=BD b1 .hd
 have V2:=BE b1 .hd
 have X3:=BF (α:=Int) (v:=K0) (xs:=W0) q3 L g7
 have P3:=Tt u3 (Tt v3 (Tt R2 (Tt U2 (Tt Z1 V2))))
 have D6:=Ap c2 P3
 have Q3:=Tt R2 (Tt U2 (Tt Z1 V2))
 have E6:=Ap d2 Q3
 obtain ⟨H8,c9,H7,_⟩:=Rep.sl D6
 obtain ⟨I8,d9,I7,_⟩:=Rep.sl E6
 obtain ⟨J8,g9,J7,_⟩:=Rep.sl X3
 refine Aj .plain rfl (AW (α:=TUnit) (xs:=([(⟨t0,s0,q2,s2,W0,false⟩:TUnit)]:List TUnit)) (vs:=[.agg #[.string t0,vI s0,Q0,Y0,K0,.bool false]]) (ds' :=[.string t0,vI s0,Q0,Y0,K0,.bool false]) rfl q3 el42 rfl (e1 rfl) (by rw [H7,I7,J7]; try kernel_rfl) rfl) (fun Y9 U8 C2 b2=>?_)
 have F6:=Ap c2 (Tt P3 b2)
 have G6:=Ap d2 (Tt Q3 b2)
 have H6:=Ap X3 b2
 have B5:=AG (cs:=[.string t0,vI s0,Q0,Y0,K0,.bool false]) (xs:=(([(⟨t0,s0,q2,s2,W0,false⟩:TUnit)]:List TUnit):List TUnit)) C2 L (Au (cs:=[.string t0,vI s0,Q0,Y0,K0,.bool false]) (ds:=[]) (mk_TUnit t0 s0 q2 F6 s2 G6 W0 H6 false) (AO _ _))
 obtain ⟨A8,P7,h⟩:=bi h
 have R3:=Tt Y4 (Tt Z4 (Tt b5 (Tt u3 (Tt v3 (Tt R2 (Tt U2 (Tt Z1 (Tt V2 b2))))))))
 have I6:=AN D3 R3
 refine RG.doesL .plain rfl (BJ (α:=TUnit) (ys:=([(⟨t0,s0,q2,s2,W0,false⟩:TUnit)]:List TUnit)) P7 C2 (fun _ _=>(.tl (.tl (.tl .hd)))) el42 rfl rfl I6 (Src.row (α:=TUnit) C2 .hd B5)) (fun Z2 Z9 ⟨p4,D2,d5,C5⟩=>?_)
 refine Bg 3 rfl<|RG.now .plain (BH (j:=3) (old:=[vI (((a0.fGroups % (3:UInt8)).toNat:Nat):Int),vI (((a0.fParties % (4:UInt8)).toNat:Nat):Int),vI (((a0.fLevels % (3:UInt8)).toNat:Nat):Int),d0]) (news:=[Z2]) (new' :=[vI (((a0.fGroups % (3:UInt8)).toNat:Nat):Int),vI (((a0.fParties % (4:UInt8)).toNat:Nat):Int),vI (((a0.fLevels % (3:UInt8)).toNat:Nat):Int),Z2]) D2 (.tl (.tl (.tl (.tl .hd)))) rfl rfl rfl (St.c1 (α:=TUnit) D2 (.tl (.tl (.tl .hd)))) rfl rfl (o1 (St.o1 (α:=TUnit) D2 (.tl (.tl (.tl .hd))))) rfl) (fun b00 J4 A3=>?_)
 refine Aa<|AC<|Ar<|Ae rfl ?_
 obtain ⟨q8,D7,h⟩:=bi h
 refine Ab (BC (i:=P0) (j:=1) rfl rfl D7)<|Ag rfl<|Aa ?_
 obtain ⟨K4,B3⟩:=AH J4 (.one (.tl (.tl .hd)) (.one (.tl (.tl .hd)) (.one (.tl (.tl .hd)) (.one (.tl (.tl .hd)) (.one (.tl (.tl .hd)) .done)))))
 have J6:=AN C5 (Tt A3 B3)
 have V6:=Tt R3 (Tt d5 (Tt A3 B3))
 exact s4 (q8,A8,Z2,p4) _ _ ⟨rfl,rfl,rfl,rfl,rfl,trivial⟩ ⟨K4,(Tt X4 V6),J6⟩ h
 intro c3
 refine RD.each [9,17] (readyD_ok q0 (by kernel_rfl)) ⟨?_,?_,trivial⟩
 refine RO.new (m' :=62463) (stepC_ok q0 (by kernel_rfl)) rfl .plain rfl (AW (α:=UInt8) (xs:=([u8ofI G0,u8ofI x0]:List UInt8)) (vs:=[.int .u8 ((u8ofI G0).toNat:Int),.int .u8 ((u8ofI x0).toNat:Int)]) (ds' :=[.int .u8 ((u8ofI G0).toNat:Int),.int .u8 ((u8ofI x0).toNat:Int)]) rfl J1 el22 rfl (e2 rfl rfl) (by kernel_rfl) rfl) (fun t8 b4 F1 P2=>?_)
 have W2:=AG (cs:=[.int .u8 ((u8ofI G0).toNat:Int),.int .u8 ((u8ofI x0).toNat:Int)]) (xs:=(([u8ofI G0,u8ofI x0]:List UInt8):List UInt8)) F1 L (Au (cs:=[.int .u8 ((u8ofI G0).toNat:Int)]) (ds:=[.int .u8 ((u8ofI x0).toNat:Int)]) rfl (Au (cs:=[.int .u8 ((u8ofI x0).toNat:Int)]) (ds:=[]) rfl (AO _ _)))
 refine AD 10 63487 329728 q0 rfl u0 (FV.bytesS (xs:=([u8ofI G0,u8ofI x0]:List UInt8)) Tryz.underlying22 Tryz.underlying9 Tryz.underlying5 rfl (Src.row (α:=UInt8) F1 .hd W2)) rfl<|Ah 11 65535 q0 rfl u0 (fun _=>FV.addS Y3 rfl rfl) rfl<|Ah 16 131071 q0 rfl u0 (fun _=>AS (vs:=[.string t0,vI s0]) (u:=.agg #[.string t0,vI s0,vN,vN,vN,.bool false]) (e2 rfl rfl) (fun w9=>by kernel_rfl)) rfl<|RD.nu 17 262143 q0 rfl .plain rfl (Av [.string ⟨#[]⟩,vI 0,vN,vN,vN,.bool false] F1) (fun v8 t2 z2 Q2=>?_)
 obtain ⟨M4,g5⟩:=AH z2 (.one .hd (.one (.tl .hd) (.one (.tl .hd) (.one (.tl .hd) (.one (.tl .hd) (.one (.tl .hd) .done))))))
 have W6:=Tt P2 (Tt Q2 g5)
 exact c3 t2 _ _ ⟨rfl,rfl,rfl,rfl,rfl,rfl,rfl,trivial⟩ ⟨M4,W6⟩
 refine RO.new (m' :=193023) (stepC_ok q0 (by kernel_rfl)) rfl .plain rfl (Av [.string ⟨#[]⟩,vI 0,vN,vN,vN,.bool false] J1) (fun v8 t2 z2 Q2=>?_)
 refine RD.nu 9 193535 q0 rfl .plain rfl (AW (α:=UInt8) (xs:=([u8ofI G0,u8ofI x0]:List UInt8)) (vs:=[.int .u8 ((u8ofI G0).toNat:Int),.int .u8 ((u8ofI x0).toNat:Int)]) (ds' :=[.int .u8 ((u8ofI G0).toNat:Int),.int .u8 ((u8ofI x0).toNat:Int)]) rfl z2 el22 rfl (e2 rfl rfl) (by kernel_rfl) rfl) (fun t8 b4 F1 P2=>?_)
 have W2:=AG (cs:=[.int .u8 ((u8ofI G0).toNat:Int),.int .u8 ((u8ofI x0).toNat:Int)]) (xs:=(([u8ofI G0,u8ofI x0]:List UInt8):List UInt8)) F1 L (Au (cs:=[.int .u8 ((u8ofI G0).toNat:Int)]) (ds:=[.int .u8 ((u8ofI x0).toNat:Int)]) rfl (Au (cs:=[.int .u8 ((u8ofI x0).toNat:Int)]) (ds:=[]) rfl (AO _ _)))
 refine AD 10 194559 329728 q0 rfl u0 (FV.bytesS (xs:=([u8ofI G0,u8ofI x0]:List UInt8)) Tryz.underlying22 Tryz.underlying9 Tryz.underlying5 rfl (Src.row (α:=UInt8) F1 .hd W2)) rfl<|Ah 11 196607 q0 rfl u0 (fun _=>FV.addS Y3 rfl rfl) rfl<|Ah 16 262143 q0 rfl u0 (fun _=>AS (vs:=[.string t0,vI s0]) (u:=.agg #[.string t0,vI s0,vN,vN,vN,.bool false]) (e2 rfl rfl) (fun w9=>by kernel_rfl)) rfl ?_
 obtain ⟨P4,j5⟩:=AH F1 (.one (.tl .hd) (.one (.tl .hd) (.one (.tl .hd) (.one (.tl .hd) (.one (.tl .hd) (.one (.tl .hd) .done))))))
 have X6:=Tt Q2 (Tt P2 j5)
 exact c3 t2 _ _ ⟨rfl,rfl,rfl,rfl,rfl,rfl,rfl,trivial⟩ ⟨P4,X6⟩
 refine Be rfl ?_
 have h:=H5 _ h
 try dsimp only at h
 refine Ak<|Ac<|Ag rfl<|Aa<|Az ?_
 obtain ⟨A9,K6,G5⟩:=bind_in2 h
 refine Bj (α:=Nat × (List TUnit) × Value × (List Value)) (fun ⟨y1,M0,c0,R0⟩=>[(2,vP g0),(4,vP j0),(5,vP p0),(9,vI ((y1:Nat):Int))]) (fun ⟨y1,M0,c0,R0⟩ R1=>St w R1 [.row w.heap.size 65 (Rep.size TUnit) vN (([]:List TUnit).length) [],.row w.heap.size 65 (Rep.size TUnit) c0 M0.length R0,.cells p0 [vI (((a0.fGroups % (3:UInt8)).toNat:Nat):Int),vI (((a0.fParties % (4:UInt8)).toNat:Nat):Int),vI (((a0.fLevels % (3:UInt8)).toNat:Nat):Int),c0] 44,.cells j0 [vI 0,vI 0,vI 0,vN] 44,.cells g0 [.int .u8 (a0.fGroups.toNat:Int),.int .u8 (a0.fParties.toNat:Int),.int .u8 (a0.fLevels.toNat:Int),.int .u8 (a0.fWater.toNat:Int),v0_4] 27]∧Tr P1 [.row w.heap.size 65 (Rep.size TUnit) vN (([]:List TUnit).length) [],.row w.heap.size 65 (Rep.size TUnit) d0 y0.length z0,.cells p0 [vI (((a0.fGroups % (3:UInt8)).toNat:Nat):Int),vI (((a0.fParties % (4:UInt8)).toNat:Nat):Int),vI (((a0.fLevels % (3:UInt8)).toNat:Nat):Int),d0] 44,.cells j0 [vI 0,vI 0,vI 0,vN] 44,.cells g0 [.int .u8 (a0.fGroups.toNat:Int),.int .u8 (a0.fParties.toNat:Int),.int .u8 (a0.fLevels.toNat:Int),.int .u8 (a0.fWater.toNat:Int),v0_4] 27] R1 [.row w.heap.size 65 (Rep.size TUnit) vN (([]:List TUnit).length) [],.row w.heap.size 65 (Rep.size TUnit) c0 M0.length R0,.cells p0 [vI (((a0.fGroups % (3:UInt8)).toNat:Nat):Int),vI (((a0.fParties % (4:UInt8)).toNat:Nat):Int),vI (((a0.fLevels % (3:UInt8)).toNat:Nat):Int),c0] 44,.cells j0 [vI 0,vI 0,vI 0,vN] 44,.cells g0 [.int .u8 (a0.fGroups.toNat:Int),.int .u8 (a0.fParties.toNat:Int),.int .u8 (a0.fLevels.toNat:Int),.int .u8 (a0.fWater.toNat:Int),v0_4] 27]∧Cells R1 (bl [.row w.heap.size 65 (Rep.size TUnit) vN (([]:List TUnit).length) [],.row w.heap.size 65 (Rep.size TUnit) c0 M0.length R0,.cells p0 [vI (((a0.fGroups % (3:UInt8)).toNat:Nat):Int),vI (((a0.fParties % (4:UInt8)).toNat:Nat):Int),vI (((a0.fLevels % (3:UInt8)).toNat:Nat):Int),c0] 44,.cells j0 [vI 0,vI 0,vI 0,vN] 44,.cells g0 [.int .u8 (a0.fGroups.toNat:Int),.int .u8 (a0.fParties.toNat:Int),.int .u8 (a0.fLevels.toNat:Int),.int .u8 (a0.fWater.toNat:Int),v0_4] 27] ++ L) R0 M0) (fun ⟨y1,M0,c0,R0⟩=>(y1,M0)) (0,y0,d0,z0) K6 ⟨rfl,rfl,rfl,rfl,trivial⟩ ⟨J1,AP _ _,D3⟩ ?_
 rintro K8 ⟨y1,M0,c0,R0⟩ R1 q4 ⟨Z0,Q4,C3⟩ h
 unfold wardmoteref22_Draft_Roll_l2 at h
 try dsimp only at h
 refine Ak<|Ac<|Ae rfl<|Bg 3 rfl<|Ab (AK rfl ((Z0.memA (.tl (.tl (.tl (.tl .hd))))) 3 _ rfl))<|Ab (FV.rem8 (a:=a0.fWater) (b:=(2:UInt8)) rfl rfl (by decide)) ?_
 have v9:=(a0.fWater % (2:UInt8)).toNat_lt
 refine Ab (FV.convN (i:=(a0.fWater % (2:UInt8)).toNat) Tryz.underlying5 Tryz.underlying3 rfl (by omega))<|Ab (Bn (i:=y1) (j:=(a0.fWater % (2:UInt8)).toNat) rfl rfl)<|Aa<|AQ rfl h (fun c4 h=>?_) (fun c4 h=>?_)
 refine Aq<|Ak<|Az<|AF 13 tb18_16 (by kernel_rfl) (by kernel_rfl) (by kernel_rfl) (fun b0 A1=>?_)
 refine Ah 0 1 b0 rfl A1 (fun _=>Bh 3 rfl) rfl<|AD 1 3 57344 b0 rfl A1 (AK rfl ((Z0.memA (.tl (.tl .hd))) 3 _ rfl)) rfl<|Ah 2 7 b0 rfl A1 (fun _=>Bh 0 rfl) rfl<|AD 3 15 63504 b0 rfl A1 (AK rfl ((Z0.memA (.tl (.tl .hd))) 0 _ rfl)) rfl<|Ah 5 47 b0 rfl A1 (fun _=>Bh 1 rfl) rfl<|AD 6 111 63616 b0 rfl A1 (AK rfl ((Z0.memA (.tl (.tl .hd))) 1 _ rfl)) rfl<|Ah 8 367 b0 rfl A1 (fun _=>Bh 2 rfl) rfl<|AD 9 879 64512 b0 rfl A1 (AK rfl ((Z0.memA (.tl (.tl .hd))) 2 _ rfl)) rfl ?_
 obtain ⟨A0,t1,h⟩:=bi h
 obtain ⟨B0,u1,h⟩:=bi h
 obtain ⟨C0,v1,h⟩:=bi h
 refine RD.meet (α:=Value × (List Value) × Value × (List Value) × Value × (List Value)) (fun ⟨H0,B1,I0,C1,J0,D1⟩=>[(2,vP g0),(4,vP j0),(5,vP p0),(9,vI ((y1:Nat):Int)),(97,c0),(100,J0),(103,I0),(106,H0)]) (fun ⟨H0,B1,I0,C1,J0,D1⟩ M1=>St w M1 [.row w.heap.size 3 (Rep.size Int) H0 C0.length B1,.row w.heap.size 3 (Rep.size Int) I0 B0.length C1,.row w.heap.size 3 (Rep.size Int) J0 A0.length D1,.row w.heap.size 65 (Rep.size TUnit) vN (([]:List TUnit).length) [],.row w.heap.size 65 (Rep.size TUnit) c0 M0.length R0,.cells p0 [vI (((a0.fGroups % (3:UInt8)).toNat:Nat):Int),vI (((a0.fParties % (4:UInt8)).toNat:Nat):Int),vI (((a0.fLevels % (3:UInt8)).toNat:Nat):Int),c0] 44,.cells j0 [vI 0,vI 0,vI 0,vN] 44,.cells g0 [.int .u8 (a0.fGroups.toNat:Int),.int .u8 (a0.fParties.toNat:Int),.int .u8 (a0.fLevels.toNat:Int),.int .u8 (a0.fWater.toNat:Int),v0_4] 27]∧Tr R1 [.row w.heap.size 65 (Rep.size TUnit) vN (([]:List TUnit).length) [],.row w.heap.size 65 (Rep.size TUnit) c0 M0.length R0,.cells p0 [vI (((a0.fGroups % (3:UInt8)).toNat:Nat):Int),vI (((a0.fParties % (4:UInt8)).toNat:Nat):Int),vI (((a0.fLevels % (3:UInt8)).toNat:Nat):Int),c0] 44,.cells j0 [vI 0,vI 0,vI 0,vN] 44,.cells g0 [.int .u8 (a0.fGroups.toNat:Int),.int .u8 (a0.fParties.toNat:Int),.int .u8 (a0.fLevels.toNat:Int),.int .u8 (a0.fWater.toNat:Int),v0_4] 27] M1 [.row w.heap.size 3 (Rep.size Int) H0 C0.length B1,.row w.heap.size 3 (Rep.size Int) I0 B0.length C1,.row w.heap.size 3 (Rep.size Int) J0 A0.length D1,.row w.heap.size 65 (Rep.size TUnit) vN (([]:List TUnit).length) [],.row w.heap.size 65 (Rep.size TUnit) c0 M0.length R0,.cells p0 [vI (((a0.fGroups % (3:UInt8)).toNat:Nat):Int),vI (((a0.fParties % (4:UInt8)).toNat:Nat):Int),vI (((a0.fLevels % (3:UInt8)).toNat:Nat):Int),c0] 44,.cells j0 [vI 0,vI 0,vI 0,vN] 44,.cells g0 [.int .u8 (a0.fGroups.toNat:Int),.int .u8 (a0.fParties.toNat:Int),.int .u8 (a0.fLevels.toNat:Int),.int .u8 (a0.fWater.toNat:Int),v0_4] 27]∧Cells M1 (bl [.row w.heap.size 3 (Rep.size Int) H0 C0.length B1,.row w.heap.size 3 (Rep.size Int) I0 B0.length C1,.row w.heap.size 3 (Rep.size Int) J0 A0.length D1,.row w.heap.size 65 (Rep.size TUnit) vN (([]:List TUnit).length) [],.row w.heap.size 65 (Rep.size TUnit) c0 M0.length R0,.cells p0 [vI (((a0.fGroups % (3:UInt8)).toNat:Nat):Int),vI (((a0.fParties % (4:UInt8)).toNat:Nat):Int),vI (((a0.fLevels % (3:UInt8)).toNat:Nat):Int),c0] 44,.cells j0 [vI 0,vI 0,vI 0,vN] 44,.cells g0 [.int .u8 (a0.fGroups.toNat:Int),.int .u8 (a0.fParties.toNat:Int),.int .u8 (a0.fLevels.toNat:Int),.int .u8 (a0.fWater.toNat:Int),v0_4] 27] ++ L) B1 (C0:List Int)∧Cells M1 (bl [.row w.heap.size 3 (Rep.size Int) H0 C0.length B1,.row w.heap.size 3 (Rep.size Int) I0 B0.length C1,.row w.heap.size 3 (Rep.size Int) J0 A0.length D1,.row w.heap.size 65 (Rep.size TUnit) vN (([]:List TUnit).length) [],.row w.heap.size 65 (Rep.size TUnit) c0 M0.length R0,.cells p0 [vI (((a0.fGroups % (3:UInt8)).toNat:Nat):Int),vI (((a0.fParties % (4:UInt8)).toNat:Nat):Int),vI (((a0.fLevels % (3:UInt8)).toNat:Nat):Int),c0] 44,.cells j0 [vI 0,vI 0,vI 0,vN] 44,.cells g0 [.int .u8 (a0.fGroups.toNat:Int),.int .u8 (a0.fParties.toNat:Int),.int .u8 (a0.fLevels.toNat:Int),.int .u8 (a0.fWater.toNat:Int),v0_4] 27] ++ L) C1 (B0:List Int)∧Cells M1 (bl [.row w.heap.size 3 (Rep.size Int) H0 C0.length B1,.row w.heap.size 3 (Rep.size Int) I0 B0.length C1,.row w.heap.size 3 (Rep.size Int) J0 A0.length D1,.row w.heap.size 65 (Rep.size TUnit) vN (([]:List TUnit).length) [],.row w.heap.size 65 (Rep.size TUnit) c0 M0.length R0,.cells p0 [vI (((a0.fGroups % (3:UInt8)).toNat:Nat):Int),vI (((a0.fParties % (4:UInt8)).toNat:Nat):Int),vI (((a0.fLevels % (3:UInt8)).toNat:Nat):Int),c0] 44,.cells j0 [vI 0,vI 0,vI 0,vN] 44,.cells g0 [.int .u8 (a0.fGroups.toNat:Int),.int .u8 (a0.fParties.toNat:Int),.int .u8 (a0.fLevels.toNat:Int),.int .u8 (a0.fWater.toNat:Int),v0_4] 27] ++ L) D1 (A0:List Int)) 5 2047 ?_ ?_
 rintro ⟨H0,B1,I0,C1,J0,D1⟩ M1 ⟨I1,R4,q5,s5,t5⟩
 try dsimp only
 obtain ⟨B8,V8,D5⟩:=St.rowV (α:=Int) I1 (.tl (.tl .hd))
 obtain ⟨C8,W8,E5⟩:=St.rowV (α:=Int) I1 (.tl .hd)
 obtain ⟨D8,X8,F5⟩:=St.rowV (α:=Int) I1 .hd
 refine Ah 11 4095 b0 rfl A1 (fun _=>AS (vs:=[.string ⟨#[115,101,97]⟩,.bool true,J0,I0,H0]) (u:=.agg #[.string ⟨#[115,101,97]⟩,vI 0,J0,I0,H0,.bool true]) (e5 rfl rfl rfl rfl rfl) (fun w9=>by rw [D5,E5,F5]; try kernel_rfl)) rfl ?_
 have Y6:=Bq (α:=Int) I1 (.tl (.tl .hd)) t5 hL
 have U1:=BD I1 (.tl (.tl .hd))
 have E2:=BE I1 (.tl (.tl .hd))
 have U3:=BF (α:=Int) (v:=J0) (xs:=A0) U1 L Y6
 have J5:=AN s5 E2
 have Z6:=Bq (α:=Int) U1 (.tl .hd) J5 hL
 have V1:=BD U1 (.tl .hd)
 have F2:=BE U1 (.tl .hd)
 have V3:=BF (α:=Int) (v:=I0) (xs:=B0) V1 L Z6
 have K5:=AN q5 (Tt E2 F2)
 have b7:=Bq (α:=Int) V1 .hd K5 hL
 have d3:=BD V1 .hd
 have Y1:=BE V1 .hd
 have W3:=BF (α:=Int) (v:=H0) (xs:=C0) d3 L b7
 have M5:=Ap U3 (Tt F2 Y1)
 have P5:=Ap V3 Y1
 obtain ⟨E8,Y8,E7,_⟩:=Rep.sl M5
 obtain ⟨F8,Z8,F7,_⟩:=Rep.sl P5
 obtain ⟨G8,b9,G7,_⟩:=Rep.sl W3
 refine RD.nu 12 8191 b0 rfl .plain rfl (AW (α:=TUnit) (xs:=([(⟨⟨#[115,101,97]⟩,(0:Int),A0,B0,C0,true⟩:TUnit)]:List TUnit)) (vs:=[.agg #[.string ⟨#[115,101,97]⟩,vI 0,J0,I0,H0,.bool true]]) (ds' :=[.string ⟨#[115,101,97]⟩,vI 0,J0,I0,H0,.bool true]) rfl d3 el42 rfl (e1 rfl) (by rw [E7,F7,G7]; try kernel_rfl) rfl) (fun G9 Q8 u2 G2=>?_)
 have F3:=Tt F2 (Tt Y1 G2)
 have Q5:=Ap U3 F3
 have R5:=Ap V3 (Tt Y1 G2)
 have U5:=Ap W3 G2
 have u5:=AG (cs:=[.string ⟨#[115,101,97]⟩,vI 0,J0,I0,H0,.bool true]) (xs:=(([(⟨⟨#[115,101,97]⟩,(0:Int),A0,B0,C0,true⟩:TUnit)]:List TUnit):List TUnit)) u2 L (Au (cs:=[.string ⟨#[115,101,97]⟩,vI 0,J0,I0,H0,.bool true]) (ds:=[]) (mk_TUnit ⟨#[115,101,97]⟩ (0:Int) A0 Q5 B0 R5 C0 U5 true) (AO _ _))
 obtain ⟨y8,K7,h⟩:=bi h
 have G3:=Tt R4 (Tt E2 F3)
 have V5:=AN C3 G3
 refine Bs (i:=13) (readyD_ok b0 (by kernel_rfl)) (RO.doesL (m' :=16383) (stepC_ok b0 (by kernel_rfl)) rfl rfl .plain rfl (BJ (α:=TUnit) (ys:=([(⟨⟨#[115,101,97]⟩,(0:Int),A0,B0,C0,true⟩:TUnit)]:List TUnit)) K7 u2 (fun _ _=>(.tl (.tl .hd))) el42 rfl rfl V5 (Src.row (α:=TUnit) u2 .hd u5)) (fun X2 H9 ⟨j4,v2,U4,v5⟩=>?_))
 refine Bs (i:=14) (readyD_ok b0 (by kernel_rfl)) (RO.val (m' :=32767) (stepC_ok b0 (by kernel_rfl)) rfl .plain rfl (Bh 3 rfl) ?_)
 refine Bt 15 65535 b0 rfl rfl .plain (BH (j:=3) (old:=[vI (((a0.fGroups % (3:UInt8)).toNat:Nat):Int),vI (((a0.fParties % (4:UInt8)).toNat:Nat):Int),vI (((a0.fLevels % (3:UInt8)).toNat:Nat):Int),c0]) (news:=[X2]) (new' :=[vI (((a0.fGroups % (3:UInt8)).toNat:Nat):Int),vI (((a0.fParties % (4:UInt8)).toNat:Nat):Int),vI (((a0.fLevels % (3:UInt8)).toNat:Nat):Int),X2]) v2 (.tl (.tl (.tl .hd))) rfl rfl rfl (St.c1 (α:=TUnit) v2 (.tl (.tl .hd))) rfl rfl (o1 (St.o1 (α:=TUnit) v2 (.tl (.tl .hd)))) rfl) (fun I9 u4 s3=>?_)
 refine AE (doneD_ok b0 (by kernel_rfl))<|AC<|Ar<|Ae rfl<|Ab (Br (i:=y1) (j:=1) rfl rfl (by omega))<|Ag rfl<|Aa ?_
 obtain ⟨v4,t3⟩:=AH u4 (.one (.tl .hd) (.one (.tl .hd) (.one (.tl .hd) (.one (.tl .hd) (.one (.tl .hd) .done)))))
 have W5:=AN v5 (Tt s3 t3)
 have Q6:=Tt G3 (Tt U4 (Tt s3 t3))
 exact q4 (y1 + 1,y8,X2,j4) _ _ ⟨rfl,rfl,rfl,rfl,trivial⟩ ⟨v4,(Tt Q4 Q6),W5⟩ h
 intro H1
 refine RD.each [4,7,10] (readyD_ok b0 (by kernel_rfl)) ⟨?_,?_,?_,trivial⟩
 refine RO.new (m' :=895) (stepC_ok b0 (by kernel_rfl)) rfl .plain rfl (Does.mk (α:=Int) t1 Z0 el45 rfl) (fun g2 d1 D0 X0=>?_)
 have p1:=AG (cs:=(List.replicate (((a0.fGroups % (3:UInt8)).toNat:Nat):Int).toNat [vI 0]).flatten) (xs:=A0) D0 L (Cells.mk t1 rfl)
 refine RD.each [7,10] (readyD_ok b0 (by kernel_rfl)) ⟨?_,?_,trivial⟩
 refine RO.new (m' :=1023) (stepC_ok b0 (by kernel_rfl)) rfl .plain rfl (Does.mk (α:=Int) u1 D0 el45 rfl) (fun j2 g1 E0 U0=>?_)
 have q1:=AG (cs:=(List.replicate (((a0.fParties % (4:UInt8)).toNat:Nat):Int).toNat [vI 0]).flatten) (xs:=B0) E0 L (Cells.mk u1 rfl)
 refine RD.nu 10 2047 b0 rfl .plain rfl (Does.mk (α:=Int) v1 E0 el45 rfl) (fun k2 j1 F0 V0=>?_)
 have s1:=AG (cs:=(List.replicate (((a0.fLevels % (3:UInt8)).toNat:Nat):Int).toNat [vI 0]).flatten) (xs:=C0) F0 L (Cells.mk v1 rfl)
 have X5:=AN q1 V0
 have Y5:=AN p1 (Tt U0 V0)
 have R6:=Tt X0 (Tt U0 V0)
 exact H1 ((.slice (some ⟨j1,0,none⟩) (((a0.fLevels % (3:UInt8)).toNat:Nat):Int).toNat (((a0.fLevels % (3:UInt8)).toNat:Nat):Int).toNat),(List.replicate (((a0.fLevels % (3:UInt8)).toNat:Nat):Int).toNat [vI 0]).flatten,(.slice (some ⟨g1,0,none⟩) (((a0.fParties % (4:UInt8)).toNat:Nat):Int).toNat (((a0.fParties % (4:UInt8)).toNat:Nat):Int).toNat),(List.replicate (((a0.fParties % (4:UInt8)).toNat:Nat):Int).toNat [vI 0]).flatten,(.slice (some ⟨d1,0,none⟩) (((a0.fGroups % (3:UInt8)).toNat:Nat):Int).toNat (((a0.fGroups % (3:UInt8)).toNat:Nat):Int).toNat),(List.replicate (((a0.fGroups % (3:UInt8)).toNat:Nat):Int).toNat [vI 0]).flatten) _ _ ⟨rfl,rfl,rfl,rfl,rfl,rfl,rfl,rfl,trivial⟩ ⟨F0,R6,s1,X5,Y5⟩
 refine RO.new (m' :=1919) (stepC_ok b0 (by kernel_rfl)) rfl .plain rfl (Does.mk (α:=Int) v1 D0 el45 rfl) (fun k2 j1 F0 V0=>?_)
 have s1:=AG (cs:=(List.replicate (((a0.fLevels % (3:UInt8)).toNat:Nat):Int).toNat [vI 0]).flatten) (xs:=C0) F0 L (Cells.mk v1 rfl)
 refine RD.nu 7 2047 b0 rfl .plain rfl (Does.mk (α:=Int) u1 F0 el45 rfl) (fun j2 g1 E0 U0=>?_)
 have q1:=AG (cs:=(List.replicate (((a0.fParties % (4:UInt8)).toNat:Nat):Int).toNat [vI 0]).flatten) (xs:=B0) E0 L (Cells.mk u1 rfl)
 obtain ⟨x4,H2⟩:=AH E0 (.one (.tl .hd) (.one .hd (.one .hd (.one .hd (.one .hd (.one .hd (.one .hd (.one .hd .done))))))))
 have Z5:=AN s1 (Tt U0 H2)
 have b6:=AN q1 H2
 have H3:=Tt V0 (Tt U0 H2)
 have c6:=AN p1 H3
 exact H1 ((.slice (some ⟨j1,0,none⟩) (((a0.fLevels % (3:UInt8)).toNat:Nat):Int).toNat (((a0.fLevels % (3:UInt8)).toNat:Nat):Int).toNat),(List.replicate (((a0.fLevels % (3:UInt8)).toNat:Nat):Int).toNat [vI 0]).flatten,(.slice (some ⟨g1,0,none⟩) (((a0.fParties % (4:UInt8)).toNat:Nat):Int).toNat (((a0.fParties % (4:UInt8)).toNat:Nat):Int).toNat),(List.replicate (((a0.fParties % (4:UInt8)).toNat:Nat):Int).toNat [vI 0]).flatten,(.slice (some ⟨d1,0,none⟩) (((a0.fGroups % (3:UInt8)).toNat:Nat):Int).toNat (((a0.fGroups % (3:UInt8)).toNat:Nat):Int).toNat),(List.replicate (((a0.fGroups % (3:UInt8)).toNat:Nat):Int).toNat [vI 0]).flatten) _ _ ⟨rfl,rfl,rfl,rfl,rfl,rfl,rfl,rfl,trivial⟩ ⟨x4,(Tt X0 H3),Z5,b6,c6⟩
 refine RO.new (m' :=1007) (stepC_ok b0 (by kernel_rfl)) rfl .plain rfl (Does.mk (α:=Int) u1 Z0 el45 rfl) (fun j2 g1 E0 U0=>?_)
 have q1:=AG (cs:=(List.replicate (((a0.fParties % (4:UInt8)).toNat:Nat):Int).toNat [vI 0]).flatten) (xs:=B0) E0 L (Cells.mk u1 rfl)
 refine RD.each [4,10] (readyD_ok b0 (by kernel_rfl)) ⟨?_,?_,trivial⟩
 refine RO.new (m' :=1023) (stepC_ok b0 (by kernel_rfl)) rfl .plain rfl (Does.mk (α:=Int) t1 E0 el45 rfl) (fun g2 d1 D0 X0=>?_)
 have p1:=AG (cs:=(List.replicate (((a0.fGroups % (3:UInt8)).toNat:Nat):Int).toNat [vI 0]).flatten) (xs:=A0) D0 L (Cells.mk t1 rfl)
 refine RD.nu 10 2047 b0 rfl .plain rfl (Does.mk (α:=Int) v1 D0 el45 rfl) (fun k2 j1 F0 V0=>?_)
 have s1:=AG (cs:=(List.replicate (((a0.fLevels % (3:UInt8)).toNat:Nat):Int).toNat [vI 0]).flatten) (xs:=C0) F0 L (Cells.mk v1 rfl)
 obtain ⟨y4,I2⟩:=AH F0 (.one .hd (.one (.tl .hd) (.one .hd (.one .hd (.one .hd (.one .hd (.one .hd (.one .hd .done))))))))
 have d6:=AN s1 I2
 have I3:=Tt X0 (Tt V0 I2)
 have g6:=AN q1 I3
 have j6:=AN p1 (Tt V0 I2)
 exact H1 ((.slice (some ⟨j1,0,none⟩) (((a0.fLevels % (3:UInt8)).toNat:Nat):Int).toNat (((a0.fLevels % (3:UInt8)).toNat:Nat):Int).toNat),(List.replicate (((a0.fLevels % (3:UInt8)).toNat:Nat):Int).toNat [vI 0]).flatten,(.slice (some ⟨g1,0,none⟩) (((a0.fParties % (4:UInt8)).toNat:Nat):Int).toNat (((a0.fParties % (4:UInt8)).toNat:Nat):Int).toNat),(List.replicate (((a0.fParties % (4:UInt8)).toNat:Nat):Int).toNat [vI 0]).flatten,(.slice (some ⟨d1,0,none⟩) (((a0.fGroups % (3:UInt8)).toNat:Nat):Int).toNat (((a0.fGroups % (3:UInt8)).toNat:Nat):Int).toNat),(List.replicate (((a0.fGroups % (3:UInt8)).toNat:Nat):Int).toNat [vI 0]).flatten) _ _ ⟨rfl,rfl,rfl,rfl,rfl,rfl,rfl,rfl,trivial⟩ ⟨y4,(Tt U0 I3),d6,g6,j6⟩
 refine RO.new (m' :=2031) (stepC_ok b0 (by kernel_rfl)) rfl .plain rfl (Does.mk (α:=Int) v1 E0 el45 rfl) (fun k2 j1 F0 V0=>?_)
 have s1:=AG (cs:=(List.replicate (((a0.fLevels % (3:UInt8)).toNat:Nat):Int).toNat [vI 0]).flatten) (xs:=C0) F0 L (Cells.mk v1 rfl)
 refine RD.nu 4 2047 b0 rfl .plain rfl (Does.mk (α:=Int) t1 F0 el45 rfl) (fun g2 d1 D0 X0=>?_)
 have p1:=AG (cs:=(List.replicate (((a0.fGroups % (3:UInt8)).toNat:Nat):Int).toNat [vI 0]).flatten) (xs:=A0) D0 L (Cells.mk t1 rfl)
 obtain ⟨z4,J2⟩:=AH D0 (.one (.tl .hd) (.one (.tl .hd) (.one .hd (.one .hd (.one .hd (.one .hd (.one .hd (.one .hd .done))))))))
 have k6:=AN s1 (Tt X0 J2)
 have J3:=Tt V0 (Tt X0 J2)
 have p6:=AN q1 J3
 have q6:=AN p1 J2
 exact H1 ((.slice (some ⟨j1,0,none⟩) (((a0.fLevels % (3:UInt8)).toNat:Nat):Int).toNat (((a0.fLevels % (3:UInt8)).toNat:Nat):Int).toNat),(List.replicate (((a0.fLevels % (3:UInt8)).toNat:Nat):Int).toNat [vI 0]).flatten,(.slice (some ⟨g1,0,none⟩) (((a0.fParties % (4:UInt8)).toNat:Nat):Int).toNat (((a0.fParties % (4:UInt8)).toNat:Nat):Int).toNat),(List.replicate (((a0.fParties % (4:UInt8)).toNat:Nat):Int).toNat [vI 0]).flatten,(.slice (some ⟨d1,0,none⟩) (((a0.fGroups % (3:UInt8)).toNat:Nat):Int).toNat (((a0.fGroups % (3:UInt8)).toNat:Nat):Int).toNat),(List.replicate (((a0.fGroups % (3:UInt8)).toNat:Nat):Int).toNat [vI 0]).flatten) _ _ ⟨rfl,rfl,rfl,rfl,rfl,rfl,rfl,rfl,trivial⟩ ⟨z4,(Tt U0 J3),k6,p6,q6⟩
 refine RO.new (m' :=1903) (stepC_ok b0 (by kernel_rfl)) rfl .plain rfl (Does.mk (α:=Int) v1 Z0 el45 rfl) (fun k2 j1 F0 V0=>?_)
 have s1:=AG (cs:=(List.replicate (((a0.fLevels % (3:UInt8)).toNat:Nat):Int).toNat [vI 0]).flatten) (xs:=C0) F0 L (Cells.mk v1 rfl)
 refine RD.each [4,7] (readyD_ok b0 (by kernel_rfl)) ⟨?_,?_,trivial⟩
 refine RO.new (m' :=1919) (stepC_ok b0 (by kernel_rfl)) rfl .plain rfl (Does.mk (α:=Int) t1 F0 el45 rfl) (fun g2 d1 D0 X0=>?_)
 have p1:=AG (cs:=(List.replicate (((a0.fGroups % (3:UInt8)).toNat:Nat):Int).toNat [vI 0]).flatten) (xs:=A0) D0 L (Cells.mk t1 rfl)
 refine RD.nu 7 2047 b0 rfl .plain rfl (Does.mk (α:=Int) u1 D0 el45 rfl) (fun j2 g1 E0 U0=>?_)
 have q1:=AG (cs:=(List.replicate (((a0.fParties % (4:UInt8)).toNat:Nat):Int).toNat [vI 0]).flatten) (xs:=B0) E0 L (Cells.mk u1 rfl)
 obtain ⟨A4,K2⟩:=AH E0 (.one (.tl (.tl .hd)) (.one .hd (.one .hd (.one .hd (.one .hd (.one .hd (.one .hd (.one .hd .done))))))))
 have K3:=Tt X0 (Tt U0 K2)
 have s6:=AN s1 K3
 have t6:=AN q1 K2
 have u6:=AN p1 (Tt U0 K2)
 exact H1 ((.slice (some ⟨j1,0,none⟩) (((a0.fLevels % (3:UInt8)).toNat:Nat):Int).toNat (((a0.fLevels % (3:UInt8)).toNat:Nat):Int).toNat),(List.replicate (((a0.fLevels % (3:UInt8)).toNat:Nat):Int).toNat [vI 0]).flatten,(.slice (some ⟨g1,0,none⟩) (((a0.fParties % (4:UInt8)).toNat:Nat):Int).toNat (((a0.fParties % (4:UInt8)).toNat:Nat):Int).toNat),(List.replicate (((a0.fParties % (4:UInt8)).toNat:Nat):Int).toNat [vI 0]).flatten,(.slice (some ⟨d1,0,none⟩) (((a0.fGroups % (3:UInt8)).toNat:Nat):Int).toNat (((a0.fGroups % (3:UInt8)).toNat:Nat):Int).toNat),(List.replicate (((a0.fGroups % (3:UInt8)).toNat:Nat):Int).toNat [vI 0]).flatten) _ _ ⟨rfl,rfl,rfl,rfl,rfl,rfl,rfl,rfl,trivial⟩ ⟨A4,(Tt V0 K3),s6,t6,u6⟩
 refine RO.new (m' :=2031) (stepC_ok b0 (by kernel_rfl)) rfl .plain rfl (Does.mk (α:=Int) u1 F0 el45 rfl) (fun j2 g1 E0 U0=>?_)
 have q1:=AG (cs:=(List.replicate (((a0.fParties % (4:UInt8)).toNat:Nat):Int).toNat [vI 0]).flatten) (xs:=B0) E0 L (Cells.mk u1 rfl)
 refine RD.nu 4 2047 b0 rfl .plain rfl (Does.mk (α:=Int) t1 E0 el45 rfl) (fun g2 d1 D0 X0=>?_)
 have p1:=AG (cs:=(List.replicate (((a0.fGroups % (3:UInt8)).toNat:Nat):Int).toNat [vI 0]).flatten) (xs:=A0) D0 L (Cells.mk t1 rfl)
 obtain ⟨B4,M2⟩:=AH D0 (.one (.tl (.tl .hd)) (.one (.tl .hd) (.one .hd (.one .hd (.one .hd (.one .hd (.one .hd (.one .hd .done))))))))
 have M3:=Tt U0 (Tt X0 M2)
 have v6:=AN s1 M3
 have x6:=AN q1 (Tt X0 M2)
 have y6:=AN p1 M2
 exact H1 ((.slice (some ⟨j1,0,none⟩) (((a0.fLevels % (3:UInt8)).toNat:Nat):Int).toNat (((a0.fLevels % (3:UInt8)).toNat:Nat):Int).toNat),(List.replicate (((a0.fLevels % (3:UInt8)).toNat:Nat):Int).toNat [vI 0]).flatten,(.slice (some ⟨g1,0,none⟩) (((a0.fParties % (4:UInt8)).toNat:Nat):Int).toNat (((a0.fParties % (4:UInt8)).toNat:Nat):Int).toNat),(List.replicate (((a0.fParties % (4:UInt8)).toNat:Nat):Int).toNat [vI 0]).flatten,(.slice (some ⟨d1,0,none⟩) (((a0.fGroups % (3:UInt8)).toNat:Nat):Int).toNat (((a0.fGroups % (3:UInt8)).toNat:Nat):Int).toNat),(List.replicate (((a0.fGroups % (3:UInt8)).toNat:Nat):Int).toNat [vI 0]).flatten) _ _ ⟨rfl,rfl,rfl,rfl,rfl,rfl,rfl,rfl,trivial⟩ ⟨B4,(Tt V0 M3),v6,x6,y6⟩
 refine Be rfl ?_
 have h:=G5 _ h
 try dsimp only at h
 refine Ac<|Ab (AB rfl (Z0.memA (.tl (.tl .hd))))<|AL [vI (((a0.fGroups % (3:UInt8)).toNat:Nat):Int),vI (((a0.fParties % (4:UInt8)).toNat:Nat):Int),vI (((a0.fLevels % (3:UInt8)).toNat:Nat):Int),c0] Z0 (.tl (.tl (.tl .hd))) (o4 rfl rfl rfl (St.o1 (α:=TUnit) Z0 (.tl .hd))) (fun J9 x2 V4=>?_)
 refine Aa<|Al rfl ?_
 have z6:=AN C3 V4
 have c7:=Bq (α:=TUnit) x2 (.tl .hd) z6 hL
 have W1:=BD x2 (.tl .hd)
 have j9:=BE x2 (.tl .hd)
 have d7:=BF (α:=TUnit) (v:=c0) (xs:=M0) W1 L c7
 refine Ao hb0 Tryz.func18 rfl (.cons (.many (cs:=[vI (((a0.fGroups % (3:UInt8)).toNat:Nat):Int),vI (((a0.fParties % (4:UInt8)).toNat:Nat):Int),vI (((a0.fLevels % (3:UInt8)).toNat:Nat):Int),c0]) (by kernel_rfl) rfl (W1.memA (.tl (.tl .hd)))) .nil) rfl ?_
 cases h
 exact ⟨W1.ag,fun w9 hw9=>⟨c0,rfl,W1.kd d7 hw9⟩⟩
def tb139_1:List (Nat × Nat × Nat):=[(0,32,4),(1,64,32),(0,128,8),(4,256,128),(10,512,320),(0,1024,8),(32,2048,1024),(0,4096,4),(128,8192,4096),(336,16384,10240),(528,32768,16896),(2047,16,32768)]
def share_Ratio_Cmp_p (n:Nat) (a0:TRatio) (a1:TRatio):Option Int:=
  (wide_Long_Times_p n a0.fLong a1.fUnder).bind fun b0=>(wide_Long_Times_p n a1.fLong a0.fUnder).bind fun c0=>(wide_Long_Cmp_p n b0 c0).bind fun d0=>some d0
theorem share_Ratio_Cmp_c (n:Nat) (L:List Nat) (w:World) (hL:∀ b ∈ L,b < w.heap.size) (a0:TRatio) {v0_1:Value} (h0_1:Rep.R w L [v0_1] a0.fLong.fWords) {v0_3:Value} (h0_3:Rep.R w L [v0_3] a0.fUnder.fWords) (a1:TRatio) {v1_1:Value} (h1_1:Rep.R w L [v1_1] a1.fLong.fWords) {v1_3:Value} (h1_3:Rep.R w L [v1_3] a1.fUnder.fWords)  {r:Int} (h:share_Ratio_Cmp_p n a0 a1 = some r) :
    Calls Tryz.prog 139 #[.agg #[.bool a0.fLong.fBelow,v0_1,.bool a0.fUnder.fBelow,v0_3],.agg #[.bool a1.fLong.fBelow,v1_1,.bool a1.fUnder.fBelow,v1_3]] w (Gives w fun _ u=>u = vI r):=by
 unfold share_Ratio_Cmp_p at h
 have hS0:=Ax w
 refine AA Tryz.func139 rfl rfl rfl (fun _ cs0 hb0=>?_)
 refine Ac<|Aj .plain rfl (Aw hS0 rfl rfl) (fun P0 D0 k0 F0=>?_)
 refine Aj .plain rfl (Aw k0 rfl rfl) (fun Q0 E0 d0 G0=>?_)
 refine Ag rfl<|Aa<|Ak<|AF 12 tb139_1 (by kernel_rfl) (by kernel_rfl) (by kernel_rfl) (fun b0 c0=>?_)
 refine Ah 0 1 b0 rfl c0 (fun _=>Bh 0 rfl) rfl<|AD 1 3 3600 b0 rfl c0 (Bl (cs:=[.bool a0.fLong.fBelow,v0_1]) (by kernel_rfl) rfl (mem_part (d0.memA (.tl .hd)) 0 2)) rfl<|Ah 2 7 b0 rfl c0 (fun _=>Bh 2 rfl) rfl<|AD 3 15 3600 b0 rfl c0 (Bl (cs:=[.bool a1.fUnder.fBelow,v1_3]) (by kernel_rfl) rfl (mem_part (d0.memA .hd) 2 2)) rfl<|Ah 5 47 b0 rfl c0 (fun _=>Bh 0 rfl) rfl<|AD 6 111 3584 b0 rfl c0 (Bl (cs:=[.bool a1.fLong.fBelow,v1_1]) (by kernel_rfl) rfl (mem_part (d0.memA .hd) 0 2)) rfl<|Ah 7 239 b0 rfl c0 (fun _=>Bh 2 rfl) rfl<|AD 8 495 3584 b0 rfl c0 (Bl (cs:=[.bool a0.fUnder.fBelow,v0_3]) (by kernel_rfl) rfl (mem_part (d0.memA (.tl .hd)) 2 2)) rfl ?_
 obtain ⟨A0,x0,h⟩:=bi h
 refine Bi 4 511 b0 rfl .plain body132 rfl (e2 rfl rfl) (fun w9 hw9=>wide_Long_Times_c n _ w9 (d0.hL hL hw9) a0.fLong (d0.km h0_1 hw9) a1.fUnder (d0.km h1_3 hw9) x0) rfl (fun R0 K0 q0 ⟨I0,hu_,u0⟩=>?_)
 subst hu_
 obtain ⟨g0,H0⟩:=d0.agr q0
 obtain ⟨B0,y0,h⟩:=bi h
 refine Bi 9 1023 b0 rfl .plain body132 rfl (e2 rfl rfl) (fun w9 hw9=>wide_Long_Times_c n _ w9 (g0.hL hL hw9) a1.fLong (g0.km h1_1 hw9) a0.fUnder (g0.km h0_3 hw9) y0) rfl (fun U0 M0 s0 ⟨J0,hu_,v0⟩=>?_)
 subst hu_
 obtain ⟨j0,p0⟩:=g0.agr s0
 obtain ⟨C0,z0,h⟩:=bi h
 have t0:=Ap u0 p0
 refine BI 10 2047 2048 (vI C0) b0 rfl c0 body176 rfl (e2 rfl rfl) (fun w9 hw9=>wide_Long_Cmp_c n _ w9 (j0.hL0 hL hw9) A0 (j0.kd t0 hw9) B0 (j0.kd v0 hw9) z0) rfl<|Ah 11 4095 b0 rfl c0 (fun _=>AJ rfl) rfl<|AE (doneD_ok b0 (by kernel_rfl))<|Al rfl<|Bc hb0 Tryz.func139 rfl rfl ?_
 cases h
 exact j0.gv
theorem body139:bodyB Tryz.prog 139 = true:=by kernel_rfl
def share_Ratio_lesser_p (n:Nat) (a0:TRatio) (a1:TRatio):Option TRatio:=
  (share_Ratio_Cmp_p n a0 a1).bind fun b0=>(if b0 ≤ 0 then some a0 else some a1)
theorem share_Ratio_lesser_c (n:Nat) (L:List Nat) (w:World) (hL:∀ b ∈ L,b < w.heap.size) (a0:TRatio) {v0_1:Value} (h0_1:Rep.R w L [v0_1] a0.fLong.fWords) {v0_3:Value} (h0_3:Rep.R w L [v0_3] a0.fUnder.fWords) (a1:TRatio) {v1_1:Value} (h1_1:Rep.R w L [v1_1] a1.fLong.fWords) {v1_3:Value} (h1_3:Rep.R w L [v1_3] a1.fUnder.fWords)  {r:TRatio} (h:share_Ratio_lesser_p n a0 a1 = some r) :
    Calls Tryz.prog 136 #[.agg #[.bool a0.fLong.fBelow,v0_1,.bool a0.fUnder.fBelow,v0_3],.agg #[.bool a1.fLong.fBelow,v1_1,.bool a1.fUnder.fBelow,v1_3]] w (Gives w fun w' u=>∃ v0_1 v0_3:Value,u = .agg #[.bool r.fLong.fBelow,v0_1,.bool r.fUnder.fBelow,v0_3]∧Rep.R w' L [v0_1] r.fLong.fWords∧Rep.R w' L [v0_3] r.fUnder.fWords):=by
 unfold share_Ratio_lesser_p at h
 have hS0:=Ax w
 refine AA Tryz.func136 rfl rfl rfl (fun _ cs0 hb0=>?_)
 refine Ac<|Aj .plain rfl (Aw hS0 rfl rfl) (fun G0 y0 p0 B0=>?_)
 refine Aj .plain rfl (Aw p0 rfl rfl) (fun H0 z0 q0 C0=>?_)
 refine Aj .plain rfl (Av [.bool false,vN,.bool false,vN] q0) (fun I0 A0 b0 D0=>?_)
 refine Aa<|Ak<|Ac<|Ab (AB rfl (b0.memA (.tl (.tl .hd))))<|Ab (AB rfl (b0.memA (.tl .hd))) ?_
 obtain ⟨g0,x0,h⟩:=bi h
 refine Bf (vI g0) body139 rfl (e2 rfl rfl) (fun w9 hw9=>share_Ratio_Cmp_c n _ w9 (b0.hL0 hL hw9) a0 (b0.k0 h0_1 hw9) (b0.k0 h0_3 hw9) a1 (b0.k0 h1_1 hw9) (b0.k0 h1_3 hw9) x0) rfl<|Ab (FV.leq (i:=g0) (j:=0) rfl rfl)<|Aa<|AQ rfl h (fun j0 h=>?_) (fun j0 h=>?_)
 refine Ac<|Ab (AB rfl (b0.memA (.tl (.tl .hd)))) ?_
 have s0:=AM h0_1 b0
 have t0:=AM h0_3 b0
 refine AL [.bool a0.fLong.fBelow,v0_1,.bool a0.fUnder.fBelow,v0_3] b0 .hd (o4 rfl (AI s0) rfl (AI t0)) (fun J0 c0 E0=>?_)
 refine Aa<|Al rfl<|Ao hb0 Tryz.func136 rfl (.cons (.many (cs:=[.bool a0.fLong.fBelow,v0_1,.bool a0.fUnder.fBelow,v0_3]) (by kernel_rfl) rfl (c0.memA .hd)) .nil) rfl ?_
 cases h
 exact ⟨c0.ag,fun w9 hw9=>⟨v0_1,v0_3,rfl,c0.k0 h0_1 hw9,c0.k0 h0_3 hw9⟩⟩
 refine Aq<|Ac<|Ab (AB rfl (b0.memA (.tl .hd))) ?_
 have u0:=AM h1_1 b0
 have v0:=AM h1_3 b0
 refine AL [.bool a1.fLong.fBelow,v1_1,.bool a1.fUnder.fBelow,v1_3] b0 .hd (o4 rfl (AI u0) rfl (AI v0)) (fun K0 d0 F0=>?_)
 refine Aa<|Al rfl<|Ao hb0 Tryz.func136 rfl (.cons (.many (cs:=[.bool a1.fLong.fBelow,v1_1,.bool a1.fUnder.fBelow,v1_3]) (by kernel_rfl) rfl (d0.memA .hd)) .nil) rfl ?_
 cases h
 exact ⟨d0.ag,fun w9 hw9=>⟨v1_1,v1_3,rfl,d0.k0 h1_1 hw9,d0.k0 h1_3 hw9⟩⟩
def tb95_1:List (Nat × Nat × Nat):=[(0,32,4),(1,64,32),(0,128,8),(6,256,128),(10,512,320),(16,1024,512),(63,0,1040)]
theorem body136:bodyB Tryz.prog 136 = true:=by kernel_rfl
def share_Ratio_greater_p (n:Nat) (a0:TRatio) (a1:TRatio):Option TRatio:=
  (share_Ratio_Turned_p n a0).bind fun b0=>(share_Ratio_Turned_p n a1).bind fun c0=>(share_Ratio_lesser_p n b0 c0).bind fun d0=>(share_Ratio_Turned_p n d0).bind fun g0=>some g0
theorem share_Ratio_greater_c (n:Nat) (L:List Nat) (w:World) (hL:∀ b ∈ L,b < w.heap.size) (a0:TRatio) {v0_1:Value} (h0_1:Rep.R w L [v0_1] a0.fLong.fWords) {v0_3:Value} (h0_3:Rep.R w L [v0_3] a0.fUnder.fWords) (a1:TRatio) {v1_1:Value} (h1_1:Rep.R w L [v1_1] a1.fLong.fWords) {v1_3:Value} (h1_3:Rep.R w L [v1_3] a1.fUnder.fWords)  {r:TRatio} (h:share_Ratio_greater_p n a0 a1 = some r) :
    Calls Tryz.prog 95 #[.agg #[.bool a0.fLong.fBelow,v0_1,.bool a0.fUnder.fBelow,v0_3],.agg #[.bool a1.fLong.fBelow,v1_1,.bool a1.fUnder.fBelow,v1_3]] w (Gives w fun w' u=>∃ v0_1 v0_3:Value,u = .agg #[.bool r.fLong.fBelow,v0_1,.bool r.fUnder.fBelow,v0_3]∧Rep.R w' L [v0_1] r.fLong.fWords∧Rep.R w' L [v0_3] r.fUnder.fWords):=by
 unfold share_Ratio_greater_p at h
 have hS0:=Ax w
 refine AA Tryz.func95 rfl rfl rfl (fun _ cs0 hb0=>?_)
 refine Ac<|Aj .plain rfl (Aw hS0 rfl rfl) (fun G1 d1 z0 k1=>?_)
 refine Aj .plain rfl (Aw z0 rfl rfl) (fun H1 g1 A0 p1=>?_)
 refine Aj .plain rfl (Av [.bool false,vN,.bool false,vN] A0) (fun I1 j1 c0 q1=>?_)
 refine Aa<|Ak<|AF 6 tb95_1 (by kernel_rfl) (by kernel_rfl) (by kernel_rfl) (fun b0 y0=>?_)
 refine AD 0 1 122 b0 rfl y0 (AB rfl (c0.memA (.tl (.tl .hd)))) rfl<|AD 2 5 120 b0 rfl y0 (AB rfl (c0.memA (.tl .hd))) rfl ?_
 obtain ⟨Z0,V0,h⟩:=bi h
 refine Bi 1 7 b0 rfl .plain body96 rfl (e1 rfl) (fun w9 hw9=>share_Ratio_Turned_c n _ w9 (c0.hL hL hw9) a0 (c0.km h0_1 hw9) (c0.km h0_3 hw9) V0) rfl (fun J1 C1 C0 ⟨v1,x1,hu_,K0,M0⟩=>?_)
 subst hu_
 obtain ⟨d0,s1⟩:=c0.agr C0
 obtain ⟨b1,W0,h⟩:=bi h
 refine Bi 3 15 b0 rfl .plain body96 rfl (e1 rfl) (fun w9 hw9=>share_Ratio_Turned_c n _ w9 (d0.hL hL hw9) a1 (d0.km h1_1 hw9) (d0.km h1_3 hw9) W0) rfl (fun K1 D1 D0 ⟨y1,z1,hu_,P0,Q0⟩=>?_)
 subst hu_
 obtain ⟨q0,t0⟩:=d0.agr D0
 obtain ⟨c1,X0,h⟩:=bi h
 have G0:=Ap K0 t0
 have H0:=Ap M0 t0
 refine Bi 4 31 b0 rfl .plain body136 rfl (e2 rfl rfl) (fun w9 hw9=>share_Ratio_lesser_c n _ w9 (q0.hL hL hw9) Z0 (Am G0 hw9) (Am H0 hw9) b1 (Am P0 hw9) (Am Q0 hw9) X0) rfl (fun M1 E1 E0 ⟨A1,B1,hu_,R0,U0⟩=>?_)
 subst hu_
 obtain ⟨s0,t1⟩:=q0.agr E0
 obtain ⟨j0,Y0,h⟩:=bi h
 refine Bi 5 63 b0 rfl .plain body96 rfl (e1 rfl) (fun w9 hw9=>share_Ratio_Turned_c n _ w9 (s0.hL hL hw9) c1 (Am R0 hw9) (Am U0 hw9) Y0) rfl (fun P1 F1 F0 ⟨k0,p0,hu_,v0,x0⟩=>?_)
 subst hu_
 obtain ⟨B0,u1⟩:=s0.agr F0
 refine Bt 6 127 b0 rfl rfl .plain (Ay (news:=[.bool j0.fLong.fBelow,k0,.bool j0.fUnder.fBelow,p0]) B0 .hd rfl rfl rfl rfl rfl rfl (o4 rfl (AI v0) rfl (AI x0))) (fun Q1 g0 u0=>?_)
 refine AE (doneD_ok b0 (by kernel_rfl))<|Al rfl<|Ao hb0 Tryz.func95 rfl (.cons (.many (cs:=[.bool j0.fLong.fBelow,k0,.bool j0.fUnder.fBelow,p0]) (by kernel_rfl) rfl (g0.memA .hd)) .nil) rfl ?_
 cases h
 have I0:=Ap v0 u0
 have J0:=Ap x0 u0
 exact ⟨g0.ag,fun w9 hw9=>⟨k0,p0,rfl,g0.kd I0 hw9,g0.kd J0 hw9⟩⟩
def tb94_1:List (Nat × Nat × Nat):=[(0,32,4),(0,64,4),(2,128,64),(5,256,160),(15,0,272)]
theorem body95:bodyB Tryz.prog 95 = true:=by kernel_rfl
def share_Abs_1_p (n:Nat) (a0:TRatio) (_a1:TRatio):Option TRatio:=
  (share_Ratio_Turned_p n a0).bind fun b0=>(share_Ratio_greater_p n a0 b0).bind fun c0=>some c0
theorem share_Abs_1_c (n:Nat) (L:List Nat) (w:World) (hL:∀ b ∈ L,b < w.heap.size) (a0:TRatio) {v0_1:Value} (h0_1:Rep.R w L [v0_1] a0.fLong.fWords) {v0_3:Value} (h0_3:Rep.R w L [v0_3] a0.fUnder.fWords) (a1:TRatio) {v1_1:Value} (h1_1:Rep.R w L [v1_1] a1.fLong.fWords) {v1_3:Value} (h1_3:Rep.R w L [v1_3] a1.fUnder.fWords)  {r:TRatio} (h:share_Abs_1_p n a0 a1 = some r) :
    Calls Tryz.prog 94 #[.agg #[.bool a0.fLong.fBelow,v0_1,.bool a0.fUnder.fBelow,v0_3],.agg #[.bool a1.fLong.fBelow,v1_1,.bool a1.fUnder.fBelow,v1_3]] w (Gives w fun w' u=>∃ v0_1 v0_3:Value,u = .agg #[.bool r.fLong.fBelow,v0_1,.bool r.fUnder.fBelow,v0_3]∧Rep.R w' L [v0_1] r.fLong.fWords∧Rep.R w' L [v0_3] r.fUnder.fWords):=by
 unfold share_Abs_1_p at h
 have hS0:=Ax w
 refine AA Tryz.func94 rfl rfl rfl (fun _ cs0 hb0=>?_)
 refine Ac<|Aj .plain rfl (Aw hS0 rfl rfl) (fun Z0 I0 v0 M0=>?_)
 refine Aj .plain rfl (Aw v0 rfl rfl) (fun b1 J0 x0 P0=>?_)
 refine Aj .plain rfl (Av [.bool false,vN,.bool false,vN] x0) (fun c1 K0 b0 Q0=>?_)
 refine Aa<|Ak<|AF 4 tb94_1 (by kernel_rfl) (by kernel_rfl) (by kernel_rfl) (fun c0 u0=>?_)
 refine AD 0 1 24 c0 rfl u0 (AB rfl (b0.memA (.tl (.tl .hd)))) rfl<|AD 1 3 28 c0 rfl u0 (AB rfl (b0.memA (.tl (.tl .hd)))) rfl ?_
 obtain ⟨H0,F0,h⟩:=bi h
 refine Bi 2 7 c0 rfl .plain body96 rfl (e1 rfl) (fun w9 hw9=>share_Ratio_Turned_c n _ w9 (b0.hL hL hw9) a0 (b0.km h0_1 hw9) (b0.km h0_3 hw9) F0) rfl (fun d1 X0 z0 ⟨V0,W0,hu_,D0,E0⟩=>?_)
 subst hu_
 obtain ⟨d0,R0⟩:=b0.agr z0
 obtain ⟨j0,G0,h⟩:=bi h
 refine Bi 3 15 c0 rfl .plain body95 rfl (e2 rfl rfl) (fun w9 hw9=>share_Ratio_greater_c n _ w9 (d0.hL hL hw9) a0 (d0.km h0_1 hw9) (d0.km h0_3 hw9) H0 (Am D0 hw9) (Am E0 hw9) G0) rfl (fun g1 Y0 A0 ⟨k0,p0,hu_,s0,t0⟩=>?_)
 subst hu_
 obtain ⟨y0,U0⟩:=d0.agr A0
 refine Bt 4 31 c0 rfl rfl .plain (Ay (news:=[.bool j0.fLong.fBelow,k0,.bool j0.fUnder.fBelow,p0]) y0 .hd rfl rfl rfl rfl rfl rfl (o4 rfl (AI s0) rfl (AI t0))) (fun j1 g0 q0=>?_)
 refine AE (doneD_ok c0 (by kernel_rfl))<|Al rfl<|Ao hb0 Tryz.func94 rfl (.cons (.many (cs:=[.bool j0.fLong.fBelow,k0,.bool j0.fUnder.fBelow,p0]) (by kernel_rfl) rfl (g0.memA .hd)) .nil) rfl ?_
 cases h
 have B0:=Ap s0 q0
 have C0:=Ap t0 q0
 exact ⟨g0.ag,fun w9 hw9=>⟨k0,p0,rfl,g0.kd B0 hw9,g0.kd C0 hw9⟩⟩
theorem body94:bodyB Tryz.prog 94 = true:=by kernel_rfl
def share_Abs_p (n:Nat) (a0:TShare):Option (TShare × Int):=
  (share_valid_p n ([a0,a0]:List TShare)).bind fun d0=>(if d0 = true then (share_Read_p n a0).bind fun g0=>(share_Read_p n a0).bind fun j0=>(share_Abs_1_p n g0 j0).bind fun k0=>(share_told_p n k0 (0:Int)).bind fun b0=>some (b0.1,b0.2) else (share_told_p n (⟨(⟨false,([]:List UInt64)⟩:TLong),(⟨false,([]:List UInt64)⟩:TLong)⟩:TRatio) (20:Int)).bind fun c0=>some (c0.1,c0.2))
theorem share_Abs_c (n:Nat) (L:List Nat) (w:World) (hL:∀ b ∈ L,b < w.heap.size) (a0:TShare)  {r:TShare × Int} (h:share_Abs_p n a0 = some r) :
    Calls Tryz.prog 42 #[.agg ((cs_TShare a0)).toArray] w (Gives w fun _ u=>u = .tuple #[.agg ((cs_TShare r.1)).toArray,vI r.2]):=by
 unfold share_Abs_p at h
 have hS0:=Ax w
 refine AA Tryz.func42 rfl rfl rfl (fun _ cs0 hb0=>?_)
 refine Ac<|Aj .plain rfl (Aw hS0 rfl rfl) (fun j2 x1 I0 G1=>?_)
 refine Aj .plain rfl (Av zL I0) (fun k2 y1 p0 H1=>?_)
 refine Ag rfl<|Aa<|Ac<|Ab (AB rfl (p0.memA (.tl .hd)))<|Ab (AB rfl (p0.memA (.tl .hd)))<|Bw (fst:=[]) (cap:=[]) (vs:=[.agg ((cs_TShare a0)).toArray,.agg ((cs_TShare a0)).toArray,.func (.func 94) #[] #[]]) .plain body80 Tryz.func80 rfl rfl rfl rfl (e3 rfl rfl rfl) rfl (fun E1 E0 W1=>?_)
 refine Ac<|Aj .plain rfl (Aw p0 rfl rfl) (fun p2 z1 J0 I1=>?_)
 refine Aj .plain rfl (Aw J0 rfl rfl) (fun q2 A1 K0 J1=>?_)
 refine Aj .plain rfl (Av [.bool false,vN,.bool false,vN] K0) (fun s2 B1 q0 K1=>?_)
 refine Ag rfl<|Aa<|Ak<|Ac<|Ab (AB rfl (q0.memA (.tl (.tl .hd))))<|Ab (AB rfl (q0.memA (.tl .hd)))<|Aj .plain rfl (AW (α:=TShare) (xs:=([a0,a0]:List TShare)) (vs:=[.agg ((cs_TShare a0)).toArray,.agg ((cs_TShare a0)).toArray]) (ds' :=(cs_TShare a0 ++ cs_TShare a0)) rfl q0 el68 rfl (e2 rfl rfl) (by kernel_rfl) rfl) (fun t2 C1 c0 M1=>?_)
 have U0:=AG (cs:=(cs_TShare a0 ++ cs_TShare a0)) (xs:=(([a0,a0]:List TShare):List TShare)) c0 L (Au (cs:=(cs_TShare a0)) (ds:=(cs_TShare a0)) (mk_TShare a0.fN a0.fD) (Au (cs:=(cs_TShare a0)) (ds:=[]) (mk_TShare a0.fN a0.fD) (AO _ _)))
 obtain ⟨t1,g1,h⟩:=bi h
 refine Bf (.bool t1) body125 rfl (e1 rfl) (fun w9 hw9=>share_valid_c n _ w9 (c0.hL0 hL hw9) ([a0,a0]:List TShare) (Am (St.lend (α:=TShare) (L:=L) c0 .hd U0 hL) hw9) g1) rfl<|Ab (Bz rfl)<|Aa<|MX.ifnb rfl h (fun H0 h=>?_) (fun H0 h=>?_)
 refine Aq<|Ak<|AF 6 tb80_4 (by kernel_rfl) (by kernel_rfl) (by kernel_rfl) (fun b0 t0=>?_)
 refine Ah 0 1 b0 rfl t0 (fun _=>Ai rfl) rfl<|AD 1 3 244 b0 rfl t0 (AB rfl (c0.memA (.tl (.tl (.tl .hd))))) rfl<|AD 3 11 240 b0 rfl t0 (AB rfl (c0.memA (.tl (.tl .hd)))) rfl ?_
 obtain ⟨u1,j1,h⟩:=bi h
 refine Bi 2 15 b0 rfl .plain body130 rfl (e1 rfl) (fun w9 hw9=>share_Read_c n _ w9 (c0.hL hL hw9) a0 j1) rfl (fun u2 c2 P0 ⟨X1,Y1,hu_,Z0,b1⟩=>?_)
 subst hu_
 obtain ⟨x0,P1⟩:=c0.agr P0
 obtain ⟨v1,k1,h⟩:=bi h
 refine Bi 4 31 b0 rfl .plain body130 rfl (e1 rfl) (fun w9 hw9=>share_Read_c n _ w9 (x0.hL hL hw9) a0 k1) rfl (fun v2 d2 Q0 ⟨Z1,b2,hu_,c1,d1⟩=>?_)
 subst hu_
 obtain ⟨y0,C0⟩:=x0.agr Q0
 obtain ⟨d0,p1,h⟩:=bi h
 have V0:=Ap Z0 C0
 have W0:=Ap b1 C0
 refine Bi 5 63 b0 rfl .plain body94 rfl (e2 rfl rfl) (fun w9 hw9=>share_Abs_1_c n _ w9 (y0.hL hL hw9) u1 (Am V0 hw9) (Am W0 hw9) v1 (Am c1 hw9) (Am d1 hw9) p1) rfl (fun x2 g2 R0 ⟨u0,v0,hu_,F0,G0⟩=>?_)
 subst hu_
 obtain ⟨M0,Q1⟩:=y0.agr R0
 refine Bt 6 127 b0 rfl rfl .plain (Ay (news:=[.bool d0.fLong.fBelow,u0,.bool d0.fUnder.fBelow,v0]) M0 (.tl .hd) rfl rfl rfl rfl rfl rfl (o4 rfl (AI F0) rfl (AI G0))) (fun y2 g0 D0=>?_)
 refine Bs (i:=7) (readyD_ok b0 (by kernel_rfl)) (RO.val (m' :=255) (stepC_ok b0 (by kernel_rfl)) rfl .plain rfl (AJ rfl) ?_)
 refine AE (doneD_ok b0 (by kernel_rfl))<|Al rfl<|Ao (u:=.tuple #[.agg #[.bool d0.fLong.fBelow,u0,.bool d0.fUnder.fBelow,v0],vI 0]) E0 Tryz.func80 rfl (.cons (.many (cs:=[.bool d0.fLong.fBelow,u0,.bool d0.fUnder.fBelow,v0]) (by kernel_rfl) rfl (g0.memA (.tl .hd))) (.cons (.tmp rfl) .nil)) rfl<|Ab (Af rfl rfl)<|Ab (Af rfl rfl) ?_
 obtain ⟨j0,q1,h⟩:=bi h
 have X0:=Ap F0 D0
 have Y0:=Ap G0 D0
 refine Bf (.tuple #[.agg ((cs_TShare j0.1)).toArray,vI j0.2]) body79 rfl (e2 rfl rfl) (fun w9 hw9=>share_told_c n _ w9 (g0.hL0 hL hw9) d0 (g0.kd X0 hw9) (g0.kd Y0 hw9) (0:Int) q1) rfl<|Ab (Af rfl rfl)<|Ab (Af rfl rfl)<|AL (cs_TShare j0.1) g0 (.tl (.tl (.tl (.tl .hd)))) (onesB rfl) (fun z2 z0 R1=>?_)
 refine Ag rfl<|Aa<|Al rfl<|Ao hb0 Tryz.func42 rfl (.cons (.many (cs:=(cs_TShare j0.1)) (by kernel_rfl) rfl (z0.memA (.tl (.tl (.tl (.tl .hd)))))) (.cons (.tmp rfl) .nil)) rfl ?_
 cases h
 exact z0.gv
 refine Ac<|Aj .plain rfl (Av [.bool false,vN,.bool false,vN] c0) (fun A2 D1 A0 U1=>?_)
 refine Aa<|Ac<|Ab (AB rfl (A0.memA .hd))<|AL [.bool false,vN,.bool false,vN] A0 (.tl (.tl .hd)) (onesB rfl) (fun B2 s0 V1=>?_)
 refine Ag rfl<|Aa<|Al rfl<|Ao (u:=.tuple #[.agg #[.bool false,vN,.bool false,vN],vI 20]) E0 Tryz.func80 rfl (.cons (.many (cs:=[.bool false,vN,.bool false,vN]) (by kernel_rfl) rfl (s0.memA (.tl (.tl .hd)))) (.cons (.tmp rfl) .nil)) rfl<|Ab (Af rfl rfl)<|Ab (Af rfl rfl) ?_
 obtain ⟨k0,s1,h⟩:=bi h
 refine Bf (.tuple #[.agg ((cs_TShare k0.1)).toArray,vI k0.2]) body79 rfl (e2 rfl rfl) (fun w9 hw9=>share_told_c n _ w9 (s0.hL0 hL hw9) (⟨(⟨false,([]:List UInt64)⟩:TLong),(⟨false,([]:List UInt64)⟩:TLong)⟩:TRatio) (Am (Rep.nilSlice _ _) hw9) (Am (Rep.nilSlice _ _) hw9) (20:Int) s1) rfl<|Ab (Af rfl rfl)<|Ab (Af rfl rfl)<|AL (cs_TShare k0.1) s0 (.tl (.tl (.tl (.tl (.tl .hd))))) (onesB rfl) (fun C2 B0 F1=>?_)
 refine Ag rfl<|Aa<|Al rfl<|Ao hb0 Tryz.func42 rfl (.cons (.many (cs:=(cs_TShare k0.1)) (by kernel_rfl) rfl (B0.memA (.tl (.tl (.tl (.tl (.tl .hd))))))) (.cons (.tmp rfl) .nil)) rfl ?_
 cases h
 exact B0.gv
def share_Cmp_p (n:Nat) (a0:TShare) (a1:TShare):Option (Int × Int):=
  (share_valid_p n ([a0,a1]:List TShare)).bind fun b0=>(if b0 = true then (share_Read_p n a0).bind fun c0=>(share_Read_p n a1).bind fun d0=>(share_Ratio_Cmp_p n c0 d0).bind fun g0=>some (g0,(0:Int)) else some ((0:Int),(20:Int)))
theorem share_Cmp_c (n:Nat) (L:List Nat) (w:World) (hL:∀ b ∈ L,b < w.heap.size) (a0:TShare) (a1:TShare)  {r:Int × Int} (h:share_Cmp_p n a0 a1 = some r) :
    Calls Tryz.prog 97 #[.agg ((cs_TShare a0)).toArray,.agg ((cs_TShare a1)).toArray] w (Gives w fun _ u=>u = .tuple #[vI r.1,vI r.2]):=by
 unfold share_Cmp_p at h
 have hS0:=Ax w
 refine AA Tryz.func97 rfl rfl rfl (fun _ cs0 hb0=>?_)
 refine Ac<|Aj .plain rfl (Aw hS0 rfl rfl) (fun x1 R0 v0 Z0=>?_)
 refine Aj .plain rfl (Aw v0 rfl rfl) (fun y1 U0 j0 b1=>?_)
 refine Ag rfl<|Ag rfl<|Aa<|Ac<|Ab (AB rfl (j0.memA (.tl .hd)))<|Ab (AB rfl (j0.memA .hd))<|Bw (fst:=[]) (cap:=[]) (vs:=[.agg ((cs_TShare a0)).toArray,.agg ((cs_TShare a1)).toArray,.func (.func 139) #[] #[]]) .plain body138 Tryz.func138 rfl rfl rfl rfl (e3 rfl rfl rfl) rfl (fun Y0 s0 k1=>?_)
 refine Ac<|Aj .plain rfl (Aw j0 rfl rfl) (fun z1 V0 x0 c1=>?_)
 refine Aj .plain rfl (Aw x0 rfl rfl) (fun A1 W0 k0 d1=>?_)
 refine Ag rfl<|Ag rfl<|Aa<|Ak<|Ac<|Ab (AB rfl (k0.memA (.tl .hd)))<|Ab (AB rfl (k0.memA .hd))<|Aj .plain rfl (AW (α:=TShare) (xs:=([a0,a1]:List TShare)) (vs:=[.agg ((cs_TShare a0)).toArray,.agg ((cs_TShare a1)).toArray]) (ds' :=(cs_TShare a0 ++ cs_TShare a1)) rfl k0 el68 rfl (e2 rfl rfl) (by kernel_rfl) rfl) (fun B1 X0 c0 g1=>?_)
 have A0:=AG (cs:=(cs_TShare a0 ++ cs_TShare a1)) (xs:=(([a0,a1]:List TShare):List TShare)) c0 L (Au (cs:=(cs_TShare a0)) (ds:=(cs_TShare a1)) (mk_TShare a0.fN a0.fD) (Au (cs:=(cs_TShare a1)) (ds:=[]) (mk_TShare a1.fN a1.fD) (AO _ _)))
 obtain ⟨M0,H0,h⟩:=bi h
 refine Bf (.bool M0) body125 rfl (e1 rfl) (fun w9 hw9=>share_valid_c n _ w9 (c0.hL0 hL hw9) ([a0,a1]:List TShare) (Am (St.lend (α:=TShare) (L:=L) c0 .hd A0 hL) hw9) H0) rfl<|Ab (Bz rfl)<|Aa<|MX.ifnb rfl h (fun u0 h=>?_) (fun u0 h=>?_)
 refine Aq<|Ak<|AF 8 tb138_4 (by kernel_rfl) (by kernel_rfl) (by kernel_rfl) (fun b0 g0=>?_)
 refine Ah 0 1 b0 rfl g0 (fun _=>Ai rfl) rfl<|AD 1 3 244 b0 rfl g0 (AB rfl (c0.memA (.tl (.tl .hd)))) rfl<|AD 3 11 240 b0 rfl g0 (AB rfl (c0.memA (.tl .hd))) rfl ?_
 obtain ⟨P0,I0,h⟩:=bi h
 refine Bi 2 15 b0 rfl .plain body130 rfl (e1 rfl) (fun w9 hw9=>share_Read_c n _ w9 (c0.hL hL hw9) a0 I0) rfl (fun C1 u1 y0 ⟨p1,q1,hu_,D0,E0⟩=>?_)
 subst hu_
 obtain ⟨p0,j1⟩:=c0.agr y0
 obtain ⟨Q0,J0,h⟩:=bi h
 refine Bi 4 31 b0 rfl .plain body130 rfl (e1 rfl) (fun w9 hw9=>share_Read_c n _ w9 (p0.hL hL hw9) a1 J0) rfl (fun D1 v1 z0 ⟨s1,t1,hu_,F0,G0⟩=>?_)
 subst hu_
 obtain ⟨d0,q0⟩:=p0.agr z0
 obtain ⟨t0,K0,h⟩:=bi h
 have B0:=Ap D0 q0
 have C0:=Ap E0 q0
 refine BI 5 63 192 (vI t0) b0 rfl g0 body139 rfl (e2 rfl rfl) (fun w9 hw9=>share_Ratio_Cmp_c n _ w9 (d0.hL0 hL hw9) P0 (d0.kd B0 hw9) (d0.kd C0 hw9) Q0 (d0.kd F0 hw9) (d0.kd G0 hw9) K0) rfl<|Ah 6 127 b0 rfl g0 (fun _=>AJ rfl) rfl<|Ah 7 255 b0 rfl g0 (fun _=>AJ rfl) rfl<|AE (doneD_ok b0 (by kernel_rfl))<|Al rfl<|Ao (u:=.tuple #[vI t0,vI 0]) s0 Tryz.func138 rfl (.cons (.tmp rfl) (.cons (.tmp rfl) .nil)) rfl<|Ab (Af rfl rfl)<|Ab (Af rfl rfl)<|Ag rfl<|Ag rfl<|Aa<|Al rfl<|Ao hb0 Tryz.func97 rfl (.cons (.tmp rfl) (.cons (.tmp rfl) .nil)) rfl ?_
 cases h
 exact d0.gv
 refine Ac<|Ag rfl<|Aa<|Ac<|Ae rfl<|Ag rfl<|Ag rfl<|Aa<|Al rfl<|Ao (u:=.tuple #[vI 0,vI 20]) s0 Tryz.func138 rfl (.cons (.tmp rfl) (.cons (.tmp rfl) .nil)) rfl<|Ab (Af rfl rfl)<|Ab (Af rfl rfl)<|Ag rfl<|Ag rfl<|Aa<|Al rfl<|Ao hb0 Tryz.func97 rfl (.cons (.tmp rfl) (.cons (.tmp rfl) .nil)) rfl ?_
 cases h
 exact c0.gv
theorem body97:bodyB Tryz.prog 97 = true:=by kernel_rfl
def wardmotelaw22_atMost_p (n:Nat) (a0:TShare) (a1:TShare):Option Bool:=
  (share_Cmp_p n a0 a1).bind fun b0=>(if b0.2 = 0 then some (decide (b0.1 ≤ 0)) else some false)
theorem wardmotelaw22_atMost_c (n:Nat) (L:List Nat) (w:World) (hL:∀ b ∈ L,b < w.heap.size) (a0:TShare) (a1:TShare)  {r:Bool} (h:wardmotelaw22_atMost_p n a0 a1 = some r) :
    Calls Tryz.prog 43 #[.agg ((cs_TShare a0)).toArray,.agg ((cs_TShare a1)).toArray] w (Gives w fun _ u=>u = .bool r):=by
 unfold wardmotelaw22_atMost_p at h
 have hS0:=Ax w
 refine AA Tryz.func43 rfl rfl rfl (fun _ cs0 hb0=>?_)
 refine Ac<|Aj .plain rfl (Aw hS0 rfl rfl) (fun t0 k0 g0 q0=>?_)
 refine Aj .plain rfl (Aw g0 rfl rfl) (fun u0 p0 b0 s0=>?_)
 refine Ag rfl<|Aa<|Ac<|Ab (AB rfl (b0.memA (.tl .hd)))<|Ab (AB rfl (b0.memA .hd)) ?_
 obtain ⟨c0,j0,h⟩:=bi h
 refine Bf (.tuple #[vI c0.1,vI c0.2]) body97 rfl (e2 rfl rfl) (fun w9 hw9=>share_Cmp_c n _ w9 (b0.hL0 hL hw9) a0 a1 j0) rfl<|Ae rfl<|Ab (Af rfl rfl)<|Ab (Af rfl rfl)<|Ag rfl<|Ag rfl<|Aa<|Ac<|Ae rfl<|Ab (FV.eql (i:=c0.2) (j:=0) rfl rfl)<|Ae rfl<|RG.ifd (s:=15) rfl h (fun d0 h=>?_) (fun d0 h=>?_)
 refine AY (Ai rfl)<|AY (FV.leq (i:=c0.1) (j:=0) rfl rfl)<|RG.pt rfl rfl<|Ag rfl<|Aa<|Al rfl<|Bc hb0 Tryz.func43 rfl rfl ?_
 cases h
 exact b0.gv
 refine AR<|AR<|RG.pf rfl rfl<|Ag rfl<|Aa<|Al rfl<|Bc hb0 Tryz.func43 rfl rfl ?_
 cases h
 exact b0.gv
end Go.Proofs.YtmhgoecnjleagaaGreatDoor
